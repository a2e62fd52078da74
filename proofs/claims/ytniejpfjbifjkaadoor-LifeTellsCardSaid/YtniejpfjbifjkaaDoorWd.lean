/- The parts of a slice of floats, in new memory. -/
import Derived.Test.YtniejpfjbifjkaaDoorWc
namespace Go.Proofs.YtniejpfjbifjkaaDoor
open Go.RowKit Fl

theorem info22 : (Tryd.prog.info? 22).map (fun i => (i.zero, i.size, i.bytes)) = some (some (.float .f64 0), 1, 8) := by kernel_rfl
theorem info3 : (Tryd.prog.info? 3).map (fun i => (i.zero, i.size, i.bytes)) = some (some (.int .i64 0), 1, 8) := by kernel_rfl

def parts (l : List Nat) : List Nat := l.map fun x => part x (best l)
/-- after k rounds: the first k parts, the rest nought. -/
def partsTo (l : List Nat) (k : Nat) : List Nat := (l.take k).map (fun x => part x (best l)) ++ List.replicate (l.length - k) 0
theorem partsTo_length (l : List Nat) (k : Nat) (h : k ≤ l.length) : (partsTo l k).length = l.length := by
  simp [partsTo]; omega
theorem partsTo_step (l : List Nat) (k : Nat) (h : k < l.length) : (partsTo l k).set k (part (l.getD k 0) (best l)) = partsTo l (k + 1) := by
  unfold partsTo
  have hlen : ((l.take k).map fun x => part x (best l)).length = k := by simp; omega
  rw [take_succ_getD l k h, List.map_append, List.set_append, if_neg (by omega), hlen, Nat.sub_self,
    show l.length - k = l.length - (k + 1) + 1 by omega, List.replicate_succ]
  simp
theorem partsTo_end (l : List Nat) : partsTo l l.length = parts l := by simp [partsTo, parts]
theorem partsTo_zero (l : List Nat) : partsTo l 0 = List.replicate l.length 0 := by simp [partsTo]

def flts (l : List Nat) : List Value := l.map (Value.float .f64)
theorem flts_set (l : List Nat) (k x : Nat) : (flts l).set k (.float .f64 x) = flts (l.set k x) := by simp [flts, List.map_set]

theorem Laid.below {B : Nat} {w w' : World} (h : Laid w) (hb : Below B w w') (h0 : 0 < B) : Laid w' := fun i hi => (hb.cell (p := ⟨0, i, none⟩) h0).trans (h i hi)
theorem owned_cell {w : World} {B e g n cap : Nat} {xs : List Value} (h : w.ownsRow B e 1 (.slice (some ⟨g, 0, none⟩) n cap) n xs) (k : Nat) (hk : k < n) :
    ∃ u, w.cell? ⟨g, k, none⟩ = some u := by
  have hx : xs.length = n := by have := h.1; omega
  exact ⟨xs[k]'(by omega), by rw [h.cellAt k (by omega), List.getElem?_eq_getElem]⟩

set_option maxHeartbeats 400000 in
theorem partsC (l : List Nat) (a : Option Addr) (cap : Nat) (w : World) (hl : Laid w) (hf : Fls w a l) (hlen : l.length ≤ 17592186044416) (hpos : 0 < w.heap.size) :
    Calls Tryd.prog 81 #[.slice a l.length cap] w fun e w' => ∃ g, e = .returned (.slice (some ⟨g, 0, none⟩) l.length l.length) ∧
      w'.ownsRow w.heap.size 22 1 (.slice (some ⟨g, 0, none⟩) l.length l.length) l.length (flts (parts l)) ∧ Below w.heap.size w w' := by
  obtain ⟨hm, hb, hc⟩ := id hf
  obtain ⟨i0, hi, hz0, hz1, hz2⟩ := info_parts info22
  go_enter Tryd.func81, Tryd.ntmps81
  go_wp2_with (first | (go_at_call 34; refine (bestC _ _ _ _ (by assumption) (by assumption)).mono ?_; rintro e w' ⟨rfl, rfl⟩) | (at_make; refine wpList_make_full _ rfl _ _ 29 rfl w.heap.size 22 i0 (.float .f64 0) 1 Tryd.underlying29 hi hz0 hz1 _ _ _ _ l.length rfl rfl rfl rfl (by rw [hz2]; omega) (by unfold maxLen; omega) (Nat.le_refl _) ?_; intro w1 hown hgrow))
  go_loopw [14] (fun i wr => ∃ k : Nat, k ≤ l.length ∧ i = .int .i64 k ∧ wr.ownsRow w.heap.size 22 1 (.slice (some ⟨w.heap.size, 0, none⟩) l.length l.length) l.length (flts (partsTo l k)) ∧ Below w.heap.size w wr) (fun i _ => l.length - (intOf i).toNat)
  case atStart =>
    refine ⟨0, Nat.zero_le _, rfl, ?_, (Below.refl _ _).grown hgrow (Nat.le_refl _) (fun _ h => by cases h)⟩
    rw [partsTo_zero]
    rw [show (Value.float .f64 0).cells = #[.float .f64 0] from rfl, toList_madeCells_one, Nat.mul_one] at hown
    simpa [flts] using hown
  case round =>
    clear hown hgrow
    obtain ⟨k, hk, rfl, hown, hbel⟩ := hrel
    by_cases hlt : k < l.length
    · obtain ⟨b, off, rfl, hcell0⟩ := hc k hlt
      have hcell : wr.cell? ⟨b, off + k, none⟩ = some (.float .f64 (l.getD k 0)) := (hbel.cell (p := ⟨b, off + k, none⟩) (World.block_lt_of_cell? w _ hcell0)).trans hcell0
      have hx := hb _ (getD_mem' l k hlt)
      have hbb : best l < B64 := by have := best_le_INF l; unfold INF at this; unfold B64; omega
      have hlw : Laid wr := hl.below hbel hpos
      obtain ⟨u, hu⟩ := owned_cell hown k hlt
      have hfr := hown.frozenAt k
      have hst := hown.stored k (.float .f64 (part (l.getD k 0) (best l)))
      rw [flts_set, partsTo_step l k hlt] at hst
      have hb2 := hbel.setCell (p := ⟨w.heap.size, k, none⟩) (Nat.le_refl _) (.float .f64 (part (l.getD k 0) (best l)))
      have HS := Lib.hid hst.1
      have HB := Lib.hid hb2
      clear hc hb hcell0 hf hl hst hb2 hown
      generalize l.getD k 0 = x at *
      generalize hbe : best l = y at *
      clear hbe
      go_wp2_with (first | (go_at_call 23; refine (partC _ _ _ (by assumption) (by assumption) (by assumption)).mono ?_; rintro e w' ⟨rfl, rfl⟩))
      go_roundw
      case rel => exact ⟨k + 1, by omega, by go_num, HS.out, HB.out⟩
      case measure => simp [intOf]; omega
    · have hkl : k = l.length := by omega
      subst hkl
      rw [partsTo_end] at hown
      clear hc hb hf hl
      go_wp2
      go_ret
      exact ⟨_, rfl, hown, hbel⟩
end Go.Proofs.YtniejpfjbifjkaaDoor
