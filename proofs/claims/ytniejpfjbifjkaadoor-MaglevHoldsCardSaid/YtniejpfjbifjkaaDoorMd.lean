/- Order, both ways: which slots one wants, in its order. -/
import Derived.Test.YtniejpfjbifjkaaDoorMc
namespace Go.Proofs.YtniejpfjbifjkaaDoor
open Go.RowKit

def pos (a s n k : Nat) : Nat := (a + k * s) % n
theorem pos_zero {a s n : Nat} (h : a < n) : pos a s n 0 = a := by unfold pos; rw [Nat.zero_mul, Nat.add_zero]; exact Nat.mod_eq_of_lt h
theorem nx_mod {a s n : Nat} (ha : a < n) (hs : s < n) : nx a s n = (a + s) % n := by
  unfold nx
  by_cases h : n ≤ a + s
  · rw [if_pos h, Nat.mod_eq_sub_mod h]; exact (Nat.mod_eq_of_lt (by omega)).symm
  · rw [if_neg h]; exact (Nat.mod_eq_of_lt (by omega)).symm
theorem pos_succ (a s n k : Nat) : pos a s n (k + 1) = (pos a s n k + s) % n := by
  unfold pos
  rw [Nat.mod_add_mod, Nat.add_mul, Nat.one_mul, Nat.add_assoc]
theorem pos_lt (a s n k : Nat) (h : 0 < n) : pos a s n k < n := Nat.mod_lt _ h
def walkL (a s n k : Nat) : List Nat := (List.range k).map (pos a s n)
theorem walkL_length (a s n k : Nat) : (walkL a s n k).length = k := by simp [walkL]
theorem walkL_succ (a s n k : Nat) : walkL a s n (k + 1) = walkL a s n k ++ [pos a s n k] := by simp [walkL, List.range_succ]
theorem ints_snoc (l : List Nat) (x : Nat) : ints (l ++ [x]) = ints l ++ [.int .i64 (x : Int)] := by simp [ints]
theorem stAt_lt {id slots : Int} (h : 2 ≤ slots) : stAt id slots < slots.toNat := by
  unfold stAt
  have := Int.emod_lt_of_pos (pair 1 0 id) (show 0 < slots by omega)
  have := Int.emod_nonneg (pair 1 0 id) (show slots ≠ 0 by omega)
  omega
theorem stStep_lt {id slots : Int} (h : 2 ≤ slots) : stStep id slots < slots.toNat ∧ 0 < stStep id slots := by
  unfold stStep
  have := Int.emod_lt_of_pos (pair 2 0 id) (show 0 < slots - 1 by omega)
  have := Int.emod_nonneg (pair 2 0 id) (show slots - 1 ≠ 0 by omega)
  omega
theorem slotsOk_range {n : Int} (h : slotsOk n = true) : 2 ≤ n ∧ n ≤ 1021 := by
  unfold slotsOk prm at h
  simp only [Bool.and_eq_true, decide_eq_true_eq] at h
  have := h.2.1
  omega
theorem namedOk_range {n : Int} (h : namedOk n = true) : 0 ≤ n ∧ n < 32 := by
  unfold namedOk at h
  simpa using h
/-- the whole order. -/
def ordL (id slots : Int) : List Nat := walkL (stAt id slots) (stStep id slots) slots.toNat slots.toNat

structure OInv (B : Nat) (w : World) (a s n gw : Nat) (wr : World) (k : Nat) (v : Value) : Prop where
  out : wr.ownsRow (gw + 1) 3 1 v k (ints (walkL a s n k))
  wk : wr.ownsRow B 104 3 (.slice (some ⟨gw, 0, none⟩) 1 1) 1 [.int .i64 (pos a s n k : Nat), .int .i64 s, .int .i64 n]
  below : Below B w wr
structure OMid (B : Nat) (w : World) (a s n gw : Nat) (wr : World) (k : Nat) (v : Value) : Prop where
  out : wr.ownsRow (gw + 1) 3 1 v k (ints (walkL a s n k))
  wk : wr.ownsRow B 104 3 (.slice (some ⟨gw, 0, none⟩) 1 1) 1 [.int .i64 (pos a s n (k + 1) : Nat), .int .i64 s, .int .i64 n]
  below : Below B w wr
  gw : B ≤ gw ∧ gw < wr.heap.size
theorem OInv.mid {B : Nat} {w : World} {a s n gw : Nat} {wr : World} {k : Nat} {v : Value} (h : OInv B w a s n gw wr k v) (hn : 0 < n) (hs : s < n) (m : Nat) :
    OMid B w a s n gw ((wr.setCell ⟨gw, 0, none⟩ (.int .i64 (nx (pos a s n k) s n : Nat))).drewN m) k v := by
  obtain ⟨ho, hg⟩ := h.wk.stored 0 (.int .i64 (nx (pos a s n k) s n : Nat))
  have hb := h.wk.lt gw rfl
  have hne : v.ownBlock ≠ some gw := fun e => by have := (h.out.lt gw e).1; omega
  rw [nx_mod (pos_lt a s n k hn) hs, ← pos_succ] at ho hg ⊢
  have hk := h.out.kept hg (.inr hne)
  exact ⟨hk, ho, below_drewN (h.below.setCell hb.1 _) m, hb.1, by simp [World.setCell, World.drewN]; exact hb.2⟩
theorem OMid.done {B : Nat} {w : World} {a s n gw : Nat} {wq w3 : World} {k : Nat} {v v' : Value} (h : OMid B w a s n gw wq k v) (o : Obj)
    (h3 : w3.ownsRow (gw + 1) 3 1 v' (k + 1) (ints (walkL a s n k) ++ [.int .i64 (pos a s n k : Nat)])) (hg3 : (wq.alloc o).grownBy w3 v.ownBlock) : OInv B w a s n gw w3 (k + 1) v' := by
  have hgw := h.gw
  have hbm : Below B w (wq.alloc o) := h.below.alloc (by omega) _
  have hb3 : Below B w w3 := hbm.grown hg3 (by simp; omega) (fun j hj => by have := (h.out.lt j hj).1; omega)
  have hne : v.ownBlock ≠ some gw := fun e => by have := (h.out.lt gw e).1; omega
  refine ⟨?_, (h.wk.alloc _).kept hg3 (.inr (by intro e; exact hne e.symm)), hb3⟩
  rw [walkL_succ, ints_snoc]; exact h3
theorem own_slice {w : World} {base e n : Nat} {v : Value} {xs : List Value} (h : w.ownsRow base e 1 v n xs) : ∃ a c, v = .slice a n c := by
  rcases h.2 with ⟨h, h'⟩ | ⟨g, cc, cur, h, _⟩
  · exact ⟨none, 0, by rw [h, h']⟩
  · exact ⟨_, _, h⟩

/-- what Order hands back. -/
def ordOk (id slots : Int) : Bool := slotsOk slots && namedOk id
def ordR (id slots : Int) : List Nat := if ordOk id slots then ordL id slots else []
def ordE (id slots : Int) : Int := if ordOk id slots then 0 else 1

set_option maxHeartbeats 1000000 in
theorem orderC (id slots : Int) (w : World) (hs : -9223372036854775808 ≤ slots ∧ slots ≤ 9223372036854775807) :
    Calls Tryd.prog 41 #[.int .i64 id, .int .i64 slots] w fun e w' => ∃ v, e = .returned (.tuple #[v, .int .i64 (ordE id slots)]) ∧
      w'.ownsRow w.heap.size 3 1 v (ordR id slots).length (ints (ordR id slots)) ∧ Below w.heap.size w w' := by
  by_cases h1 : slotsOk slots = true
  case neg =>
    have h1' : slotsOk slots = false := by simpa using h1
    have HO : Hid (ordOk id slots = false) := Lib.hid (by unfold ordOk; rw [h1']; rfl)
    go_enter Tryd.func41, Tryd.ntmps41
    go_wp2_with (first | (go_at_call 82; refine (slottedC _ _ hs).mono ?_; rw [h1']; rintro e w' ⟨rfl, rfl⟩))
    go_ret2
    refine ⟨.slice none 0 0, by unfold ordE; rw [HO.out]; rfl, ?_, Below.refl _ _⟩
    unfold ordR; rw [HO.out]; exact World.ownsRow_nil _ _ _ _
  by_cases h2 : namedOk id = true
  case neg =>
    have h2' : namedOk id = false := by simpa using h2
    have HO : Hid (ordOk id slots = false) := Lib.hid (by unfold ordOk; rw [h1, h2']; rfl)
    go_enter Tryd.func41, Tryd.ntmps41
    go_wp2_with (first | (go_at_call 82; refine (slottedC _ _ hs).mono ?_; rw [h1]; rintro e w' ⟨rfl, rfl⟩) | (go_at_call 83; refine (namedC _ _).mono ?_; rw [h2']; rintro e w' ⟨rfl, rfl⟩))
    go_ret2
    refine ⟨.slice none 0 0, by unfold ordE; rw [HO.out]; rfl, ?_, Below.refl _ _⟩
    unfold ordR; rw [HO.out]; exact World.ownsRow_nil _ _ _ _
  have HO : ordOk id slots = true := by unfold ordOk; rw [h1, h2]; rfl
  have hr := slotsOk_range h1
  have hi := namedOk_range h2
  have hE : ordE id slots = 0 := by unfold ordE; rw [HO]; rfl
  have hR : ordR id slots = ordL id slots := by unfold ordR; rw [HO]; rfl
  rw [hE, hR]
  clear hE hR HO
  obtain ⟨n, rfl⟩ : ∃ n : Nat, slots = (n : Int) := ⟨slots.toNat, by omega⟩
  have ha := stAt_lt (id := id) hr.1
  have hst := (stStep_lt (id := id) hr.1).1
  unfold ordL
  rw [Int.toNat_natCast] at ha hst ⊢
  rw [walkL_length]
  have hbg := fun w => beginC id n w hi hr
  obtain ⟨hr1, hr2⟩ := hr
  clear hi
  generalize stAt id n = a at *
  generalize stStep id n = s at *
  go_enter Tryd.func41, Tryd.ntmps41
  go_wp2_with (first | (go_at_call 82; refine (slottedC _ _ hs).mono ?_; rw [h1]; rintro e w' ⟨rfl, rfl⟩) | (go_at_call 83; refine (namedC _ _).mono ?_; rw [h2]; rintro e w' ⟨rfl, rfl⟩) | (go_at_call 84; refine (hbg _).mono ?_; rintro e w1 ⟨rfl, hb1⟩))
  obtain ⟨gw, hgw⟩ : ∃ gw, gw = w1.heap.size := ⟨_, rfl⟩
  have I0 : OInv w.heap.size w a s n gw (w1.alloc (.cells #[.int .i64 a, .int .i64 s, .int .i64 n] 104)) 0 (.slice none 0 0) := by
    refine ⟨World.ownsRow_nil _ _ _ _, ?_, hb1.alloc hb1.size _⟩
    rw [pos_zero ha, hgw]
    exact World.ownsRow_lit w1 _ 1 hb1.size (by unfold maxLen; omega) rfl
  rw [← hgw]
  clear hgw hb1 hbg h1 h2 hs
  go_loopw [7, 20] (fun v i wr => ∃ (a7 : Option Addr) (c7 k : Nat), k ≤ n ∧ i = .int .i64 k ∧ v = .slice a7 k c7 ∧ OInv w.heap.size w a s n gw wr k v) (fun _ i _ => n - (intOf i).toNat)
  case atStart => exact ⟨none, 0, 0, Nat.zero_le _, rfl, rfl, I0⟩
  case round =>
    clear I0
    obtain ⟨a7, c7, k, hk, rfl, rfl, hI⟩ := hrel
    by_cases hlt : k < n
    · have c0 := hI.wk.cellAt 0 (by omega)
      have c1 := hI.wk.cellAt 1 (by omega)
      have c2 := hI.wk.cellAt 2 (by omega)
      have hfz := hI.wk.frozenAt 0
      have hnx := nextC gw 0 (pos a s n k) s n wr (pos_lt a s n k (by omega)) hst (by omega) c0 c1 c2 hfz
      have hmid := fun m => hI.mid (by omega) hst m
      clear c0 c1 c2 hfz
      have HI := Lib.hid hI
      clear hI
      obtain ⟨i0, hi, hz0, hz1, hz2⟩ := info_parts info3
      go_wp2_with (first
        | (go_at_call 85; refine hnx.mono ?_; rintro e w2 ⟨rfl, m, hw2⟩; have hM := hmid m; rw [← hw2] at hM; have hHO := hM.out.alloc (.cells #[.int .i64 (pos a s n k : Nat)] 3); have hgq := hM.gw; clear hmid hw2 hnx)
        | (at_builtin; refine wpList_append_own _ rfl _ _ 31 rfl (gw + 1) 3 i0 (.int .i64 0) 1 8 Tryd.underlying31 hi hz0 hz1 hz2 rfl (by decide) _ _ _ rfl hHO ⟨w2.heap.size, 0, none⟩ 1 1 [.int .i64 (pos a s n k : Nat)] rfl rfl (cell_one_new _ _ _) (by intro u hu; simp at hu; subst hu; rfl) (by unfold maxLen; omega) (by omega) (by simp; omega) ?_; intro v' w3 h3 hg3 _))
      have D := hM.done _ h3 hg3
      obtain ⟨a8, c8, rfl⟩ := own_slice h3
      have HD := Lib.hid D
      clear D h3 hg3 hHO hgq hM hi hz0 hz1 hz2
      go_wp2
      go_roundw
      case rel => exact ⟨a8, c8, k + 1, by omega, by go_num, rfl, HD.out⟩
      case measure => simp [intOf]; omega
    · have hk' : k = n := by omega
      have HI := Lib.hid hI
      have HK := Lib.hid hk'
      clear hI hk'
      go_wp2
      go_ret2
      have hI := HI.out
      rw [HK.out] at hI ⊢
      have := (hI.wk.lt gw rfl).1
      exact ⟨_, rfl, owns_base hI.out (by omega), hI.below⟩
end Go.Proofs.YtniejpfjbifjkaaDoor
