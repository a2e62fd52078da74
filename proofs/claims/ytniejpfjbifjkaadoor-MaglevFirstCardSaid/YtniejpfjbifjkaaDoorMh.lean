/- Entries in memory; the reference's Weights; few; given. -/
import Derived.Test.YtniejpfjbifjkaaDoorMg
namespace Go.Proofs.YtniejpfjbifjkaaDoor
open Go.RowKit Fl

def ent0 : Int × Nat := (0, 0)
/-- cells that a slice of entries reads as. -/
def Ens (w : World) (a : Option Addr) (l : List (Int × Nat)) : Prop :=
  l.length ≤ 8796093022208 ∧ (∀ i, i < l.length → (l.getD i ent0).2 < B64) ∧ ∀ i, i < l.length → ∃ b off, a = some ⟨b, off, none⟩ ∧
    w.cell? ⟨b, off + i * 2, none⟩ = some (.int .i64 (l.getD i ent0).1) ∧ w.cell? ⟨b, off + i * 2 + 1, none⟩ = some (.float .f64 (l.getD i ent0).2)
theorem Ens.below {w w' : World} {a : Option Addr} {l : List (Int × Nat)} (h : Ens w a l) (hb : Below w.heap.size w w') : Ens w' a l := by
  refine ⟨h.1, h.2.1, fun i hi => ?_⟩
  obtain ⟨b, off, he, h1, h2⟩ := h.2.2 i hi
  exact ⟨b, off, he, (hb.cell (p := ⟨b, off + i * 2, none⟩) (World.block_lt_of_cell? w _ h1)).trans h1, (hb.cell (p := ⟨b, off + i * 2 + 1, none⟩) (World.block_lt_of_cell? w _ h2)).trans h2⟩
def wts (l : List (Int × Nat)) : List Nat := l.map (·.2)
theorem wts_take_succ (l : List (Int × Nat)) (k : Nat) (h : k < l.length) : flts (wts (l.take (k + 1))) = flts (wts (l.take k)) ++ [.float .f64 (l.getD k ent0).2] := by
  have e : l.take (k + 1) = l.take k ++ [l.getD k ent0] := by rw [List.take_succ_eq_append_getElem h]; simp [List.getD, h]
  rw [e]; unfold wts flts; rw [List.map_append, List.map_append]; rfl

set_option maxHeartbeats 1000000 in
theorem rweightsC (l : List (Int × Nat)) (a : Option Addr) (ca : Nat) (w : World) (hx : Ens w a l) :
    Calls Tryd.prog 52 #[.slice a l.length ca] w fun e w' => ∃ v, e = .returned v ∧ w'.ownsRow w.heap.size 22 1 v l.length (flts (wts l)) ∧ Below w.heap.size w w' := by
  have hx0 := hx
  obtain ⟨hm, _, hc⟩ := hx0
  go_enter Tryd.func52, Tryd.ntmps52
  go_wp2
  go_loopw [3, 4] (fun v i wr => ∃ (a7 : Option Addr) (c7 k : Nat), k ≤ l.length ∧ i = .int .i64 k ∧ v = .slice a7 k c7 ∧ wr.ownsRow w.heap.size 22 1 v k (flts (wts (l.take k))) ∧ Below w.heap.size w wr) (fun _ i _ => l.length - (intOf i).toNat)
  case atStart => exact ⟨none, 0, 0, Nat.zero_le _, rfl, rfl, World.ownsRow_nil _ _ _ _, Below.refl _ _⟩
  case round =>
    obtain ⟨a7, c7, k, hk, rfl, rfl, hI, hB⟩ := hrel
    by_cases hlt : k < l.length
    · obtain ⟨b1, o1, rfl, h1, h2⟩ := hc k hlt
      have h2' : wr.cell? ⟨b1, o1 + k * 2 + 1, none⟩ = some (.float .f64 (l.getD k ent0).2) := (hB.cell (p := ⟨b1, o1 + k * 2 + 1, none⟩) (World.block_lt_of_cell? w _ h2)).trans h2
      have hwl : Hid (flts (wts (l.take (k + 1))) = flts (wts (l.take k)) ++ [.float .f64 (l.getD k ent0).2]) := Lib.hid (wts_take_succ l k hlt)
      clear hc h1 h2
      generalize (l.getD k ent0).2 = y at *
      obtain ⟨i0, hi, hz0, hz1, hz2⟩ := info_parts info22
      have hHO := hI.alloc (.cells #[.float .f64 y] 22)
      have hbs := hB.size
      go_wp2_with (at_builtin; refine wpList_append_own _ rfl _ _ 29 rfl w.heap.size 22 i0 (.float .f64 0) 1 8 Tryd.underlying29 hi hz0 hz1 hz2 rfl (by decide) _ _ _ rfl hHO ⟨wr.heap.size, 0, none⟩ 1 1 [.float .f64 y] rfl rfl (cell_one_new _ _ _) (by intro u hu; simp at hu; subst hu; rfl) (by unfold maxLen; omega) (by omega) (by simp; omega) ?_; intro v' w3 h3 hg3 _)
      have hbm : Below w.heap.size w (wr.alloc (.cells #[.float .f64 y] 22)) := hB.alloc hbs _
      have hb3 : Below w.heap.size w w3 := hbm.grown hg3 (by simp; omega) (fun j hj => (hI.lt j hj).1)
      rw [← hwl.out] at h3
      obtain ⟨a8, c8, rfl⟩ := own_slice h3
      clear hbm hg3 hHO hI hB hbs hi hz0 hz1 hz2 hwl
      go_wp2
      go_roundw
      case rel => exact ⟨a8, c8, k + 1, by omega, by go_num, rfl, h3, hb3⟩
      case measure => simp [intOf]; omega
    · have hk' : k = l.length := by omega
      have HK := Lib.hid hk'
      clear hk' hc
      go_wp2
      go_ret
      rw [HK.out, List.take_length] at hI
      rw [HK.out]
      exact ⟨_, rfl, hI, hB⟩
end Go.Proofs.YtniejpfjbifjkaaDoor
