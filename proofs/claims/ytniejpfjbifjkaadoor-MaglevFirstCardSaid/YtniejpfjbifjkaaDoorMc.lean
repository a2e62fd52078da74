/- begin, next. -/
import Derived.Test.YtniejpfjbifjkaaDoorMb
namespace Go.Proofs.YtniejpfjbifjkaaDoor
open Go.RowKit

def W2 (w : World) (a b : Int) : World := (w.alloc (.cells #[.int .i64 0, .int .i64 0, .int .i64 0] 104)).alloc (.cells #[.int .u64 a, .int .u64 b] 123)
theorem setCell_twice (w : World) (a : Addr) (v v' : Value) : (w.setCell a v).setCell a v' = w.setCell a v' := by
  unfold World.setCell
  congr 1
  apply Array.ext_getElem?
  intro k
  rw [Array.getElem?_modify, Array.getElem?_modify, Array.getElem?_modify]
  by_cases h : a.block = k
  · rw [if_pos h, if_pos h, if_pos h]
    cases w.heap[k]? with
    | none => rfl
    | some o =>
      cases o with
      | cells c e f =>
        simp only [Option.map_some]
        congr 2
        by_cases hs : a.spot.isSome
        · simp [hs]
        · simp only [hs]
          apply Array.ext_getElem?
          intro m
          simp only [Bool.false_eq_true, if_false, Array.getElem?_setIfInBounds, Array.size_setIfInBounds]
          by_cases hm : a.off = m <;> simp [hm]
      | _ => rfl
  · rw [if_neg h, if_neg h, if_neg h]
def stAt (id slots : Int) : Nat := (pair 1 0 id % slots).toNat
def stStep (id slots : Int) : Nat := 1 + (pair 2 0 id % (slots - 1)).toNat
theorem size104 : (Tryd.prog.info? 104).map (·.size) = some 3 := by kernel_rfl
theorem beginC (id slots : Int) (w : World) (hid : 0 ≤ id ∧ id < 32) (hs : 2 ≤ slots ∧ slots ≤ 1021) :
    Calls Tryd.prog 84 #[.int .i64 id, .int .i64 slots] w fun e w' => e = .returned (.agg #[.int .i64 (stAt id slots), .int .i64 (stStep id slots), .int .i64 slots]) ∧ Below w.heap.size w w' := by
  obtain ⟨h1, h2⟩ := hid
  obtain ⟨h3, h4⟩ := hs
  have hu : U64 id := ⟨by omega, by omega⟩
  have ht1 : (pair 1 0 id).tmod slots = pair 1 0 id % slots := Int.tmod_eq_emod_of_nonneg (pair_range _ _ _).1
  have ht2 : (pair 2 0 id).tmod (slots - 1) = pair 2 0 id % (slots - 1) := Int.tmod_eq_emod_of_nonneg (pair_range _ _ _).1
  have e1 := Int.emod_nonneg (pair 1 0 id) (show slots ≠ 0 by omega)
  have e2 := Int.emod_lt_of_pos (pair 1 0 id) (show 0 < slots by omega)
  have e3 := Int.emod_nonneg (pair 2 0 id) (show slots - 1 ≠ 0 by omega)
  have e4 := Int.emod_lt_of_pos (pair 2 0 id) (show 0 < slots - 1 by omega)
  have hw1 : IntKind.u64.wrap slots = slots := by rw [IntKind.wrap_u64]; exact Int.emod_eq_of_lt (by omega) (by omega)
  have hw2 : IntKind.u64.wrap (slots - 1) = slots - 1 := by rw [IntKind.wrap_u64]; exact Int.emod_eq_of_lt (by omega) (by omega)
  have hs0 : slots ≠ 0 := by omega
  have hs1 : slots - 1 ≠ 0 := by omega
  have HA : Hid ((stAt id slots : Int) = pair 1 0 id % slots) := Lib.hid (by unfold stAt; omega)
  have HS : Hid ((stStep id slots : Int) = 1 + pair 2 0 id % (slots - 1)) := Lib.hid (by unfold stStep; omega)
  generalize hp1 : pair 1 0 id % slots = r1 at *
  generalize hp2 : pair 2 0 id % (slots - 1) = r2 at *
  clear hp1 hp2
  go_enter Tryd.func84, Tryd.ntmps84
  go_wp2_with fail
  go_loopw [7] (fun i wr => (i = .int .i64 0 ∧ wr = W2 w 0 0) ∨ (i = .int .i64 1 ∧ wr = W2 w (pair 1 0 id) 0) ∨ (i = .int .i64 2 ∧ wr = W2 w (pair 1 0 id) (pair 2 0 id))) (fun i _ => 2 - (intOf i).toNat)
  case atStart => exact .inl ⟨rfl, rfl⟩
  case round =>
    obtain ⟨rfl, rfl⟩ | ⟨rfl, rfl⟩ | ⟨rfl, rfl⟩ := hrel
    · unfold W2
      go_wp2_with (first | (go_at_call 109; refine (pairC _ _ _ _ ⟨by decide, by decide⟩).mono ?_; rintro e w' ⟨rfl, rfl⟩))
      go_roundw
      case rel => exact .inr (.inl ⟨by go_num, by first | trivial | rfl⟩)
      case measure => simp [intOf]
    · unfold W2
      go_wp2_with (first | (go_at_call 109; refine (pairC _ _ _ _ ⟨by decide, by decide⟩).mono ?_; rintro e w' ⟨rfl, rfl⟩))
      go_roundw
      case rel => exact .inr (.inr ⟨by go_num, by first | trivial | rfl⟩)
      case measure => simp [intOf]
    · unfold W2
      generalize pair 1 0 id = p1 at *
      generalize pair 2 0 id = p2 at *
      go_upto_region 7 with fail
      go_region
      go_wp2
      (try simp only [Exit.inBlock, Exit.then])
      have hg : (((w.alloc (.cells #[.int .i64 r1, .int .i64 (1 + r2), .int .i64 slots] 104)).alloc (.cells #[.int .u64 p1, .int .u64 p2] 123)).drew).heap[w.heap.size]? = some (.cells #[.int .i64 r1, .int .i64 (1 + r2), .int .i64 slots] 104 (0, 0)) :=
        (heap_alloc_old (w.alloc (.cells #[.int .i64 r1, .int .i64 (1 + r2), .int .i64 slots] 104)) _ (r := w.heap.size) (by simp)).trans (heap_alloc_new _ _)
      refine bodyPost_ret (results_cell_row rfl _ _ w.heap.size 104 #[.int .i64 r1, .int .i64 (1 + r2), .int .i64 slots] _ _ rfl hg Tryd.underlying104 rfl size104) rfl ?_
      refine ⟨by rw [HA.out, HS.out], (((Below.refl _ _).alloc (Nat.le_refl _) _).alloc (by simp) _).drew⟩
/-- one step on. -/
def nx (a s n : Nat) : Nat := if n ≤ a + s then a + s - n else a + s
theorem nextC (g o : Nat) (at1 step slots : Nat) (w : World) (ha : at1 < slots) (hst : step < slots) (hsl : slots ≤ 1021) (h0 : w.cell? ⟨g, o, none⟩ = some (.int .i64 at1)) (h1 : w.cell? ⟨g, o + 1, none⟩ = some (.int .i64 step)) (h2 : w.cell? ⟨g, o + 2, none⟩ = some (.int .i64 slots)) (hfz : w.frozen? ⟨g, o, none⟩ = false) :
    Calls Tryd.prog 85 #[.pointer (some ⟨g, o, none⟩)] w fun e w' => e = .returned (.int .i64 at1) ∧ ∃ n, w' = (w.setCell ⟨g, o, none⟩ (.int .i64 (nx at1 step slots))).drewN n := by
  by_cases hge : slots ≤ at1 + step
  · have HX : Hid ((nx at1 step slots : Int) = at1 + step - slots) := Lib.hid (by unfold nx; rw [if_pos hge]; omega)
    go_enter Tryd.func85, Tryd.ntmps85
    go_upto_region 2 with fail
    go_region
    go_upto_region 3 with fail
    go_region
    go_upto_region 4 with fail
    go_region
    go_wp2
    go_ret
    exact ⟨rfl, 3, by rw [HX.out, setCell_twice]; rfl⟩
  · have HX : Hid ((nx at1 step slots : Int) = at1 + step) := Lib.hid (by unfold nx; rw [if_neg hge]; omega)
    go_enter Tryd.func85, Tryd.ntmps85
    go_upto_region 2 with fail
    go_region
    go_upto_region 3 with fail
    go_region
    go_wp2
    go_ret
    exact ⟨rfl, 2, by rw [HX.out]; rfl⟩
attribute [irreducible] stAt stStep
end Go.Proofs.YtniejpfjbifjkaaDoor
