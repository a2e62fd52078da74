/- The reference's size and Right of addresses (132, 121). -/
import Derived.Test.YtniejpfjbifjkaaDoorLr
namespace Go.Proofs.YtniejpfjbifjkaaDoor
open Go.RowKit Fl

set_option maxRecDepth 100000 in
theorem rsizeC (v6 : Bool) (b : Nat → Int) (w : World) :
    Calls Tryd.prog 132 #[adrV v6 b] w fun e w' => e = .returned (.int .i64 (szOf v6)) ∧ Below w.heap.size w w' := by
  unfold adrV
  cases v6
  all_goals
    go_enter Tryd.func132, Tryd.ntmps132
    go_wp2
    go_ret
    exact ⟨rfl, (Below.refl _ _).alloc (Nat.le_refl _) _⟩
theorem adrOk_false {v : Bool} {b : Nat → Int} {k : Nat} (hk : k < 16) (hn : szOf v ≤ k) (h : b k ≠ 0) : adrOk v b = false := by
  cases v
  · have h4 : 4 ≤ k := by unfold szOf at hn; simp at hn; omega
    unfold adrOk
    rw [Bool.false_or, List.all_eq_false]
    exact ⟨k - 4, by simp; omega, by rw [show 4 + (k - 4) = k by omega]; simpa using h⟩
  · unfold szOf at hn; simp at hn; omega
theorem adrOk_true {v : Bool} {b : Nat → Int} (h : ∀ j : Nat, szOf v ≤ (j : Int) → j < 16 → b j = 0) : adrOk v b = true := by
  cases v
  · unfold adrOk
    rw [Bool.false_or, List.all_eq_true]
    intro j hj
    have : j < 12 := by simpa using hj
    simp [h (4 + j) (by unfold szOf; simp; omega) (by omega)]
  · rfl
set_option maxRecDepth 100000 in
set_option maxHeartbeats 1000000 in
theorem rarightC (v : Bool) (b : Nat → Int) (w : World) :
    Calls Tryd.prog 121 #[adrV v b] w fun e w' => e = .returned (.bool (adrOk v b)) ∧ Below w.heap.size w w' := by
  have hs := fun W => rsizeC v b W
  unfold adrV at *
  have q1 : (w.alloc (.cells #[.bool v, .int .u8 (b 0), .int .u8 (b 1), .int .u8 (b 2), .int .u8 (b 3), .int .u8 (b 4), .int .u8 (b 5), .int .u8 (b 6), .int .u8 (b 7), .int .u8 (b 8), .int .u8 (b 9), .int .u8 (b 10), .int .u8 (b 11), .int .u8 (b 12), .int .u8 (b 13), .int .u8 (b 14), .int .u8 (b 15)] 66)).heap[w.heap.size]? = some (.cells #[.bool v, .int .u8 (b 0), .int .u8 (b 1), .int .u8 (b 2), .int .u8 (b 3), .int .u8 (b 4), .int .u8 (b 5), .int .u8 (b 6), .int .u8 (b 7), .int .u8 (b 8), .int .u8 (b 9), .int .u8 (b 10), .int .u8 (b 11), .int .u8 (b 12), .int .u8 (b 13), .int .u8 (b 14), .int .u8 (b 15)] 66) := heap_alloc_new _ _
  have r1 := Lib.hid (range_row q1 0 [.bool v, .int .u8 (b 0), .int .u8 (b 1), .int .u8 (b 2), .int .u8 (b 3), .int .u8 (b 4), .int .u8 (b 5), .int .u8 (b 6), .int .u8 (b 7), .int .u8 (b 8), .int .u8 (b 9), .int .u8 (b 10), .int .u8 (b 11), .int .u8 (b 12), .int .u8 (b 13), .int .u8 (b 14), .int .u8 (b 15)] (drop_lit _ 0 _ rfl))
  have hc : ∀ w1, Below (w.alloc (.cells #[.bool v, .int .u8 (b 0), .int .u8 (b 1), .int .u8 (b 2), .int .u8 (b 3), .int .u8 (b 4), .int .u8 (b 5), .int .u8 (b 6), .int .u8 (b 7), .int .u8 (b 8), .int .u8 (b 9), .int .u8 (b 10), .int .u8 (b 11), .int .u8 (b 12), .int .u8 (b 13), .int .u8 (b 14), .int .u8 (b 15)] 66)).heap.size (w.alloc (.cells #[.bool v, .int .u8 (b 0), .int .u8 (b 1), .int .u8 (b 2), .int .u8 (b 3), .int .u8 (b 4), .int .u8 (b 5), .int .u8 (b 6), .int .u8 (b 7), .int .u8 (b 8), .int .u8 (b 9), .int .u8 (b 10), .int .u8 (b 11), .int .u8 (b 12), .int .u8 (b 13), .int .u8 (b 14), .int .u8 (b 15)] 66)) w1 → (∀ i, i < 16 → w1.cell? ⟨w.heap.size, 1 + i, none⟩ = some (.int .u8 (b i))) := fun w1 hb =>
    block_from' (row_below q1 hb) 1 (fun i => .int .u8 (b i)) 16 (lit16 v b)
  have hz1 : (0 : Int) ≤ szOf v ∧ szOf v ≤ 16 := by cases v <;> decide
  obtain ⟨Z, hZ⟩ : ∃ Z : Nat, szOf v = Z := ⟨(szOf v).toNat, by omega⟩
  rw [hZ] at hs
  have hZ16 : Z ≤ 16 := by omega
  have HZ := Lib.hid hZ
  clear q1 hz1 hZ
  go_enter Tryd.func121, Tryd.ntmps121
  go_wp2_with (first | (refine wpList_load_want (by rfl) 66 (.tmp 1) (by rfl) w.heap.size 0 (by rfl) [.bool v, .int .u8 (b 0), .int .u8 (b 1), .int .u8 (b 2), .int .u8 (b 3), .int .u8 (b 4), .int .u8 (b 5), .int .u8 (b 6), .int .u8 (b 7), .int .u8 (b 8), .int .u8 (b 9), .int .u8 (b 10), .int .u8 (b 11), .int .u8 (b 12), .int .u8 (b 13), .int .u8 (b 14), .int .u8 (b 15)] _ r1.out Tryd.underlying66 rfl size66 ?_; (simp only [Act.put, List.setIfInBounds_toArray, List.set_cons_zero, List.set_cons_succ])))
  refine (hs _).mono ?_
  rintro e w1 ⟨rfl, hb1⟩
  have c1 := Lib.hid (hc w1 hb1)
  have HB := Lib.hid (below_trans'' hb1)
  clear hb1 hc hs r1
  go_wp2_with fail
  go_loopw [3] (fun i wr => ∃ k : Nat, Z ≤ k ∧ k ≤ 16 ∧ i = .int .i64 k ∧ wr = w1 ∧ Hid (∀ j, Z ≤ j → j < k → b j = 0)) (fun i _ => 16 - (intOf i).toNat)
  case atStart => exact ⟨Z, Nat.le_refl _, hZ16, rfl, rfl, Lib.hid (fun j h1 h2 => by omega)⟩
  case round =>
    obtain ⟨k, hZk, hk, rfl, rfl, hI⟩ := hrel
    by_cases hlt : k < 16
    · have p1 := c1.out k hlt
      have e16 : decide ((k : Int) < 16) = true := decide_eq_true (by omega)
      by_cases heq : b k = 0
      · have HI : Hid (∀ j, Z ≤ j → j < k + 1 → b j = 0) := Lib.hid (fun j h0 hj => by
          rcases Nat.lt_or_ge j k with h | h
          · exact hI.out j h0 h
          · have : j = k := by omega
            subst this; exact heq)
        rw [heq] at p1
        clear heq hI
        go_wp2_with fail
        go_roundw
        case rel => exact ⟨k + 1, by omega, by omega, by go_num, trivial, HI⟩
        case measure => simp [intOf]; omega
      · have HF := Lib.hid (adrOk_false (v := v) hlt (by rw [HZ.out]; omega) heq)
        have hne : (b k != 0) = true := by simpa using heq
        clear heq hI
        generalize b k = x at *
        go_wp2_with fail
        go_ret
        exact ⟨by rw [HF.out]; rfl, HB.out⟩
    · have hkl : k = 16 := by omega
      subst hkl
      have HT : Hid (adrOk v b = true) := Lib.hid (adrOk_true (fun j h1 h2 => hI.out j (by rw [HZ.out] at h1; omega) h2))
      clear hI c1
      go_wp2_with fail
      go_ret
      exact ⟨by rw [HT.out]; rfl, HB.out⟩
end Go.Proofs.YtniejpfjbifjkaaDoor
