/- MaglevFar walked. -/
import Derived.Test.YtniejpfjbifjkaaDoorMt
namespace Go.Proofs.YtniejpfjbifjkaaDoor
open Go.RowKit Fl

theorem mv_self (xs : List Int) (k : Nat) : mv xs xs k = 0 := by
  induction k with
  | zero => rfl
  | succ k ih => rw [mv_succ, ih, if_pos rfl]
theorem mv_symm (xs ys : List Int) (k : Nat) : mv xs ys k = mv ys xs k := by
  induction k with
  | zero => rfl
  | succ k ih =>
    rw [mv_succ, mv_succ, ih]
    by_cases h : xs.getD k 0 = ys.getD k 0
    · rw [if_pos h, if_pos h.symm]
    · rw [if_neg h, if_neg (fun e => h e.symm)]
theorem mv_tri (xs ys zs : List Int) (k : Nat) : mv xs zs k ≤ mv xs ys k + mv ys zs k := by
  induction k with
  | zero => exact Nat.le_refl _
  | succ k ih =>
    rw [mv_succ, mv_succ, mv_succ]
    by_cases h1 : xs.getD k 0 = ys.getD k 0
    · by_cases h2 : ys.getD k 0 = zs.getD k 0
      · rw [if_pos (h1.trans h2)]; omega
      · rw [if_neg h2]; split <;> omega
    · rw [if_neg h1]; split <;> split <;> omega
theorem moved_eq {xs ys : List Int} (h : xs.length = ys.length) : movedN xs ys = (mv xs ys xs.length : Nat) ∧ movedE xs ys = 0 := by
  unfold movedN movedE; rw [if_pos h, if_pos h]; exact ⟨rfl, rfl⟩

theorem ine_f {a b : Nat} (h : a = b) : ((a : Int) != (b : Int)) = false := by simp [h]
theorem ine_t {a b : Nat} (h : ¬ a = b) : ((a : Int) != (b : Int)) = true := by rw [bne_iff_ne]; omega
namespace maglevFar
set_option maxRecDepth 100000 in
set_option maxHeartbeats 2000000 in
theorem walk (a0 : Option Addr) (l0 : List Int) (cap0 : Nat) (a1 : Option Addr) (l1 : List Int) (cap1 : Nat) (a2 : Option Addr) (l2 : List Int) (cap2 : Nat) (w : World)
    (f0 : Ils w a0 l0) (_ : a0 = none → cap0 = 0) (_ : ∀ x ∈ l0, -9223372036854775808 ≤ x ∧ x ≤ 9223372036854775807) (_ : l0.length * 8 ≤ 140737488351232)
    (f1 : Ils w a1 l1) (_ : a1 = none → cap1 = 0) (_ : ∀ x ∈ l1, -9223372036854775808 ≤ x ∧ x ≤ 9223372036854775807) (_ : l1.length * 8 ≤ 140737488351232)
    (f2 : Ils w a2 l2) (_ : a2 = none → cap2 = 0) (_ : ∀ x ∈ l2, -9223372036854775808 ≤ x ∧ x ≤ 9223372036854775807) (s2 : l2.length * 8 ≤ 140737488351232) (hl : Laid w) (hpos : 0 < w.heap.size) :
    Calls Tryd.prog 17 #[.slice a0 l0.length cap0, .slice a1 l1.length cap1, .slice a2 l2.length cap2] w fun e w' => e = .returned (.bool true) ∧ Below w.heap.size w w' := by
  by_cases h1 : l0.length = l1.length
  case neg =>
    have hb : ((l0.length : Int) != (l1.length : Int)) = true := ine_t h1
    go_enter Tryd.func17, Tryd.ntmps17
    go_wp2_with fail
    refine (known10C _ hl hpos).mono ?_
    rintro e w1 ⟨rfl, hb1⟩
    go_wp2_with fail
    go_ret
    exact ⟨rfl, hb1⟩
  by_cases h2 : l1.length = l2.length
  case neg =>
    have hb : ((l0.length : Int) != (l1.length : Int)) = false := ine_f h1
    have hb' : ((l1.length : Int) != (l2.length : Int)) = true := ine_t h2
    clear h1
    go_enter Tryd.func17, Tryd.ntmps17
    go_wp2_with fail
    refine (known10C _ hl hpos).mono ?_
    rintro e w1 ⟨rfl, hb1⟩
    go_wp2_with fail
    go_ret
    exact ⟨rfl, hb1⟩
  have hb : ((l0.length : Int) != (l1.length : Int)) = false := ine_f h1
  have hb' : ((l1.length : Int) != (l2.length : Int)) = false := ine_f h2
  have m1 := fun w f0 f1 => movedC l0 l1 a0 a1 cap0 cap1 w f0 f1
  have m2 := fun w f0 f1 => movedC l1 l0 a1 a0 cap1 cap0 w f1 f0
  have m3 := fun w f1 f2 => movedC l1 l2 a1 a2 cap1 cap2 w f1 f2
  have m4 := fun w f0 f2 => movedC l0 l2 a0 a2 cap0 cap2 w f0 f2
  have m5 := fun w f0 => movedC l0 l0 a0 a0 cap0 cap0 w f0 f0
  rw [(moved_eq h1).1, (moved_eq h1).2] at m1
  have e2 : mv l1 l0 l1.length = mv l0 l1 l0.length := by rw [mv_symm, h1]
  have e3 : mv l1 l2 l1.length = mv l1 l2 l0.length := by rw [h1]
  rw [(moved_eq h1.symm).1, (moved_eq h1.symm).2, e2] at m2
  rw [(moved_eq h2).1, (moved_eq h2).2, e3] at m3
  rw [(moved_eq (h1.trans h2)).1, (moved_eq (h1.trans h2)).2] at m4
  rw [(moved_eq rfl).1, (moved_eq rfl).2, mv_self] at m5
  have t1 := mv_tri l0 l1 l2 l0.length
  have t2 := mv_le l0 l1 l0.length
  have t3 := mv_le l1 l2 l0.length
  have hsz : l0.length ≤ 17592186044416 := by omega
  have F0 := Lib.hid f0
  have F1 := Lib.hid f1
  have F2 := Lib.hid f2
  have HL := Lib.hid hl
  have M1 := Lib.hid m1
  have M2 := Lib.hid m2
  have M3 := Lib.hid m3
  have M4 := Lib.hid m4
  have M5 := Lib.hid m5
  clear m1 m2 m3 m4 m5 f0 f1 f2 hl h1 h2 s2 e2 e3
  generalize mv l0 l1 l0.length = x01 at *
  generalize mv l1 l2 l0.length = x12 at *
  generalize mv l0 l2 l0.length = x02 at *
  have d1 : decide ((x02 : Int) ≤ (x01 : Int) + (x12 : Int)) = true := decide_eq_true (by omega)
  have d2 : decide ((x01 : Int) ≤ (l0.length : Int)) = true := decide_eq_true (by omega)
  have hd : ∀ n m (w : World), (w.drewN n).drewN m = w.drewN (n + m) := fun n m w => drewN_drewN w n m
  have HD := Lib.hid hd
  clear hd
  have below : ∀ n, Below w.heap.size w (w.drewN n) := fun n => below_drewN (Below.refl _ _) n
  have HB := Lib.hid below
  clear below
  go_enter Tryd.func17, Tryd.ntmps17
  go_wp2_with fail
  refine (M1.out _ F0.out F1.out).mono ?_
  rintro e w1 ⟨rfl, n1, rfl⟩
  go_wp2_with fail
  refine (M2.out _ (F0.out.below (HB.out _)) (F1.out.below (HB.out _))).mono ?_
  rintro e w1 ⟨rfl, n2, rfl⟩
  rw [HD.out]
  go_wp2_with fail
  refine (M3.out _ (F1.out.below (HB.out _)) (F2.out.below (HB.out _))).mono ?_
  rintro e w1 ⟨rfl, n3, rfl⟩
  rw [HD.out]
  go_wp2_with fail
  refine (M4.out _ (F0.out.below (HB.out _)) (F2.out.below (HB.out _))).mono ?_
  rintro e w1 ⟨rfl, n4, rfl⟩
  rw [HD.out]
  go_wp2_with fail
  refine (M5.out _ (F0.out.below (HB.out _))).mono ?_
  rintro e w1 ⟨rfl, n5, rfl⟩
  rw [HD.out]
  go_wp2_with fail
  refine (known10C (w.drewN _) (fun i hi => HL.out i hi) hpos).mono ?_
  rintro e w1 ⟨rfl, hb1⟩
  go_wp2_with fail
  go_ret
  exact ⟨rfl, (HB.out _).trans hb1⟩
end maglevFar
end Go.Proofs.YtniejpfjbifjkaaDoor
