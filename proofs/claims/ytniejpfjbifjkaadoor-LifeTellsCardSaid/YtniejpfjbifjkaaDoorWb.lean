/- What a float counts as, its place and its part, said of the bits; the functions of package weight and of its reference return just that. -/
import Derived.Test.YtniejpfjbifjkaaDoorWa
namespace Go.Proofs.YtniejpfjbifjkaaDoor
open Go.RowKit Fl

theorem not_isN_small {x : Nat} (h : x ≤ INF) : ¬ isN x := (pos_facts h).2.1
theorem T_small {x : Nat} (h : x ≤ INF) : T x = (x : Int) := (pos_facts h).2.2
theorem INF_val : INF = 9218868437227405312 := rfl
theorem MAXF_val : MAXF = 9218868437227405311 := rfl
theorem ONE_val : ONE = 4607182418800017408 := rfl
theorem kind_nan {x : Nat} (n : isN x) : kindF x = 5 := by unfold kindF; rw [if_pos (neF_nan (.inl n))]
theorem ne_self {x : Nat} (hx : x < B64) (n : ¬ isN x) : neF x x = false := by rw [neF_T hx hx n n]; simp
theorem gt_max {x : Nat} (hx : x < B64) (n : ¬ isN x) : gtF x 9218868437227405311 = decide (x = INF) := by
  rw [gtF_T hx (by decide) n (by decide), Bool.eq_iff_iff]
  unfold T isN at *
  unfold INF at *
  unfold B64 at hx
  simp only [decide_eq_true_eq, show (9218868437227405311 : Nat) < 9223372036854775808 by omega, if_true]
  split <;> omega
theorem gt_zero {x : Nat} (hx : x < B64) (n : ¬ isN x) : gtF x 0 = decide (0 < x ∧ x ≤ INF) := by
  rw [gtF_T hx (by decide) n (by decide), Bool.eq_iff_iff]
  unfold T isN at *
  unfold INF at *
  unfold B64 at hx
  simp only [decide_eq_true_eq, show (0 : Nat) < 9223372036854775808 by omega, if_true]
  split <;> omega
theorem lt_zero {x : Nat} (hx : x < B64) (n : ¬ isN x) : ltF x 0 = decide (9223372036854775808 < x) := by
  rw [ltF_T hx (by decide) n (by decide), Bool.eq_iff_iff]
  unfold T isN at *
  unfold INF at *
  unfold B64 at hx
  simp only [decide_eq_true_eq, show (0 : Nat) < 9223372036854775808 by omega, if_true]
  split <;> omega
theorem kind_num {x : Nat} (hx : x < B64) (n : ¬ isN x) :
    kindF x = if x = INF then 4 else if 0 < x ∧ x ≤ INF then 3 else if 9223372036854775808 < x then 0 else if x = 9223372036854775808 then 1 else 2 := by
  unfold kindF
  rw [ne_self hx n, gt_max hx n, gt_zero hx n, lt_zero hx n]
  unfold isN at n
  unfold INF at *
  unfold B64 at hx
  have hw : wrap64 (x : Int) < 0 ↔ 9223372036854775808 ≤ x := by unfold wrap64; omega
  simp only [decide_eq_true_eq, Bool.false_eq_true, if_false]
  (repeat' split) <;> omega

/-- what a float counts as. -/
def cl (x : Nat) : Nat := if x < INF then x else if x = INF then MAXF else 0
theorem cl_le (x : Nat) : cl x ≤ MAXF := by unfold cl; unfold INF MAXF; (repeat' split) <;> omega
theorem cl_lt (x : Nat) : cl x < INF := by have := cl_le x; unfold MAXF at this; unfold INF; omega
theorem cl_le_INF (x : Nat) : cl x ≤ INF := Nat.le_of_lt (cl_lt x)
theorem cl_cl (x : Nat) : cl (cl x) = cl x := by
  have := cl_lt x
  rw [cl, if_pos this]
theorem cl_B64 (x : Nat) : cl x < B64 := by have := cl_lt x; unfold INF at this; unfold B64; omega

theorem clean_eq {x : Nat} (hx : x < B64) : cleanF x = cl x := by
  unfold cleanF
  by_cases n : isN x
  · rw [kind_nan n]
    unfold cl isN at *; unfold INF at *
    rw [if_neg (by omega), if_neg (by omega), if_neg (by omega)]; rfl
  · rw [kind_num hx n]
    unfold isN at n
    unfold cl MAXF; unfold INF at *; unfold B64 at hx
    by_cases c1 : x = 9218868437227405312
    · subst c1; rfl
    · simp only [c1, if_false]
      by_cases c2 : 0 < x ∧ x ≤ 9218868437227405312
      · rw [if_pos c2, if_pos rfl, if_pos (by omega)]
      · rw [if_neg c2]
        by_cases c3 : 9223372036854775808 < x
        · rw [if_pos c3, if_neg (by omega), if_neg (by omega)]; rfl
        · rw [if_neg c3]
          by_cases c4 : x = 9223372036854775808
          · rw [if_pos c4, if_neg (by omega), if_neg (by omega)]; rfl
          · rw [if_neg c4, if_neg (by omega), if_pos (by omega)]
            have : x = 0 := by omega
            rw [this]; rfl
theorem rclean_eq {x : Nat} (hx : x < B64) : rcleanF x = cl x := by
  unfold rcleanF
  by_cases n : isN x
  · rw [gtF_nan (.inl n), gtF_nan (.inl n)]
    unfold cl isN at *; unfold INF at *
    simp only [Bool.false_eq_true, if_false]
    rw [if_neg (by omega), if_neg (by omega)]
  · rw [gt_max hx n, gt_zero hx n]
    unfold isN at n
    unfold cl MAXF; unfold INF at *; unfold B64 at hx
    simp only [decide_eq_true_eq]
    (repeat' split) <;> omega

theorem cleanC (x : Nat) (w : World) (hx : x < B64) (hl : Laid w) :
    Calls Tryd.prog 22 #[.float .f64 x] w fun e w' => e = .returned (.float .f64 (cl x)) ∧ w = w' := by
  rw [← clean_eq hx]; exact clean_calls x w hl
theorem rcleanC (x : Nat) (w : World) (hx : x < B64) :
    Calls Tryd.prog 25 #[.float .f64 x] w fun e w' => e = .returned (.float .f64 (cl x)) ∧ w = w' := by
  rw [← rclean_eq hx]; exact rclean_calls x w

/-- a float's part of another one. -/
def part (a b : Nat) : Nat := if cl a = 0 ∨ cl b = 0 then 0 else if cl b ≤ cl a then ONE else divF (cl a) (cl b)
theorem part_le (a b : Nat) : part a b ≤ ONE := by
  unfold part
  split
  · exact Nat.zero_le _
  · split
    · exact Nat.le_refl _
    · exact divF_le_one (cl_lt b) (by omega) (by omega)
theorem part_le_INF (a b : Nat) : part a b ≤ INF := by have := part_le a b; unfold ONE at this; unfold INF; omega
theorem part_B64 (a b : Nat) : part a b < B64 := by have := part_le a b; unfold ONE at this; unfold B64; omega

theorem partC (a b : Nat) (w : World) (ha : a < B64) (hb : b < B64) (hl : Laid w) :
    Calls Tryd.prog 23 #[.float .f64 a, .float .f64 b] w fun e w' => e = .returned (.float .f64 (part a b)) ∧ w = w' := by
  have ea : eqF (cl a) 0 = decide (cl a = 0) := eqF_pos (cl_le_INF a) (by decide)
  have eb : eqF (cl b) 0 = decide (cl b = 0) := eqF_pos (cl_le_INF b) (by decide)
  have ge : geF (cl a) (cl b) = decide (cl b ≤ cl a) := geF_pos (cl_le_INF a) (cl_le_INF b)
  by_cases c1 : cl a = 0
  · have H : Hid (part a b = 0) := Lib.hid (by unfold part; rw [if_pos (.inl c1)])
    rw [c1] at ea
    have ea' : eqF (cl a) 0 = true := by rw [c1]; exact ea
    clear ea eb ge c1
    go_enter Tryd.func23, Tryd.ntmps23
    go_wp2_with (first | (go_at_call 22; refine (cleanC _ _ (by assumption) (by assumption)).mono ?_; rintro e w' ⟨rfl, rfl⟩))
    go_ret
    exact ⟨by rw [H.out]; rfl, rfl⟩
  by_cases c2 : cl b = 0
  · have H : Hid (part a b = 0) := Lib.hid (by unfold part; rw [if_pos (.inr c2)])
    have ea' : eqF (cl a) 0 = false := by rw [ea]; simpa using c1
    have eb' : eqF (cl b) 0 = true := by rw [eb]; simpa using c2
    clear ea eb ge c1 c2
    go_enter Tryd.func23, Tryd.ntmps23
    go_wp2_with (first | (go_at_call 22; refine (cleanC _ _ (by assumption) (by assumption)).mono ?_; rintro e w' ⟨rfl, rfl⟩))
    go_ret
    exact ⟨by rw [H.out]; rfl, rfl⟩
  have ea' : eqF (cl a) 0 = false := by rw [ea]; simpa using c1
  have eb' : eqF (cl b) 0 = false := by rw [eb]; simpa using c2
  by_cases c3 : cl b ≤ cl a
  · have H : Hid (part a b = 4607182418800017408) := Lib.hid (by unfold part; rw [if_neg (by omega), if_pos c3]; rfl)
    have ge' : geF (cl a) (cl b) = true := by rw [ge]; simpa using c3
    clear ea eb ge c1 c2 c3
    go_enter Tryd.func23, Tryd.ntmps23
    go_wp2_with (first | (go_at_call 22; refine (cleanC _ _ (by assumption) (by assumption)).mono ?_; rintro e w' ⟨rfl, rfl⟩))
    go_ret
    exact ⟨by rw [H.out]; rfl, rfl⟩
  · have H : Hid (part a b = divF (cl a) (cl b)) := Lib.hid (by unfold part; rw [if_neg (by omega), if_neg c3])
    have ge' : geF (cl a) (cl b) = false := by rw [ge]; simpa using c3
    have hd := fun (w : World) => run_float_arith (P := Tryd.prog) w .quo 22 .f64 (cl a) (cl b) _ (div_ok (cl_lt a) (cl_lt b) c1 c2)
    clear ea eb ge c1 c2 c3
    go_enter Tryd.func23, Tryd.ntmps23
    go_wp2_with (first | (go_at_call 22; refine (cleanC _ _ (by assumption) (by assumption)).mono ?_; rintro e w' ⟨rfl, rfl⟩))
    go_ret
    exact ⟨by rw [H.out]; rfl, rfl⟩

theorem rpartC (a b : Nat) (w : World) (ha : a < B64) (hb : b < B64) :
    Calls Tryd.prog 26 #[.float .f64 a, .float .f64 b] w fun e w' => e = .returned (.float .f64 (part a b)) ∧ w = w' := by
  have ea : eqF (cl a) 0 = decide (cl a = 0) := eqF_pos (cl_le_INF a) (by decide)
  have eb : eqF (cl b) 0 = decide (cl b = 0) := eqF_pos (cl_le_INF b) (by decide)
  have ge : geF (cl a) (cl b) = decide (cl b ≤ cl a) := geF_pos (cl_le_INF a) (cl_le_INF b)
  by_cases c1 : cl a = 0
  · have H : Hid (part a b = 0) := Lib.hid (by unfold part; rw [if_pos (.inl c1)])
    rw [c1] at ea
    have ea' : eqF (cl a) 0 = true := by rw [c1]; exact ea
    clear ea eb ge c1
    go_enter Tryd.func26, Tryd.ntmps26
    go_wp2_with (first | (go_at_call 25; refine (rcleanC _ _ (by assumption)).mono ?_; rintro e w' ⟨rfl, rfl⟩))
    go_ret
    exact ⟨by rw [H.out]; rfl, rfl⟩
  by_cases c2 : cl b = 0
  · have H : Hid (part a b = 0) := Lib.hid (by unfold part; rw [if_pos (.inr c2)])
    have ea' : eqF (cl a) 0 = false := by rw [ea]; simpa using c1
    have eb' : eqF (cl b) 0 = true := by rw [eb]; simpa using c2
    clear ea eb ge c1 c2
    go_enter Tryd.func26, Tryd.ntmps26
    go_wp2_with (first | (go_at_call 25; refine (rcleanC _ _ (by assumption)).mono ?_; rintro e w' ⟨rfl, rfl⟩))
    go_ret
    exact ⟨by rw [H.out]; rfl, rfl⟩
  have ea' : eqF (cl a) 0 = false := by rw [ea]; simpa using c1
  have eb' : eqF (cl b) 0 = false := by rw [eb]; simpa using c2
  by_cases c3 : cl b ≤ cl a
  · have H : Hid (part a b = 4607182418800017408) := Lib.hid (by unfold part; rw [if_neg (by omega), if_pos c3]; rfl)
    have ge' : geF (cl a) (cl b) = true := by rw [ge]; simpa using c3
    clear ea eb ge c1 c2 c3
    go_enter Tryd.func26, Tryd.ntmps26
    go_wp2_with (first | (go_at_call 25; refine (rcleanC _ _ (by assumption)).mono ?_; rintro e w' ⟨rfl, rfl⟩))
    go_ret
    exact ⟨by rw [H.out]; rfl, rfl⟩
  · have H : Hid (part a b = divF (cl a) (cl b)) := Lib.hid (by unfold part; rw [if_neg (by omega), if_neg c3])
    have ge' : geF (cl a) (cl b) = false := by rw [ge]; simpa using c3
    have hd := fun (w : World) => run_float_arith (P := Tryd.prog) w .quo 22 .f64 (cl a) (cl b) _ (div_ok (cl_lt a) (cl_lt b) c1 c2)
    clear ea eb ge c1 c2 c3
    go_enter Tryd.func26, Tryd.ntmps26
    go_wp2_with (first | (go_at_call 25; refine (rcleanC _ _ (by assumption)).mono ?_; rintro e w' ⟨rfl, rfl⟩))
    go_ret
    exact ⟨by rw [H.out]; rfl, rfl⟩
end Go.Proofs.YtniejpfjbifjkaaDoor
