/- WeightGrows walked. -/
import Derived.Test.YtniejpfjbifjkaaDoorWo
import Derived.Test.YtniejpfjbifjkaaDoorWk
namespace Go.Proofs.YtniejpfjbifjkaaDoor.weightGrows
open Go.RowKit Fl

theorem part_left {a b x : Nat} (h : cl a ≤ cl b) : part a x ≤ part b x := by
  have hb := part_le b x
  have ha := part_le a x
  unfold part at *
  by_cases c1 : cl a = 0 ∨ cl x = 0
  · rw [if_pos c1]; exact Nat.zero_le _
  · rw [if_neg c1] at ha ⊢
    have c2 : ¬ (cl b = 0 ∨ cl x = 0) := by omega
    rw [if_neg c2] at hb ⊢
    by_cases c3 : cl x ≤ cl b
    · rw [if_pos c3]; exact ha
    · rw [if_neg c3, if_neg (by omega)]
      exact divF_mono (cl_lt a) (cl_lt x) (cl_lt b) (cl_lt x) (by omega) (by omega) (by omega) (by omega) h (Nat.le_refl _)
theorem part_right {a x y : Nat} (h0 : cl x ≠ 0) (h : cl x ≤ cl y) : part a y ≤ part a x := by
  have hx := part_le a x
  have hy := part_le a y
  unfold part at *
  by_cases c1 : cl a = 0
  · rw [if_pos (.inl c1)]; exact Nat.zero_le _
  · have cx : ¬ (cl a = 0 ∨ cl x = 0) := by omega
    have cy : ¬ (cl a = 0 ∨ cl y = 0) := by omega
    rw [if_neg cx] at hx
    rw [if_neg cy] at hy
    rw [if_neg cx, if_neg cy]
    by_cases c3 : cl x ≤ cl a
    · rw [if_pos c3]; exact hy
    · have c4 : ¬ cl y ≤ cl a := by omega
      rw [if_neg c3, if_neg c4]
      exact divF_mono (cl_lt a) (cl_lt y) (cl_lt a) (cl_lt x) (by omega) (by omega) (by omega) (by omega) (Nat.le_refl _) h

set_option maxHeartbeats 2000000 in
theorem walk (a b x y : Nat) (w : World) (ha : a < B64) (hb : b < B64) (hx : x < B64) (hy : y < B64) (hl : Laid w) (hpos : 0 < w.heap.size) :
    Calls Tryd.prog 5 #[.float .f64 a, .float .f64 b, .float .f64 x, .float .f64 y] w fun e w' => e = .returned (.bool true) ∧ Below w.heap.size w w' := by
  have t1 : leF (cl a) (cl b) = decide (cl a ≤ cl b) := leF_pos (cl_le_INF a) (cl_le_INF b)
  have t2 : gtF (part a x) (part b x) = decide (part b x < part a x) := gtF_pos (part_le_INF a x) (part_le_INF b x)
  have t3 : eqF (cl x) 0 = decide (cl x = 0) := eqF_pos (cl_le_INF x) (by decide)
  have t4 : gtF (cl x) (cl y) = decide (cl y < cl x) := gtF_pos (cl_le_INF x) (cl_le_INF y)
  have t5 : leF (part a y) (part a x) = decide (part a y ≤ part a x) := leF_pos (part_le_INF a y) (part_le_INF a x)
  have p1 : (!leF (cl a) (cl b) || !gtF (part a x) (part b x)) = true := by
    rw [t1, t2]
    by_cases c : cl a ≤ cl b
    · have := part_left (x := x) c; simp; omega
    · simp [c]
  have p2 : (eqF (cl x) 0 || gtF (cl x) (cl y) || leF (part a y) (part a x)) = true := by
    rw [t3, t4, t5]
    by_cases c : cl x = 0
    · simp [c]
    · by_cases d : cl x ≤ cl y
      · have := part_right (a := a) c d; simp; omega
      · simp; omega
  clear t1 t2 t3 t4 t5
  generalize hb1 : leF (cl a) (cl b) = b1 at p1
  generalize hb2 : gtF (part a x) (part b x) = b2 at p1
  generalize hb3 : eqF (cl x) 0 = b3 at p2
  generalize hb4 : gtF (cl x) (cl y) = b4 at p2
  generalize hb5 : leF (part a y) (part a x) = b5 at p2
  have hp := part_B64 a x
  cases b1 <;> cases b2 <;> (try (exact absurd p1 (by decide))) <;> cases b3 <;> cases b4 <;> cases b5 <;> (try (exact absurd p2 (by decide)))
  all_goals clear p1 p2
  all_goals
    go_enter Tryd.func5, Tryd.ntmps5
    go_wp2_with (first | (go_at_call 23; refine (partC _ _ _ (by assumption) (by assumption) (by assumption)).mono ?_; rintro e w' ⟨rfl, rfl⟩) | (go_at_call 25; refine (rcleanC _ _ (by assumption)).mono ?_; rintro e w' ⟨rfl, rfl⟩) | (go_at_call 27; refine (knownC _ (by assumption) (by assumption)).mono ?_; rintro e w' ⟨rfl, hbel⟩))
    go_ret
    exact ⟨rfl, by assumption⟩
end Go.Proofs.YtniejpfjbifjkaaDoor.weightGrows
