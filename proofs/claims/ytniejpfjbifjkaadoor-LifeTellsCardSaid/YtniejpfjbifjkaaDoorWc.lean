/- The greatest one and the sum of a slice of floats, by the program and by the reference: plain folds. -/
import Derived.Test.YtniejpfjbifjkaaDoorWb
namespace Go.Proofs.YtniejpfjbifjkaaDoor
open Go.RowKit Fl

theorem decode_neg {x : Nat} (h : x ≤ INF) : (FloatKind.f64.decode x).neg = false := by
  show (Ieee.double.read x).neg = false
  rcases Nat.lt_or_eq_of_le h with h' | h'
  · rw [read_pos x h']; rfl
  · rw [h', read_inf]; rfl
theorem run_max_float {P : Program} {x y : Nat} (hx : x ≤ INF) (hy : y ≤ INF) (ts : Array TypeId) (t : TypeId) (w : World) :
    (Builtin.max_ ts t #[.float .f64 x, .float .f64 y]).run P w = .ok (.float .f64 (max x y)) w := by
  obtain ⟨a, b, c⟩ := pos_facts hx
  obtain ⟨a', b', c'⟩ := pos_facts hy
  have ho := ord_T a a' b b'
  rw [c, c'] at ho
  rcases Nat.lt_trichotomy x y with h | h | h
  · rw [compare_lt (by omega)] at ho
    simp [Builtin.max_, Builtin.max2, ho, Nat.max_eq_right (Nat.le_of_lt h)]
  · rw [compare_eq (by omega)] at ho
    simp [Builtin.max_, Builtin.max2, ho, decode_neg hx]; omega
  · rw [compare_gt (by omega)] at ho
    simp [Builtin.max_, Builtin.max2, ho, Nat.max_eq_left (Nat.le_of_lt h)]
theorem run_min_float {P : Program} {x y : Nat} (hx : x ≤ INF) (hy : y ≤ INF) (ts : Array TypeId) (t : TypeId) (w : World) :
    (Builtin.min_ ts t #[.float .f64 x, .float .f64 y]).run P w = .ok (.float .f64 (min x y)) w := by
  obtain ⟨a, b, c⟩ := pos_facts hx
  obtain ⟨a', b', c'⟩ := pos_facts hy
  have ho := ord_T a a' b b'
  rw [c, c'] at ho
  rcases Nat.lt_trichotomy x y with h | h | h
  · rw [compare_lt (by omega)] at ho
    simp [Builtin.min_, Builtin.min2, ho, Nat.min_eq_left (Nat.le_of_lt h)]
  · rw [compare_eq (by omega)] at ho
    simp [Builtin.min_, Builtin.min2, ho, decode_neg hx]; omega
  · rw [compare_gt (by omega)] at ho
    simp [Builtin.min_, Builtin.min2, ho, Nat.min_eq_right (Nat.le_of_lt h)]

/-- cells that a slice of floats reads as. -/
def Fls (w : World) (a : Option Addr) (l : List Nat) : Prop :=
  l.length ≤ 9223372036854775807 ∧ (∀ x ∈ l, x < B64) ∧ ∀ i, i < l.length → ∃ b off, a = some ⟨b, off, none⟩ ∧ w.cell? ⟨b, off + i, none⟩ = some (.float .f64 (l.getD i 0))

def best (l : List Nat) : Nat := l.foldl (fun b x => max b (cl x)) 0
theorem best_snoc (l : List Nat) (x : Nat) : best (l ++ [x]) = max (best l) (cl x) := by simp [best]
theorem foldl_max_le (f : Nat → Nat) (m : Nat) (hf : ∀ x, f x ≤ m) (l : List Nat) : ∀ b, b ≤ m → l.foldl (fun b x => max b (f x)) b ≤ m := by
  induction l with
  | nil => intro b hb; exact hb
  | cons x l ih => intro b hb; exact ih _ (Nat.max_le.2 ⟨hb, hf x⟩)
theorem best_le (l : List Nat) : best l ≤ MAXF := foldl_max_le cl MAXF cl_le l 0 (Nat.zero_le _)
theorem best_le_INF (l : List Nat) : best l ≤ INF := by have := best_le l; unfold MAXF at this; unfold INF; omega
theorem take_succ_getD (l : List Nat) (k : Nat) (h : k < l.length) : l.take (k + 1) = l.take k ++ [l.getD k 0] := by
  rw [List.take_succ_eq_append_getElem h]; simp [List.getD, h]
theorem getD_mem' (l : List Nat) (k : Nat) (h : k < l.length) : l.getD k 0 ∈ l := by
  simp [List.getD, h]

theorem bestC (l : List Nat) (a : Option Addr) (cap : Nat) (w : World) (hl : Laid w) (hf : Fls w a l) :
    Calls Tryd.prog 34 #[.slice a l.length cap] w fun e w' => e = .returned (.float .f64 (best l)) ∧ w = w' := by
  obtain ⟨hm, hb, hc⟩ := hf
  go_enter Tryd.func34, Tryd.ntmps34
  go_wp2
  go_loop [3, 8] (fun b i => ∃ k : Nat, k ≤ l.length ∧ i = .int .i64 k ∧ b = .float .f64 (best (l.take k))) (fun _ i => l.length - (intOf i).toNat)
  case atStart => exact ⟨0, Nat.zero_le _, rfl, rfl⟩
  case round =>
    obtain ⟨k, hk, rfl, rfl⟩ := hrel
    by_cases hlt : k < l.length
    · obtain ⟨b, off, rfl, hcell⟩ := hc k hlt
      have hx := hb _ (getD_mem' l k hlt)
      have hmax := fun ts t (w : World) => run_max_float (P := Tryd.prog) (best_le_INF (l.take k)) (cl_le_INF (l.getD k 0)) ts t w
      have HS : Hid (best (l.take (k + 1)) = max (best (l.take k)) (cl (l.getD k 0))) := Lib.hid (by rw [take_succ_getD l k hlt, best_snoc])
      clear hc hb
      generalize l.getD k 0 = x at *
      go_wp2_with (first | (go_at_call 22; refine (cleanC _ _ (by assumption) (by assumption)).mono ?_; rintro e w' ⟨rfl, rfl⟩))
      go_round
      case rel => exact ⟨k + 1, by omega, by go_num, by rw [HS.out]⟩
      case measure => simp [intOf]; omega
    · have he : l.take k = l := List.take_of_length_le (by omega)
      have HE : Hid (best (l.take k) = best l) := Lib.hid (by rw [he])
      clear he hc hb
      go_wp2
      go_ret
      exact ⟨by rw [← HE.out]; rfl, rfl⟩

theorem rbestC (l : List Nat) (a : Option Addr) (cap : Nat) (w : World) (hf : Fls w a l) :
    Calls Tryd.prog 36 #[.slice a l.length cap] w fun e w' => e = .returned (.float .f64 (best l)) ∧ w = w' := by
  obtain ⟨hm, hb, hc⟩ := hf
  go_enter Tryd.func36, Tryd.ntmps36
  go_wp2
  go_loop [3, 4] (fun b i => ∃ k : Nat, k ≤ l.length ∧ i = .int .i64 k ∧ b = .float .f64 (best (l.take k))) (fun _ i => l.length - (intOf i).toNat)
  case atStart => exact ⟨0, Nat.zero_le _, rfl, rfl⟩
  case round =>
    obtain ⟨k, hk, rfl, rfl⟩ := hrel
    by_cases hlt : k < l.length
    · obtain ⟨b, off, rfl, hcell⟩ := hc k hlt
      have hx := hb _ (getD_mem' l k hlt)
      have hgt := gtF_pos (cl_le_INF (l.getD k 0)) (best_le_INF (l.take k))
      have HS : Hid (best (l.take (k + 1)) = max (best (l.take k)) (cl (l.getD k 0))) := Lib.hid (by rw [take_succ_getD l k hlt, best_snoc])
      clear hc hb
      generalize l.getD k 0 = x at *
      by_cases hg : best (l.take k) < cl x
      · have HM : Hid (max (best (l.take k)) (cl x) = cl x) := Lib.hid (by omega)
        have hgt' : gtF (cl x) (best (l.take k)) = true := by rw [hgt]; simpa using hg
        clear hgt hg
        go_wp2_with (first | (go_at_call 25; refine (rcleanC _ _ (by assumption)).mono ?_; rintro e w' ⟨rfl, rfl⟩))
        go_round
        case rel => exact ⟨k + 1, by omega, by go_num, by rw [HS.out, HM.out]⟩
        case measure => simp [intOf]; omega
      · have HM : Hid (max (best (l.take k)) (cl x) = best (l.take k)) := Lib.hid (by omega)
        have hgt' : gtF (cl x) (best (l.take k)) = false := by rw [hgt]; simpa using hg
        clear hgt hg
        go_wp2_with (first | (go_at_call 25; refine (rcleanC _ _ (by assumption)).mono ?_; rintro e w' ⟨rfl, rfl⟩))
        go_round
        case rel => exact ⟨k + 1, by omega, by go_num, by rw [HS.out, HM.out]⟩
        case measure => simp [intOf]; omega
    · have he : l.take k = l := List.take_of_length_le (by omega)
      have HE : Hid (best (l.take k) = best l) := Lib.hid (by rw [he])
      clear he hc hb
      go_wp2
      go_ret
      exact ⟨by rw [← HE.out]; rfl, rfl⟩

/-- all together. -/
def sumW (l : List Nat) : Nat := l.foldl (fun s x => min (addF s (cl x)) 9218868437227405311) 0
theorem sumW_snoc (l : List Nat) (x : Nat) : sumW (l ++ [x]) = min (addF (sumW l) (cl x)) 9218868437227405311 := by simp [sumW]
theorem sumW_le (l : List Nat) : sumW l ≤ MAXF := by
  rcases List.eq_nil_or_concat l with h | ⟨l', x, h⟩
  · subst h; exact Nat.zero_le _
  · rw [h, List.concat_eq_append, sumW_snoc]; exact Nat.min_le_right _ _
theorem sumW_le_INF (l : List Nat) : sumW l ≤ INF := by have := sumW_le l; unfold MAXF at this; unfold INF; omega
theorem cl_min {x : Nat} (h : x ≤ INF) : cl x = min x 9218868437227405311 := by
  unfold cl MAXF; unfold INF at *; (repeat' split) <;> omega

theorem sumC (l : List Nat) (a : Option Addr) (cap : Nat) (w : World) (hl : Laid w) (hf : Fls w a l) :
    Calls Tryd.prog 35 #[.slice a l.length cap] w fun e w' => e = .returned (.float .f64 (sumW l)) ∧ w = w' := by
  obtain ⟨hm, hb, hc⟩ := hf
  go_enter Tryd.func35, Tryd.ntmps35
  go_wp2
  go_loop [3, 8] (fun b i => ∃ k : Nat, k ≤ l.length ∧ i = .int .i64 k ∧ b = .float .f64 (sumW (l.take k))) (fun _ i => l.length - (intOf i).toNat)
  case atStart => exact ⟨0, Nat.zero_le _, rfl, rfl⟩
  case round =>
    obtain ⟨k, hk, rfl, rfl⟩ := hrel
    by_cases hlt : k < l.length
    · obtain ⟨b, off, rfl, hcell⟩ := hc k hlt
      have hx := hb _ (getD_mem' l k hlt)
      have hadd := fun (w : World) => run_float_arith (P := Tryd.prog) w .add 22 .f64 _ _ _ (add_ok (sumW_le_INF (l.take k)) (cl_le_INF (l.getD k 0)))
      have hmin := fun ts t (w : World) => run_min_float (P := Tryd.prog) (addF_le (sumW_le_INF (l.take k)) (cl_le_INF (l.getD k 0))) (show 9218868437227405311 ≤ INF by decide) ts t w
      have HS : Hid (sumW (l.take (k + 1)) = min (addF (sumW (l.take k)) (cl (l.getD k 0))) 9218868437227405311) := Lib.hid (by rw [take_succ_getD l k hlt, sumW_snoc])
      clear hc hb
      generalize l.getD k 0 = x at *
      go_wp2_with (first | (go_at_call 22; refine (cleanC _ _ (by assumption) (by assumption)).mono ?_; rintro e w' ⟨rfl, rfl⟩))
      go_round
      case rel => exact ⟨k + 1, by omega, by go_num, by rw [HS.out]⟩
      case measure => simp [intOf]; omega
    · have he : l.take k = l := List.take_of_length_le (by omega)
      have HE : Hid (sumW (l.take k) = sumW l) := Lib.hid (by rw [he])
      clear he hc hb
      go_wp2
      go_ret
      exact ⟨by rw [← HE.out]; rfl, rfl⟩

theorem rsumC (l : List Nat) (a : Option Addr) (cap : Nat) (w : World) (hf : Fls w a l) :
    Calls Tryd.prog 37 #[.slice a l.length cap] w fun e w' => e = .returned (.float .f64 (sumW l)) ∧ w = w' := by
  obtain ⟨hm, hb, hc⟩ := hf
  go_enter Tryd.func37, Tryd.ntmps37
  go_wp2
  go_loop [3, 4] (fun b i => ∃ k : Nat, k ≤ l.length ∧ i = .int .i64 k ∧ b = .float .f64 (sumW (l.take k))) (fun _ i => l.length - (intOf i).toNat)
  case atStart => exact ⟨0, Nat.zero_le _, rfl, rfl⟩
  case round =>
    obtain ⟨k, hk, rfl, rfl⟩ := hrel
    by_cases hlt : k < l.length
    · obtain ⟨b, off, rfl, hcell⟩ := hc k hlt
      have hx := hb _ (getD_mem' l k hlt)
      have hadd := fun (w : World) => run_float_arith (P := Tryd.prog) w .add 22 .f64 _ _ _ (add_ok (sumW_le_INF (l.take k)) (cl_le_INF (l.getD k 0)))
      have hle := addF_le (sumW_le_INF (l.take k)) (cl_le_INF (l.getD k 0))
      have hs64 : addF (sumW (l.take k)) (cl (l.getD k 0)) < B64 := by unfold INF at hle; unfold B64; omega
      have HS : Hid (sumW (l.take (k + 1)) = cl (addF (sumW (l.take k)) (cl (l.getD k 0)))) := Lib.hid (by rw [take_succ_getD l k hlt, sumW_snoc, cl_min hle])
      clear hc hb hle
      generalize l.getD k 0 = x at *
      go_wp2_with (first | (go_at_call 25; refine (rcleanC _ _ (by assumption)).mono ?_; rintro e w' ⟨rfl, rfl⟩))
      go_round
      case rel => exact ⟨k + 1, by omega, by go_num, by rw [HS.out]⟩
      case measure => simp [intOf]; omega
    · have he : l.take k = l := List.take_of_length_le (by omega)
      have HE : Hid (sumW (l.take k) = sumW l) := Lib.hid (by rw [he])
      clear he hc hb
      go_wp2
      go_ret
      exact ⟨by rw [← HE.out]; rfl, rfl⟩
end Go.Proofs.YtniejpfjbifjkaaDoor
