/- The order of all floats, as plain facts: the program's and the reference's are one; it is a linear order; to be counted falls nowhere in it. -/
import Derived.Test.YtniejpfjbifjkaaDoorWb
namespace Go.Proofs.YtniejpfjbifjkaaDoor
open Go.RowKit Fl

theorem place {x : Nat} (hx : x < B64) (n : ¬ isN x) :
    (kindF x = 4 ∧ x = 9218868437227405312 ∧ T x = 9218868437227405312) ∨ (kindF x = 3 ∧ 0 < T x ∧ T x < 9218868437227405312 ∧ (x : Int) = T x) ∨ (kindF x = 2 ∧ T x = 0 ∧ x = 0) ∨ (kindF x = 1 ∧ T x = 0 ∧ x = 9223372036854775808) ∨ (kindF x = 0 ∧ T x < 0 ∧ 9223372036854775808 < x) := by
  rw [kind_num hx n]
  unfold isN at n
  unfold T
  unfold INF at *; unfold B64 at hx
  by_cases c1 : x = 9218868437227405312
  · left; subst c1; simp
  · rw [if_neg c1]
    by_cases c2 : 0 < x ∧ x ≤ 9218868437227405312
    · right; left; rw [if_pos c2, if_pos (by omega)]; omega
    · rw [if_neg c2]
      by_cases c3 : 9223372036854775808 < x
      · right; right; right; right; rw [if_pos c3, if_neg (by omega)]; omega
      · rw [if_neg c3]
        by_cases c4 : x = 9223372036854775808
        · right; right; right; left; rw [if_pos c4, if_neg (by omega)]; omega
        · right; right; left; rw [if_neg c4, if_pos (by omega)]; omega
theorem kind_lt5 {x : Nat} (hx : x < B64) (n : ¬ isN x) : kindF x < 5 := by
  rcases place hx n with h | h | h | h | h <;> omega

theorem ordF_num {a b : Nat} (ha : a < B64) (hb : b < B64) (na : ¬ isN a) (nb : ¬ isN b) :
    ordF a b = if kindF a ≠ kindF b then kindF a - kindF b else if T a < T b then -1 else if T b < T a then 1 else 0 := by
  unfold ordF
  rw [ltF_T ha hb na nb, gtF_T ha hb na nb]
  have h : ((kindF a - kindF b != 0) = true) ↔ kindF a ≠ kindF b := by rw [bne_iff_ne]; omega
  simp only [h, decide_eq_true_eq]
theorem ordF_nan_l {a b : Nat} (na : isN a) (hb : b < B64) (nb : ¬ isN b) : 0 < ordF a b := by
  have := kind_lt5 hb nb
  unfold ordF
  rw [kind_nan na, if_pos (by rw [bne_iff_ne]; omega)]; omega
theorem ordF_nan_r {a b : Nat} (ha : a < B64) (na : ¬ isN a) (nb : isN b) : ordF a b < 0 := by
  have := kind_lt5 ha na
  unfold ordF
  rw [kind_nan nb, if_pos (by rw [bne_iff_ne]; omega)]; omega
theorem ordF_nan2 {a b : Nat} (na : isN a) (nb : isN b) : ordF a b = 0 := by
  unfold ordF
  rw [kind_nan na, kind_nan nb, ltF_nan (.inl na), gtF_nan (.inl na)]; rfl

theorem rsame_eq {a b : Nat} (ha : a < B64) (hb : b < B64) : rsameF a b = sameF a b := by
  unfold rsameF sameF
  by_cases na : isN a
  · rw [neF_nan (.inl na)]
    by_cases nb : isN b
    · rw [neF_nan (.inl nb), ordF_nan2 na nb]; rfl
    · rw [ne_self hb nb]
      have := ordF_nan_l na hb nb
      simp; omega
  · rw [ne_self ha na]
    by_cases nb : isN b
    · rw [neF_nan (.inl nb)]
      have := ordF_nan_r ha na nb
      simp; omega
    · rw [ne_self hb nb, eqF_T ha hb na nb, ordF_num ha hb na nb]
      unfold minusF
      rw [Bool.eq_iff_iff]
      simp only [Bool.false_eq_true, or_self, if_false, Bool.and_eq_true, decide_eq_true_eq, beq_iff_eq, decide_eq_decide]
      rcases place ha na with h | h | h | h | h <;> rcases place hb nb with h' | h' | h' | h' | h' <;> obtain ⟨k, h⟩ := h <;> obtain ⟨k', h'⟩ := h' <;> rw [k, k'] <;> (repeat' split) <;> omega
theorem rless_eq {a b : Nat} (ha : a < B64) (hb : b < B64) : rlessF a b = lessF a b := by
  unfold rlessF lessF rankF
  by_cases na : isN a
  · rw [neF_nan (.inl na)]
    by_cases nb : isN b
    · rw [neF_nan (.inl nb), ordF_nan2 na nb]; rfl
    · rw [ne_self hb nb]
      have := ordF_nan_l na hb nb
      simp; omega
  · rw [ne_self ha na]
    by_cases nb : isN b
    · rw [neF_nan (.inl nb)]
      have := ordF_nan_r ha na nb
      simp; omega
    · rw [ne_self hb nb, eqF_T ha hb na nb, ltF_T ha hb na nb, ordF_num ha hb na nb]
      unfold minusF
      rw [Bool.eq_iff_iff]
      simp only [Bool.false_eq_true, or_self, if_false, decide_eq_true_eq]
      by_cases ht : T a = T b
      · rw [if_pos ht]
        simp only [Bool.and_eq_true, Bool.not_eq_true', decide_eq_true_eq, decide_eq_false_iff_not]
        rcases place ha na with h | h | h | h | h <;> rcases place hb nb with h' | h' | h' | h' | h' <;> obtain ⟨k, h⟩ := h <;> obtain ⟨k', h'⟩ := h' <;> rw [k, k'] <;> (repeat' split) <;> omega
      · rw [if_neg ht, decide_eq_true_eq]
        rcases place ha na with h | h | h | h | h <;> rcases place hb nb with h' | h' | h' | h' | h' <;> obtain ⟨k, h⟩ := h <;> obtain ⟨k', h'⟩ := h' <;> rw [k, k'] <;> (repeat' split) <;> omega

/-- exactly one of the three. -/
theorem one_of {a b : Nat} (ha : a < B64) (hb : b < B64) :
    (sameF a b = true ∧ lessF a b = false ∧ lessF b a = false) ∨ (sameF a b = false ∧ lessF a b = true ∧ lessF b a = false) ∨ (sameF a b = false ∧ lessF a b = false ∧ lessF b a = true) := by
  unfold sameF lessF
  by_cases na : isN a
  · by_cases nb : isN b
    · rw [ordF_nan2 na nb, ordF_nan2 nb na]; decide
    · have h1 := ordF_nan_l na hb nb
      have h2 := ordF_nan_r hb nb na
      right; right; simp; omega
  · by_cases nb : isN b
    · have h1 := ordF_nan_r ha na nb
      have h2 := ordF_nan_l nb ha na
      right; left; simp; omega
    · simp only [beq_iff_eq, decide_eq_true_eq, decide_eq_false_iff_not, beq_eq_false_iff_ne]
      rw [ordF_num ha hb na nb, ordF_num hb ha nb na]
      (repeat' split) <;> omega
theorem less_trans {a b c : Nat} (ha : a < B64) (hb : b < B64) (hc : c < B64) (h1 : lessF a b = true) (h2 : lessF b c = true) : lessF a c = true := by
  unfold lessF at *
  rw [decide_eq_true_eq] at *
  by_cases na : isN a
  · by_cases nb : isN b
    · rw [ordF_nan2 na nb] at h1; omega
    · have := ordF_nan_l na hb nb; omega
  · by_cases nb : isN b
    · by_cases nc : isN c
      · rw [ordF_nan2 nb nc] at h2; omega
      · have := ordF_nan_l nb hc nc; omega
    · by_cases nc : isN c
      · exact ordF_nan_r ha na nc
      · rw [ordF_num ha hb na nb] at h1
        rw [ordF_num hb hc nb nc] at h2
        rw [ordF_num ha hc na nc]
        revert h1 h2
        (repeat' split) <;> intros <;> omega
/-- to be counted falls nowhere. -/
theorem cl_T {x : Nat} (hx : x < B64) (n : ¬ isN x) : (cl x : Int) = if T x ≤ 0 then 0 else if T x = 9218868437227405312 then 9218868437227405311 else T x := by
  unfold cl MAXF
  rcases place hx n with h | h | h | h | h <;> unfold INF <;> (repeat' split) <;> omega
theorem kind_small {x : Nat} (h : x ≤ MAXF) : kindF x = if x = 0 then 2 else 3 := by
  unfold MAXF at h
  rw [kind_num (by unfold B64; omega) (not_isN_small (by unfold INF; omega))]
  unfold INF
  (repeat' split) <;> omega
theorem clean_mono {a b : Nat} (ha : a < B64) (hb : b < B64) (na : ¬ isN a) (nb : ¬ isN b) (h : lessF b a = false) : lessF (cl b) (cl a) = false := by
  unfold lessF at *
  rw [decide_eq_false_iff_not] at *
  have sa := cl_le_INF a
  have sb := cl_le_INF b
  have ta := T_small sa
  have tb := T_small sb
  have hT : T a ≤ T b := by
    rw [ordF_num hb ha nb na] at h
    rcases place ha na with h1 | h1 | h1 | h1 | h1 <;> rcases place hb nb with h2 | h2 | h2 | h2 | h2 <;> obtain ⟨k, h1⟩ := h1 <;> obtain ⟨k', h2⟩ := h2 <;> rw [k, k'] at h <;> simp at h <;> omega
  have key : cl a ≤ cl b := by
    have e1 := cl_T ha na
    have e2 := cl_T hb nb
    revert e1 e2
    (repeat' split) <;> intros <;> omega
  rw [ordF_num (cl_B64 b) (cl_B64 a) (not_isN_small sb) (not_isN_small sa), ta, tb, kind_small (cl_le a), kind_small (cl_le b)]
  (repeat' split) <;> omega

theorem rsameC (a b : Nat) (w : World) (ha : a < B64) (hb : b < B64) :
    Calls Tryd.prog 24 #[.float .f64 a, .float .f64 b] w fun e w' => e = .returned (.bool (sameF a b)) ∧ w = w' := by
  rw [← rsame_eq ha hb]; exact rsame_calls a b w ha hb
theorem rlessC (a b : Nat) (w : World) (ha : a < B64) (hb : b < B64) :
    Calls Tryd.prog 30 #[.float .f64 a, .float .f64 b] w fun e w' => e = .returned (.bool (lessF a b)) ∧ w = w' := by
  rw [← rless_eq ha hb]; exact rless_calls a b w ha hb
end Go.Proofs.YtniejpfjbifjkaaDoor
