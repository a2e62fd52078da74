/- Fair turns, as plain facts: each one's debt and turns hang on its own part and on how often it was visited alone. -/
import Derived.Test.YtniejpfjbifjkaaDoorWs
namespace Go.Proofs.YtniejpfjbifjkaaDoor
open Fl

/-- one alone: debt and turns after so many visits. -/
def solo (p : Nat) : Nat → Nat × Nat
  | 0 => (0, 0)
  | v + 1 => if addF (solo p v).1 p < ONE then (addF (solo p v).1 p, (solo p v).2) else (subF (addF (solo p v).1 p) ONE, (solo p v).2 + 1)
theorem solo_step (p v : Nat) : (solo p v).2 ≤ (solo p (v + 1)).2 ∧ (solo p (v + 1)).2 ≤ (solo p v).2 + 1 := by
  rw [solo]; split <;> simp
theorem solo_le (p v : Nat) : (solo p v).2 ≤ v := by
  induction v with
  | zero => simp [solo]
  | succ v ih => have := solo_step p v; omega
theorem solo_one (v : Nat) : solo ONE v = (0, v) := by
  induction v with
  | zero => rfl
  | succ v ih => rw [solo, ih]; simp only; rw [addF_zero_one, if_neg (Nat.lt_irrefl _), subF_one_one]
theorem addF_zero_zero : addF 0 0 = 0 := by
  have h0 : (0 : Nat) < INF := by decide
  rw [addF_fin h0 h0, V_zero]; exact N_zero
theorem solo_zero (v : Nat) : solo 0 v = (0, 0) := by
  induction v with
  | zero => rfl
  | succ v ih => rw [solo, ih]; simp only; rw [addF_zero_zero, if_pos (by decide)]
def visits (m : Nat) : Nat → Nat → Nat
  | 0, _ => 0
  | k + 1, i => visits m k i + if i = k % m then 1 else 0
theorem visits_at (m : Nat) (i : Nat) (hi : i < m) (r : Nat) : ∀ j, j ≤ m → visits m (r * m + j) i = r + if i < j then 1 else 0 := by
  induction r with
  | zero =>
    intro j
    induction j with
    | zero => intro _; simp [visits]
    | succ j ih =>
      intro hj
      have h := ih (by omega)
      rw [Nat.zero_mul, Nat.zero_add] at h
      rw [Nat.zero_mul, Nat.zero_add, visits, h, Nat.mod_eq_of_lt (by omega)]
      (repeat' split) <;> omega
  | succ r ihr =>
    intro j
    induction j with
    | zero =>
      intro _
      have h := ihr m (Nat.le_refl _)
      rw [show r * m + m = (r + 1) * m + 0 by rw [Nat.add_mul]; omega] at h
      rw [h, if_pos hi]; simp
    | succ j ih =>
      intro hj
      have h := ih (by omega)
      have hm : ((r + 1) * m + j) % m = j := by rw [Nat.add_comm, Nat.add_mul_mod_self_right]; exact Nat.mod_eq_of_lt (by omega)
      rw [← Nat.add_assoc, visits, h, hm]
      (repeat' split) <;> omega
theorem visits_eq (m : Nat) (i : Nat) (hi : i < m) (k : Nat) : visits m k i = k / m + if i < k % m then 1 else 0 := by
  have h := visits_at m i hi (k / m) (k % m) (Nat.le_of_lt (Nat.mod_lt _ (by omega)))
  rw [Nat.mul_comm, Nat.div_add_mod] at h
  exact h
/-- each one goes its own way. -/
theorem runT_solo (p : List Nat) (i : Nat) (hi : i < p.length) (k : Nat) :
    (runT p k).1.getD i 0 = (solo (p.getD i 0) (visits p.length k i)).1 ∧ (runT p k).2.count i = (solo (p.getD i 0) (visits p.length k i)).2 := by
  induction k with
  | zero => simp [runT, visits, solo, List.getD, hi]
  | succ k ih =>
    obtain ⟨h1, h2⟩ := ih
    rw [runT, visits]
    by_cases he : i = k % p.length
    · rw [if_pos he, solo, ← h1, ← h2]
      have hlen : i < (runT p k).1.length := by rw [runT_length]; exact hi
      unfold stp newDebt
      rw [← he]
      split
      · simp [List.getD, hlen]
      · simp [List.getD, hlen, List.count_append]
    · rw [if_neg he, Nat.add_zero, ← h1, ← h2]
      refine ⟨stp_other _ _ _ _ he, ?_⟩
      rcases stp_out p (k % p.length) (runT p k) with h | h <;> rw [h]
      rw [List.count_append]
      have : List.count i [k % p.length] = 0 := by simp [Ne.symm he]
      omega
/-- the turns are those behind some step. -/
theorem turnsN_step (l : List Nat) (n : Nat) (h : best l ≠ 0) : ∃ k, (runT (parts l) k).2 = turnsN l n := by
  obtain ⟨j, hj, h1⟩ := parts_one l h
  have hb := rounds_bring (parts l) j hj h1 n
  have key : ∀ K, n ≤ (runT (parts l) K).2.length → ∃ k, (runT (parts l) k).2.length = n := by
    intro K
    induction K with
    | zero => intro h0; simp [runT] at h0; exact ⟨0, by simp [runT]; omega⟩
    | succ K ih =>
      intro hK
      by_cases h2 : n ≤ (runT (parts l) K).2.length
      · exact ih h2
      · have := runT_len_step (parts l) K
        exact ⟨K + 1, by omega⟩
  obtain ⟨k, hk⟩ := key _ hb
  exact ⟨k, turns_reached l n k h hk⟩

theorem part_of_cl {x y b : Nat} (h : cl x = cl y) : part x b = part y b := by unfold part; rw [h]
/-- who counts as nothing never has a turn. -/
theorem fair_zero (l : List Nat) (n a : Nat) (h : best l ≠ 0) (ha : a < l.length) (hz : cl (l.getD a 0) = 0) : (turnsN l n).count a = 0 := by
  obtain ⟨k, hk⟩ := turnsN_step l n h
  have := (runT_solo (parts l) a (by rw [parts_length]; exact ha) k).2
  rw [hk, parts_getD l a ha] at this
  rw [this, show part (l.getD a 0) (best l) = 0 by unfold part; rw [if_pos (.inl hz)], solo_zero]
/-- nobody has more turns than who counts most, but one. -/
theorem fair_best (l : List Nat) (n a b : Nat) (h : best l ≠ 0) (ha : a < l.length) (hb : b < l.length) (he : cl (l.getD b 0) = best l) : (turnsN l n).count a ≤ (turnsN l n).count b + 1 := by
  obtain ⟨k, hk⟩ := turnsN_step l n h
  have h1 := (runT_solo (parts l) a (by rw [parts_length]; exact ha) k).2
  have h2 := (runT_solo (parts l) b (by rw [parts_length]; exact hb) k).2
  rw [hk] at h1 h2
  rw [parts_getD l b hb, show part (l.getD b 0) (best l) = ONE by unfold part; rw [he, cl_best, if_neg (by omega), if_pos (Nat.le_refl _)], solo_one] at h2
  have h3 := solo_le ((parts l).getD a 0) (visits (parts l).length k a)
  rw [visits_eq _ _ (by rw [parts_length]; exact ha)] at h1 h3
  rw [visits_eq _ _ (by rw [parts_length]; exact hb)] at h2
  rw [h1, h2]
  revert h3
  (repeat' split) <;> intro h3 <;> omega
/-- of two that count alike the first one has as many as the other one, or one more. -/
theorem fair_alike (l : List Nat) (n a b : Nat) (h : best l ≠ 0) (ha : a < l.length) (hb : b < l.length) (hab : a ≤ b) (he : cl (l.getD a 0) = cl (l.getD b 0)) :
    (turnsN l n).count a = (turnsN l n).count b ∨ (turnsN l n).count a = (turnsN l n).count b + 1 := by
  obtain ⟨k, hk⟩ := turnsN_step l n h
  have h1 := (runT_solo (parts l) a (by rw [parts_length]; exact ha) k).2
  have h2 := (runT_solo (parts l) b (by rw [parts_length]; exact hb) k).2
  rw [hk] at h1 h2
  rw [parts_getD l a ha, part_of_cl he, visits_eq _ _ (by rw [parts_length]; exact ha)] at h1
  rw [parts_getD l b hb, visits_eq _ _ (by rw [parts_length]; exact hb)] at h2
  rw [h1, h2]
  have h3 := solo_step (part (l.getD b 0) (best l)) (k / (parts l).length)
  generalize k % (parts l).length = j
  generalize k / (parts l).length = r at *
  by_cases c1 : a < j
  · by_cases c2 : b < j
    · rw [if_pos c1, if_pos c2]; left; rfl
    · rw [if_pos c1, if_neg c2]; simp only [Nat.add_zero]; omega
  · have c2 : ¬ b < j := by omega
    rw [if_neg c1, if_neg c2]; left; rfl
end Go.Proofs.YtniejpfjbifjkaaDoor
