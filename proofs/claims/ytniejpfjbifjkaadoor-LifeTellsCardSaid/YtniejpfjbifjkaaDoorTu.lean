/- Turns by weights as a plain machine on lists: one step at a time, round by round; who has part 1 comes each round, so the turns that are asked for come within as many rounds. -/
import Derived.Test.YtniejpfjbifjkaaDoorWd
namespace Go.Proofs.YtniejpfjbifjkaaDoor
open Fl

def newDebt (p d : List Nat) (i : Nat) : Nat := addF (d.getD i 0) (p.getD i 0)
def stp (p : List Nat) (i : Nat) (s : List Nat × List Nat) : List Nat × List Nat :=
  if newDebt p s.1 i < ONE then (s.1.set i (newDebt p s.1 i), s.2) else (s.1.set i (subF (newDebt p s.1 i) ONE), s.2 ++ [i])
def runT (p : List Nat) : Nat → List Nat × List Nat
  | 0 => (List.replicate p.length 0, [])
  | k + 1 => stp p (k % p.length) (runT p k)

theorem stp_length (p : List Nat) (i : Nat) (s : List Nat × List Nat) : (stp p i s).1.length = s.1.length := by
  unfold stp; split <;> simp
theorem runT_length (p : List Nat) (k : Nat) : (runT p k).1.length = p.length := by
  induction k with
  | zero => simp [runT]
  | succ k ih => rw [runT, stp_length, ih]

def Good (l : List Nat) : Prop := ∀ x ∈ l, x ≤ INF
theorem Good.getD {l : List Nat} (h : Good l) (i : Nat) : l.getD i 0 ≤ INF := by
  by_cases hi : i < l.length
  · exact h _ (getD_mem' l i hi)
  · simp [List.getD, Nat.not_lt.1 hi]
theorem Good.set {l : List Nat} (h : Good l) (i x : Nat) (hx : x ≤ INF) : Good (l.set i x) := by
  intro y hy
  rcases List.mem_or_eq_of_mem_set hy with h1 | h1
  · exact h y h1
  · rw [h1]; exact hx
theorem newDebt_le {p d : List Nat} (hp : Good p) (hd : Good d) (i : Nat) : newDebt p d i ≤ INF := addF_le (hd.getD i) (hp.getD i)
theorem ONE_lt : ONE < INF := by decide
theorem stp_good {p : List Nat} (hp : Good p) (i : Nat) {s : List Nat × List Nat} (hs : Good s.1) : Good (stp p i s).1 := by
  have hn := newDebt_le hp hs i
  unfold stp
  split
  · exact hs.set _ _ hn
  · exact hs.set _ _ (subF_le hn (by omega) ONE_lt)
theorem runT_good {p : List Nat} (hp : Good p) (k : Nat) : Good (runT p k).1 := by
  induction k with
  | zero => intro x hx; simp [runT] at hx; rw [hx.2]; exact Nat.zero_le _
  | succ k ih => rw [runT]; exact stp_good hp _ ih

theorem stp_out (p : List Nat) (i : Nat) (s : List Nat × List Nat) : (stp p i s).2 = s.2 ∨ (stp p i s).2 = s.2 ++ [i] := by
  unfold stp; split
  · exact .inl rfl
  · exact .inr rfl
theorem stp_prefix (p : List Nat) (i : Nat) (s : List Nat × List Nat) : s.2 <+: (stp p i s).2 := by
  rcases stp_out p i s with h | h <;> rw [h]
  · exact List.prefix_rfl
  · exact List.prefix_append _ _
theorem runT_prefix (p : List Nat) (k j : Nat) : (runT p k).2 <+: (runT p (k + j)).2 := by
  induction j with
  | zero => exact List.prefix_rfl
  | succ j ih => exact ih.trans (stp_prefix _ _ _)
theorem runT_len_mono (p : List Nat) {k j : Nat} (h : k ≤ j) : (runT p k).2.length ≤ (runT p j).2.length := by
  obtain ⟨d, rfl⟩ : ∃ d, j = k + d := ⟨j - k, by omega⟩
  exact (runT_prefix p k d).length_le
theorem runT_len_step (p : List Nat) (k : Nat) : (runT p (k + 1)).2.length ≤ (runT p k).2.length + 1 := by
  rw [runT]; rcases stp_out p (k % p.length) (runT p k) with h | h <;> rw [h] <;> simp

/-- nobody is asked but who is in the list. -/
theorem runT_mem (p : List Nat) (h0 : p ≠ []) (k : Nat) : ∀ x ∈ (runT p k).2, x < p.length := by
  have hl : 0 < p.length := List.length_pos_iff.2 h0
  induction k with
  | zero => intro x hx; simp [runT] at hx
  | succ k ih =>
    intro x hx
    rw [runT] at hx
    rcases stp_out p (k % p.length) (runT p k) with h | h <;> rw [h] at hx
    · exact ih x hx
    · rcases List.mem_append.1 hx with h1 | h1
      · exact ih x h1
      · simp at h1; rw [h1]; exact Nat.mod_lt _ hl

theorem addF_zero_one : addF 0 ONE = ONE := by
  have h0 : (0 : Nat) < INF := by decide
  rw [addF_fin h0 ONE_lt, V_zero, Nat.zero_add, N_V _ (Nat.le_of_lt ONE_lt)]
theorem subF_one_one : subF ONE ONE = 0 := by
  rw [subF_fin ONE_lt (Nat.le_refl _), Nat.sub_self, N_zero]

/-- the debts of others stay as they are. -/
theorem stp_other (p : List Nat) (i j : Nat) (s : List Nat × List Nat) (h : j ≠ i) : (stp p i s).1.getD j 0 = s.1.getD j 0 := by
  unfold stp
  split <;> simp [List.getD, Ne.symm h]
/-- who has part 1 owes nothing between its turns. -/
theorem one_free (p : List Nat) (j : Nat) (hj : j < p.length) (h1 : p.getD j 0 = ONE) (k : Nat) : (runT p k).1.getD j 0 = 0 := by
  induction k with
  | zero => simp [runT, List.getD, hj]
  | succ k ih =>
    rw [runT]
    by_cases h : j = k % p.length
    · have hn : newDebt p (runT p k).1 (k % p.length) = ONE := by
        unfold newDebt; rw [← h, ih, h1, addF_zero_one]
      unfold stp
      rw [hn, if_neg (Nat.lt_irrefl _), subF_one_one, ← h]
      have : j < (runT p k).1.length := by rw [runT_length]; exact hj
      simp [List.getD, this]
    · rw [stp_other _ _ _ _ h]; exact ih
theorem one_comes (p : List Nat) (j : Nat) (hj : j < p.length) (h1 : p.getD j 0 = ONE) (k : Nat) (hk : k % p.length = j) :
    (runT p (k + 1)).2 = (runT p k).2 ++ [j] := by
  rw [runT]
  have hn : newDebt p (runT p k).1 (k % p.length) = ONE := by
    unfold newDebt; rw [hk, one_free p j hj h1 k, h1, addF_zero_one]
  unfold stp
  rw [hn, if_neg (Nat.lt_irrefl _), hk]
/-- each round brings a turn. -/
theorem round_brings (p : List Nat) (j : Nat) (hj : j < p.length) (h1 : p.getD j 0 = ONE) (r : Nat) :
    (runT p (r * p.length)).2.length + 1 ≤ (runT p ((r + 1) * p.length)).2.length := by
  have hk : (r * p.length + j) % p.length = j := by rw [Nat.add_comm, Nat.add_mul_mod_self_right]; exact Nat.mod_eq_of_lt hj
  have h2 := one_comes p j hj h1 (r * p.length + j) hk
  have h3 := runT_len_mono p (show r * p.length ≤ r * p.length + j by omega)
  have h4 := runT_len_mono p (show r * p.length + j + 1 ≤ (r + 1) * p.length by rw [Nat.add_mul]; omega)
  rw [h2] at h4
  simp at h4
  omega
theorem rounds_bring (p : List Nat) (j : Nat) (hj : j < p.length) (h1 : p.getD j 0 = ONE) (r : Nat) : r ≤ (runT p (r * p.length)).2.length := by
  induction r with
  | zero => exact Nat.zero_le _
  | succ r ih => have := round_brings p j hj h1 r; omega

/-- somebody counts for most. -/
theorem best_at (l : List Nat) (k : Nat) (hk : k ≤ l.length) : best (l.take k) ≠ 0 → ∃ j, j < k ∧ cl (l.getD j 0) = best (l.take k) := by
  induction k with
  | zero => intro h; exact absurd rfl h
  | succ k ih =>
    intro h
    rw [take_succ_getD l k (by omega), best_snoc] at h ⊢
    rcases Nat.lt_or_ge (best (l.take k)) (cl (l.getD k 0)) with h1 | h1
    · exact ⟨k, by omega, by omega⟩
    · obtain ⟨j, hj, he⟩ := ih (by omega) (by omega)
      exact ⟨j, by omega, by omega⟩
theorem best_mem (l : List Nat) (h : best l ≠ 0) : ∃ j, j < l.length ∧ cl (l.getD j 0) = best l := by
  have := best_at l l.length (Nat.le_refl _)
  rw [List.take_length] at this
  exact this h
theorem best_ge_at (l : List Nat) (k : Nat) (hk : k ≤ l.length) : ∀ j, j < k → cl (l.getD j 0) ≤ best (l.take k) := by
  induction k with
  | zero => intro j hj; omega
  | succ k ih =>
    intro j hj
    rw [take_succ_getD l k (by omega), best_snoc]
    rcases Nat.lt_or_ge j k with h | h
    · have := ih (by omega) j h; omega
    · have : j = k := by omega
      subst this; omega
theorem best_ge (l : List Nat) (j : Nat) (hj : j < l.length) : cl (l.getD j 0) ≤ best l := by
  have := best_ge_at l l.length (Nat.le_refl _) j hj
  rwa [List.take_length] at this

theorem parts_length (l : List Nat) : (parts l).length = l.length := by simp [parts]
theorem parts_getD (l : List Nat) (j : Nat) (hj : j < l.length) : (parts l).getD j 0 = part (l.getD j 0) (best l) := by
  simp [parts, List.getD, hj]
theorem parts_good (l : List Nat) : Good (parts l) := by
  intro x hx
  simp [parts] at hx
  obtain ⟨y, _, rfl⟩ := hx
  exact part_le_INF _ _
theorem cl_best (l : List Nat) : cl (best l) = best l := by
  have := best_le l
  unfold cl; unfold MAXF at this; unfold INF; rw [if_pos (by omega)]
/-- somebody has part 1. -/
theorem parts_one (l : List Nat) (h : best l ≠ 0) : ∃ j, j < (parts l).length ∧ (parts l).getD j 0 = ONE := by
  obtain ⟨j, hj, he⟩ := best_mem l h
  refine ⟨j, by rw [parts_length]; exact hj, ?_⟩
  rw [parts_getD l j hj]
  unfold part
  rw [cl_best, if_neg (by omega), if_pos (by omega)]

/-- the turns. -/
def turnsN (l : List Nat) (n : Nat) : List Nat := (runT (parts l) (n * l.length)).2.take n
def noTurns (l : List Nat) (n : Int) : Prop := n < 1 ∨ 4096 < n ∨ 32 < l.length ∨ best l = 0
instance (l : List Nat) (n : Int) : Decidable (noTurns l n) := by unfold noTurns; infer_instance
def turns (l : List Nat) (n : Int) : List Nat := if noTurns l n then [] else turnsN l n.toNat

theorem turnsN_length (l : List Nat) (n : Nat) (h : best l ≠ 0) : (turnsN l n).length = n := by
  obtain ⟨j, hj, h1⟩ := parts_one l h
  have := rounds_bring (parts l) j hj h1 n
  rw [parts_length] at this
  simp [turnsN]; omega
/-- when as many have come as are asked for, these are they. -/
theorem turns_reached (l : List Nat) (n k : Nat) (h : best l ≠ 0) (hk : (runT (parts l) k).2.length = n) : (runT (parts l) k).2 = turnsN l n := by
  unfold turnsN
  have hn : n ≤ (runT (parts l) (n * l.length)).2.length := by
    have := turnsN_length l n h; simp [turnsN] at this; omega
  rcases Nat.le_total k (n * l.length) with h1 | h1
  · obtain ⟨d, hd⟩ : ∃ d, n * l.length = k + d := ⟨n * l.length - k, by omega⟩
    have hp := runT_prefix (parts l) k d
    rw [← hd] at hp
    rw [List.prefix_iff_eq_take.1 hp, hk]
  · obtain ⟨d, hd⟩ : ∃ d, k = n * l.length + d := ⟨k - n * l.length, by omega⟩
    have hp := runT_prefix (parts l) (n * l.length) d
    rw [← hd] at hp
    have hle := hp.length_le
    have : (runT (parts l) (n * l.length)).2 = (runT (parts l) k).2 := hp.eq_of_length (by omega)
    rw [this, List.take_of_length_le (by omega)]
end Go.Proofs.YtniejpfjbifjkaaDoor
