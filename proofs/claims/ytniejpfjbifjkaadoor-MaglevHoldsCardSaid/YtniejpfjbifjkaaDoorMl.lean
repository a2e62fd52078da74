/- The table, in plain Lean: an order comes to each slot once; there is a free slot as long as turns are fewer than slots. -/
import Derived.Test.YtniejpfjbifjkaaDoorMk
namespace Go.Proofs.YtniejpfjbifjkaaDoor
open Go.RowKit Fl

theorem pr_coprime {n s : Nat} (hp : Pr n) (h0 : 0 < s) (hs : s < n) : Nat.Coprime n s := by
  have h1 := Nat.gcd_dvd_left n s
  have h2 := Nat.le_of_dvd h0 (Nat.gcd_dvd_right n s)
  have h3 : 0 < Nat.gcd n s := Nat.gcd_pos_of_pos_right n h0
  rcases (show Nat.gcd n s = 1 ∨ 2 ≤ Nat.gcd n s by omega) with h | h
  · exact h
  · exact absurd (Nat.mod_eq_zero_of_dvd h1) (hp.2 _ h (by omega))
theorem pos_inj_le {a s n i j : Nat} (hp : Pr n) (h0 : 0 < s) (hs : s < n) (hij : i ≤ j) (hj : j < n) (h : pos a s n i = pos a s n j) : i = j := by
  unfold pos at h
  have hd : n ∣ (j - i) * s := by
    have e : a + j * s = (a + i * s) + (j - i) * s := by rw [Nat.add_assoc, ← Nat.add_mul]; congr 2; omega
    rw [e] at h
    have h1 : (a + i * s + (j - i) * s - (a + i * s)) % n = 0 := Nat.sub_mod_eq_zero_of_mod_eq h.symm
    rw [Nat.add_sub_cancel_left] at h1
    exact Nat.dvd_of_mod_eq_zero h1
  have h2 := (pr_coprime hp h0 hs).dvd_of_dvd_mul_right hd
  rcases Nat.eq_zero_or_pos (j - i) with h3 | h3
  · omega
  · have := Nat.le_of_dvd h3 h2; omega
theorem pos_inj {a s n i j : Nat} (hp : Pr n) (h0 : 0 < s) (hs : s < n) (hi : i < n) (hj : j < n) (h : pos a s n i = pos a s n j) : i = j := by
  rcases Nat.le_total i j with h1 | h1
  · exact pos_inj_le hp h0 hs h1 hj h
  · exact (pos_inj_le hp h0 hs h1 hi h.symm).symm
theorem php : ∀ (n : Nat) (l : List Nat), l.Nodup → (∀ y ∈ l, y < n) → l.length ≤ n
  | 0, l, _, h => by
    cases l with
    | nil => exact Nat.le_refl _
    | cons y t => exact absurd (h y (List.mem_cons_self ..)) (Nat.not_lt_zero _)
  | n + 1, l, hn, h => by
    by_cases hm : n ∈ l
    · have := php n (l.erase n) (hn.erase n) (fun y hy => by
        have h1 := (hn.mem_erase_iff).1 hy
        have := h y h1.2
        have := h1.1
        omega)
      rw [List.length_erase_of_mem hm] at this
      omega
    · have := php n l hn (fun y hy => by
        have h1 := h y hy
        rcases (show y < n ∨ y = n by omega) with h2 | rfl
        · exact h2
        · exact absurd hy hm)
      omega
theorem walkL_nodup {a s n : Nat} (hp : Pr n) (h0 : 0 < s) (hs : s < n) : (walkL a s n n).Nodup := by
  unfold walkL
  rw [List.nodup_iff_pairwise_ne, List.pairwise_map]
  refine List.Pairwise.imp_of_mem ?_ (List.nodup_iff_pairwise_ne.1 List.nodup_range)
  intro i j hi hj hne he
  exact hne (pos_inj hp h0 hs (by simpa using hi) (by simpa using hj) he)
theorem pos_surj {a s n x : Nat} (hp : Pr n) (h0 : 0 < s) (hs : s < n) (hx : x < n) : ∃ k, k < n ∧ pos a s n k = x := by
  have hm : x ∈ walkL a s n n := by
    apply Classical.byContradiction
    intro hno
    have := php n (x :: walkL a s n n) (List.nodup_cons.2 ⟨hno, walkL_nodup hp h0 hs⟩) (fun y hy => by
      rcases List.mem_cons.1 hy with rfl | hy
      · exact hx
      · unfold walkL at hy
        obtain ⟨k, _, rfl⟩ := List.mem_map.1 hy
        exact pos_lt _ _ _ _ (by omega))
    rw [List.length_cons, walkL_length] at this
    omega
  unfold walkL at hm
  obtain ⟨k, hk, he⟩ := List.mem_map.1 hm
  exact ⟨k, by simpa using hk, he⟩
/-- the first free slot in an order. -/
def ff (t : List Int) (p : Nat → Nat) (n : Nat) : Nat := (List.range n).findIdx fun k => t.getD (p k) 0 == -1
theorem ff_spec {t : List Int} {p : Nat → Nat} {n : Nat} (h : ∃ k, k < n ∧ t.getD (p k) 0 = -1) :
    ff t p n < n ∧ t.getD (p (ff t p n)) 0 = -1 ∧ ∀ j, j < ff t p n → t.getD (p j) 0 ≠ -1 := by
  obtain ⟨k, hk, he⟩ := h
  have h1 : ff t p n < n := by
    have : (List.range n).findIdx (fun k => t.getD (p k) 0 == -1) < (List.range n).length := List.findIdx_lt_length_of_exists ⟨k, by simpa using hk, by simpa using he⟩
    simpa [ff] using this
  refine ⟨h1, ?_, fun j hj => ?_⟩
  · have := List.findIdx_getElem (p := fun k => t.getD (p k) 0 == -1) (xs := List.range n) (w := by simpa [ff] using h1)
    simpa [ff] using this
  · have := List.not_of_lt_findIdx (p := fun k => t.getD (p k) 0 == -1) (xs := List.range n) (i := j) (by simpa [ff] using hj)
    simpa using this
theorem ff_unique {t : List Int} {p : Nat → Nat} {n k : Nat} (hk : k < n) (h1 : t.getD (p k) 0 = -1) (h2 : ∀ j, j < k → t.getD (p j) 0 ≠ -1) : ff t p n = k := by
  obtain ⟨a1, a2, a3⟩ := ff_spec (t := t) (p := p) (n := n) ⟨k, hk, h1⟩
  rcases Nat.lt_trichotomy (ff t p n) k with h | h | h
  · exact absurd a2 (h2 _ h)
  · exact h
  · exact absurd h1 (a3 _ h)
attribute [irreducible] ff
end Go.Proofs.YtniejpfjbifjkaaDoor
