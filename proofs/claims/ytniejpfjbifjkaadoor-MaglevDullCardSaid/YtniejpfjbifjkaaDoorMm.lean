/- The table's steps, in plain Lean. -/
import Derived.Test.YtniejpfjbifjkaaDoorMl
namespace Go.Proofs.YtniejpfjbifjkaaDoor
open Go.RowKit Fl

def slotAt (l : List (Int × Nat)) (n i k : Nat) : Nat := pos (stAt (idAt l i) n) (stStep (idAt l i) n) n k
def bstep (l : List (Int × Nat)) (n : Nat) (t : List Int) (i : Nat) : List Int := t.set (slotAt l n i (ff t (slotAt l n i) n)) (idAt l i)
def tableOf (l : List (Int × Nat)) (n : Nat) (ts : List Nat) : List Int := ts.foldl (bstep l n) (List.replicate n (-1))
theorem tableOf_nil (l : List (Int × Nat)) (n : Nat) : tableOf l n [] = List.replicate n (-1) := rfl
theorem tableOf_snoc (l : List (Int × Nat)) (n : Nat) (ts : List Nat) (i : Nat) : tableOf l n (ts ++ [i]) = bstep l n (tableOf l n ts) i := by
  unfold tableOf; rw [List.foldl_append]; rfl
theorem bstep_length (l : List (Int × Nat)) (n : Nat) (t : List Int) (i : Nat) : (bstep l n t i).length = t.length := by unfold bstep; rw [List.length_set]
/-- what is so of a table behind some turns. -/
structure TabOk (n m : Nat) (t : List Int) : Prop where
  len : t.length = n
  free : t.count (-1) = n - m
  ids : ∀ x, x < n → -1 ≤ t.getD x 0 ∧ t.getD x 0 < 32
theorem count_pos {t : List Int} (h : 0 < t.count (-1)) : ∃ x, x < t.length ∧ t.getD x 0 = -1 := by
  obtain ⟨x, hx, he⟩ := List.getElem_of_mem (List.count_pos_iff.1 h)
  exact ⟨x, hx, by simp [List.getD, hx, he]⟩
theorem TabOk.free_slot {l : List (Int × Nat)} {n m i : Nat} {t : List Int} (h : TabOk n m t) (hp : Pr n) (hm : m < n) : ∃ k, k < n ∧ t.getD (slotAt l n i k) 0 = -1 := by
  obtain ⟨x, hx, he⟩ := count_pos (t := t) (by rw [h.free]; omega)
  rw [h.len] at hx
  have h2 := hp.1
  have hs := stStep_lt (id := idAt l i) (slots := (n : Int)) (by omega)
  rw [Int.toNat_natCast] at hs
  obtain ⟨k, hk, e⟩ := pos_surj (a := stAt (idAt l i) n) hp hs.2 hs.1 hx
  exact ⟨k, hk, by unfold slotAt; rw [e, he]⟩
theorem slotAt_lt {l : List (Int × Nat)} {n i k : Nat} (h : 0 < n) : slotAt l n i k < n := pos_lt _ _ _ _ h
theorem TabOk.step {l : List (Int × Nat)} {n m i : Nat} {t : List Int} (h : TabOk n m t) (hp : Pr n) (hm : m < n) (hi : 0 ≤ idAt l i ∧ idAt l i < 32) : TabOk n (m + 1) (bstep l n t i) := by
  obtain ⟨h1, h2, _⟩ := ff_spec (h.free_slot (l := l) (i := i) hp hm)
  have hlt := slotAt_lt (l := l) (i := i) (k := ff t (slotAt l n i) n) (show 0 < n by omega)
  have hlt' : slotAt l n i (ff t (slotAt l n i) n) < t.length := by rw [h.len]; exact hlt
  refine ⟨by rw [bstep_length, h.len], ?_, ?_⟩
  · unfold bstep
    rw [List.count_set hlt', h.free]
    have e1 : (t[slotAt l n i (ff t (slotAt l n i) n)] == -1) = true := by
      have : t.getD (slotAt l n i (ff t (slotAt l n i) n)) 0 = t[slotAt l n i (ff t (slotAt l n i) n)] := by simp [List.getD, hlt']
      rw [this] at h2; simpa using h2
    have e2 : (idAt l i == -1) = false := by rw [beq_eq_false_iff_ne]; omega
    rw [e1, e2]; simp; omega
  · intro x hx
    unfold bstep
    by_cases he : slotAt l n i (ff t (slotAt l n i) n) = x
    · subst he
      have : (t.set (slotAt l n i (ff t (slotAt l n i) n)) (idAt l i)).getD (slotAt l n i (ff t (slotAt l n i) n)) 0 = idAt l i := by simp [List.getD, hlt']
      rw [this]; omega
    · have : (t.set (slotAt l n i (ff t (slotAt l n i) n)) (idAt l i)).getD x 0 = t.getD x 0 := by simp [List.getD, List.getElem?_set_ne he]
      rw [this]; exact h.ids x hx
theorem tabOk_start (n : Nat) : TabOk n 0 (List.replicate n (-1)) := by
  refine ⟨by simp, by simp, fun x hx => ?_⟩
  have : (List.replicate n (-1 : Int)).getD x 0 = -1 := by simp [List.getD, hx]
  rw [this]; omega
theorem tabOk_of {l : List (Int × Nat)} {n : Nat} (hp : Pr n) (hr : rightOk l = true) (ts : List Nat) (hn : ts.length ≤ n) (hts : ∀ i ∈ ts, i < l.length) : ∀ k, k ≤ ts.length → TabOk n k (tableOf l n (ts.take k)) := by
  have hg := (of_decide_eq_true hr).2
  intro k
  induction k with
  | zero => intro _; exact tabOk_start n
  | succ k ih =>
    intro hk
    have h1 := ih (by omega)
    rw [take_succ_getD ts k (by omega), tableOf_snoc]
    have hi := hg _ (hts _ (getD_mem' ts k (by omega)))
    exact h1.step hp (by omega) ⟨hi.1, hi.2.1⟩
/-- what the walks have passed is taken. -/
def Seen (l : List (Int × Nat)) (n : Nat) (t : List Int) (c : List Nat) : Prop :=
  c.length = l.length ∧ ∀ i, i < l.length → c.getD i 0 ≤ n ∧ ∀ k, k < c.getD i 0 → t.getD (slotAt l n i k) 0 ≠ -1
theorem bstep_keeps {l : List (Int × Nat)} {n m i x : Nat} {t : List Int} (h : TabOk n m t) (hi : 0 ≤ idAt l i) (hx : t.getD x 0 ≠ -1) (hxn : x < n) : (bstep l n t i).getD x 0 ≠ -1 := by
  unfold bstep
  by_cases he : slotAt l n i (ff t (slotAt l n i) n) = x
  · have hlt' : x < t.length := by rw [h.len]; exact hxn
    rw [he]
    have : (t.set x (idAt l i)).getD x 0 = idAt l i := by simp [List.getD, hlt']
    rw [this]; omega
  · have : (t.set (slotAt l n i (ff t (slotAt l n i) n)) (idAt l i)).getD x 0 = t.getD x 0 := by simp [List.getD, List.getElem?_set_ne he]
    rw [this]; exact hx
theorem bstep_fills {l : List (Int × Nat)} {n m i : Nat} {t : List Int} (h : TabOk n m t) (hp : Pr n) (hi : 0 ≤ idAt l i) : (bstep l n t i).getD (slotAt l n i (ff t (slotAt l n i) n)) 0 ≠ -1 := by
  have hlt := slotAt_lt (l := l) (i := i) (k := ff t (slotAt l n i) n) (show 0 < n by have := hp.1; omega)
  have hlt' : slotAt l n i (ff t (slotAt l n i) n) < t.length := by rw [h.len]; exact hlt
  unfold bstep
  have : (t.set (slotAt l n i (ff t (slotAt l n i) n)) (idAt l i)).getD (slotAt l n i (ff t (slotAt l n i) n)) 0 = idAt l i := by simp [List.getD, hlt']
  rw [this]; omega
theorem getD_set_nat (c : List Nat) (i j x : Nat) (hi : i < c.length) : (c.set i x).getD j 0 = if i = j then x else c.getD j 0 := by
  by_cases h : i = j
  · subst h; simp [List.getD, hi]
  · rw [if_neg h]; simp [List.getD, List.getElem?_set_ne h]
theorem Seen.step {l : List (Int × Nat)} {n m i : Nat} {t : List Int} {c : List Nat} (h : Seen l n t c) (ht : TabOk n m t) (hp : Pr n) (hm : m < n) (hi : i < l.length) (hid : ∀ j, j < l.length → 0 ≤ idAt l j) :
    Seen l n (bstep l n t i) (c.set i (ff t (slotAt l n i) n + 1)) := by
  obtain ⟨f1, f2, f3⟩ := ff_spec (ht.free_slot (l := l) (i := i) hp hm)
  have h0 : 0 < n := by have := hp.1; omega
  refine ⟨by rw [List.length_set]; exact h.1, fun j hj => ?_⟩
  rw [getD_set_nat _ _ _ _ (by rw [h.1]; exact hi)]
  by_cases he : i = j
  · subst he
    rw [if_pos rfl]
    refine ⟨by omega, fun k hk => ?_⟩
    rcases (show k < ff t (slotAt l n i) n ∨ k = ff t (slotAt l n i) n by omega) with h1 | h1
    · exact bstep_keeps ht (hid i hi) (f3 k h1) (slotAt_lt h0)
    · rw [h1]; exact bstep_fills ht hp (hid i hi)
  · rw [if_neg he]
    obtain ⟨h1, h2⟩ := h.2 j hj
    exact ⟨h1, fun k hk => bstep_keeps ht (hid i hi) (h2 k hk) (slotAt_lt h0)⟩
/-- a walk has not gone past the first free slot. -/
theorem Seen.le {l : List (Int × Nat)} {n m i : Nat} {t : List Int} {c : List Nat} (h : Seen l n t c) (ht : TabOk n m t) (hp : Pr n) (hm : m < n) (hi : i < l.length) : c.getD i 0 ≤ ff t (slotAt l n i) n := by
  obtain ⟨f1, f2, f3⟩ := ff_spec (ht.free_slot (l := l) (i := i) hp hm)
  rcases Nat.lt_or_ge (ff t (slotAt l n i) n) (c.getD i 0) with h1 | h1
  · exact absurd f2 ((h.2 i hi).2 _ h1)
  · exact h1
theorem seen_start (l : List (Int × Nat)) (n : Nat) (t : List Int) : Seen l n t (List.replicate l.length 0) := by
  refine ⟨by simp, fun i hi => ?_⟩
  have : (List.replicate l.length 0).getD i 0 = 0 := by simp [List.getD, hi]
  rw [this]
  exact ⟨Nat.zero_le _, fun k hk => by omega⟩
/-- the walks as they lie in memory, three numbers each. -/
def wk3 (l : List (Int × Nat)) (n : Nat) (c : List Nat) (i : Nat) : List Value := [.int .i64 (slotAt l n i (c.getD i 0) : Nat), .int .i64 (stStep (idAt l i) n : Nat), .int .i64 (n : Int)]
def wkCells (l : List (Int × Nat)) (n : Nat) (c : List Nat) (m : Nat) : List Value := (List.range m).flatMap (wk3 l n c)
theorem flat3_length (f : Nat → List Value) (hf : ∀ i, (f i).length = 3) (m : Nat) : ((List.range m).flatMap f).length = m * 3 := by
  induction m with
  | zero => rfl
  | succ m ih => rw [List.range_succ, List.flatMap_append, List.length_append, ih]; simp [hf]; omega
theorem flat3_get (f : Nat → List Value) (hf : ∀ i, (f i).length = 3) (m i j : Nat) (hi : i < m) (hj : j < 3) : ((List.range m).flatMap f)[i * 3 + j]? = (f i)[j]? := by
  induction m with
  | zero => omega
  | succ m ih =>
    rw [List.range_succ, List.flatMap_append]
    rcases (show i < m ∨ i = m by omega) with h | h
    · rw [List.getElem?_append_left (by rw [flat3_length f hf]; omega)]; exact ih h
    · subst h
      rw [List.getElem?_append_right (by rw [flat3_length f hf]; omega), flat3_length f hf]
      simp
theorem flat3_set (f g : Nat → List Value) (hf : ∀ i, (f i).length = 3) (hg : ∀ i, (g i).length = 3) (m i j : Nat) (v : Value) (hi : i < m) (hj : j < 3) (hne : ∀ q, q ≠ i → g q = f q) (he : g i = (f i).set j v) :
    ((List.range m).flatMap f).set (i * 3 + j) v = (List.range m).flatMap g := by
  apply List.ext_getElem?
  intro q
  rcases Nat.lt_or_ge q (m * 3) with hq | hq
  · have e : q = q / 3 * 3 + q % 3 := by omega
    have hq3 : q / 3 < m := by omega
    have hr := Nat.mod_lt q (show 0 < 3 by decide)
    rw [e, flat3_get g hg m _ _ hq3 hr]
    by_cases h1 : q / 3 = i
    · rw [h1, he]
      by_cases h2 : q % 3 = j
      · rw [h2, List.getElem?_set_self (by rw [flat3_length f hf]; omega), List.getElem?_set_self (by rw [hf]; omega)]
      · rw [List.getElem?_set_ne (by omega), List.getElem?_set_ne (Ne.symm h2), flat3_get f hf m _ _ hi hr]
    · rw [List.getElem?_set_ne (by omega), flat3_get f hf m _ _ hq3 hr, hne _ h1]
  · rw [List.getElem?_eq_none (by rw [List.length_set, flat3_length f hf]; omega), List.getElem?_eq_none (by rw [flat3_length g hg]; omega)]
theorem wkCells_succ (l : List (Int × Nat)) (n : Nat) (c : List Nat) (m : Nat) : wkCells l n c (m + 1) = wkCells l n c m ++ wk3 l n c m := by
  unfold wkCells; rw [List.range_succ, List.flatMap_append]; simp
theorem wkCells_set (l : List (Int × Nat)) (n : Nat) (c : List Nat) (m i x : Nat) (hi : i < m) (hic : i < c.length) :
    (wkCells l n c m).set (i * 3) (.int .i64 (slotAt l n i x : Nat)) = wkCells l n (c.set i x) m := by
  have := flat3_set (wk3 l n c) (wk3 l n (c.set i x)) (fun _ => rfl) (fun _ => rfl) m i 0 (.int .i64 (slotAt l n i x : Nat)) hi (by decide)
    (fun q hq => by unfold wk3; rw [getD_set_nat _ _ _ _ hic, if_neg (Ne.symm hq)])
    (by unfold wk3; rw [getD_set_nat _ _ _ _ hic, if_pos rfl]; rfl)
  exact this
attribute [irreducible] slotAt
end Go.Proofs.YtniejpfjbifjkaaDoor
