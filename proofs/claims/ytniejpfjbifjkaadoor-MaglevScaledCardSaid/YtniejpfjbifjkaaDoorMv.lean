/- Plain facts: turns round by round; the table by ids alone; entries that count for nothing play no part. -/
import Derived.Test.YtniejpfjbifjkaaDoorMu
import Derived.Deep.Slices
namespace Go.Proofs.YtniejpfjbifjkaaDoor
open Go.RowKit Fl

def bstepI (n : Nat) (t : List Int) (id : Int) : List Int := t.set (pos (stAt id n) (stStep id n) n (ff t (pos (stAt id n) (stStep id n) n) n)) id
theorem bstep_eq (l : List (Int × Nat)) (n : Nat) (t : List Int) (i : Nat) : bstep l n t i = bstepI n t (idAt l i) := by
  have h : slotAt l n i = pos (stAt (idAt l i) n) (stStep (idAt l i) n) n := by funext k; unfold slotAt; rfl
  unfold bstep bstepI; rw [h]
theorem tableOf_ids (l : List (Int × Nat)) (n : Nat) (ts : List Nat) : tableOf l n ts = (ts.map (idAt l)).foldl (bstepI n) (List.replicate n (-1)) := by
  unfold tableOf
  rw [List.foldl_map]
  congr 1
  funext t i; exact bstep_eq l n t i

/-- whether one alone has its turn in round r. -/
def fire (p r : Nat) : Bool := decide (¬ addF (solo p r).1 p < ONE)
theorem fire_zero (r : Nat) : fire 0 r = false := by
  unfold fire; rw [solo_zero, addF_zero_zero]; decide
theorem round_at (p : List Nat) (r : Nat) : ∀ j, j ≤ p.length → (runT p (r * p.length + j)).2 = (runT p (r * p.length)).2 ++ (List.range j).filter fun i => fire (p.getD i 0) r := by
  intro j
  induction j with
  | zero => intro _; simp
  | succ j ih =>
    intro hj
    have h := ih (by omega)
    have hm : (r * p.length + j) % p.length = j := by rw [Nat.add_comm, Nat.add_mul_mod_self_right]; exact Nat.mod_eq_of_lt (by omega)
    have hv := visits_at p.length j (by omega) r j (by omega)
    rw [if_neg (Nat.lt_irrefl _), Nat.add_zero] at hv
    have hs := (runT_solo p j (by omega) (r * p.length + j)).1
    rw [hv] at hs
    rw [← Nat.add_assoc, runT, hm, List.range_succ, List.filter_append]
    unfold stp newDebt
    rw [hs, h]
    by_cases hf : addF (solo (p.getD j 0) r).1 (p.getD j 0) < ONE
    · rw [if_pos hf]
      have : fire (p.getD j 0) r = false := by unfold fire; exact decide_eq_false (fun hn => hn hf)
      have e : List.filter (fun i => fire (p.getD i 0) r) [j] = [] := List.filter_cons_of_neg (by rw [this]; decide)
      rw [e, List.append_nil]
    · rw [if_neg hf]
      have : fire (p.getD j 0) r = true := by unfold fire; exact decide_eq_true hf
      have e : List.filter (fun i => fire (p.getD i 0) r) [j] = [j] := List.filter_cons_of_pos this
      rw [e, List.append_assoc]
theorem rounds_all (p : List Nat) (n : Nat) : (runT p (n * p.length)).2 = (List.range n).flatMap fun r => (List.range p.length).filter fun i => fire (p.getD i 0) r := by
  induction n with
  | zero => simp [runT]
  | succ n ih =>
    rw [List.range_succ, List.flatMap_append, ← ih, Nat.add_mul, Nat.one_mul, round_at p n p.length (Nat.le_refl _)]
    simp
theorem filter_ids {α β : Type} (l : List α) (d : α) (g : α → Bool) (f : α → β) : ((List.range l.length).filter fun i => g (l.getD i d)).map (fun i => f (l.getD i d)) = (l.filter g).map f := by
  have h := Deep.map_by_index l d (fun x => x)
  simp only [List.map_id'] at h
  conv => rhs; rw [h, List.filter_map, List.map_map]
  rfl
/-- the ids of the turns, round by round. -/
def idsOf (l : List (Int × Nat)) (n : Nat) : List Int := ((List.range n).flatMap fun r => (l.filter fun e => fire (part e.2 (best (wts l))) r).map (·.1)).take n
theorem turns_ids {l : List (Int × Nat)} {n : Nat} (h : turns (wts l) n ≠ []) : (turns (wts l) n).map (idAt l) = idsOf l n := by
  by_cases hno : noTurns (wts l) n
  · exact absurd (by unfold turns; rw [if_pos hno]) h
  have e2 : turns (wts l) n = turnsN (wts l) n := by unfold turns; rw [if_neg hno]; simp
  rw [e2]
  unfold turnsN idsOf
  have hpl : (parts (wts l)).length = l.length := by rw [parts_length, wts_length]
  have hw : (wts l).length = l.length := wts_length l
  rw [hw, ← hpl, rounds_all, List.map_take, List.map_flatMap]
  congr 1
  apply Deep.flatMap_congr_range
  intro r _
  rw [hpl]
  have h1 : (List.range l.length).filter (fun i => fire ((parts (wts l)).getD i 0) r) = (List.range l.length).filter (fun i => fire (part (l.getD i ent0).2 (best (wts l))) r) := by
    apply List.filter_congr
    intro i hi
    have hi' : i < l.length := by simpa using hi
    rw [parts_getD _ _ (by rw [wts_length]; exact hi')]
    congr 2
    simp [wts, List.getD, hi']
  rw [h1]
  exact filter_ids l ent0 (fun e => fire (part e.2 (best (wts l))) r) (·.1)
theorem bTab_ids {l : List (Int × Nat)} {n : Nat} (h : turns (wts l) n ≠ []) : tableOf l n (turns (wts l) n) = (idsOf l n).foldl (bstepI n) (List.replicate n (-1)) := by
  rw [tableOf_ids, turns_ids h]

/-- those that count. -/
def some' (l : List (Int × Nat)) : List (Int × Nat) := l.filter fun e => decide (0 < cl e.2)
theorem best_some_go (l : List (Int × Nat)) : ∀ b, ((some' l).map (·.2)).foldl (fun b x => max b (cl x)) b = (l.map (·.2)).foldl (fun b x => max b (cl x)) b := by
  induction l with
  | nil => intro b; rfl
  | cons e t ih =>
    intro b
    unfold some' at *
    by_cases h : 0 < cl e.2
    · rw [List.filter_cons_of_pos (by simpa using h)]
      simp only [List.map_cons, List.foldl_cons]
      exact ih _
    · rw [List.filter_cons_of_neg (by simpa using h)]
      simp only [List.map_cons, List.foldl_cons]
      rw [ih, show max b (cl e.2) = b by omega]
theorem best_some (l : List (Int × Nat)) : best (wts (some' l)) = best (wts l) := best_some_go l 0
theorem idsOf_some (l : List (Int × Nat)) (n : Nat) : idsOf (some' l) n = idsOf l n := by
  unfold idsOf
  rw [best_some]
  congr 1
  apply Deep.flatMap_congr_range
  intro r _
  unfold some'
  rw [List.filter_filter]
  congr 1
  apply List.filter_congr
  intro e _
  by_cases h : 0 < cl e.2
  · simp [h]
  · have : part e.2 (best (wts l)) = 0 := by unfold part; rw [if_pos (.inl (by omega))]
    rw [this, fire_zero]; rfl
theorem pairwise_of {l : List (Int × Nat)} (h : ∀ i j, i < j → j < l.length → idAt l i < idAt l j) : l.Pairwise fun a b => a.1 < b.1 := by
  rw [List.pairwise_iff_getElem]
  intro i j hi hj hij
  have := h i j hij hj
  simpa [idAt, List.getD, hi, hj] using this
theorem some_right {l : List (Int × Nat)} (hr : rightOk l = true) : rightOk (some' l) = true := by
  have hd := of_decide_eq_true hr
  have hpw := (pairwise_of (fun i j hij hj => ids_lt hr hij hj)).sublist (List.filter_sublist (l := l) (p := fun e => decide (0 < cl e.2)))
  have hmem : ∀ e ∈ l, 0 ≤ e.1 ∧ e.1 < 32 := by
    intro e he
    obtain ⟨i, hi, rfl⟩ := List.getElem_of_mem he
    have := hd.2 i hi
    have h1 := this.1; have h2 := this.2.1
    simp [idAt, List.getD, hi] at h1 h2
    exact ⟨h1, h2⟩
  refine decide_eq_true ⟨Nat.le_trans (List.length_filter_le _ _) hd.1, fun i hi => ?_⟩
  have hi' : (some' l)[i] ∈ l := (List.mem_filter.1 (List.getElem_mem hi)).1
  have hm := hmem _ hi'
  have he : idAt (some' l) i = (some' l)[i].1 := by simp [idAt, List.getD, hi]
  refine ⟨by rw [he]; exact hm.1, by rw [he]; exact hm.2, ?_⟩
  rcases Nat.eq_zero_or_pos i with h0 | h0
  · exact .inl h0
  · right
    have h1 := (List.pairwise_iff_getElem.1 hpw) (i - 1) i (by unfold some' at hi; omega) hi (by omega)
    have he2 : idAt (some' l) (i - 1) = ((some' l)[i - 1]'(by omega)).1 := by simp [idAt, List.getD, show i - 1 < (some' l).length by omega]
    rw [he, he2]; exact h1
theorem turns_nil_iff {l : List Nat} {n : Nat} (h1 : 1 ≤ n) (h2 : n ≤ 4096) (h3 : l.length ≤ 32) : turns l n = [] ↔ best l = 0 := by
  constructor
  · intro h
    by_cases hb : best l = 0
    · exact hb
    · have hno : ¬ noTurns l n := by unfold noTurns; omega
      have e2 : turns l n = turnsN l n := by unfold turns; rw [if_neg hno]; simp
      have := turnsN_length l n hb
      rw [← e2, h] at this; simp at this; omega
  · intro hb
    unfold turns; rw [if_pos]; unfold noTurns; exact .inr (.inr (.inr hb))
/-- two lists of entries that have the same ids in turn make the same table. -/
theorem same_tab {l k : List (Int × Nat)} {n : Nat} (hn : slotsOk n = true) (hl : rightOk l = true) (hk : rightOk k = true) (hb : best (wts l) = 0 ↔ best (wts k) = 0) (hi : idsOf l n = idsOf k n) : bTab l n = bTab k n ∧ bErr l n = bErr k n := by
  have hr := slotsOk_range hn
  have hl32 := (of_decide_eq_true hl).1
  have hk32 := (of_decide_eq_true hk).1
  have hil := turns_nil_iff (l := wts l) (n := n) (by omega) (by omega) (by rw [wts_length]; exact hl32)
  have hik := turns_nil_iff (l := wts k) (n := n) (by omega) (by omega) (by rw [wts_length]; exact hk32)
  rcases build_cases l hn with ⟨a1, a2, a3, a4⟩ | ⟨h | ⟨a1, a2, a3⟩, a4⟩
  · rcases build_cases k hn with ⟨b1, b2, b3, b4⟩ | ⟨h | ⟨b1, b2, b3⟩, b4⟩
    · rw [a4, b4, bTab_ids a3, bTab_ids b3, hi, a1, b1]; exact ⟨rfl, rfl⟩
    · rw [hk] at h; cases h.2
    · exact absurd (hil.2 (hb.2 (hik.1 b3))) a3
  · rw [hl] at h; cases h.2
  · rcases build_cases k hn with ⟨b1, b2, b3, b4⟩ | ⟨h | ⟨b1, b2, b3⟩, b4⟩
    · exact absurd (hik.2 (hb.1 (hil.1 a3))) b3
    · rw [hk] at h; cases h.2
    · rw [a4, b4, a1, b1]; exact ⟨rfl, rfl⟩
theorem dull {l : List (Int × Nat)} {n : Nat} (hn : slotsOk n = true) (hl : rightOk l = true) : bTab (some' l) n = bTab l n ∧ bErr (some' l) n = bErr l n :=
  same_tab hn (some_right hl) hl (by rw [best_some]) (idsOf_some l n)
end Go.Proofs.YtniejpfjbifjkaaDoor
