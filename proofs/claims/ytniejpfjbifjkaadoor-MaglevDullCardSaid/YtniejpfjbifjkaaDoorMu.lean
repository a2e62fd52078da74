/- Plain facts about tables: by ids alone; who is first; how many each one holds. -/
import Derived.Test.YtniejpfjbifjkaaDoorMt
import Derived.Test.YtniejpfjbifjkaaDoorTv
namespace Go.Proofs.YtniejpfjbifjkaaDoor
open Go.RowKit Fl

theorem few_ok (s : Int) : slotsOk (fewN s : Nat) = true ∧ 2 ≤ fewN s ∧ fewN s ≤ 61 := by
  unfold fewN
  have h1 := Int.emod_nonneg s (show (8 : Int) ≠ 0 by omega)
  have h2 := Int.emod_lt_of_pos s (show (0 : Int) < 8 by omega)
  generalize s % 8 = r at *
  rcases (show r = 0 ∨ r = 1 ∨ r = 2 ∨ r = 3 ∨ r = 4 ∨ r = 5 ∨ r = 6 ∨ r = 7 by omega) with rfl | rfl | rfl | rfl | rfl | rfl | rfl | rfl <;> decide +kernel
/-- what Build comes to, the number of slots being right. -/
theorem build_cases (l : List (Int × Nat)) {n : Nat} (hn : slotsOk n = true) :
    (bErr l n = 0 ∧ rightOk l = true ∧ turns (wts l) n ≠ [] ∧ bTab l n = tableOf l n (turns (wts l) n)) ∨ ((bErr l n = 1 ∧ rightOk l = false ∨ bErr l n = 20 ∧ rightOk l = true ∧ turns (wts l) n = []) ∧ bTab l n = []) := by
  cases hr : rightOk l
  · right
    have hb : ¬ bOk l n = true := fun h => by have := (bOk_parts.1 h).2; rw [hr] at this; cases this
    refine ⟨.inl ⟨by unfold bErr; rw [if_neg hb], rfl⟩, by unfold bTab; rw [if_neg (fun h => hb h.1)]⟩
  · have hb : bOk l n = true := bOk_parts.2 ⟨hn, hr⟩
    by_cases ht : turns (wts l) n = []
    · right
      refine ⟨.inr ⟨by unfold bErr bTurns; rw [if_pos hb, if_pos ht], rfl, ht⟩, by unfold bTab bTurns; rw [if_neg (fun h => h.2 ht)]⟩
    · left
      refine ⟨by unfold bErr bTurns; rw [if_pos hb, if_neg ht], rfl, ht, by unfold bTab bTurns; rw [if_pos ⟨hb, ht⟩, Int.toNat_natCast]⟩

/-- a slot that is taken stays whose it is. -/
theorem bstep_same {l : List (Int × Nat)} {n m i x : Nat} {t : List Int} (h : TabOk n m t) (hp : Pr n) (hm : m < n) (hx : t.getD x 0 ≠ -1) : (bstep l n t i).getD x 0 = t.getD x 0 := by
  obtain ⟨_, h2, _⟩ := ff_spec (h.free_slot (l := l) (i := i) hp hm)
  unfold bstep
  have hne : slotAt l n i (ff t (slotAt l n i) n) ≠ x := fun e => by rw [e] at h2; exact hx h2
  simp [List.getD, List.getElem?_set_ne hne]
theorem bstep_first {l : List (Int × Nat)} {n i : Nat} (hn : 2 ≤ n) : (bstep l n (List.replicate n (-1)) i).getD (slotAt l n i 0) 0 = idAt l i := by
  have hlt := slotAt_lt (l := l) (n := n) (i := i) (k := 0) (by omega)
  have hf : ff (List.replicate n (-1)) (slotAt l n i) n = 0 := ff_unique (by omega) (by simp [List.getD, hlt]) (fun j hj => by omega)
  unfold bstep
  rw [hf]
  simp [List.getD, hlt]
theorem first_slot {l : List (Int × Nat)} {n : Nat} (hp : Pr n) (hr : rightOk l = true) (ts : List Nat) (hn : ts.length ≤ n) (hts : ∀ i ∈ ts, i < l.length) :
    ∀ k, k + 1 ≤ ts.length → (tableOf l n (ts.take (k + 1))).getD (slotAt l n (ts.getD 0 0) 0) 0 = idAt l (ts.getD 0 0) := by
  have hok := tabOk_of hp hr ts hn hts
  have hg := (of_decide_eq_true hr).2
  intro k
  induction k with
  | zero =>
    intro h
    rw [take_succ_getD ts 0 (by omega), tableOf_snoc, List.take_zero, tableOf_nil]
    exact bstep_first hp.1
  | succ k ih =>
    intro h
    have h0 := ih (by omega)
    have hi := hg _ (hts _ (getD_mem' ts 0 (by omega)))
    rw [take_succ_getD ts (k + 1) (by omega), tableOf_snoc, bstep_same (hok (k + 1) (by omega)) hp (by omega) (by rw [h0]; have := hi.1; omega)]
    exact h0

/-- ids are each another. -/
theorem ids_lt {l : List (Int × Nat)} (hr : rightOk l = true) {i j : Nat} (hij : i < j) (hj : j < l.length) : idAt l i < idAt l j := by
  have hg := (of_decide_eq_true hr).2
  induction j with
  | zero => omega
  | succ j ih =>
    have h1 := (hg (j + 1) hj).2.2
    rw [Nat.add_sub_cancel] at h1
    have h1' : idAt l j < idAt l (j + 1) := by rcases h1 with h | h <;> omega
    rcases (show i < j ∨ i = j by omega) with h | h
    · have := ih h (by omega); omega
    · rw [h]; exact h1'
theorem ids_inj {l : List (Int × Nat)} (hr : rightOk l = true) {i j : Nat} (hi : i < l.length) (hj : j < l.length) (h : idAt l i = idAt l j) : i = j := by
  rcases Nat.lt_trichotomy i j with h1 | h1 | h1
  · have := ids_lt hr h1 hj; omega
  · exact h1
  · have := ids_lt hr h1 hi; omega
theorem held_count {l : List (Int × Nat)} {n : Nat} (hp : Pr n) (hr : rightOk l = true) (ts : List Nat) (hn : ts.length ≤ n) (hts : ∀ i ∈ ts, i < l.length) {i : Nat} (hi : i < l.length) :
    ∀ k, k ≤ ts.length → (tableOf l n (ts.take k)).count (idAt l i) = (ts.take k).count i := by
  have hok := tabOk_of hp hr ts hn hts
  have hg := (of_decide_eq_true hr).2
  have hid := (hg i hi).1
  intro k
  induction k with
  | zero =>
    intro _
    rw [List.take_zero, tableOf_nil, List.count_nil, List.count_eq_zero]
    intro h
    have := (List.mem_replicate.1 h).2
    omega
  | succ k ih =>
    intro hk
    have h1 := ih (by omega)
    have hT := hok k (by omega)
    obtain ⟨_, h2, _⟩ := ff_spec (hT.free_slot (l := l) (i := ts.getD k 0) hp (by omega))
    have hlt := slotAt_lt (l := l) (n := n) (i := ts.getD k 0) (k := ff (tableOf l n (ts.take k)) (slotAt l n (ts.getD k 0)) n) (by have := hp.1; omega)
    have hlt' : slotAt l n (ts.getD k 0) (ff (tableOf l n (ts.take k)) (slotAt l n (ts.getD k 0)) n) < (tableOf l n (ts.take k)).length := by rw [hT.len]; exact hlt
    rw [take_succ_getD ts k (by omega), tableOf_snoc, List.count_append]
    unfold bstep
    rw [List.count_set hlt', h1]
    have e0 : (tableOf l n (ts.take k)).getD (slotAt l n (ts.getD k 0) (ff (tableOf l n (ts.take k)) (slotAt l n (ts.getD k 0)) n)) 0 = (tableOf l n (ts.take k))[slotAt l n (ts.getD k 0) (ff (tableOf l n (ts.take k)) (slotAt l n (ts.getD k 0)) n)] := by
      generalize slotAt l n (ts.getD k 0) (ff (tableOf l n (ts.take k)) (slotAt l n (ts.getD k 0)) n) = x at *
      simp [List.getD, hlt']
    rw [e0] at h2
    rw [h2]
    have e2 : ((-1 : Int) == idAt l i) = false := by rw [beq_eq_false_iff_ne]; omega
    rw [e2]
    have hk' := hts _ (getD_mem' ts k (by omega))
    by_cases he : ts.getD k 0 = i
    · rw [he]; simp
    · have e3 : (idAt l (ts.getD k 0) == idAt l i) = false := by rw [beq_eq_false_iff_ne]; exact fun e => he (ids_inj hr hk' hi e)
      have e4 : List.count i [ts.getD k 0] = 0 := by rw [List.count_eq_zero]; simp; exact fun e => he e.symm
      rw [e3, e4]; simp
end Go.Proofs.YtniejpfjbifjkaaDoor
