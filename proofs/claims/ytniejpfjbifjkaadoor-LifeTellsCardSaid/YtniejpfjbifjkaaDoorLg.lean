/- Compare; votes in order; the one of two votes that is not ahead. -/
import Derived.Test.YtniejpfjbifjkaaDoorLt
import Derived.Laws.Rows
import Derived.Laws.Tables
import Derived.Laws.CopyOwn
namespace Go.Proofs.YtniejpfjbifjkaaDoor
open Go.RowKit Fl

def cmpI (a b : Int) : Int := if a < b then -1 else if b < a then 1 else 0
theorem nan129 (a : Int) (w : World) : Calls Tryd.prog 129 #[.int .i64 a] w fun e w' => e = .returned (.bool false) ∧ w = w' := by
  go_enter Tryd.func129, Tryd.ntmps129
  go_wp2
  go_ret
  exact ⟨rfl, rfl⟩
theorem nan130 (a : Int) (w : World) : Calls Tryd.prog 130 #[.int .i64 a] w fun e w' => e = .returned (.bool false) ∧ w = w' := by
  go_enter Tryd.func130, Tryd.ntmps130
  go_wp2
  go_ret
  exact ⟨rfl, rfl⟩
theorem cmp118 (a b : Int) (w : World) : Calls Tryd.prog 118 #[.int .i64 a, .int .i64 b] w fun e w' => e = .returned (.int .i64 (cmpI a b)) ∧ w = w' := by
  have three : (a < b ∧ cmpI a b = -1) ∨ (¬ a < b ∧ b < a ∧ cmpI a b = 1) ∨ (¬ a < b ∧ ¬ b < a ∧ cmpI a b = 0) := by
    unfold cmpI
    by_cases h1 : a < b
    · exact .inl ⟨h1, by rw [if_pos h1]⟩
    · by_cases h2 : b < a
      · exact .inr (.inl ⟨h1, h2, by rw [if_neg h1, if_pos h2]⟩)
      · exact .inr (.inr ⟨h1, h2, by rw [if_neg h1, if_neg h2]⟩)
  generalize cmpI a b = q at *
  rcases three with ⟨h1, rfl⟩ | ⟨h1, h2, rfl⟩ | ⟨h1, h2, rfl⟩
  all_goals
    go_enter Tryd.func118, Tryd.ntmps118
    go_wp2_with (go_at_call 129; refine (nan129 _ _).mono ?_; rintro e w' ⟨rfl, rfl⟩)
    go_ret
    exact ⟨rfl, rfl⟩
theorem cmp119 (a b : Int) (w : World) : Calls Tryd.prog 119 #[.int .i64 a, .int .i64 b] w fun e w' => e = .returned (.int .i64 (cmpI a b)) ∧ w = w' := by
  have three : (a < b ∧ cmpI a b = -1) ∨ (¬ a < b ∧ b < a ∧ cmpI a b = 1) ∨ (¬ a < b ∧ ¬ b < a ∧ cmpI a b = 0) := by
    unfold cmpI
    by_cases h1 : a < b
    · exact .inl ⟨h1, by rw [if_pos h1]⟩
    · by_cases h2 : b < a
      · exact .inr (.inl ⟨h1, h2, by rw [if_neg h1, if_pos h2]⟩)
      · exact .inr (.inr ⟨h1, h2, by rw [if_neg h1, if_neg h2]⟩)
  generalize cmpI a b = q at *
  rcases three with ⟨h1, rfl⟩ | ⟨h1, h2, rfl⟩ | ⟨h1, h2, rfl⟩
  all_goals
    go_enter Tryd.func119, Tryd.ntmps119
    go_wp2_with (go_at_call 130; refine (nan130 _ _).mono ?_; rintro e w' ⟨rfl, rfl⟩)
    go_ret
    exact ⟨rfl, rfl⟩
/-- Compare of floats: no NaN among them. -/
def cmpF (a b : Nat) : Int := if ltF a b = true then -1 else if gtF a b = true then 1 else 0
theorem nan131 (a : Nat) (w : World) : Calls Tryd.prog 131 #[.float .f64 a] w fun e w' => e = .returned (.bool (neF a a)) ∧ w = w' := by
  go_enter Tryd.func131, Tryd.ntmps131
  go_wp2
  go_ret
  exact ⟨rfl, rfl⟩
theorem cmp120 (a b : Nat) (w : World) (ha : neF a a = false) (hb : neF b b = false) : Calls Tryd.prog 120 #[.float .f64 a, .float .f64 b] w fun e w' => e = .returned (.int .i64 (cmpF a b)) ∧ w = w' := by
  have n1 := fun W => nan131 a W
  have n2 := fun W => nan131 b W
  rw [ha] at n1
  rw [hb] at n2
  have three : (ltF a b = true ∧ cmpF a b = -1) ∨ (ltF a b = false ∧ gtF a b = true ∧ cmpF a b = 1) ∨ (ltF a b = false ∧ gtF a b = false ∧ cmpF a b = 0) := by
    unfold cmpF
    cases h1 : ltF a b
    · cases h2 : gtF a b
      · exact .inr (.inr ⟨rfl, rfl, rfl⟩)
      · exact .inr (.inl ⟨rfl, rfl, rfl⟩)
    · exact .inl ⟨rfl, rfl⟩
  generalize cmpF a b = q at *
  clear ha hb
  rcases three with ⟨h1, rfl⟩ | ⟨h1, h2, rfl⟩ | ⟨h1, h2, rfl⟩
  all_goals
    go_enter Tryd.func120, Tryd.ntmps120
    go_wp2_with fail
    refine (n1 _).mono ?_
    rintro e w' ⟨rfl, rfl⟩
    go_wp2_with fail
    refine (n2 _).mono ?_
    rintro e w' ⟨rfl, rfl⟩
    go_wp2_with fail
    go_ret
    exact ⟨rfl, rfl⟩
def ordV (v u : Int × Bool) : Int := if v.1 ≠ u.1 then cmpI v.1 u.1 else if v.2 = u.2 then 0 else if v.2 = true then -1 else 1
set_option maxRecDepth 100000 in
theorem vorderC (v u : Int × Bool) (w : World) : Calls Tryd.prog 98 #[votV v, votV u] w fun e w' => e = .returned (.int .i64 (ordV v u)) ∧ Below w.heap.size w w' := by
  have four : ((v.1 != u.1) = true ∧ ordV v u = cmpI v.1 u.1) ∨ ((v.1 != u.1) = false ∧ (v.2 == u.2) = true ∧ ordV v u = 0) ∨ ((v.1 != u.1) = false ∧ (v.2 == u.2) = false ∧ v.2 = true ∧ ordV v u = -1) ∨ ((v.1 != u.1) = false ∧ (v.2 == u.2) = false ∧ v.2 = false ∧ ordV v u = 1) := by
    unfold ordV
    by_cases h1 : v.1 = u.1
    · rw [if_neg (fun h => h h1)]
      by_cases h2 : v.2 = u.2
      · right; left; rw [if_pos h2]; simp [h1, h2]
      · rw [if_neg h2]
        cases h3 : v.2
        · right; right; right
          refine ⟨by simp [h1], ?_, rfl, by simp⟩
          cases h4 : u.2
          · exact absurd (h3.trans h4.symm) h2
          · rfl
        · right; right; left
          refine ⟨by simp [h1], ?_, rfl, by simp⟩
          cases h4 : u.2
          · rfl
          · exact absurd (h3.trans h4.symm) h2
    · left; rw [if_pos h1]; simp [h1]
  have hcm := fun W => cmp118 v.1 u.1 W
  unfold votV
  generalize ordV v u = q at *
  generalize v.1 = v1 at *
  generalize v.2 = v2 at *
  generalize u.1 = u1 at *
  generalize u.2 = u2 at *
  rcases four with ⟨h1, rfl⟩ | ⟨h1, h2, rfl⟩ | ⟨h1, h2, rfl, rfl⟩ | ⟨h1, h2, rfl, rfl⟩
  · generalize cmpI v1 u1 = q at *
    go_enter Tryd.func98, Tryd.ntmps98
    go_wp2_with fail
    refine (hcm _).mono ?_
    rintro e w' ⟨rfl, rfl⟩
    go_wp2_with fail
    go_ret
    exact ⟨rfl, ((Below.refl _ _).alloc (Nat.le_refl _) _).alloc (by simp) _⟩
  all_goals
    clear hcm
    go_enter Tryd.func98, Tryd.ntmps98
    go_wp2
    go_ret
    exact ⟨rfl, ((Below.refl _ _).alloc (Nat.le_refl _) _).alloc (by simp) _⟩
/-- the one that is not ahead. -/
def lastV (v u : Int × Bool) : Int × Bool := if ordV v u < 0 then u else v
theorem row3 {w w1 : World} {a b c : Obj} (hb : Below (((w.alloc a).alloc b).alloc c).heap.size (((w.alloc a).alloc b).alloc c) w1) :
    w1.heap[w.heap.size]? = some a ∧ w1.heap[w.heap.size + 1]? = some b ∧ w1.heap[w.heap.size + 1 + 1]? = some c ∧ Below w.heap.size w w1 := by
  have h0 : (((w.alloc a).alloc b).alloc c).heap[w.heap.size]? = some a := by
    rw [heap_alloc_old _ _ (by simp; omega), heap_alloc_old _ _ (by simp), heap_alloc_new]
  have h1 : (((w.alloc a).alloc b).alloc c).heap[w.heap.size + 1]? = some b := by
    rw [heap_alloc_old _ _ (by simp), heap_new2]
  have h2 : (((w.alloc a).alloc b).alloc c).heap[w.heap.size + 1 + 1]? = some c := by
    have := heap_new2 (w.alloc a) b c
    rwa [show (w.alloc a).heap.size = w.heap.size + 1 by simp] at this
  refine ⟨(hb.block _ (by simp; omega)).trans h0, (hb.block _ (by simp)).trans h1, (hb.block _ (by simp)).trans h2, ?_⟩
  exact ((((Below.refl _ _).alloc (Nat.le_refl _) _).alloc (by simp) _).alloc (by simp; omega) _).trans (hb.mono (by simp; omega))
set_option maxRecDepth 100000 in
theorem vlastC (v u x : Int × Bool) (w : World) : Calls Tryd.prog 97 #[votV v, votV u, .func (.func 98) #[votV x] #[]] w fun e w' => e = .returned (votV (if ordV x u < 0 then u else v)) ∧ Below w.heap.size w w' := by
  have ho := fun W => vorderC x u W
  unfold votV at *
  by_cases hlt : ordV x u < 0
  · have d : decide (ordV x u < 0) = true := decide_eq_true hlt
    rw [if_pos hlt]
    generalize ordV x u = q at *
    clear hlt
    as_aux_lemma =>
      go_enter Tryd.func97, Tryd.ntmps97
      go_wp2_with fail
      refine (ho _).mono ?_
      rintro e w1 ⟨rfl, hb1⟩
      obtain ⟨r0, r1, r2, hB⟩ := row3 hb1
      clear hb1
      have HB := Lib.hid hB
      clear hB
      go_wp2_with (first
        | (refine wpList_load_row (by rfl) 87 (.tmp 4) (by rfl) (w.heap.size + 1) (by rfl) 87 _ _ _ r1 Tryd.underlying87 rfl size87 ?_; (simp only [Act.put, List.setIfInBounds_toArray, List.set_cons_zero, List.set_cons_succ]))
        | (refine wpList_store_row (by rfl) 87 (.tmp 6) (.tmp 11) (by rfl) (w.heap.size + 1 + 1) #[.int .i64 u.1, .bool u.2] (by rfl) (by rfl) 87 _ r2 size87 rfl (all_oneCell_toArray (by intro v hv; simp at hv; rcases hv with rfl | rfl <;> rfl)) ?_; (simp only [Act.put])))
      refine bodyPost_ret (results_cell_row rfl _ _ (w.heap.size + 1 + 1) 87 #[.int .i64 u.1, .bool u.2] _ _ rfl (setRow_heap _ _ _ _ _ _ r2) Tryd.underlying87 rfl size87) rfl ?_
      exact ⟨rfl, below_setRow HB.out (by omega) _⟩
  · have d : decide (ordV x u < 0) = false := decide_eq_false hlt
    rw [if_neg hlt]
    generalize ordV x u = q at *
    clear hlt
    as_aux_lemma =>
      go_enter Tryd.func97, Tryd.ntmps97
      go_wp2_with fail
      refine (ho _).mono ?_
      rintro e w1 ⟨rfl, hb1⟩
      obtain ⟨r0, r1, r2, hB⟩ := row3 hb1
      clear hb1
      have HB := Lib.hid hB
      clear hB
      go_wp2_with (first
        | (refine wpList_load_row (by rfl) 87 (.tmp 3) (by rfl) w.heap.size (by rfl) 87 _ _ _ r0 Tryd.underlying87 rfl size87 ?_; (simp only [Act.put, List.setIfInBounds_toArray, List.set_cons_zero, List.set_cons_succ]))
        | (refine wpList_store_row (by rfl) 87 (.tmp 6) (.tmp 12) (by rfl) (w.heap.size + 1 + 1) #[.int .i64 v.1, .bool v.2] (by rfl) (by rfl) 87 _ r2 size87 rfl (all_oneCell_toArray (by intro v hv; simp at hv; rcases hv with rfl | rfl <;> rfl)) ?_; (simp only [Act.put])))
      refine bodyPost_ret (results_cell_row rfl _ _ (w.heap.size + 1 + 1) 87 #[.int .i64 v.1, .bool v.2] _ _ rfl (setRow_heap _ _ _ _ _ _ r2) Tryd.underlying87 rfl size87) rfl ?_
      exact ⟨rfl, below_setRow HB.out (by omega) _⟩
end Go.Proofs.YtniejpfjbifjkaaDoor
