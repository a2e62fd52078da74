/- WeightOrder walked. -/
import Derived.Test.YtniejpfjbifjkaaDoorWo
import Derived.Test.YtniejpfjbifjkaaDoorWk
namespace Go.Proofs.YtniejpfjbifjkaaDoor.weightOrder
open Go.RowKit Fl

set_option maxHeartbeats 4000000 in
theorem walk0 (a b c : Nat) (w : World) (ha : a < B64) (hb : b < B64) (hl : Laid w) (hpos : 0 < w.heap.size)
    (s l1 l2 l3 n1 n2 : Bool) (hs : sameF a b = s) (h1 : lessF a b = l1) (h2 : lessF b a = l2) (h3 : lessF b c = l3) (h4 : neF a a = n1) (h5 : neF b b = n2)
    (hone : (s = true ∧ l1 = false ∧ l2 = false) ∨ (s = false ∧ l1 = true ∧ l2 = false) ∨ (s = false ∧ l1 = false ∧ l2 = true))
    (htr : l1 = true → l3 = true → lessF a c = true)
    (hcl : n1 = false → n2 = false → l2 = false → lessF (cl b) (cl a) = false) :
    Calls Tryd.prog 4 #[.float .f64 a, .float .f64 b, .float .f64 c] w fun e w' => e = .returned (.bool true) ∧ Below w.heap.size w w' := by
  have hca := cl_B64 a
  have hcb := cl_B64 b
  have htr' : (!l1 || !l3 || lessF a c) = true := by cases l1 <;> cases l3 <;> simp at htr ⊢; exact htr
  have hcl' : (n1 || n2 || l2 || !lessF (cl b) (cl a)) = true := by cases n1 <;> cases n2 <;> cases l2 <;> simp at hcl ⊢; exact hcl
  clear htr hcl
  cases l3 <;> cases n1 <;> cases n2
  all_goals rcases hone with ⟨rfl, rfl, rfl⟩ | ⟨rfl, rfl, rfl⟩ | ⟨rfl, rfl, rfl⟩
  all_goals simp only [Bool.not_false, Bool.not_true, Bool.true_or, Bool.or_true, Bool.false_or, Bool.or_false, Bool.not_eq_true'] at htr' hcl'
  all_goals
    go_enter Tryd.func4, Tryd.ntmps4
    go_wp2_with (first | (go_at_call 28; refine (same_calls _ _ _).mono ?_; rintro e w' ⟨rfl, rfl⟩) | (go_at_call 24; refine (rsameC _ _ _ (by assumption) (by assumption)).mono ?_; rintro e w' ⟨rfl, rfl⟩) | (go_at_call 29; refine (less_calls _ _ _).mono ?_; rintro e w' ⟨rfl, rfl⟩) | (go_at_call 30; refine (rlessC _ _ _ (by assumption) (by assumption)).mono ?_; rintro e w' ⟨rfl, rfl⟩) | (go_at_call 22; refine (cleanC _ _ (by assumption) (by assumption)).mono ?_; rintro e w' ⟨rfl, rfl⟩) | (go_at_call 27; refine (knownC _ (by assumption) (by assumption)).mono ?_; rintro e w' ⟨rfl, hbel⟩))
    go_ret
    exact ⟨rfl, by assumption⟩

theorem walk (a b c : Nat) (w : World) (ha : a < B64) (hb : b < B64) (hc : c < B64) (hl : Laid w) (hpos : 0 < w.heap.size) :
    Calls Tryd.prog 4 #[.float .f64 a, .float .f64 b, .float .f64 c] w fun e w' => e = .returned (.bool true) ∧ Below w.heap.size w w' := by
  refine walk0 a b c w ha hb hl hpos _ _ _ _ _ _ rfl rfl rfl rfl rfl rfl (one_of ha hb) (fun h1 h2 => less_trans ha hb hc h1 h2) (fun h1 h2 h3 => ?_)
  refine clean_mono ha hb ?_ ?_ h3
  · intro n; rw [neF_nan (.inl n)] at h1; cases h1
  · intro n; rw [neF_nan (.inl n)] at h2; cases h2
end Go.Proofs.YtniejpfjbifjkaaDoor.weightOrder
