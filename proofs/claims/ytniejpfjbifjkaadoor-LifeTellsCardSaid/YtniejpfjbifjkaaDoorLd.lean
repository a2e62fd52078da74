/- addr.order, addr.Less. -/
import Derived.Test.YtniejpfjbifjkaaDoorLc
import Derived.Test.YtniejpfjbifjkaaDoorLWeightLists
namespace Go.Proofs.YtniejpfjbifjkaaDoor
open Go.RowKit Fl

def adrC (v : Bool) (b : Nat → Int) (u : Bool) (c : Nat → Int) : Int := if v = u then lexC b c else if v then 1 else -1
theorem block_from' {w : World} {g : Nat} {cs : Array Value} {t : TypeId} {fr : Nat × Nat} (h : w.heap[g]? = some (.cells cs t fr)) (o : Nat) (f : Nat → Value) (n : Nat) (hf : ∀ i, i < n → cs[o + i]? = some (f i)) : ∀ i, i < n → w.cell? ⟨g, o + i, none⟩ = some (f i) := by
  intro i hi
  rw [cell_of_row w g (o + i) cs t fr h]; exact hf i hi
theorem lit16 (v : Bool) (b : Nat → Int) : ∀ i, i < 16 → (#[.bool v, .int .u8 (b 0), .int .u8 (b 1), .int .u8 (b 2), .int .u8 (b 3), .int .u8 (b 4), .int .u8 (b 5), .int .u8 (b 6), .int .u8 (b 7), .int .u8 (b 8), .int .u8 (b 9), .int .u8 (b 10), .int .u8 (b 11), .int .u8 (b 12), .int .u8 (b 13), .int .u8 (b 14), .int .u8 (b 15)] : Array Value)[1 + i]? = some (.int .u8 (b i)) := by
  intro i hi
  match i, hi with
  | 0, _ => rfl
  | 1, _ => rfl
  | 2, _ => rfl
  | 3, _ => rfl
  | 4, _ => rfl
  | 5, _ => rfl
  | 6, _ => rfl
  | 7, _ => rfl
  | 8, _ => rfl
  | 9, _ => rfl
  | 10, _ => rfl
  | 11, _ => rfl
  | 12, _ => rfl
  | 13, _ => rfl
  | 14, _ => rfl
  | 15, _ => rfl
  | i + 16, h => exact absurd h (by omega)
set_option maxRecDepth 100000 in
set_option maxHeartbeats 1000000 in
theorem orderC' (v : Bool) (b : Nat → Int) (u : Bool) (c : Nat → Int) (w : World) (hb : ∀ i, 0 ≤ b i ∧ b i < 256) (hc : ∀ i, 0 ≤ c i ∧ c i < 256) :
    Calls Tryd.prog 128 #[adrV v b, adrV u c] w fun e w' => e = .returned (.int .i64 (adrC v b u c)) ∧ Below w.heap.size w w' := by
  unfold adrV
  by_cases hvu : v = u
  · subst hvu
    have hR : adrC v b v c = lexC b c := by unfold adrC; rw [if_pos rfl]
    have HR := Lib.hid hR
    have hq : ∀ n, Calls Tryd.prog 135 #[.slice (some ⟨w.heap.size, 1, none⟩) 16 16, .slice (some ⟨w.heap.size + 1, 1, none⟩) 16 16] (((w.alloc (.cells #[.bool v, .int .u8 (b 0), .int .u8 (b 1), .int .u8 (b 2), .int .u8 (b 3), .int .u8 (b 4), .int .u8 (b 5), .int .u8 (b 6), .int .u8 (b 7), .int .u8 (b 8), .int .u8 (b 9), .int .u8 (b 10), .int .u8 (b 11), .int .u8 (b 12), .int .u8 (b 13), .int .u8 (b 14), .int .u8 (b 15)] 66)).alloc (.cells #[.bool v, .int .u8 (c 0), .int .u8 (c 1), .int .u8 (c 2), .int .u8 (c 3), .int .u8 (c 4), .int .u8 (c 5), .int .u8 (c 6), .int .u8 (c 7), .int .u8 (c 8), .int .u8 (c 9), .int .u8 (c 10), .int .u8 (c 11), .int .u8 (c 12), .int .u8 (c 13), .int .u8 (c 14), .int .u8 (c 15)] 66)).drewN n)
        fun e w' => e = .returned (.int .i64 (lexC b c)) ∧ ((w.alloc (.cells #[.bool v, .int .u8 (b 0), .int .u8 (b 1), .int .u8 (b 2), .int .u8 (b 3), .int .u8 (b 4), .int .u8 (b 5), .int .u8 (b 6), .int .u8 (b 7), .int .u8 (b 8), .int .u8 (b 9), .int .u8 (b 10), .int .u8 (b 11), .int .u8 (b 12), .int .u8 (b 13), .int .u8 (b 14), .int .u8 (b 15)] 66)).alloc (.cells #[.bool v, .int .u8 (c 0), .int .u8 (c 1), .int .u8 (c 2), .int .u8 (c 3), .int .u8 (c 4), .int .u8 (c 5), .int .u8 (c 6), .int .u8 (c 7), .int .u8 (c 8), .int .u8 (c 9), .int .u8 (c 10), .int .u8 (c 11), .int .u8 (c 12), .int .u8 (c 13), .int .u8 (c 14), .int .u8 (c 15)] 66)).drewN n = w' := by
      intro n
      have e0 : (((w.alloc (.cells #[.bool v, .int .u8 (b 0), .int .u8 (b 1), .int .u8 (b 2), .int .u8 (b 3), .int .u8 (b 4), .int .u8 (b 5), .int .u8 (b 6), .int .u8 (b 7), .int .u8 (b 8), .int .u8 (b 9), .int .u8 (b 10), .int .u8 (b 11), .int .u8 (b 12), .int .u8 (b 13), .int .u8 (b 14), .int .u8 (b 15)] 66)).alloc (.cells #[.bool v, .int .u8 (c 0), .int .u8 (c 1), .int .u8 (c 2), .int .u8 (c 3), .int .u8 (c 4), .int .u8 (c 5), .int .u8 (c 6), .int .u8 (c 7), .int .u8 (c 8), .int .u8 (c 9), .int .u8 (c 10), .int .u8 (c 11), .int .u8 (c 12), .int .u8 (c 13), .int .u8 (c 14), .int .u8 (c 15)] 66)).drewN n).heap[w.heap.size]? = some (.cells #[.bool v, .int .u8 (b 0), .int .u8 (b 1), .int .u8 (b 2), .int .u8 (b 3), .int .u8 (b 4), .int .u8 (b 5), .int .u8 (b 6), .int .u8 (b 7), .int .u8 (b 8), .int .u8 (b 9), .int .u8 (b 10), .int .u8 (b 11), .int .u8 (b 12), .int .u8 (b 13), .int .u8 (b 14), .int .u8 (b 15)] 66 (0, 0)) :=
        (heap_alloc_old (w.alloc (.cells #[.bool v, .int .u8 (b 0), .int .u8 (b 1), .int .u8 (b 2), .int .u8 (b 3), .int .u8 (b 4), .int .u8 (b 5), .int .u8 (b 6), .int .u8 (b 7), .int .u8 (b 8), .int .u8 (b 9), .int .u8 (b 10), .int .u8 (b 11), .int .u8 (b 12), .int .u8 (b 13), .int .u8 (b 14), .int .u8 (b 15)] 66)) _ (r := w.heap.size) (by simp)).trans (heap_alloc_new _ _)
      have e1 : (((w.alloc (.cells #[.bool v, .int .u8 (b 0), .int .u8 (b 1), .int .u8 (b 2), .int .u8 (b 3), .int .u8 (b 4), .int .u8 (b 5), .int .u8 (b 6), .int .u8 (b 7), .int .u8 (b 8), .int .u8 (b 9), .int .u8 (b 10), .int .u8 (b 11), .int .u8 (b 12), .int .u8 (b 13), .int .u8 (b 14), .int .u8 (b 15)] 66)).alloc (.cells #[.bool v, .int .u8 (c 0), .int .u8 (c 1), .int .u8 (c 2), .int .u8 (c 3), .int .u8 (c 4), .int .u8 (c 5), .int .u8 (c 6), .int .u8 (c 7), .int .u8 (c 8), .int .u8 (c 9), .int .u8 (c 10), .int .u8 (c 11), .int .u8 (c 12), .int .u8 (c 13), .int .u8 (c 14), .int .u8 (c 15)] 66)).drewN n).heap[w.heap.size + 1]? = some (.cells #[.bool v, .int .u8 (c 0), .int .u8 (c 1), .int .u8 (c 2), .int .u8 (c 3), .int .u8 (c 4), .int .u8 (c 5), .int .u8 (c 6), .int .u8 (c 7), .int .u8 (c 8), .int .u8 (c 9), .int .u8 (c 10), .int .u8 (c 11), .int .u8 (c 12), .int .u8 (c 13), .int .u8 (c 14), .int .u8 (c 15)] 66 (0, 0)) := heap_new2 w _ _
      exact bcmpC _ _ 1 _ 1 16 16 b c hb hc (block_from' e0 1 (fun i => .int .u8 (b i)) 16 (lit16 v b)) (block_from' e1 1 (fun i => .int .u8 (c i)) 16 (lit16 v c))
    have HQ := Lib.hid hq
    clear hR hq
    go_enter Tryd.func128, Tryd.ntmps128
    go_wp2_with fail
    go_quiet ((go_at_call 135; exact quiet_eq (HQ.out _)))
    go_wp2
    go_ret
    exact ⟨by rw [HR.out]; rfl, below_drewN (((Below.refl _ _).alloc (Nat.le_refl _) _).alloc (by simp) _) _⟩
  · have hb2 : (v == u) = false := by simpa using hvu
    have hR : adrC v b u c = if v then 1 else -1 := by unfold adrC; rw [if_neg hvu]
    have HR := Lib.hid hR
    clear hR hvu
    cases v
    all_goals
      go_enter Tryd.func128, Tryd.ntmps128
      go_wp2
      go_ret
      exact ⟨by rw [HR.out]; rfl, ((Below.refl _ _).alloc (Nat.le_refl _) _).alloc (by simp) _⟩
set_option maxRecDepth 100000 in
theorem alessC (v : Bool) (b : Nat → Int) (u : Bool) (c : Nat → Int) (w : World) (hb : ∀ i, 0 ≤ b i ∧ b i < 256) (hc : ∀ i, 0 ≤ c i ∧ c i < 256) :
    Calls Tryd.prog 116 #[adrV v b, adrV u c] w fun e w' => e = .returned (.bool (decide (adrC v b u c < 0))) ∧ Below w.heap.size w w' := by
  have ho := fun w => orderC' v b u c w hb hc
  unfold adrV at *
  generalize adrC v b u c = q at *
  go_enter Tryd.func116, Tryd.ntmps116
  go_wp2_with fail
  refine (ho _).mono ?_
  rintro e w1 ⟨rfl, hb1⟩
  have HB := Lib.hid ((((Below.refl w.heap.size w).alloc (Nat.le_refl _) _).alloc (by simp) _).trans (hb1.mono (by simp; omega)))
  clear hb1
  go_wp2_with fail
  go_ret
  exact ⟨rfl, HB.out⟩
end Go.Proofs.YtniejpfjbifjkaaDoor
