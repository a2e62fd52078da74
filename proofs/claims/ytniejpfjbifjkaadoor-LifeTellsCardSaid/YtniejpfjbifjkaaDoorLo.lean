/- The reference's Stamp, nodes, vote, newer (103, 105, 106, 124). -/
import Derived.Test.YtniejpfjbifjkaaDoorLm
namespace Go.Proofs.YtniejpfjbifjkaaDoor
open Go.RowKit Fl

theorem rstampC (n : Int) (w : World) :
    Calls Tryd.prog 103 #[.int .i64 n] w fun e w' => e = .returned (.bool (stampOk n)) ∧ w = w' := by
  by_cases h0 : 0 ≤ n
  · have HS : Hid (stampOk n = decide (n ≤ 1099511627776)) := Lib.hid (by unfold stampOk; rw [decide_eq_true h0]; rfl)
    go_enter Tryd.func103, Tryd.ntmps103
    go_wp2
    go_ret
    exact ⟨by rw [HS.out]; rfl, rfl⟩
  · have HS : Hid (stampOk n = false) := Lib.hid (by unfold stampOk; rw [decide_eq_false h0]; rfl)
    go_enter Tryd.func103, Tryd.ntmps103
    go_wp2
    go_ret
    exact ⟨by rw [HS.out]; rfl, rfl⟩
def nodesOk (n : Int) : Bool := decide (1 ≤ n) && decide (n ≤ 16)
theorem rnodesC (n : Int) (w : World) :
    Calls Tryd.prog 105 #[.int .i64 n] w fun e w' => e = .returned (.bool (nodesOk n)) ∧ w = w' := by
  by_cases h0 : 1 ≤ n
  · have HS : Hid (nodesOk n = decide (n ≤ 16)) := Lib.hid (by unfold nodesOk; rw [decide_eq_true h0]; rfl)
    go_enter Tryd.func105, Tryd.ntmps105
    go_wp2
    go_ret
    exact ⟨by rw [HS.out]; rfl, rfl⟩
  · have HS : Hid (nodesOk n = false) := Lib.hid (by unfold nodesOk; rw [decide_eq_false h0]; rfl)
    go_enter Tryd.func105, Tryd.ntmps105
    go_wp2
    go_ret
    exact ⟨by rw [HS.out]; rfl, rfl⟩
theorem size89 : (Tryd.prog.info? 89).map (·.size) = some 2 := by kernel_rfl
set_option maxRecDepth 100000 in
set_option maxHeartbeats 1000000 in
theorem rvoteC (r : Rc) (a : Option Addr) (c : Nat) (k : Nat) (w : World) (hv : Vts w a r.votes) :
    Calls Tryd.prog 106 #[recV r a r.votes.length c, .int .i64 k] w fun e w' => e = .returned (votV (r.votes.getD k vt0)) ∧ Below w.heap.size w w' := by
  obtain ⟨hm, hc⟩ := hv
  unfold recV
  by_cases hk : k < r.votes.length
  · obtain ⟨b1, o1, rfl, h1, h2⟩ := hc k hk
    have h1' := fun o o' => cellA (cellA h1 o) o'
    have h2' := fun o o' => cellA (cellA h2 o) o'
    clear hc h1 h2
    generalize r.votes.getD k vt0 = v at *
    go_enter Tryd.func106, Tryd.ntmps106
    go_wp2
    refine bodyPost_ret (results_cell_row rfl _ _ (w.heap.size + 1) 89 #[.int .i64 v.1, .bool v.2] _ _ rfl (heap_new2 w _ _) Tryd.underlying89 rfl size89) rfl ?_
    exact ⟨rfl, ((Below.refl _ _).alloc (Nat.le_refl _) _).alloc (by simp) _⟩
  · have hg : r.votes.getD k vt0 = vt0 := by simp [List.getD, Nat.not_lt.1 hk]
    have HG := Lib.hid hg
    clear hc hg
    go_enter Tryd.func106, Tryd.ntmps106
    go_wp2
    refine bodyPost_ret (results_cell_row rfl _ _ (w.heap.size + 1) 89 #[.int .i64 0, .bool false] _ _ rfl (heap_new2 w _ _) Tryd.underlying89 rfl size89) rfl ?_
    exact ⟨by rw [HG.out]; rfl, ((Below.refl _ _).alloc (Nat.le_refl _) _).alloc (by simp) _⟩
/-- the reference's newer of two votes. -/
def newV (v u : Int × Bool) : Int × Bool := if u.1 < v.1 ∨ (v.1 = u.1 ∧ v.2 = false) then v else u
theorem heap_new3 (w : World) (a b c : Obj) : (((w.alloc a).alloc b).alloc c).heap[w.heap.size + 2]? = some c := by
  have := heap_new2 (w.alloc a) b c
  rwa [show (w.alloc a).heap.size + 1 = w.heap.size + 2 by simp] at this
set_option maxRecDepth 100000 in
set_option maxHeartbeats 1000000 in
theorem newerC (v u : Int × Bool) (w : World) :
    Calls Tryd.prog 124 #[votV v, votV u] w fun e w' => e = .returned (votV (newV v u)) ∧ Below w.heap.size w w' := by
  have four : (decide (u.1 < v.1) = true ∧ newV v u = v) ∨ (decide (u.1 < v.1) = false ∧ (v.1 == u.1) = false ∧ newV v u = u) ∨ (decide (u.1 < v.1) = false ∧ (v.1 == u.1) = true ∧ v.2 = true ∧ newV v u = u) ∨ (decide (u.1 < v.1) = false ∧ (v.1 == u.1) = true ∧ v.2 = false ∧ newV v u = v) := by
    unfold newV
    by_cases h1 : u.1 < v.1
    · left; exact ⟨decide_eq_true h1, if_pos (.inl h1)⟩
    · right
      by_cases h2 : v.1 = u.1
      · right
        cases h3 : v.2
        · right; exact ⟨decide_eq_false h1, by simp [h2], rfl, if_pos (.inr ⟨h2, rfl⟩)⟩
        · left; exact ⟨decide_eq_false h1, by simp [h2], rfl, if_neg (by rintro (h | h); exact h1 h; exact absurd h.2 (by simp))⟩
      · left; exact ⟨decide_eq_false h1, by simp [h2], if_neg (by rintro (h | h); exact h1 h; exact h2 h.1)⟩
  generalize newV v u = q at *
  obtain ⟨v1, v2⟩ := v
  obtain ⟨u1, u2⟩ := u
  unfold votV
  simp only at four ⊢
  rcases four with ⟨h1, rfl⟩ | ⟨h1, h2, rfl⟩ | ⟨h1, h2, rfl, rfl⟩ | ⟨h1, h2, rfl, rfl⟩
  all_goals
    go_enter Tryd.func124, Tryd.ntmps124
    go_wp2
    refine bodyPost_ret (results_cell_row rfl _ _ (w.heap.size + 2) 89 _ _ _ rfl (heap_new3 w _ _ _) Tryd.underlying89 rfl size89) rfl ?_
    exact ⟨rfl, (((Below.refl _ _).alloc (Nat.le_refl _) _).alloc (by simp) _).alloc (by simp; omega) _⟩
end Go.Proofs.YtniejpfjbifjkaaDoor
