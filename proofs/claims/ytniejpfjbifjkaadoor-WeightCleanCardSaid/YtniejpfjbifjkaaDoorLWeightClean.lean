/- WeightClean walked. -/
import Derived.Test.YtniejpfjbifjkaaDoorWk
namespace Go.Proofs.YtniejpfjbifjkaaDoor.weightClean
open Go.RowKit Fl

theorem rsame_self {x : Nat} (h : x ≤ INF) : rsameF x x = true := by
  have h1 := ne_self (x := x) (by unfold INF at h; unfold B64; omega) (not_isN_small h)
  have h2 : eqF x x = true := by rw [eqF_pos h h]; simp
  unfold rsameF
  rw [h1, h2]; simp

set_option maxHeartbeats 1000000 in
theorem walk (a b : Nat) (w : World) (ha : a < B64) (hb : b < B64) (hl : Laid w) (hpos : 0 < w.heap.size) :
    Calls Tryd.prog 3 #[.float .f64 a, .float .f64 b] w fun e w' => e = .returned (.bool true) ∧ Below w.heap.size w w' := by
  have hc := cl_B64 a
  have hp := part_B64 a b
  have hs1 := rsame_self (cl_le_INF a)
  have hs2 := rsame_self (part_le_INF a b)
  have hcc := cl_cl a
  have hge : geF (part a b) 0 = true := by rw [geF_pos (part_le_INF a b) (by decide)]; simp
  have hle : leF (part a b) 4607182418800017408 = true := by
    rw [leF_pos (part_le_INF a b) (by decide)]; have := part_le a b; unfold ONE at this; simpa using this
  go_enter Tryd.func3, Tryd.ntmps3
  go_wp2_with fail
  refine (cleanC _ _ ha hl).mono ?_
  rintro e w' ⟨rfl, rfl⟩
  go_wp2_with fail
  refine (partC _ _ _ ha hb hl).mono ?_
  rintro e w' ⟨rfl, rfl⟩
  go_wp2_with fail
  refine (rcleanC _ _ ha).mono ?_
  rintro e w' ⟨rfl, rfl⟩
  go_wp2_with fail
  refine (rsame_calls _ _ _ hc hc).mono ?_
  rintro e w' ⟨rfl, rfl⟩
  rw [hs1]
  go_wp2_with fail
  refine (cleanC _ _ hc hl).mono ?_
  rintro e w' ⟨rfl, rfl⟩
  rw [hcc]
  go_wp2_with fail
  refine (rsame_calls _ _ _ hc hc).mono ?_
  rintro e w' ⟨rfl, rfl⟩
  rw [hs1]
  go_wp2_with fail
  refine (rpartC _ _ _ ha hb).mono ?_
  rintro e w' ⟨rfl, rfl⟩
  go_wp2_with fail
  refine (rsame_calls _ _ _ hp hp).mono ?_
  rintro e w' ⟨rfl, rfl⟩
  rw [hs2]
  go_wp2_with fail
  refine (knownC _ hl hpos).mono ?_
  rintro e w' ⟨rfl, hbel⟩
  go_wp2_with fail
  go_ret
  exact ⟨rfl, hbel⟩

end Go.Proofs.YtniejpfjbifjkaaDoor.weightClean
