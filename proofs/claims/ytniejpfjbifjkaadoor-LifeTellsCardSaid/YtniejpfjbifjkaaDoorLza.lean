/- Voted (68). -/
import Derived.Test.YtniejpfjbifjkaaDoorLz
namespace Go.Proofs.YtniejpfjbifjkaaDoor
open Go.RowKit Fl

theorem cell_vote1 {w : World} {g : Nat} {v : Int × Bool} {t : TypeId} {fr : Nat × Nat} (h : w.heap[g]? = some (.cells (vtRow v) t fr)) : w.cell? ⟨g, 0, none⟩ = some (.int .i64 v.1) := by rw [cell_of_row w g 0 _ t fr h]; rfl
set_option maxRecDepth 100000 in
set_option maxHeartbeats 4000000 in
theorem voted_bad (r : Rc) (a : Option Addr) (c : Nat) (n : Int) (v : Int × Bool) (w : World) (hr : RcN r) (hv : Vts w a r.votes) (hl : Laid w) (hpos : 0 < w.heap.size) (hbad : votedOk r n v = false) :
    Calls Tryd.prog 68 #[recV r a r.votes.length c, .int .i64 n, votV v] w fun e w' => e = .returned (.tuple #[recV zRc none 0 0, .int .i64 1]) ∧ Below w.heap.size w w' := by
  have hS := St.start w
  have hA := fun (W : World) (hB : Below w.heap.size w W) => rcRightC r a c W hr.w (hv.below hB) (hl.below hB hpos) (by have := hB.size; omega)
  have hst := fun W => stampC v.1 W
  have hcs := voted_cases r n v
  rw [hbad] at hcs
  simp only [recV_row] at hA ⊢
  rw [votV_row]
  clear hv
  rcases hcs with ⟨d1, _⟩ | ⟨d1, ⟨d2, _⟩ | ⟨d2, ⟨d3, _⟩ | ⟨d3, ⟨d4, _⟩ | ⟨d4, d5⟩⟩⟩⟩
  · rw [d1] at hA
    go_enter Tryd.func68, Tryd.ntmps68
    go_wp2_with (first
      | (refine st_box hS (by rfl) 75 (.tmp 0) (by rfl) _ (by rfl) ?_; clear hS; intro g3 w1 hS _; (simp only [Act.put, List.setIfInBounds_toArray, List.set_cons_zero, List.set_cons_succ]))
      | (refine st_box hS (by rfl) 87 (.tmp 2) (by rfl) _ (by rfl) ?_; clear hS; intro g5 w2 hS _; (simp only [Act.put, List.setIfInBounds_toArray, List.set_cons_zero, List.set_cons_succ]))
      | (refine st_alloc hS (by rfl) 75 (by rfl) _ zero75 ?_; clear hS; intro g6 w3 hS _; (simp only [Act.put, List.setIfInBounds_toArray, List.set_cons_zero, List.set_cons_succ]))
      | (refine st_load hS 2 (by rfl) 75 (.tmp 3) (by rfl) g3 (by rfl) _ 75 rfl _ Tryd.underlying75 rfl size75 ?_; (simp only [Act.put, List.setIfInBounds_toArray, List.set_cons_zero, List.set_cons_succ])))
    refine (hA _ hS.below).mono ?_
    rintro e w4 ⟨rfl, hb⟩
    have hS1 := hS.call hb
    clear hS hb hA
    have hS := hS1
    clear hS1
    have q1 := cell_vote1 (hS.row 1 rfl)
    have q2 := cell_gen (hS.row 2 rfl)
    go_wp2_with (first
      | (go_at_call 89; refine (hst _).mono ?_; rintro e w' ⟨rfl, rfl⟩)
      | (refine st_build (by rfl) 75 #[] (by rfl) _ built75 ?_; (simp only [Act.put, List.setIfInBounds_toArray, List.set_cons_zero, List.set_cons_succ]))
      | (refine st_store hS 0 (by rfl) 75 (.tmp 6) (.tmp 32) (by rfl) g6 (by rfl) (rcRow zRc none 0 0) (by rfl) _ 75 rfl size75 rfl (one_rcRow _ _ _ _) ?_; clear hS; intro w5 hS; (simp only [List.set_cons_zero] at hS); (simp only [Act.put])))
    have HB := hS.below
    refine bodyPost_ret (res_cell_tmp rfl _ _ g6 75 _ _ _ rfl (hS.row 0 rfl) Tryd.underlying75 rfl size75 _ rfl) rfl ?_
    exact ⟨rfl, HB⟩
  · rw [d1] at hA
    go_enter Tryd.func68, Tryd.ntmps68
    go_wp2_with (first
      | (refine st_box hS (by rfl) 75 (.tmp 0) (by rfl) _ (by rfl) ?_; clear hS; intro g3 w1 hS _; (simp only [Act.put, List.setIfInBounds_toArray, List.set_cons_zero, List.set_cons_succ]))
      | (refine st_box hS (by rfl) 87 (.tmp 2) (by rfl) _ (by rfl) ?_; clear hS; intro g5 w2 hS _; (simp only [Act.put, List.setIfInBounds_toArray, List.set_cons_zero, List.set_cons_succ]))
      | (refine st_alloc hS (by rfl) 75 (by rfl) _ zero75 ?_; clear hS; intro g6 w3 hS _; (simp only [Act.put, List.setIfInBounds_toArray, List.set_cons_zero, List.set_cons_succ]))
      | (refine st_load hS 2 (by rfl) 75 (.tmp 3) (by rfl) g3 (by rfl) _ 75 rfl _ Tryd.underlying75 rfl size75 ?_; (simp only [Act.put, List.setIfInBounds_toArray, List.set_cons_zero, List.set_cons_succ])))
    refine (hA _ hS.below).mono ?_
    rintro e w4 ⟨rfl, hb⟩
    have hS1 := hS.call hb
    clear hS hb hA
    have hS := hS1
    clear hS1
    have q1 := cell_vote1 (hS.row 1 rfl)
    have q2 := cell_gen (hS.row 2 rfl)
    go_wp2_with (first
      | (go_at_call 89; refine (hst _).mono ?_; rintro e w' ⟨rfl, rfl⟩)
      | (refine st_build (by rfl) 75 #[] (by rfl) _ built75 ?_; (simp only [Act.put, List.setIfInBounds_toArray, List.set_cons_zero, List.set_cons_succ]))
      | (refine st_store hS 0 (by rfl) 75 (.tmp 6) (.tmp 32) (by rfl) g6 (by rfl) (rcRow zRc none 0 0) (by rfl) _ 75 rfl size75 rfl (one_rcRow _ _ _ _) ?_; clear hS; intro w5 hS; (simp only [List.set_cons_zero] at hS); (simp only [Act.put])))
    have HB := hS.below
    refine bodyPost_ret (res_cell_tmp rfl _ _ g6 75 _ _ _ rfl (hS.row 0 rfl) Tryd.underlying75 rfl size75 _ rfl) rfl ?_
    exact ⟨rfl, HB⟩
  · rw [d1] at hA
    go_enter Tryd.func68, Tryd.ntmps68
    go_wp2_with (first
      | (refine st_box hS (by rfl) 75 (.tmp 0) (by rfl) _ (by rfl) ?_; clear hS; intro g3 w1 hS _; (simp only [Act.put, List.setIfInBounds_toArray, List.set_cons_zero, List.set_cons_succ]))
      | (refine st_box hS (by rfl) 87 (.tmp 2) (by rfl) _ (by rfl) ?_; clear hS; intro g5 w2 hS _; (simp only [Act.put, List.setIfInBounds_toArray, List.set_cons_zero, List.set_cons_succ]))
      | (refine st_alloc hS (by rfl) 75 (by rfl) _ zero75 ?_; clear hS; intro g6 w3 hS _; (simp only [Act.put, List.setIfInBounds_toArray, List.set_cons_zero, List.set_cons_succ]))
      | (refine st_load hS 2 (by rfl) 75 (.tmp 3) (by rfl) g3 (by rfl) _ 75 rfl _ Tryd.underlying75 rfl size75 ?_; (simp only [Act.put, List.setIfInBounds_toArray, List.set_cons_zero, List.set_cons_succ])))
    refine (hA _ hS.below).mono ?_
    rintro e w4 ⟨rfl, hb⟩
    have hS1 := hS.call hb
    clear hS hb hA
    have hS := hS1
    clear hS1
    have q1 := cell_vote1 (hS.row 1 rfl)
    have q2 := cell_gen (hS.row 2 rfl)
    go_wp2_with (first
      | (go_at_call 89; refine (hst _).mono ?_; rintro e w' ⟨rfl, rfl⟩)
      | (refine st_build (by rfl) 75 #[] (by rfl) _ built75 ?_; (simp only [Act.put, List.setIfInBounds_toArray, List.set_cons_zero, List.set_cons_succ]))
      | (refine st_store hS 0 (by rfl) 75 (.tmp 6) (.tmp 32) (by rfl) g6 (by rfl) (rcRow zRc none 0 0) (by rfl) _ 75 rfl size75 rfl (one_rcRow _ _ _ _) ?_; clear hS; intro w5 hS; (simp only [List.set_cons_zero] at hS); (simp only [Act.put])))
    have HB := hS.below
    refine bodyPost_ret (res_cell_tmp rfl _ _ g6 75 _ _ _ rfl (hS.row 0 rfl) Tryd.underlying75 rfl size75 _ rfl) rfl ?_
    exact ⟨rfl, HB⟩
  · rw [d1] at hA
    go_enter Tryd.func68, Tryd.ntmps68
    go_wp2_with (first
      | (refine st_box hS (by rfl) 75 (.tmp 0) (by rfl) _ (by rfl) ?_; clear hS; intro g3 w1 hS _; (simp only [Act.put, List.setIfInBounds_toArray, List.set_cons_zero, List.set_cons_succ]))
      | (refine st_box hS (by rfl) 87 (.tmp 2) (by rfl) _ (by rfl) ?_; clear hS; intro g5 w2 hS _; (simp only [Act.put, List.setIfInBounds_toArray, List.set_cons_zero, List.set_cons_succ]))
      | (refine st_alloc hS (by rfl) 75 (by rfl) _ zero75 ?_; clear hS; intro g6 w3 hS _; (simp only [Act.put, List.setIfInBounds_toArray, List.set_cons_zero, List.set_cons_succ]))
      | (refine st_load hS 2 (by rfl) 75 (.tmp 3) (by rfl) g3 (by rfl) _ 75 rfl _ Tryd.underlying75 rfl size75 ?_; (simp only [Act.put, List.setIfInBounds_toArray, List.set_cons_zero, List.set_cons_succ])))
    refine (hA _ hS.below).mono ?_
    rintro e w4 ⟨rfl, hb⟩
    have hS1 := hS.call hb
    clear hS hb hA
    have hS := hS1
    clear hS1
    have q1 := cell_vote1 (hS.row 1 rfl)
    have q2 := cell_gen (hS.row 2 rfl)
    go_wp2_with (first
      | (go_at_call 89; refine (hst _).mono ?_; rintro e w' ⟨rfl, rfl⟩)
      | (refine st_build (by rfl) 75 #[] (by rfl) _ built75 ?_; (simp only [Act.put, List.setIfInBounds_toArray, List.set_cons_zero, List.set_cons_succ]))
      | (refine st_store hS 0 (by rfl) 75 (.tmp 6) (.tmp 32) (by rfl) g6 (by rfl) (rcRow zRc none 0 0) (by rfl) _ 75 rfl size75 rfl (one_rcRow _ _ _ _) ?_; clear hS; intro w5 hS; (simp only [List.set_cons_zero] at hS); (simp only [Act.put])))
    have HB := hS.below
    refine bodyPost_ret (res_cell_tmp rfl _ _ g6 75 _ _ _ rfl (hS.row 0 rfl) Tryd.underlying75 rfl size75 _ rfl) rfl ?_
    exact ⟨rfl, HB⟩
  · rw [d1] at hA
    rw [← d5] at hst
    clear d5
    go_enter Tryd.func68, Tryd.ntmps68
    go_wp2_with (first
      | (refine st_box hS (by rfl) 75 (.tmp 0) (by rfl) _ (by rfl) ?_; clear hS; intro g3 w1 hS _; (simp only [Act.put, List.setIfInBounds_toArray, List.set_cons_zero, List.set_cons_succ]))
      | (refine st_box hS (by rfl) 87 (.tmp 2) (by rfl) _ (by rfl) ?_; clear hS; intro g5 w2 hS _; (simp only [Act.put, List.setIfInBounds_toArray, List.set_cons_zero, List.set_cons_succ]))
      | (refine st_alloc hS (by rfl) 75 (by rfl) _ zero75 ?_; clear hS; intro g6 w3 hS _; (simp only [Act.put, List.setIfInBounds_toArray, List.set_cons_zero, List.set_cons_succ]))
      | (refine st_load hS 2 (by rfl) 75 (.tmp 3) (by rfl) g3 (by rfl) _ 75 rfl _ Tryd.underlying75 rfl size75 ?_; (simp only [Act.put, List.setIfInBounds_toArray, List.set_cons_zero, List.set_cons_succ])))
    refine (hA _ hS.below).mono ?_
    rintro e w4 ⟨rfl, hb⟩
    have hS1 := hS.call hb
    clear hS hb hA
    have hS := hS1
    clear hS1
    have q1 := cell_vote1 (hS.row 1 rfl)
    have q2 := cell_gen (hS.row 2 rfl)
    go_wp2_with (first
      | (go_at_call 89; refine (hst _).mono ?_; rintro e w' ⟨rfl, rfl⟩)
      | (refine st_build (by rfl) 75 #[] (by rfl) _ built75 ?_; (simp only [Act.put, List.setIfInBounds_toArray, List.set_cons_zero, List.set_cons_succ]))
      | (refine st_store hS 0 (by rfl) 75 (.tmp 6) (.tmp 32) (by rfl) g6 (by rfl) (rcRow zRc none 0 0) (by rfl) _ 75 rfl size75 rfl (one_rcRow _ _ _ _) ?_; clear hS; intro w5 hS; (simp only [List.set_cons_zero] at hS); (simp only [Act.put])))
    have HB := hS.below
    refine bodyPost_ret (res_cell_tmp rfl _ _ g6 75 _ _ _ rfl (hS.row 0 rfl) Tryd.underlying75 rfl size75 _ rfl) rfl ?_
    exact ⟨rfl, HB⟩
set_option maxRecDepth 100000 in
set_option maxHeartbeats 4000000 in
theorem voted_none (r : Rc) (a : Option Addr) (c : Nat) (n : Int) (v : Int × Bool) (w : World) (hr : RcN r) (hv : Vts w a r.votes) (hl : Laid w) (hpos : 0 < w.heap.size) (hok : votedOk r n v = true) (hg : r.gen = 0) :
    Calls Tryd.prog 68 #[recV r a r.votes.length c, .int .i64 n, votV v] w fun e w' => e = .returned (.tuple #[recV zRc none 0 0, .int .i64 5]) ∧ Below w.heap.size w w' := by
  have hS := St.start w
  have hA := fun (W : World) (hB : Below w.heap.size w W) => rcRightC r a c W hr.w (hv.below hB) (hl.below hB hpos) (by have := hB.size; omega)
  have hst := fun W => stampC v.1 W
  have hcs := voted_cases r n v
  rw [hok] at hcs
  simp only [recV_row] at hA ⊢
  rw [votV_row]
  clear hv
  rcases hcs with ⟨d1, e1⟩ | ⟨d1, ⟨d2, e1⟩ | ⟨d2, ⟨d3, e1⟩ | ⟨d3, ⟨d4, e1⟩ | ⟨d4, d5⟩⟩⟩⟩
  · cases e1
  · cases e1
  · cases e1
  · cases e1
  · rw [d1] at hA
    rw [← d5] at hst
    clear d5
    go_enter Tryd.func68, Tryd.ntmps68
    go_wp2_with (first
      | (refine st_box hS (by rfl) 75 (.tmp 0) (by rfl) _ (by rfl) ?_; clear hS; intro g3 w1 hS _; (simp only [Act.put, List.setIfInBounds_toArray, List.set_cons_zero, List.set_cons_succ]))
      | (refine st_box hS (by rfl) 87 (.tmp 2) (by rfl) _ (by rfl) ?_; clear hS; intro g5 w2 hS _; (simp only [Act.put, List.setIfInBounds_toArray, List.set_cons_zero, List.set_cons_succ]))
      | (refine st_alloc hS (by rfl) 75 (by rfl) _ zero75 ?_; clear hS; intro g6 w3 hS _; (simp only [Act.put, List.setIfInBounds_toArray, List.set_cons_zero, List.set_cons_succ]))
      | (refine st_load hS 2 (by rfl) 75 (.tmp 3) (by rfl) g3 (by rfl) _ 75 rfl _ Tryd.underlying75 rfl size75 ?_; (simp only [Act.put, List.setIfInBounds_toArray, List.set_cons_zero, List.set_cons_succ])))
    refine (hA _ hS.below).mono ?_
    rintro e w4 ⟨rfl, hb⟩
    have hS1 := hS.call hb
    clear hS hb hA
    have hS := hS1
    clear hS1
    have q1 := cell_vote1 (hS.row 1 rfl)
    have q2 := cell_gen (hS.row 2 rfl)
    go_wp2_with (first
      | (go_at_call 89; refine (hst _).mono ?_; rintro e w' ⟨rfl, rfl⟩)
      | (refine st_build (by rfl) 75 #[] (by rfl) _ built75 ?_; (simp only [Act.put, List.setIfInBounds_toArray, List.set_cons_zero, List.set_cons_succ]))
      | (refine st_store hS 0 (by rfl) 75 (.tmp 6) (.tmp 37) (by rfl) g6 (by rfl) (rcRow zRc none 0 0) (by rfl) _ 75 rfl size75 rfl (one_rcRow _ _ _ _) ?_; clear hS; intro w5 hS; (simp only [List.set_cons_zero] at hS); (simp only [Act.put])))
    have HB := hS.below
    refine bodyPost_ret (res_cell_tmp rfl _ _ g6 75 _ _ _ rfl (hS.row 0 rfl) Tryd.underlying75 rfl size75 _ rfl) rfl ?_
    exact ⟨rfl, HB⟩
set_option maxRecDepth 100000 in
set_option maxHeartbeats 4000000 in
theorem voted_ok (r : Rc) (a : Option Addr) (c : Nat) (k : Nat) (v : Int × Bool) (w : World) (hr : RcN r) (hv : Vts w a r.votes) (hl : Laid w) (hpos : 0 < w.heap.size) (hok : votedOk r k v = true) (hg : r.gen ≠ 0) :
    Calls Tryd.prog 68 #[recV r a r.votes.length c, .int .i64 k, votV v] w fun e w' => JoinPost w (votedR r k v) e w' := by
  have hS := St.start w
  have hA := fun (W : World) (hB : Below w.heap.size w W) => rcRightC r a c W hr.w (hv.below hB) (hl.below hB hpos) (by have := hB.size; omega)
  have hst := fun W => stampC v.1 W
  have hcs := voted_cases r k v
  rw [hok] at hcs
  rcases hcs with ⟨d1, e1⟩ | ⟨d1, ⟨d2, e1⟩ | ⟨d2, ⟨d3, e1⟩ | ⟨d3, ⟨d4, e1⟩ | ⟨d4, d5⟩⟩⟩⟩
  · cases e1
  · cases e1
  · cases e1
  · cases e1
  · rw [d1] at hA
    rw [← d5] at hst
    have hk : k < 16 := by have := of_decide_eq_false d3; omega
    have hx : rcOk (withVote r k v) = true := withVote_ok d1 hg hk (by have := of_decide_eq_false d4; omega) d5.symm
    have hJ := fun (W : World) (b : Option Addr) (d : Nat) (hB : Below w.heap.size w W) (hu : Vts W b (withVote r k v).votes) => join_ok r (withVote r k v) a b c d W hr ⟨hr.w, hr.bytes⟩ (hv.below hB) hu (hl.below hB hpos) (by have := hB.size; omega) d1 hx
    have hlen : (withVote r k v).votes.length = k + 1 := by simp [withVote]
    have e0 : (r.gen == 0) = false := by rw [beq_eq_false_iff_ne]; exact hg
    rw [hlen] at hJ
    simp only [recV_row, withVote, rcRow_votes] at hJ
    simp only [recV_row] at hA ⊢
    rw [votV_row]
    have HX := Lib.hid hx
    clear hv hx hlen hg hok d5
    go_enter Tryd.func68, Tryd.ntmps68
    go_wp2_with (first
      | (refine st_box hS (by rfl) 75 (.tmp 0) (by rfl) _ (by rfl) ?_; clear hS; intro g3 w1 hS _; (simp only [Act.put, List.setIfInBounds_toArray, List.set_cons_zero, List.set_cons_succ]))
      | (refine st_box hS (by rfl) 87 (.tmp 2) (by rfl) _ (by rfl) ?_; clear hS; intro g5 w2 hS _; (simp only [Act.put, List.setIfInBounds_toArray, List.set_cons_zero, List.set_cons_succ]))
      | (refine st_alloc hS (by rfl) 75 (by rfl) _ zero75 ?_; clear hS; intro g6 w3 hS _; (simp only [Act.put, List.setIfInBounds_toArray, List.set_cons_zero, List.set_cons_succ]))
      | (refine st_load hS 2 (by rfl) 75 (.tmp 3) (by rfl) g3 (by rfl) _ 75 rfl _ Tryd.underlying75 rfl size75 ?_; (simp only [Act.put, List.setIfInBounds_toArray, List.set_cons_zero, List.set_cons_succ])))
    refine (hA _ hS.below).mono ?_
    rintro e w4 ⟨rfl, hb⟩
    have hS1 := hS.call hb
    clear hS hb hA
    have hS := hS1
    clear hS1
    have q1 := cell_vote1 (hS.row 1 rfl)
    have q2 := cell_gen (hS.row 2 rfl)
    go_upto_region 5 with (first
      | (go_at_call 89; refine (hst _).mono ?_; rintro e w' ⟨rfl, rfl⟩))
    go_upto_region 7 with (first
      | (refine st_load hS 2 (by rfl) 75 (.tmp 3) (by rfl) g3 (by rfl) _ 75 rfl _ Tryd.underlying75 rfl size75 ?_; (simp only [Act.put, List.setIfInBounds_toArray, List.set_cons_zero, List.set_cons_succ]))
      | (refine st_alloc hS (by rfl) 75 (by rfl) _ zero75 ?_; clear hS; intro g8 w6 hS _; (simp only [Act.put, List.setIfInBounds_toArray, List.set_cons_zero, List.set_cons_succ]))
      | (refine st_store hS 0 (by rfl) 75 (.tmp 8) (.tmp 38) (by rfl) g8 (by rfl) (rcRow r a r.votes.length c) (by rfl) _ 75 rfl size75 rfl (one_rcRow _ _ _ _) ?_; clear hS; intro w7 hS; (simp only [List.set_cons_zero] at hS); (simp only [Act.put]))
      | (refine st_make hS (by rfl) (.tmp 40) (.tmp 40) (by rfl) (k + 1) (by rfl) (by rfl) (by omega) ?_; clear hS; intro gm w8 hS _; (simp only [Act.put, List.setIfInBounds_toArray, List.set_cons_zero, List.set_cons_succ]))
      | (refine st_put hS 1 (by rfl) 73 (.tmp 42) (.tmp 41) (by rfl) g8 22 (by rfl) (.slice (some ⟨gm, 0, none⟩) (k + 1) (k + 1)) (by rfl) _ 75 rfl rfl rfl rfl size73 ?_; clear hS; intro w9 hS; (simp only [List.set_cons_zero, List.set_cons_succ, put_votes] at hS); (simp only [Act.put])))
    have q3 := cell_votes (hS.row 1 rfl)
    have HBL : Hid (Nat.ble (k * 2 + (vtRow v).size) (vtsRow (List.replicate (k + 1) vt0)).size = true) := Lib.hid (by rw [vtsRow_size, List.length_replicate]; exact Nat.ble_eq_true_of_le (by show k * 2 + 2 ≤ (k + 1) * 2; omega))
    go_upto_region 8 with (first
      | (refine st_load hS 3 (by rfl) 87 (.tmp 5) (by rfl) g5 (by rfl) _ 87 rfl _ Tryd.underlying87 rfl size87 ?_; (simp only [Act.put, List.setIfInBounds_toArray, List.set_cons_zero, List.set_cons_succ]))
      | (refine st_puts hS 0 (by rfl) 87 (.tmp 47) (.tmp 46) (by rfl) gm (k * 2) (by rfl) (vtRow v) (by rfl) _ 87 rfl HBL.out (one_vtRow _) size87 ?_; clear hS; intro w10 hS; (simp only [List.set_cons_zero] at hS); (simp only [Act.put])))
    rw [List.replicate_succ', put_vote _ _ _ _ (by simp)] at hS
    have hvx : Vts w10 (some ⟨gm, 0, none⟩) (List.replicate k vt0 ++ [v]) := vts_row (hS.row 0 rfl) (by simp; omega)
    have hJ1 := hJ w10 (some ⟨gm, 0, none⟩) (k + 1) hS.below hvx
    have hxx : votedR r k v = joinR r { r with votes := List.replicate k vt0 ++ [v] } := rfl
    rw [← hxx] at hJ1
    have HH : Hid (votedR r k v = votedR r k v) := Lib.hid rfl
    clear hJ hxx hvx q3 hst q1 q2
    go_wp2_with (first
      | (refine st_load hS 4 (by rfl) 75 (.tmp 3) (by rfl) g3 (by rfl) _ 75 rfl _ Tryd.underlying75 rfl size75 ?_; (simp only [Act.put, List.setIfInBounds_toArray, List.set_cons_zero, List.set_cons_succ]))
      | (refine st_load hS 1 (by rfl) 75 (.tmp 8) (by rfl) g8 (by rfl) _ 75 rfl _ Tryd.underlying75 rfl size75 ?_; (simp only [Act.put, List.setIfInBounds_toArray, List.set_cons_zero, List.set_cons_succ])))
    refine hJ1.mono ?_
    rintro e w11 ⟨a', c', rfl, ho, hb⟩
    have hS1 := hS.call hb
    have HO := Lib.hid (own_mono ho hS.below.size)
    clear hS hb hJ1 ho
    have hS := hS1
    clear hS1
    simp only [recV_row]
    have HN := Lib.hid (own_ne HO.out (hS.row 2 rfl) (by decide))
    go_wp2_with (first
      | (refine st_storeE hS 2 (by rfl) 75 (.tmp 6) (.tmp 51) (by rfl) g6 (by rfl) (rcRow (votedR r k v) a' (votedR r k v).votes.length c') (by rfl) _ 75 rfl size75 rfl (one_rcRow _ _ _ _) ?_; clear hS; intro w12 hS HE; (simp only [List.set_cons_zero, List.set_cons_succ] at hS); (simp only [Act.put])))
    have HB := hS.below
    have HO2 := own_setRow HO.out HN.out (rcRow (votedR r k v) a' (votedR r k v).votes.length c')
    rw [← HE.out] at HO2
    refine bodyPost_ret (res_cell_tmp rfl _ _ g6 75 _ _ _ rfl (hS.row 2 rfl) Tryd.underlying75 rfl size75 _ rfl) rfl ?_
    exact ⟨a', c', rfl, HO2, HB⟩
end Go.Proofs.YtniejpfjbifjkaaDoor
