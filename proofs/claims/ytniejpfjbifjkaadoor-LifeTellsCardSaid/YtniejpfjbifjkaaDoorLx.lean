/- Join (63). -/
import Derived.Test.YtniejpfjbifjkaaDoorLv
import Derived.Test.YtniejpfjbifjkaaDoorLw
import Derived.Deep.CutBlock
namespace Go.Proofs.YtniejpfjbifjkaaDoor
open Go.RowKit Fl

/-- what can be said of a record's numbers. -/
structure RcN (r : Rc) : Prop where
  w : r.spec.w < B64
  bytes : ∀ i, 0 ≤ r.spec.b i ∧ r.spec.b i < 256
set_option maxRecDepth 100000 in
set_option maxHeartbeats 4000000 in
/-- what can not be is not joined. -/
theorem join_bad (r s : Rc) (a b : Option Addr) (c d : Nat) (w : World) (hr : RcN r) (hs : RcN s) (hv : Vts w a r.votes) (hu : Vts w b s.votes) (hl : Laid w) (hpos : 0 < w.heap.size) (hbad : (rcOk r && rcOk s) = false) :
    Calls Tryd.prog 63 #[recV r a r.votes.length c, recV s b s.votes.length d] w fun e w' => e = .returned (.tuple #[recV zRc none 0 0, .int .i64 1]) ∧ Below w.heap.size w w' := by
  have hS := St.start w
  rw [recV_row, recV_row, recV_row]
  cases h1 : rcOk r
  · go_enter Tryd.func63, Tryd.ntmps63
    go_wp2_with (first
    | (refine st_box hS (by rfl) 75 (.tmp 0) (by rfl) _ (by rfl) ?_; clear hS; intro g2 w1 hS _; (simp only [Act.put, List.setIfInBounds_toArray, List.set_cons_zero, List.set_cons_succ]))
    | (refine st_box hS (by rfl) 75 (.tmp 1) (by rfl) _ (by rfl) ?_; clear hS; intro g3 w2 hS _; (simp only [Act.put, List.setIfInBounds_toArray, List.set_cons_zero, List.set_cons_succ]))
    | (refine st_alloc hS (by rfl) 75 (by rfl) _ zero75 ?_; clear hS; intro g4 w3 hS _; (simp only [Act.put, List.setIfInBounds_toArray, List.set_cons_zero, List.set_cons_succ]))
    | (refine st_load hS 2 (by rfl) 75 (.tmp 2) (by rfl) g2 (by rfl) _ 75 rfl _ Tryd.underlying75 rfl size75 ?_; (simp only [Act.put, List.setIfInBounds_toArray, List.set_cons_zero, List.set_cons_succ]))
    | (refine st_load hS 1 (by rfl) 75 (.tmp 3) (by rfl) g3 (by rfl) _ 75 rfl _ Tryd.underlying75 rfl size75 ?_; (simp only [Act.put, List.setIfInBounds_toArray, List.set_cons_zero, List.set_cons_succ]))
    | (refine st_build (by rfl) 75 #[] (by rfl) _ built75 ?_; (simp only [Act.put, List.setIfInBounds_toArray, List.set_cons_zero, List.set_cons_succ]))
    | (refine st_store hS 0 (by rfl) 75 (.tmp 4) (.tmp 19) (by rfl) g4 (by rfl) (rcRow zRc none 0 0) (by rfl) _ 75 rfl size75 rfl (one_rcRow _ _ _ _) ?_; clear hS; intro w5 hS; (simp only [List.set_cons_zero] at hS); (simp only [Act.put])))
    have hc := rcRightC r a c w3 hr.w (hv.below hS.below) (hl.below hS.below hpos) (by have := hS.below.size; omega)
    rw [h1] at hc
    refine hc.mono ?_
    rintro e w4 ⟨rfl, hb⟩
    have hS1 := hS.call hb
    clear hS hc hb hv hu
    have hS := hS1
    clear hS1
    go_wp2_with (first
    | (refine st_box hS (by rfl) 75 (.tmp 0) (by rfl) _ (by rfl) ?_; clear hS; intro g2 w1 hS _; (simp only [Act.put, List.setIfInBounds_toArray, List.set_cons_zero, List.set_cons_succ]))
    | (refine st_box hS (by rfl) 75 (.tmp 1) (by rfl) _ (by rfl) ?_; clear hS; intro g3 w2 hS _; (simp only [Act.put, List.setIfInBounds_toArray, List.set_cons_zero, List.set_cons_succ]))
    | (refine st_alloc hS (by rfl) 75 (by rfl) _ zero75 ?_; clear hS; intro g4 w3 hS _; (simp only [Act.put, List.setIfInBounds_toArray, List.set_cons_zero, List.set_cons_succ]))
    | (refine st_load hS 2 (by rfl) 75 (.tmp 2) (by rfl) g2 (by rfl) _ 75 rfl _ Tryd.underlying75 rfl size75 ?_; (simp only [Act.put, List.setIfInBounds_toArray, List.set_cons_zero, List.set_cons_succ]))
    | (refine st_load hS 1 (by rfl) 75 (.tmp 3) (by rfl) g3 (by rfl) _ 75 rfl _ Tryd.underlying75 rfl size75 ?_; (simp only [Act.put, List.setIfInBounds_toArray, List.set_cons_zero, List.set_cons_succ]))
    | (refine st_build (by rfl) 75 #[] (by rfl) _ built75 ?_; (simp only [Act.put, List.setIfInBounds_toArray, List.set_cons_zero, List.set_cons_succ]))
    | (refine st_store hS 0 (by rfl) 75 (.tmp 4) (.tmp 19) (by rfl) g4 (by rfl) (rcRow zRc none 0 0) (by rfl) _ 75 rfl size75 rfl (one_rcRow _ _ _ _) ?_; clear hS; intro w5 hS; (simp only [List.set_cons_zero] at hS); (simp only [Act.put])))
    have HB := hS.below
    refine bodyPost_ret (res_cell_tmp rfl _ _ g4 75 _ _ _ rfl (hS.row 0 rfl) Tryd.underlying75 rfl size75 _ rfl) rfl ?_
    exact ⟨rfl, HB⟩
  · rw [h1, Bool.true_and] at hbad
    go_enter Tryd.func63, Tryd.ntmps63
    go_wp2_with (first
    | (refine st_box hS (by rfl) 75 (.tmp 0) (by rfl) _ (by rfl) ?_; clear hS; intro g2 w1 hS _; (simp only [Act.put, List.setIfInBounds_toArray, List.set_cons_zero, List.set_cons_succ]))
    | (refine st_box hS (by rfl) 75 (.tmp 1) (by rfl) _ (by rfl) ?_; clear hS; intro g3 w2 hS _; (simp only [Act.put, List.setIfInBounds_toArray, List.set_cons_zero, List.set_cons_succ]))
    | (refine st_alloc hS (by rfl) 75 (by rfl) _ zero75 ?_; clear hS; intro g4 w3 hS _; (simp only [Act.put, List.setIfInBounds_toArray, List.set_cons_zero, List.set_cons_succ]))
    | (refine st_load hS 2 (by rfl) 75 (.tmp 2) (by rfl) g2 (by rfl) _ 75 rfl _ Tryd.underlying75 rfl size75 ?_; (simp only [Act.put, List.setIfInBounds_toArray, List.set_cons_zero, List.set_cons_succ]))
    | (refine st_load hS 1 (by rfl) 75 (.tmp 3) (by rfl) g3 (by rfl) _ 75 rfl _ Tryd.underlying75 rfl size75 ?_; (simp only [Act.put, List.setIfInBounds_toArray, List.set_cons_zero, List.set_cons_succ]))
    | (refine st_build (by rfl) 75 #[] (by rfl) _ built75 ?_; (simp only [Act.put, List.setIfInBounds_toArray, List.set_cons_zero, List.set_cons_succ]))
    | (refine st_store hS 0 (by rfl) 75 (.tmp 4) (.tmp 19) (by rfl) g4 (by rfl) (rcRow zRc none 0 0) (by rfl) _ 75 rfl size75 rfl (one_rcRow _ _ _ _) ?_; clear hS; intro w5 hS; (simp only [List.set_cons_zero] at hS); (simp only [Act.put])))
    have hc := rcRightC r a c w3 hr.w (hv.below hS.below) (hl.below hS.below hpos) (by have := hS.below.size; omega)
    rw [h1] at hc
    refine hc.mono ?_
    rintro e w4 ⟨rfl, hb⟩
    have hS1 := hS.call hb
    clear hS hc hb hv
    have hS := hS1
    clear hS1
    go_wp2_with (first
    | (refine st_box hS (by rfl) 75 (.tmp 0) (by rfl) _ (by rfl) ?_; clear hS; intro g2 w1 hS _; (simp only [Act.put, List.setIfInBounds_toArray, List.set_cons_zero, List.set_cons_succ]))
    | (refine st_box hS (by rfl) 75 (.tmp 1) (by rfl) _ (by rfl) ?_; clear hS; intro g3 w2 hS _; (simp only [Act.put, List.setIfInBounds_toArray, List.set_cons_zero, List.set_cons_succ]))
    | (refine st_alloc hS (by rfl) 75 (by rfl) _ zero75 ?_; clear hS; intro g4 w3 hS _; (simp only [Act.put, List.setIfInBounds_toArray, List.set_cons_zero, List.set_cons_succ]))
    | (refine st_load hS 2 (by rfl) 75 (.tmp 2) (by rfl) g2 (by rfl) _ 75 rfl _ Tryd.underlying75 rfl size75 ?_; (simp only [Act.put, List.setIfInBounds_toArray, List.set_cons_zero, List.set_cons_succ]))
    | (refine st_load hS 1 (by rfl) 75 (.tmp 3) (by rfl) g3 (by rfl) _ 75 rfl _ Tryd.underlying75 rfl size75 ?_; (simp only [Act.put, List.setIfInBounds_toArray, List.set_cons_zero, List.set_cons_succ]))
    | (refine st_build (by rfl) 75 #[] (by rfl) _ built75 ?_; (simp only [Act.put, List.setIfInBounds_toArray, List.set_cons_zero, List.set_cons_succ]))
    | (refine st_store hS 0 (by rfl) 75 (.tmp 4) (.tmp 19) (by rfl) g4 (by rfl) (rcRow zRc none 0 0) (by rfl) _ 75 rfl size75 rfl (one_rcRow _ _ _ _) ?_; clear hS; intro w5 hS; (simp only [List.set_cons_zero] at hS); (simp only [Act.put])))
    have hc := rcRightC s b d w4 hs.w (hu.below hS.below) (hl.below hS.below hpos) (by have := hS.below.size; omega)
    rw [hbad] at hc
    refine hc.mono ?_
    rintro e w5 ⟨rfl, hb⟩
    have hS1 := hS.call hb
    clear hS hc hb hu
    have hS := hS1
    clear hS1
    go_wp2_with (first
    | (refine st_box hS (by rfl) 75 (.tmp 0) (by rfl) _ (by rfl) ?_; clear hS; intro g2 w1 hS _; (simp only [Act.put, List.setIfInBounds_toArray, List.set_cons_zero, List.set_cons_succ]))
    | (refine st_box hS (by rfl) 75 (.tmp 1) (by rfl) _ (by rfl) ?_; clear hS; intro g3 w2 hS _; (simp only [Act.put, List.setIfInBounds_toArray, List.set_cons_zero, List.set_cons_succ]))
    | (refine st_alloc hS (by rfl) 75 (by rfl) _ zero75 ?_; clear hS; intro g4 w3 hS _; (simp only [Act.put, List.setIfInBounds_toArray, List.set_cons_zero, List.set_cons_succ]))
    | (refine st_load hS 2 (by rfl) 75 (.tmp 2) (by rfl) g2 (by rfl) _ 75 rfl _ Tryd.underlying75 rfl size75 ?_; (simp only [Act.put, List.setIfInBounds_toArray, List.set_cons_zero, List.set_cons_succ]))
    | (refine st_load hS 1 (by rfl) 75 (.tmp 3) (by rfl) g3 (by rfl) _ 75 rfl _ Tryd.underlying75 rfl size75 ?_; (simp only [Act.put, List.setIfInBounds_toArray, List.set_cons_zero, List.set_cons_succ]))
    | (refine st_build (by rfl) 75 #[] (by rfl) _ built75 ?_; (simp only [Act.put, List.setIfInBounds_toArray, List.set_cons_zero, List.set_cons_succ]))
    | (refine st_store hS 0 (by rfl) 75 (.tmp 4) (.tmp 19) (by rfl) g4 (by rfl) (rcRow zRc none 0 0) (by rfl) _ 75 rfl size75 rfl (one_rcRow _ _ _ _) ?_; clear hS; intro w5 hS; (simp only [List.set_cons_zero] at hS); (simp only [Act.put])))
    have HB := hS.below
    refine bodyPost_ret (res_cell_tmp rfl _ _ g4 75 _ _ _ rfl (hS.row 0 rfl) Tryd.underlying75 rfl size75 _ rfl) rfl ?_
    exact ⟨rfl, HB⟩
def JoinPost (w : World) (x : Rc) (e : Ending) (w' : World) : Prop := ∃ (a' : Option Addr) (c' : Nat), e = .returned (.tuple #[recV x a' x.votes.length c', .int .i64 0]) ∧ w'.ownsRow w.heap.size 87 2 (.slice a' x.votes.length c') x.votes.length (flatV x.votes) ∧ Below w.heap.size w w'
set_option maxRecDepth 100000 in
set_option maxHeartbeats 8000000 in
/-- what is joined of two that can be. -/
theorem join_ok (r s : Rc) (a b : Option Addr) (c d : Nat) (w : World) (hr : RcN r) (hs : RcN s) (hv : Vts w a r.votes) (hu : Vts w b s.votes) (hl : Laid w) (hpos : 0 < w.heap.size) (h1 : rcOk r = true) (h2 : rcOk s = true) :
    Calls Tryd.prog 63 #[recV r a r.votes.length c, recV s b s.votes.length d] w fun e w' => JoinPost w (joinR r s) e w' := by
  have hS := St.start w
  have hA := fun W => rcRightC r a c W hr.w
  have hB := fun W => rcRightC s b d W hs.w
  rw [h1] at hA
  rw [h2] at hB
  rw [recV_row] at hA hB ⊢
  rw [recV_row] at ⊢
  go_enter Tryd.func63, Tryd.ntmps63
  go_upto_block 0 with (first
      | (refine st_box hS (by rfl) 75 (.tmp 0) (by rfl) _ (by rfl) ?_; clear hS; intro g2 w1 hS _; (simp only [Act.put, List.setIfInBounds_toArray, List.set_cons_zero, List.set_cons_succ]))
      | (refine st_box hS (by rfl) 75 (.tmp 1) (by rfl) _ (by rfl) ?_; clear hS; intro g3 w2 hS _; (simp only [Act.put, List.setIfInBounds_toArray, List.set_cons_zero, List.set_cons_succ]))
      | (refine st_alloc hS (by rfl) 75 (by rfl) _ zero75 ?_; clear hS; intro g4 w3 hS _; (simp only [Act.put, List.setIfInBounds_toArray, List.set_cons_zero, List.set_cons_succ])))
  go_cut [10] (fun _ wx => ∃ (R S : Rc) (aR aS : Option Addr) (cR cS : Nat), joinR r s = jn R S ∧ RcN R ∧ RcN S ∧ rcOk R = true ∧ rcOk S = true ∧ Vts w aR R.votes ∧ Vts w aS S.votes ∧ St w wx [(g4, rcRow zRc none 0 0, 75), (g3, rcRow S aS S.votes.length cS, 75), (g2, rcRow R aR R.votes.length cR, 75)])
  case first =>
    have hA := hA w3 (hv.below hS.below) (hl.below hS.below hpos) (by have := hS.below.size; omega)
    go_wp2_with (first
      | (refine st_load hS 2 (by rfl) 75 (.tmp 2) (by rfl) g2 (by rfl) _ 75 rfl _ Tryd.underlying75 rfl size75 ?_; (simp only [Act.put, List.setIfInBounds_toArray, List.set_cons_zero, List.set_cons_succ]))
      | (refine st_load hS 1 (by rfl) 75 (.tmp 3) (by rfl) g3 (by rfl) _ 75 rfl _ Tryd.underlying75 rfl size75 ?_; (simp only [Act.put, List.setIfInBounds_toArray, List.set_cons_zero, List.set_cons_succ]))
      | (refine st_store hS 2 (by rfl) 75 (.tmp 2) (.tmp 26) (by rfl) g2 (by rfl) (rcRow s b s.votes.length d) (by rfl) _ 75 rfl size75 rfl (one_rcRow _ _ _ _) ?_; clear hS; intro w6 hS; (simp only [List.set_cons_zero, List.set_cons_succ] at hS); (simp only [Act.put]))
      | (refine st_store hS 1 (by rfl) 75 (.tmp 3) (.tmp 33) (by rfl) g3 (by rfl) (rcRow r a r.votes.length c) (by rfl) _ 75 rfl size75 rfl (one_rcRow _ _ _ _) ?_; clear hS; intro w6 hS; (simp only [List.set_cons_zero, List.set_cons_succ] at hS); (simp only [Act.put])))
    refine hA.mono ?_
    rintro e w4 ⟨rfl, hb⟩
    have hS1 := hS.call hb
    clear hS hA hb
    have hS := hS1
    clear hS1
    have hB := hB w4 (hu.below hS.below) (hl.below hS.below hpos) (by have := hS.below.size; omega)
    go_wp2_with (first
      | (refine st_load hS 2 (by rfl) 75 (.tmp 2) (by rfl) g2 (by rfl) _ 75 rfl _ Tryd.underlying75 rfl size75 ?_; (simp only [Act.put, List.setIfInBounds_toArray, List.set_cons_zero, List.set_cons_succ]))
      | (refine st_load hS 1 (by rfl) 75 (.tmp 3) (by rfl) g3 (by rfl) _ 75 rfl _ Tryd.underlying75 rfl size75 ?_; (simp only [Act.put, List.setIfInBounds_toArray, List.set_cons_zero, List.set_cons_succ]))
      | (refine st_store hS 2 (by rfl) 75 (.tmp 2) (.tmp 26) (by rfl) g2 (by rfl) (rcRow s b s.votes.length d) (by rfl) _ 75 rfl size75 rfl (one_rcRow _ _ _ _) ?_; clear hS; intro w6 hS; (simp only [List.set_cons_zero, List.set_cons_succ] at hS); (simp only [Act.put]))
      | (refine st_store hS 1 (by rfl) 75 (.tmp 3) (.tmp 33) (by rfl) g3 (by rfl) (rcRow r a r.votes.length c) (by rfl) _ 75 rfl size75 rfl (one_rcRow _ _ _ _) ?_; clear hS; intro w6 hS; (simp only [List.set_cons_zero, List.set_cons_succ] at hS); (simp only [Act.put])))
    refine hB.mono ?_
    rintro e w5 ⟨rfl, hb⟩
    have hS1 := hS.call hb
    clear hS hB hb
    have hS := hS1
    clear hS1
    have q1 := cell_gen (hS.row 2 rfl)
    have q2 := cell_gen (hS.row 1 rfl)
    rcases Int.lt_trichotomy r.gen s.gen with hlt | heq | hgt
    · have HJ : Hid (joinR r s = jn s s) := Lib.hid (by unfold joinR; rw [if_pos hlt])
      have d1 : decide (r.gen < s.gen) = true := decide_eq_true hlt
      clear hlt
      go_wp2_with (first
      | (refine st_load hS 2 (by rfl) 75 (.tmp 2) (by rfl) g2 (by rfl) _ 75 rfl _ Tryd.underlying75 rfl size75 ?_; (simp only [Act.put, List.setIfInBounds_toArray, List.set_cons_zero, List.set_cons_succ]))
      | (refine st_load hS 1 (by rfl) 75 (.tmp 3) (by rfl) g3 (by rfl) _ 75 rfl _ Tryd.underlying75 rfl size75 ?_; (simp only [Act.put, List.setIfInBounds_toArray, List.set_cons_zero, List.set_cons_succ]))
      | (refine st_store hS 2 (by rfl) 75 (.tmp 2) (.tmp 26) (by rfl) g2 (by rfl) (rcRow s b s.votes.length d) (by rfl) _ 75 rfl size75 rfl (one_rcRow _ _ _ _) ?_; clear hS; intro w6 hS; (simp only [List.set_cons_zero, List.set_cons_succ] at hS); (simp only [Act.put]))
      | (refine st_store hS 1 (by rfl) 75 (.tmp 3) (.tmp 33) (by rfl) g3 (by rfl) (rcRow r a r.votes.length c) (by rfl) _ 75 rfl size75 rfl (one_rcRow _ _ _ _) ?_; clear hS; intro w6 hS; (simp only [List.set_cons_zero, List.set_cons_succ] at hS); (simp only [Act.put])))
      go_meet
      case rel => exact ⟨s, s, b, b, d, d, HJ.out, hs, hs, h2, h2, hu, hu, hS⟩
    · have HJ : Hid (joinR r s = jn r s) := Lib.hid (by unfold joinR; rw [if_neg (by omega), if_neg (by omega)])
      have d1 : decide (r.gen < s.gen) = false := decide_eq_false (by omega)
      have d2 : decide (s.gen < r.gen) = false := decide_eq_false (by omega)
      clear heq
      go_wp2_with (first
      | (refine st_load hS 2 (by rfl) 75 (.tmp 2) (by rfl) g2 (by rfl) _ 75 rfl _ Tryd.underlying75 rfl size75 ?_; (simp only [Act.put, List.setIfInBounds_toArray, List.set_cons_zero, List.set_cons_succ]))
      | (refine st_load hS 1 (by rfl) 75 (.tmp 3) (by rfl) g3 (by rfl) _ 75 rfl _ Tryd.underlying75 rfl size75 ?_; (simp only [Act.put, List.setIfInBounds_toArray, List.set_cons_zero, List.set_cons_succ]))
      | (refine st_store hS 2 (by rfl) 75 (.tmp 2) (.tmp 26) (by rfl) g2 (by rfl) (rcRow s b s.votes.length d) (by rfl) _ 75 rfl size75 rfl (one_rcRow _ _ _ _) ?_; clear hS; intro w6 hS; (simp only [List.set_cons_zero, List.set_cons_succ] at hS); (simp only [Act.put]))
      | (refine st_store hS 1 (by rfl) 75 (.tmp 3) (.tmp 33) (by rfl) g3 (by rfl) (rcRow r a r.votes.length c) (by rfl) _ 75 rfl size75 rfl (one_rcRow _ _ _ _) ?_; clear hS; intro w6 hS; (simp only [List.set_cons_zero, List.set_cons_succ] at hS); (simp only [Act.put])))
      go_meet
      case rel => exact ⟨r, s, a, b, c, d, HJ.out, hr, hs, h1, h2, hv, hu, hS⟩
    · have HJ : Hid (joinR r s = jn r r) := Lib.hid (by unfold joinR; rw [if_neg (by omega), if_pos hgt])
      have d1 : decide (r.gen < s.gen) = false := decide_eq_false (by omega)
      have d2 : decide (s.gen < r.gen) = true := decide_eq_true hgt
      clear hgt
      go_wp2_with (first
      | (refine st_load hS 2 (by rfl) 75 (.tmp 2) (by rfl) g2 (by rfl) _ 75 rfl _ Tryd.underlying75 rfl size75 ?_; (simp only [Act.put, List.setIfInBounds_toArray, List.set_cons_zero, List.set_cons_succ]))
      | (refine st_load hS 1 (by rfl) 75 (.tmp 3) (by rfl) g3 (by rfl) _ 75 rfl _ Tryd.underlying75 rfl size75 ?_; (simp only [Act.put, List.setIfInBounds_toArray, List.set_cons_zero, List.set_cons_succ]))
      | (refine st_store hS 2 (by rfl) 75 (.tmp 2) (.tmp 26) (by rfl) g2 (by rfl) (rcRow s b s.votes.length d) (by rfl) _ 75 rfl size75 rfl (one_rcRow _ _ _ _) ?_; clear hS; intro w6 hS; (simp only [List.set_cons_zero, List.set_cons_succ] at hS); (simp only [Act.put]))
      | (refine st_store hS 1 (by rfl) 75 (.tmp 3) (.tmp 33) (by rfl) g3 (by rfl) (rcRow r a r.votes.length c) (by rfl) _ 75 rfl size75 rfl (one_rcRow _ _ _ _) ?_; clear hS; intro w6 hS; (simp only [List.set_cons_zero, List.set_cons_succ] at hS); (simp only [Act.put])))
      go_meet
      case rel => exact ⟨r, r, a, a, c, c, HJ.out, hr, hr, h1, h1, hv, hv, hS⟩
  case rest =>
    obtain ⟨R, S, aR, aS, cR, cS, hJ, hR, hSn, k1, k2, hvR, hvS, hS⟩ := hcut
    have HJ := Lib.hid hJ
    have K1 := Lib.hid k1
    have K2 := Lib.hid k2
    clear hA hB hr hs hv hu h1 h2 hJ k1 k2
    have q1 := cell_gen (hS.row 2 rfl)
    have q2 := cell_life (hS.row 2 rfl)
    have q3 := cell_life (hS.row 1 rfl)
    have q4 := cell_done (hS.row 2 rfl)
    have q5 := cell_done (hS.row 1 rfl)
    obtain ⟨L, hL⟩ : ∃ L : Int, (if R.life < S.life then S.life else R.life) = L := ⟨_, rfl⟩
    go_upto_region 8 with (first
      | (refine st_build (by rfl) 75 #[(0, .tmp 35), (1, .tmp 40), (4, .tmp 45)] (by rfl) (rcRow ⟨R.gen, L, zSpc, [], bits BinOp.or .i64 R.done S.done⟩ none 0 0) (by kernel_rfl) ?_; (simp only [Act.put, List.setIfInBounds_toArray, List.set_cons_zero, List.set_cons_succ]))
      | (refine st_alloc hS (by rfl) 75 (by rfl) _ zero75 ?_; clear hS; intro g6 w7 hS _; (simp only [Act.put, List.setIfInBounds_toArray, List.set_cons_zero, List.set_cons_succ]))
      | (refine st_store hS 0 (by rfl) 75 (.tmp 6) (.tmp 46) (by rfl) g6 (by rfl) (rcRow ⟨R.gen, L, zSpc, [], bits BinOp.or .i64 R.done S.done⟩ none 0 0) (by rfl) _ 75 rfl size75 rfl (one_rcRow _ _ _ _) ?_; clear hS; intro w8 hS; (simp only [List.set_cons_zero] at hS); (simp only [Act.put])))
    have HL := Lib.hid hL
    clear hL
    have p1 := range_spec (hS.row 3 rfl)
    have p2 := range_spec (hS.row 2 rfl)
    have hc : Calls Tryd.prog 95 #[spcV R.spec, spcV S.spec, .func (.func 94) #[spcV R.spec] #[]] w8 fun e w' => e = .returned (spcV (spj R.spec S.spec)) ∧ Below w8.heap.size w8 w' := slastC R.spec S.spec R.spec w8 hR.bytes hSn.bytes (rcOk_num hR.w K1.out) (rcOk_num hSn.w K2.out)
    simp only [spcV_row] at hc
    clear q1 q2 q3 q4 q5
    go_wp2_with (first
      | (refine st_part (by rfl) 72 (.tmp 47) (by rfl) g2 2 (by rfl) (spRow R.spec) p1 _ Tryd.underlying72 rfl size72 ?_; (simp only [Act.put, List.setIfInBounds_toArray, List.set_cons_zero, List.set_cons_succ]))
      | (refine st_part (by rfl) 72 (.tmp 50) (by rfl) g2 2 (by rfl) (spRow R.spec) p1 _ Tryd.underlying72 rfl size72 ?_; (simp only [Act.put, List.setIfInBounds_toArray, List.set_cons_zero, List.set_cons_succ]))
      | (refine st_part (by rfl) 72 (.tmp 52) (by rfl) g3 2 (by rfl) (spRow S.spec) p2 _ Tryd.underlying72 rfl size72 ?_; (simp only [Act.put, List.setIfInBounds_toArray, List.set_cons_zero, List.set_cons_succ])))
    refine hc.mono ?_
    rintro e w9 ⟨rfl, hb⟩
    have hS1 := hS.call hb
    clear hS hb hc p1 p2
    have hS := hS1
    clear hS1
    go_upto_region 10 with (first
      | (refine st_puts hS 0 (by rfl) 72 (.tmp 56) (.tmp 55) (by rfl) g6 2 (by rfl) (spRow (spj R.spec S.spec)) (by rfl) _ 75 rfl rfl (one_spRow _) size72 ?_; clear hS; intro w10 hS; (simp only [List.set_cons_zero, put_spec] at hS); (simp only [Act.put])))
    have q1 := cell_votes (hS.row 3 rfl)
    have q2 := cell_votes (hS.row 2 rfl)
    have m1 := hvR.1
    have m2 := hvS.1
    obtain ⟨N, hN⟩ : ∃ N : Nat, N = max R.votes.length S.votes.length := ⟨_, rfl⟩
    have hmx : (if (R.votes.length : Int) < (S.votes.length : Int) then (S.votes.length : Int) else (R.votes.length : Int)) = (N : Int) := by
      split <;> omega
    have hN2 : N ≤ 8796093022208 := by omega
    have HN := Lib.hid hN
    clear hN
    have HM := Lib.hid hmx
    clear hmx
    go_wp2_with (first
      | (refine wpList_val (by rfl) ((run_maxI _ _ _ (.tmp 59) (.tmp 62) (by rfl) (R.votes.length : Int) (S.votes.length : Int) (by rfl) (by rfl)).trans (by rw [HM.out])) ?_; (simp only [Act.put, List.setIfInBounds_toArray, List.set_cons_zero, List.set_cons_succ])))
    clear q1 q2 m1 m2
    go_loopw [64] (fun i wr => ∃ (k : Nat) (aV : Option Addr) (cV : Nat), k ≤ N ∧ i = .int .i64 k ∧ wr.ownsRow w.heap.size 87 2 (.slice aV k cV) k (flatV (votesTo R.votes S.votes k)) ∧ St w wr [(g6, rcRow ⟨R.gen, L, spj R.spec S.spec, [], bits BinOp.or .i64 R.done S.done⟩ aV k cV, 75), (g4, rcRow zRc none 0 0, 75), (g3, rcRow S aS S.votes.length cS, 75), (g2, rcRow R aR R.votes.length cR, 75)]) (fun i _ => N - (intOf i).toNat)
    case atStart => exact ⟨0, none, 0, Nat.zero_le _, rfl, World.ownsRow_nil _ _ _ _, hS⟩
    case round =>
      clear hS
      obtain ⟨k, aV, cV, hkN, rfl, hown, hS⟩ := hrel
      by_cases hlt : k < N
      · have hc := voteC R aR cR k wr (hvR.below hS.below)
        have hcS := fun (W : World) (hW : Below w.heap.size w W) => voteC S aS cS k W (hvS.below hW)
        have hcL : ∀ W, Calls Tryd.prog 97 #[votV (R.votes.getD k vt0), votV (S.votes.getD k vt0), .func (.func 98) #[votV (R.votes.getD k vt0)] #[]] W fun e w' => e = .returned (votV (lv (R.votes.getD k vt0) (S.votes.getD k vt0))) ∧ Below W.heap.size W w' := fun W => vlastC _ _ _ W
        have HV : Hid (votesTo R.votes S.votes (k + 1) = votesTo R.votes S.votes k ++ [lv (R.votes.getD k vt0) (S.votes.getD k vt0)]) := Lib.hid (votesTo_succ _ _ _)
        rw [recV_row] at hc
        simp only [recV_row] at hcS
        rw [votV_row] at hc
        simp only [votV_row] at hcS hcL
        have HM2 := Lib.hid hkN
        clear hvR hvS
        generalize R.votes.getD k vt0 = v at *
        generalize S.votes.getD k vt0 = u at *
        go_upto_region 14 with (first
      | (refine st_load hS 3 (by rfl) 75 (.tmp 2) (by rfl) g2 (by rfl) _ 75 rfl _ Tryd.underlying75 rfl size75 ?_; (simp only [Act.put, List.setIfInBounds_toArray, List.set_cons_zero, List.set_cons_succ])))
        refine hc.mono ?_
        rintro e w12 ⟨rfl, hb⟩
        have hS1 := hS.call hb
        have hown1 := own_below hown hb
        clear hS hb hc hown
        have hS := hS1
        clear hS1
        go_upto_region 14 with (first
      | (refine st_allocE hS (by rfl) 87 (by rfl) _ zero87 ?_; clear hS; intro g9 w13 hS hbA hge; (simp only [Act.put, List.setIfInBounds_toArray, List.set_cons_zero, List.set_cons_succ]))
      | (refine st_storeE hS 0 (by rfl) 87 (.tmp 9) (.tmp 69) (by rfl) g9 (by rfl) (vtRow v) (by rfl) _ 87 rfl size87 rfl (one_vtRow _) ?_; clear hS; intro w14 hS HE; (simp only [List.set_cons_zero] at hS); (simp only [Act.put])))
        have hown2 := own_below hown1 hbA
        have hne9 := own_far hown1 hge
        have hown3 := own_setRow hown2 hne9 (vtRow v)
        rw [← HE.out] at hown3
        have hS2 := hS.drew
        have hown4 := hown3.drew
        have row9 := hS2.row 0 rfl
        have row3 := hS2.row 3 rfl
        refine wp_region_held (S := fun W => W.heap[g9]? = some (.cells (vtRow v) 87 (0, 0)) ∧ W.heap[g3]? = some (.cells (rcRow S aS S.votes.length cS) 75 (0, 0))) (by kernel_rfl) ?_
        change wpAnyH Tryd.prog .any _ _ _ (12 + 1) (Array.replicate 13 false) _ w14.drew
        clear hS hown1 hown2 hown3 HE hge hbA
        generalize w14.drew = w15 at *
        refine takeH 0 (some 70) rfl rfl (by kernel_rfl) (by kernel_rfl) (by kernel_rfl) (fun _ _ _ h => h) (v := .pointer (some ⟨g6, 22, none⟩)) (.inl ⟨by rfl, fun w _ => rfl⟩) ⟨row9, row3⟩ ?_
        (simp only [Act.put, List.setIfInBounds_toArray, List.set_cons_zero, List.set_cons_succ])
        refine takeH 2 (some 72) rfl rfl (by kernel_rfl) (by kernel_rfl) (by kernel_rfl) (fun _ _ _ h => h) (yields_row (by rfl) 87 (.tmp 9) (by rfl) g9 (by rfl) (vtRow v) 87 (fun _ h => h.1) _ Tryd.underlying87 rfl size87) ⟨row9, row3⟩ ?_
        (simp only [Act.put, List.setIfInBounds_toArray, List.set_cons_zero, List.set_cons_succ])
        refine takeH 3 (some 73) rfl rfl (by kernel_rfl) (by kernel_rfl) (by kernel_rfl) (fun _ _ _ h => h) (yields_row (by rfl) 75 (.tmp 3) (by rfl) g3 (by rfl) (rcRow S aS S.votes.length cS) 75 (fun _ h => h.2) _ Tryd.underlying75 rfl size75) ⟨row9, row3⟩ ?_
        (simp only [Act.put, List.setIfInBounds_toArray, List.set_cons_zero, List.set_cons_succ])
        refine takeH 4 (some 74) rfl rfl (by kernel_rfl) (by kernel_rfl) (by kernel_rfl) (fun _ _ _ h => h) (v := .int .i64 k) (.inl ⟨by rfl, fun w _ => rfl⟩) ⟨row9, row3⟩ ?_
        (simp only [Act.put, List.setIfInBounds_toArray, List.set_cons_zero, List.set_cons_succ])
        refine takeH 6 (some 76) rfl rfl (by kernel_rfl) (by kernel_rfl) (by kernel_rfl) (fun _ _ _ h => h) (yields_row (by rfl) 87 (.tmp 9) (by rfl) g9 (by rfl) (vtRow v) 87 (fun _ h => h.1) _ Tryd.underlying87 rfl size87) ⟨row9, row3⟩ ?_
        (simp only [Act.put, List.setIfInBounds_toArray, List.set_cons_zero, List.set_cons_succ])
        refine takeH 7 (some 77) rfl rfl (by kernel_rfl) (by kernel_rfl) (by kernel_rfl) (fun _ _ _ h => h) (v := .func (.func 98) #[.agg (vtRow v)] #[]) (.inl ⟨by rfl, fun w _ => run_mkfunc w _ _ 98 (.tmp 76) rfl _ (by rfl)⟩) ⟨row9, row3⟩ ?_
        (simp only [Act.put, List.setIfInBounds_toArray, List.set_cons_zero, List.set_cons_succ])
        refine wpAnyH_all (rs := [1, 5]) (by kernel_rfl) (by simp) ?_
        intro i hi
        have hi' : i = 1 ∨ i = 5 := by simpa using hi
        clear hi
        rcases hi' with rfl | rfl
        · refine wpOp_val (some 71) rfl rfl (by kernel_rfl) (run_load1 _ _ _ 73 (.tmp 70) rfl ⟨g6, 22, none⟩ (by rfl) (.slice aV k cV) (cell_votes (hS2.row 1 rfl)) agg73) ?_
          refine ⟨⟨hS2.row 0 rfl, hS2.row 3 rfl⟩, ?_⟩
          (simp only [Act.put, List.setIfInBounds_toArray, List.set_cons_zero, List.set_cons_succ])
          refine wpAnyH_all (rs := [5]) (by kernel_rfl) (by simp) ?_
          intro i hi
          obtain rfl : i = 5 := by simpa using hi
          clear hi
          refine wpOp_call (some 75) rfl rfl (by kernel_rfl) (run_callv _ _ _ 96 [.tmp 73, .tmp 74] _ rfl Tryd.call96 [.agg (rcRow S aS S.votes.length cS), .int .i64 k] (by rfl)) (hcS _ hS2.below) ?_
          intro w21 hb22
          have hS23 := hS2.call hb22
          have ho24 := own_below hown4 hb22
          refine ⟨⟨hS23.row 0 rfl, hS23.row 3 rfl⟩, ?_⟩
          (simp only [Act.put, List.setIfInBounds_toArray, List.set_cons_zero, List.set_cons_succ])
          refine wpAnyH_all (rs := [8]) (by kernel_rfl) (by simp) ?_
          intro i hi
          obtain rfl : i = 8 := by simpa using hi
          clear hi
          refine wpOp_call (some 78) rfl rfl (by kernel_rfl) (run_callv _ _ _ 97 [.tmp 72, .tmp 75, .tmp 77] _ rfl Tryd.call97 [.agg (vtRow v), .agg (vtRow u), .func (.func 98) #[.agg (vtRow v)] #[]] (by rfl)) (hcL _) ?_
          intro w25 hb26
          have hS27 := hS23.call hb26
          have ho28 := own_below ho24 hb26
          refine ⟨⟨hS27.row 0 rfl, hS27.row 3 rfl⟩, ?_⟩
          (simp only [Act.put, List.setIfInBounds_toArray, List.set_cons_zero, List.set_cons_succ])
          refine wpAnyH_all (rs := [9]) (by kernel_rfl) (by simp) ?_
          intro i hi
          obtain rfl : i = 9 := by simpa using hi
          clear hi
          refine wpOp_val (some 79) rfl rfl (by kernel_rfl) (run_bslice _ _ _ (.tmp 78) rfl (lv v u) (by rfl)) ?_
          have hS29 := hS27.alloc (vtRow (lv v u)) 87
          have ho30 := own_below ho28 ((Below.refl _ _).alloc (Nat.le_refl _) (.cells (vtRow (lv v u)) 87))
          refine ⟨⟨hS29.row 1 rfl, hS29.row 4 rfl⟩, ?_⟩
          (simp only [Act.put, List.setIfInBounds_toArray, List.set_cons_zero, List.set_cons_succ])
          generalize w25.heap.size = gN at *
          generalize w25.alloc (.cells (vtRow (lv v u)) 87) = w31 at *
          refine wpAnyH_all (rs := [10]) (by kernel_rfl) (by simp) ?_
          intro i hi
          obtain rfl : i = 10 := by simpa using hi
          clear hi
          refine wpOp_append (some 80) rfl rfl (by kernel_rfl) (.tmp 71) (.tmp 79) rfl w.heap.size k (.slice aV k cV) _ (by rfl) ho30 gN (lv v u) (by rfl) (hS29.row 0 rfl) (by have := HM2.out; omega) hS29.below.size ?_
          intro a' c' w32 ho34 hg35
          have hS33 := hS29.drop _ (List.sublist_cons_self _ _)
          have hS36 := hS33.grown hg35 (fun j hj => (ho30.lt j hj).1) (by
            intro x hx
            simp only [List.mem_cons, List.not_mem_nil, or_false] at hx
            rcases hx with rfl | rfl | rfl | rfl | rfl
            · exact hne9
            · exact own_ne ho30 (hS33.row 1 rfl) (by decide)
            · exact own_ne ho30 (hS33.row 2 rfl) (by decide)
            · exact own_ne ho30 (hS33.row 3 rfl) (by decide)
            · exact own_ne ho30 (hS33.row 4 rfl) (by decide))
          refine ⟨⟨hS36.row 0 rfl, hS36.row 3 rfl⟩, ?_⟩
          (simp only [Act.put, List.setIfInBounds_toArray, List.set_cons_zero, List.set_cons_succ])
          refine wpAnyH_all (rs := [11]) (by kernel_rfl) (by simp) ?_
          intro i hi
          obtain rfl : i = 11 := by simpa using hi
          clear hi
          refine wpOp_val (some 81) rfl rfl (by kernel_rfl) (v := .pointer (some ⟨g6, 22, none⟩)) (by rfl) ?_
          refine ⟨⟨hS36.row 0 rfl, hS36.row 3 rfl⟩, ?_⟩
          (simp only [Act.put, List.setIfInBounds_toArray, List.set_cons_zero, List.set_cons_succ])
          refine wpAnyH_all (rs := [12]) (by kernel_rfl) (by simp) ?_
          intro i hi
          obtain rfl : i = 12 := by simpa using hi
          clear hi
          refine wpOp_unit none rfl rfl (by kernel_rfl) (run_store1 _ _ _ 73 (.tmp 81) (.tmp 80) rfl g6 22 (by rfl) (.slice a' (k + 1) c') (by rfl) _ 75 (hS36.row 1 rfl) rfl rfl rfl size73) ?_
          have hS37 := hS36.put 1 rfl 22 (.slice a' (k + 1) c')
          have ho38 := own_setCell ho34 (own_ne ho34 (hS36.row 1 rfl) (by decide)) 22 (.slice a' (k + 1) c')
          simp only [List.set_cons_zero, List.set_cons_succ, put_votes] at hS37
          refine ⟨⟨hS37.row 0 rfl, hS37.row 3 rfl⟩, ?_⟩
          have hSF := hS37.drop _ (List.sublist_cons_self _ _)
          have hoF := ho38
          rw [← flatV_snoc, ← HV.out] at hoF
          have HSF := Lib.hid hSF
          have HOF := Lib.hid hoF
          refine wpAnyH_done (by kernel_rfl) ?_ _
          simp only [Act.put]
          as_aux_lemma =>
            go_wp2_with fail
            go_roundw
            case rel => exact ⟨k + 1, a', c', by omega, by go_num, HOF.out, HSF.out⟩
            case measure => simp [intOf]; omega
        · refine wpOp_call (some 75) rfl rfl (by kernel_rfl) (run_callv _ _ _ 96 [.tmp 73, .tmp 74] _ rfl Tryd.call96 [.agg (rcRow S aS S.votes.length cS), .int .i64 k] (by rfl)) (hcS _ hS2.below) ?_
          intro w39 hb40
          have hS41 := hS2.call hb40
          have ho42 := own_below hown4 hb40
          refine ⟨⟨hS41.row 0 rfl, hS41.row 3 rfl⟩, ?_⟩
          (simp only [Act.put, List.setIfInBounds_toArray, List.set_cons_zero, List.set_cons_succ])
          refine wpAnyH_all (rs := [1, 8]) (by kernel_rfl) (by simp) ?_
          intro i hi
          have hi' : i = 1 ∨ i = 8 := by simpa using hi
          clear hi
          rcases hi' with rfl | rfl
          · refine wpOp_val (some 71) rfl rfl (by kernel_rfl) (run_load1 _ _ _ 73 (.tmp 70) rfl ⟨g6, 22, none⟩ (by rfl) (.slice aV k cV) (cell_votes (hS41.row 1 rfl)) agg73) ?_
            refine ⟨⟨hS41.row 0 rfl, hS41.row 3 rfl⟩, ?_⟩
            (simp only [Act.put, List.setIfInBounds_toArray, List.set_cons_zero, List.set_cons_succ])
            refine wpAnyH_all (rs := [8]) (by kernel_rfl) (by simp) ?_
            intro i hi
            obtain rfl : i = 8 := by simpa using hi
            clear hi
            refine wpOp_call (some 78) rfl rfl (by kernel_rfl) (run_callv _ _ _ 97 [.tmp 72, .tmp 75, .tmp 77] _ rfl Tryd.call97 [.agg (vtRow v), .agg (vtRow u), .func (.func 98) #[.agg (vtRow v)] #[]] (by rfl)) (hcL _) ?_
            intro w43 hb44
            have hS45 := hS41.call hb44
            have ho46 := own_below ho42 hb44
            refine ⟨⟨hS45.row 0 rfl, hS45.row 3 rfl⟩, ?_⟩
            (simp only [Act.put, List.setIfInBounds_toArray, List.set_cons_zero, List.set_cons_succ])
            refine wpAnyH_all (rs := [9]) (by kernel_rfl) (by simp) ?_
            intro i hi
            obtain rfl : i = 9 := by simpa using hi
            clear hi
            refine wpOp_val (some 79) rfl rfl (by kernel_rfl) (run_bslice _ _ _ (.tmp 78) rfl (lv v u) (by rfl)) ?_
            have hS47 := hS45.alloc (vtRow (lv v u)) 87
            have ho48 := own_below ho46 ((Below.refl _ _).alloc (Nat.le_refl _) (.cells (vtRow (lv v u)) 87))
            refine ⟨⟨hS47.row 1 rfl, hS47.row 4 rfl⟩, ?_⟩
            (simp only [Act.put, List.setIfInBounds_toArray, List.set_cons_zero, List.set_cons_succ])
            generalize w43.heap.size = gN at *
            generalize w43.alloc (.cells (vtRow (lv v u)) 87) = w49 at *
            refine wpAnyH_all (rs := [10]) (by kernel_rfl) (by simp) ?_
            intro i hi
            obtain rfl : i = 10 := by simpa using hi
            clear hi
            refine wpOp_append (some 80) rfl rfl (by kernel_rfl) (.tmp 71) (.tmp 79) rfl w.heap.size k (.slice aV k cV) _ (by rfl) ho48 gN (lv v u) (by rfl) (hS47.row 0 rfl) (by have := HM2.out; omega) hS47.below.size ?_
            intro a' c' w50 ho52 hg53
            have hS51 := hS47.drop _ (List.sublist_cons_self _ _)
            have hS54 := hS51.grown hg53 (fun j hj => (ho48.lt j hj).1) (by
              intro x hx
              simp only [List.mem_cons, List.not_mem_nil, or_false] at hx
              rcases hx with rfl | rfl | rfl | rfl | rfl
              · exact hne9
              · exact own_ne ho48 (hS51.row 1 rfl) (by decide)
              · exact own_ne ho48 (hS51.row 2 rfl) (by decide)
              · exact own_ne ho48 (hS51.row 3 rfl) (by decide)
              · exact own_ne ho48 (hS51.row 4 rfl) (by decide))
            refine ⟨⟨hS54.row 0 rfl, hS54.row 3 rfl⟩, ?_⟩
            (simp only [Act.put, List.setIfInBounds_toArray, List.set_cons_zero, List.set_cons_succ])
            refine wpAnyH_all (rs := [11]) (by kernel_rfl) (by simp) ?_
            intro i hi
            obtain rfl : i = 11 := by simpa using hi
            clear hi
            refine wpOp_val (some 81) rfl rfl (by kernel_rfl) (v := .pointer (some ⟨g6, 22, none⟩)) (by rfl) ?_
            refine ⟨⟨hS54.row 0 rfl, hS54.row 3 rfl⟩, ?_⟩
            (simp only [Act.put, List.setIfInBounds_toArray, List.set_cons_zero, List.set_cons_succ])
            refine wpAnyH_all (rs := [12]) (by kernel_rfl) (by simp) ?_
            intro i hi
            obtain rfl : i = 12 := by simpa using hi
            clear hi
            refine wpOp_unit none rfl rfl (by kernel_rfl) (run_store1 _ _ _ 73 (.tmp 81) (.tmp 80) rfl g6 22 (by rfl) (.slice a' (k + 1) c') (by rfl) _ 75 (hS54.row 1 rfl) rfl rfl rfl size73) ?_
            have hS55 := hS54.put 1 rfl 22 (.slice a' (k + 1) c')
            have ho56 := own_setCell ho52 (own_ne ho52 (hS54.row 1 rfl) (by decide)) 22 (.slice a' (k + 1) c')
            simp only [List.set_cons_zero, List.set_cons_succ, put_votes] at hS55
            refine ⟨⟨hS55.row 0 rfl, hS55.row 3 rfl⟩, ?_⟩
            have hSF := hS55.drop _ (List.sublist_cons_self _ _)
            have hoF := ho56
            rw [← flatV_snoc, ← HV.out] at hoF
            have HSF := Lib.hid hSF
            have HOF := Lib.hid hoF
            refine wpAnyH_done (by kernel_rfl) ?_ _
            simp only [Act.put]
            as_aux_lemma =>
              go_wp2_with fail
              go_roundw
              case rel => exact ⟨k + 1, a', c', by omega, by go_num, HOF.out, HSF.out⟩
              case measure => simp [intOf]; omega
          · refine wpOp_call (some 78) rfl rfl (by kernel_rfl) (run_callv _ _ _ 97 [.tmp 72, .tmp 75, .tmp 77] _ rfl Tryd.call97 [.agg (vtRow v), .agg (vtRow u), .func (.func 98) #[.agg (vtRow v)] #[]] (by rfl)) (hcL _) ?_
            intro w57 hb58
            have hS59 := hS41.call hb58
            have ho60 := own_below ho42 hb58
            refine ⟨⟨hS59.row 0 rfl, hS59.row 3 rfl⟩, ?_⟩
            (simp only [Act.put, List.setIfInBounds_toArray, List.set_cons_zero, List.set_cons_succ])
            refine wpAnyH_all (rs := [1, 9]) (by kernel_rfl) (by simp) ?_
            intro i hi
            have hi' : i = 1 ∨ i = 9 := by simpa using hi
            clear hi
            rcases hi' with rfl | rfl
            · refine wpOp_val (some 71) rfl rfl (by kernel_rfl) (run_load1 _ _ _ 73 (.tmp 70) rfl ⟨g6, 22, none⟩ (by rfl) (.slice aV k cV) (cell_votes (hS59.row 1 rfl)) agg73) ?_
              refine ⟨⟨hS59.row 0 rfl, hS59.row 3 rfl⟩, ?_⟩
              (simp only [Act.put, List.setIfInBounds_toArray, List.set_cons_zero, List.set_cons_succ])
              refine wpAnyH_all (rs := [9]) (by kernel_rfl) (by simp) ?_
              intro i hi
              obtain rfl : i = 9 := by simpa using hi
              clear hi
              refine wpOp_val (some 79) rfl rfl (by kernel_rfl) (run_bslice _ _ _ (.tmp 78) rfl (lv v u) (by rfl)) ?_
              have hS61 := hS59.alloc (vtRow (lv v u)) 87
              have ho62 := own_below ho60 ((Below.refl _ _).alloc (Nat.le_refl _) (.cells (vtRow (lv v u)) 87))
              refine ⟨⟨hS61.row 1 rfl, hS61.row 4 rfl⟩, ?_⟩
              (simp only [Act.put, List.setIfInBounds_toArray, List.set_cons_zero, List.set_cons_succ])
              generalize w57.heap.size = gN at *
              generalize w57.alloc (.cells (vtRow (lv v u)) 87) = w63 at *
              refine wpAnyH_all (rs := [10]) (by kernel_rfl) (by simp) ?_
              intro i hi
              obtain rfl : i = 10 := by simpa using hi
              clear hi
              refine wpOp_append (some 80) rfl rfl (by kernel_rfl) (.tmp 71) (.tmp 79) rfl w.heap.size k (.slice aV k cV) _ (by rfl) ho62 gN (lv v u) (by rfl) (hS61.row 0 rfl) (by have := HM2.out; omega) hS61.below.size ?_
              intro a' c' w64 ho66 hg67
              have hS65 := hS61.drop _ (List.sublist_cons_self _ _)
              have hS68 := hS65.grown hg67 (fun j hj => (ho62.lt j hj).1) (by
                intro x hx
                simp only [List.mem_cons, List.not_mem_nil, or_false] at hx
                rcases hx with rfl | rfl | rfl | rfl | rfl
                · exact hne9
                · exact own_ne ho62 (hS65.row 1 rfl) (by decide)
                · exact own_ne ho62 (hS65.row 2 rfl) (by decide)
                · exact own_ne ho62 (hS65.row 3 rfl) (by decide)
                · exact own_ne ho62 (hS65.row 4 rfl) (by decide))
              refine ⟨⟨hS68.row 0 rfl, hS68.row 3 rfl⟩, ?_⟩
              (simp only [Act.put, List.setIfInBounds_toArray, List.set_cons_zero, List.set_cons_succ])
              refine wpAnyH_all (rs := [11]) (by kernel_rfl) (by simp) ?_
              intro i hi
              obtain rfl : i = 11 := by simpa using hi
              clear hi
              refine wpOp_val (some 81) rfl rfl (by kernel_rfl) (v := .pointer (some ⟨g6, 22, none⟩)) (by rfl) ?_
              refine ⟨⟨hS68.row 0 rfl, hS68.row 3 rfl⟩, ?_⟩
              (simp only [Act.put, List.setIfInBounds_toArray, List.set_cons_zero, List.set_cons_succ])
              refine wpAnyH_all (rs := [12]) (by kernel_rfl) (by simp) ?_
              intro i hi
              obtain rfl : i = 12 := by simpa using hi
              clear hi
              refine wpOp_unit none rfl rfl (by kernel_rfl) (run_store1 _ _ _ 73 (.tmp 81) (.tmp 80) rfl g6 22 (by rfl) (.slice a' (k + 1) c') (by rfl) _ 75 (hS68.row 1 rfl) rfl rfl rfl size73) ?_
              have hS69 := hS68.put 1 rfl 22 (.slice a' (k + 1) c')
              have ho70 := own_setCell ho66 (own_ne ho66 (hS68.row 1 rfl) (by decide)) 22 (.slice a' (k + 1) c')
              simp only [List.set_cons_zero, List.set_cons_succ, put_votes] at hS69
              refine ⟨⟨hS69.row 0 rfl, hS69.row 3 rfl⟩, ?_⟩
              have hSF := hS69.drop _ (List.sublist_cons_self _ _)
              have hoF := ho70
              rw [← flatV_snoc, ← HV.out] at hoF
              have HSF := Lib.hid hSF
              have HOF := Lib.hid hoF
              refine wpAnyH_done (by kernel_rfl) ?_ _
              simp only [Act.put]
              as_aux_lemma =>
                go_wp2_with fail
                go_roundw
                case rel => exact ⟨k + 1, a', c', by omega, by go_num, HOF.out, HSF.out⟩
                case measure => simp [intOf]; omega
            · refine wpOp_val (some 79) rfl rfl (by kernel_rfl) (run_bslice _ _ _ (.tmp 78) rfl (lv v u) (by rfl)) ?_
              have hS71 := hS59.alloc (vtRow (lv v u)) 87
              have ho72 := own_below ho60 ((Below.refl _ _).alloc (Nat.le_refl _) (.cells (vtRow (lv v u)) 87))
              refine ⟨⟨hS71.row 1 rfl, hS71.row 4 rfl⟩, ?_⟩
              (simp only [Act.put, List.setIfInBounds_toArray, List.set_cons_zero, List.set_cons_succ])
              generalize w57.heap.size = gN at *
              generalize w57.alloc (.cells (vtRow (lv v u)) 87) = w73 at *
              refine wpAnyH_all (rs := [1]) (by kernel_rfl) (by simp) ?_
              intro i hi
              obtain rfl : i = 1 := by simpa using hi
              clear hi
              refine wpOp_val (some 71) rfl rfl (by kernel_rfl) (run_load1 _ _ _ 73 (.tmp 70) rfl ⟨g6, 22, none⟩ (by rfl) (.slice aV k cV) (cell_votes (hS71.row 2 rfl)) agg73) ?_
              refine ⟨⟨hS71.row 1 rfl, hS71.row 4 rfl⟩, ?_⟩
              (simp only [Act.put, List.setIfInBounds_toArray, List.set_cons_zero, List.set_cons_succ])
              refine wpAnyH_all (rs := [10]) (by kernel_rfl) (by simp) ?_
              intro i hi
              obtain rfl : i = 10 := by simpa using hi
              clear hi
              refine wpOp_append (some 80) rfl rfl (by kernel_rfl) (.tmp 71) (.tmp 79) rfl w.heap.size k (.slice aV k cV) _ (by rfl) ho72 gN (lv v u) (by rfl) (hS71.row 0 rfl) (by have := HM2.out; omega) hS71.below.size ?_
              intro a' c' w74 ho76 hg77
              have hS75 := hS71.drop _ (List.sublist_cons_self _ _)
              have hS78 := hS75.grown hg77 (fun j hj => (ho72.lt j hj).1) (by
                intro x hx
                simp only [List.mem_cons, List.not_mem_nil, or_false] at hx
                rcases hx with rfl | rfl | rfl | rfl | rfl
                · exact hne9
                · exact own_ne ho72 (hS75.row 1 rfl) (by decide)
                · exact own_ne ho72 (hS75.row 2 rfl) (by decide)
                · exact own_ne ho72 (hS75.row 3 rfl) (by decide)
                · exact own_ne ho72 (hS75.row 4 rfl) (by decide))
              refine ⟨⟨hS78.row 0 rfl, hS78.row 3 rfl⟩, ?_⟩
              (simp only [Act.put, List.setIfInBounds_toArray, List.set_cons_zero, List.set_cons_succ])
              refine wpAnyH_all (rs := [11]) (by kernel_rfl) (by simp) ?_
              intro i hi
              obtain rfl : i = 11 := by simpa using hi
              clear hi
              refine wpOp_val (some 81) rfl rfl (by kernel_rfl) (v := .pointer (some ⟨g6, 22, none⟩)) (by rfl) ?_
              refine ⟨⟨hS78.row 0 rfl, hS78.row 3 rfl⟩, ?_⟩
              (simp only [Act.put, List.setIfInBounds_toArray, List.set_cons_zero, List.set_cons_succ])
              refine wpAnyH_all (rs := [12]) (by kernel_rfl) (by simp) ?_
              intro i hi
              obtain rfl : i = 12 := by simpa using hi
              clear hi
              refine wpOp_unit none rfl rfl (by kernel_rfl) (run_store1 _ _ _ 73 (.tmp 81) (.tmp 80) rfl g6 22 (by rfl) (.slice a' (k + 1) c') (by rfl) _ 75 (hS78.row 1 rfl) rfl rfl rfl size73) ?_
              have hS79 := hS78.put 1 rfl 22 (.slice a' (k + 1) c')
              have ho80 := own_setCell ho76 (own_ne ho76 (hS78.row 1 rfl) (by decide)) 22 (.slice a' (k + 1) c')
              simp only [List.set_cons_zero, List.set_cons_succ, put_votes] at hS79
              refine ⟨⟨hS79.row 0 rfl, hS79.row 3 rfl⟩, ?_⟩
              have hSF := hS79.drop _ (List.sublist_cons_self _ _)
              have hoF := ho80
              rw [← flatV_snoc, ← HV.out] at hoF
              have HSF := Lib.hid hSF
              have HOF := Lib.hid hoF
              refine wpAnyH_done (by kernel_rfl) ?_ _
              simp only [Act.put]
              as_aux_lemma =>
                go_wp2_with fail
                go_roundw
                case rel => exact ⟨k + 1, a', c', by omega, by go_num, HOF.out, HSF.out⟩
                case measure => simp [intOf]; omega
      · obtain rfl : k = N := by omega
        have hne := own_ne hown (hS.row 1 rfl) (by decide)
        have HO := Lib.hid hown
        clear hown
        go_wp2_with (first
      | (refine st_load hS 0 (by rfl) 75 (.tmp 6) (by rfl) g6 (by rfl) _ 75 rfl _ Tryd.underlying75 rfl size75 ?_; (simp only [Act.put, List.setIfInBounds_toArray, List.set_cons_zero, List.set_cons_succ]))
      | (refine st_storeE hS 1 (by rfl) 75 (.tmp 4) (.tmp 83) (by rfl) g4 (by rfl) (rcRow ⟨R.gen, L, spj R.spec S.spec, [], bits BinOp.or .i64 R.done S.done⟩ aV k cV) (by rfl) _ 75 rfl size75 rfl (one_rcRow _ _ _ _) ?_; clear hS; intro w11 hS HE; (simp only [List.set_cons_zero, List.set_cons_succ] at hS); (simp only [Act.put])))
        have HB := hS.below
        have hrow := hS.row 1 rfl
        have HO2 := own_setRow HO.out hne (rcRow ⟨R.gen, L, spj R.spec S.spec, [], bits BinOp.or .i64 R.done S.done⟩ aV k cV)
        rw [← HE.out] at HO2
        refine bodyPost_ret (res_cell_tmp rfl _ _ g4 75 _ _ _ rfl hrow Tryd.underlying75 rfl size75 _ rfl) rfl ?_
        have hx : joinR r s = ⟨R.gen, L, spj R.spec S.spec, votesTo R.votes S.votes k, bits BinOp.or .i64 R.done S.done⟩ := by
          rw [HJ.out]; unfold jn; rw [HL.out, ← HN.out]
        rw [hx]
        refine ⟨aV, cV, ?_, ?_, HB⟩
        · rw [votesTo_len]; rfl
        · show World.ownsRow _ _ _ _ (.slice aV (votesTo R.votes S.votes k).length cV) (votesTo R.votes S.votes k).length _
          rw [votesTo_len]; exact HO2
end Go.Proofs.YtniejpfjbifjkaaDoor
