/- Within (66). -/
import Derived.Test.YtniejpfjbifjkaaDoorLx
namespace Go.Proofs.YtniejpfjbifjkaaDoor
open Go.RowKit Fl

def withinR (r s : Rc) : Bool := (rcOk r && rcOk s) && sameR (joinR r s) s
theorem join_len {r s : Rc} (h1 : r.votes.length ≤ 8796093022208) (h2 : s.votes.length ≤ 8796093022208) : (joinR r s).votes.length ≤ 8796093022208 := by
  unfold joinR jn
  (repeat' split) <;> simp only [votesTo_len] <;> omega
set_option maxRecDepth 100000 in
set_option maxHeartbeats 4000000 in
theorem withinC (r s : Rc) (a b : Option Addr) (c d : Nat) (w : World) (hr : RcN r) (hs : RcN s) (hv : Vts w a r.votes) (hu : Vts w b s.votes) (hl : Laid w) (hpos : 0 < w.heap.size) :
    Calls Tryd.prog 66 #[recV r a r.votes.length c, recV s b s.votes.length d] w fun e w' => e = .returned (.bool (withinR r s)) ∧ Below w.heap.size w w' := by
  have hS := St.start w
  cases h : (rcOk r && rcOk s)
  · have HW : Hid (withinR r s = false) := Lib.hid (by unfold withinR; rw [h]; rfl)
    have hJ := fun (W : World) (hB : Below w.heap.size w W) => join_bad r s a b c d W hr hs (hv.below hB) (hu.below hB) (hl.below hB hpos) (by have := hB.size; omega) h
    simp only [recV_row] at hJ ⊢
    go_enter Tryd.func66, Tryd.ntmps66
    go_wp2_with (first
      | (refine st_box hS (by rfl) 75 (.tmp 0) (by rfl) _ (by rfl) ?_; clear hS; intro g2 w1 hS _; (simp only [Act.put, List.setIfInBounds_toArray, List.set_cons_zero, List.set_cons_succ]))
      | (refine st_box hS (by rfl) 75 (.tmp 1) (by rfl) _ (by rfl) ?_; clear hS; intro g3 w2 hS _; (simp only [Act.put, List.setIfInBounds_toArray, List.set_cons_zero, List.set_cons_succ]))
      | (refine st_load hS 1 (by rfl) 75 (.tmp 2) (by rfl) g2 (by rfl) _ 75 rfl _ Tryd.underlying75 rfl size75 ?_; (simp only [Act.put, List.setIfInBounds_toArray, List.set_cons_zero, List.set_cons_succ]))
      | (refine st_load hS 0 (by rfl) 75 (.tmp 3) (by rfl) g3 (by rfl) _ 75 rfl _ Tryd.underlying75 rfl size75 ?_; (simp only [Act.put, List.setIfInBounds_toArray, List.set_cons_zero, List.set_cons_succ])))
    refine (hJ _ hS.below).mono ?_
    rintro e w3 ⟨rfl, hb⟩
    have hS1 := hS.call hb
    clear hS hb hJ
    have hS := hS1
    clear hS1
    go_wp2_with (first
      | (refine st_alloc hS (by rfl) 75 (by rfl) _ zero75 ?_; clear hS; intro g5 w4 hS _; (simp only [Act.put, List.setIfInBounds_toArray, List.set_cons_zero, List.set_cons_succ]))
      | (refine st_store hS 0 (by rfl) 75 (.tmp 5) (.tmp 11) (by rfl) g5 (by rfl) (rcRow zRc none 0 0) (by rfl) _ 75 rfl size75 rfl (one_rcRow _ _ _ _) ?_; clear hS; intro w5 hS; (simp only [List.set_cons_zero] at hS); (simp only [Act.put])))
    have HB := hS.below
    go_ret
    exact ⟨by rw [HW.out]; rfl, HB⟩
  · have hW : withinR r s = sameR (joinR r s) s := by unfold withinR; rw [h]; rfl
    rw [Bool.and_eq_true] at h
    have hJ := fun (W : World) (hB : Below w.heap.size w W) => join_ok r s a b c d W hr hs (hv.below hB) (hu.below hB) (hl.below hB hpos) (by have := hB.size; omega) h.1 h.2
    have hm := join_len hv.1 hu.1
    have HW := Lib.hid hW
    have HU := Lib.hid hu
    clear hW hu hv
    generalize joinR r s = x at *
    simp only [recV_row] at hJ ⊢
    go_enter Tryd.func66, Tryd.ntmps66
    go_wp2_with (first
      | (refine st_box hS (by rfl) 75 (.tmp 0) (by rfl) _ (by rfl) ?_; clear hS; intro g2 w1 hS _; (simp only [Act.put, List.setIfInBounds_toArray, List.set_cons_zero, List.set_cons_succ]))
      | (refine st_box hS (by rfl) 75 (.tmp 1) (by rfl) _ (by rfl) ?_; clear hS; intro g3 w2 hS _; (simp only [Act.put, List.setIfInBounds_toArray, List.set_cons_zero, List.set_cons_succ]))
      | (refine st_load hS 1 (by rfl) 75 (.tmp 2) (by rfl) g2 (by rfl) _ 75 rfl _ Tryd.underlying75 rfl size75 ?_; (simp only [Act.put, List.setIfInBounds_toArray, List.set_cons_zero, List.set_cons_succ]))
      | (refine st_load hS 0 (by rfl) 75 (.tmp 3) (by rfl) g3 (by rfl) _ 75 rfl _ Tryd.underlying75 rfl size75 ?_; (simp only [Act.put, List.setIfInBounds_toArray, List.set_cons_zero, List.set_cons_succ])))
    refine (hJ _ hS.below).mono ?_
    rintro e w3 ⟨a', c', rfl, ho, hb⟩
    have hS1 := hS.call hb
    clear hS hb hJ
    have hS := hS1
    clear hS1
    have HV := Lib.hid (vts_own ho hm)
    clear ho
    rw [recV_row]
    go_upto_region 2 with (first
      | (refine st_allocE hS (by rfl) 75 (by rfl) _ zero75 ?_; clear hS; intro g5 w4 hS hb4 hge5; (simp only [Act.put, List.setIfInBounds_toArray, List.set_cons_zero, List.set_cons_succ]))
      | (refine st_storeE hS 0 (by rfl) 75 (.tmp 5) (.tmp 11) (by rfl) g5 (by rfl) (rcRow x a' x.votes.length c') (by rfl) _ 75 rfl size75 rfl (one_rcRow _ _ _ _) ?_; clear hS; intro w5 hS HE; (simp only [List.set_cons_zero] at hS); (simp only [Act.put])))
    have hb5 : Below w3.heap.size w3 w5 := by rw [HE.out]; exact below_setRow hb4 hge5 _
    have hq := lsameC x s a' b c' d w5 (HV.out.below hb5) (HU.out.below hS.below)
    simp only [recV_row] at hq
    clear hb4 hb5 HE hge5
    go_wp2_with (first
      | (refine st_load hS 0 (by rfl) 75 (.tmp 5) (by rfl) g5 (by rfl) _ 75 rfl _ Tryd.underlying75 rfl size75 ?_; (simp only [Act.put, List.setIfInBounds_toArray, List.set_cons_zero, List.set_cons_succ]))
      | (refine st_load hS 1 (by rfl) 75 (.tmp 3) (by rfl) g3 (by rfl) _ 75 rfl _ Tryd.underlying75 rfl size75 ?_; (simp only [Act.put, List.setIfInBounds_toArray, List.set_cons_zero, List.set_cons_succ])))
    refine hq.mono ?_
    rintro e w6 ⟨rfl, hb⟩
    have hS1 := hS.call hb
    clear hS hb hq
    have hS := hS1
    clear hS1
    go_wp2_with fail
    have HB := hS.below
    go_ret
    exact ⟨by rw [HW.out]; rfl, HB⟩
end Go.Proofs.YtniejpfjbifjkaaDoor
