/- law12.known (62). -/
import Derived.Test.YtniejpfjbifjkaaDoorLzc
namespace Go.Proofs.YtniejpfjbifjkaaDoor
open Go.RowKit Fl

def ka : Rc := ⟨1, 1, ⟨5, 0, false, fun _ => 0, 4607182418800017408⟩, [], 0⟩
def kb : Rc := ⟨1, 2, ⟨4, 0, false, fun _ => 0, 4607182418800017408⟩, [], 0⟩
def kc : Rc := ⟨2, 1, ⟨6, 0, false, fun _ => 0, 4607182418800017408⟩, [], 0⟩
theorem ka_ok : rcOk ka = true := by decide +kernel
theorem kb_ok : rcOk kb = true := by decide +kernel
theorem kc_ok : rcOk kc = true := by decide +kernel
theorem kj_ok : rcOk (joinR ka kb) = true := by decide +kernel
theorem kj_life : (joinR ka kb).life = 2 := by decide +kernel
theorem kj_st : (joinR ka kb).spec.st = 5 := by decide +kernel
theorem kj_w : (joinR ka kb).spec.w = 4607182418800017408 := by decide +kernel
theorem kj_b (i : Nat) : (joinR ka kb).spec.b i = 0 := by
  have h : (joinR ka kb).spec = ka.spec := by
    have : ordS ka.spec kb.spec = 1 := by decide +kernel
    unfold joinR
    rw [if_neg (by decide), if_neg (by decide)]
    unfold jn spj
    rw [this]; rfl
  rw [h]; rfl
theorem kk_gen : (joinR (joinR ka kb) kc).gen = 2 := by decide +kernel
theorem kk_life : (joinR (joinR ka kb) kc).life = 1 := by decide +kernel
theorem k_votes : (joinR ka kb).votes.length = 0 := by decide +kernel
theorem k_well : wellOk ka 3 = true := by decide +kernel
theorem k_over : overOk ka 3 = false := by decide +kernel
theorem vts_nil (w : World) (a : Option Addr) : Vts w a [] := ⟨by simp, fun i hi => by simp at hi⟩
theorem vts_zero {l : List (Int × Bool)} (h : l.length = 0) (w : World) (a : Option Addr) : Vts w a l := ⟨by omega, fun i hi => by omega⟩
theorem kaN : RcN ka := ⟨by decide, fun _ => ⟨Int.le_refl 0, (by decide : (0 : Int) < 256)⟩⟩
theorem kbN : RcN kb := ⟨by decide, fun _ => ⟨Int.le_refl 0, (by decide : (0 : Int) < 256)⟩⟩
theorem kcN : RcN kc := ⟨by decide, fun _ => ⟨Int.le_refl 0, (by decide : (0 : Int) < 256)⟩⟩
theorem kjN : RcN (joinR ka kb) := ⟨by rw [kj_w]; decide, fun i => by rw [kj_b]; decide⟩
theorem cell_st0 {w : World} {g : Nat} {r : Rc} {a : Option Addr} {n c : Nat} {t : TypeId} {fr : Nat × Nat} (h : w.heap[g]? = some (.cells (rcRow r a n c) t fr)) : w.cell? ⟨g, 2, none⟩ = some (.int .i64 r.spec.st) := cell_st h
set_option maxRecDepth 100000 in
set_option maxHeartbeats 4000000 in
theorem known12 (w : World) (hl : Laid w) (hpos : 0 < w.heap.size) : Calls Tryd.prog 62 #[] w fun e w' => e = .returned (.bool true) ∧ Below w.heap.size w w' := by
  have hS := St.start w
  have hJ1 := fun (W : World) (hB : Below w.heap.size w W) => join_ok ka kb none none 0 0 W kaN kbN (vts_nil _ _) (vts_nil _ _) (hl.below hB hpos) (by have := hB.size; omega) ka_ok kb_ok
  have hJ2 := fun (W : World) (a : Option Addr) (c : Nat) (hB : Below w.heap.size w W) (hv : Vts W a (joinR ka kb).votes) => join_ok (joinR ka kb) kc a none c 0 W kjN kcN hv (vts_nil _ _) (hl.below hB hpos) (by have := hB.size; omega) kj_ok kc_ok
  have hW := fun (W : World) (hB : Below w.heap.size w W) => wellC ka none 0 3 W (by decide) (vts_nil _ _) (hl.below hB hpos) (by have := hB.size; omega)
  have hO := fun (W : World) (hB : Below w.heap.size w W) => overC ka none 0 3 W (by decide) (vts_nil _ _) (hl.below hB hpos) (by have := hB.size; omega)
  rw [k_well] at hW
  rw [k_over] at hO
  simp only [recV_row, show ka.votes.length = 0 from rfl, show kb.votes.length = 0 from rfl, show kc.votes.length = 0 from rfl] at hJ1 hJ2 hW hO
  have f1 := kj_life
  have f2 := kj_st
  have f3 := kk_gen
  have f4 := kk_life
  have f5 := k_votes
  have e1 := Lib.hid f1
  have e2 := Lib.hid f2
  have e3 := Lib.hid f3
  have e4 := Lib.hid f4
  have hvl := Lib.hid f5
  clear f1 f2 f3 f4 f5
  generalize joinR ka kb = j at *
  generalize joinR j kc = k at *
  go_enter Tryd.func62, Tryd.ntmps62
  go_upto_region 2 with (first
    | (refine st_build (by rfl) 72 #[(0, .const (.int .i64 5)), (3, .const (.float .f64 4607182418800017408))] (by rfl) (spRow ka.spec) (by kernel_rfl) ?_; (simp only [Act.put, List.setIfInBounds_toArray, List.set_cons_zero, List.set_cons_succ]))
    | (refine st_build (by rfl) 75 #[(0, .const (.int .i64 1)), (1, .const (.int .i64 1)), (2, .tmp 8)] (by rfl) (rcRow ka none 0 0) (by kernel_rfl) ?_; (simp only [Act.put, List.setIfInBounds_toArray, List.set_cons_zero, List.set_cons_succ]))
    | (refine st_alloc hS (by rfl) 75 (by rfl) _ zero75 ?_; clear hS; intro g1 w1 hS _; (simp only [Act.put, List.setIfInBounds_toArray, List.set_cons_zero, List.set_cons_succ]))
    | (refine st_store hS 0 (by rfl) 75 (.tmp 1) (.tmp 9) (by rfl) g1 (by rfl) (rcRow ka none 0 0) (by rfl) _ 75 rfl size75 rfl (one_rcRow _ _ _ _) ?_; clear hS; intro w2 hS; (simp only [List.set_cons_zero] at hS); (simp only [Act.put])))
  go_upto_region 3 with (first
    | (refine st_build (by rfl) 72 #[(0, .const (.int .i64 4)), (3, .const (.float .f64 4607182418800017408))] (by rfl) (spRow kb.spec) (by kernel_rfl) ?_; (simp only [Act.put, List.setIfInBounds_toArray, List.set_cons_zero, List.set_cons_succ]))
    | (refine st_build (by rfl) 75 #[(0, .const (.int .i64 1)), (1, .const (.int .i64 2)), (2, .tmp 10)] (by rfl) (rcRow kb none 0 0) (by kernel_rfl) ?_; (simp only [Act.put, List.setIfInBounds_toArray, List.set_cons_zero, List.set_cons_succ]))
    | (refine st_alloc hS (by rfl) 75 (by rfl) _ zero75 ?_; clear hS; intro g2 w3 hS _; (simp only [Act.put, List.setIfInBounds_toArray, List.set_cons_zero, List.set_cons_succ]))
    | (refine st_store hS 0 (by rfl) 75 (.tmp 2) (.tmp 11) (by rfl) g2 (by rfl) (rcRow kb none 0 0) (by rfl) _ 75 rfl size75 rfl (one_rcRow _ _ _ _) ?_; clear hS; intro w4 hS; (simp only [List.set_cons_zero] at hS); (simp only [Act.put])))
  go_wp2_with (first
    | (refine st_load hS 1 (by rfl) 75 (.tmp 1) (by rfl) g1 (by rfl) _ 75 rfl _ Tryd.underlying75 rfl size75 ?_; (simp only [Act.put, List.setIfInBounds_toArray, List.set_cons_zero, List.set_cons_succ]))
    | (refine st_load hS 0 (by rfl) 75 (.tmp 2) (by rfl) g2 (by rfl) _ 75 rfl _ Tryd.underlying75 rfl size75 ?_; (simp only [Act.put, List.setIfInBounds_toArray, List.set_cons_zero, List.set_cons_succ])))
  refine (hJ1 _ hS.below).mono ?_
  rintro e w5 ⟨a1, c1, rfl, ho, hb⟩
  have hS1 := hS.call hb
  clear hS hb hJ1 ho
  have hS := hS1
  clear hS1
  rw [recV_row]
  go_upto_region 4 with (first
    | (refine st_alloc hS (by rfl) 75 (by rfl) _ zero75 ?_; clear hS; intro g3 w6 hS _; (simp only [Act.put, List.setIfInBounds_toArray, List.set_cons_zero, List.set_cons_succ]))
    | (refine st_store hS 0 (by rfl) 75 (.tmp 3) (.tmp 16) (by rfl) g3 (by rfl) (rcRow j a1 j.votes.length c1) (by rfl) _ 75 rfl size75 rfl (one_rcRow _ _ _ _) ?_; clear hS; intro w7 hS; (simp only [List.set_cons_zero] at hS); (simp only [Act.put])))
  go_upto_region 5 with (first
    | (refine st_build (by rfl) 72 #[(0, .const (.int .i64 6)), (3, .const (.float .f64 4607182418800017408))] (by rfl) (spRow kc.spec) (by kernel_rfl) ?_; (simp only [Act.put, List.setIfInBounds_toArray, List.set_cons_zero, List.set_cons_succ]))
    | (refine st_build (by rfl) 75 #[(0, .const (.int .i64 2)), (1, .const (.int .i64 1)), (2, .tmp 18)] (by rfl) (rcRow kc none 0 0) (by kernel_rfl) ?_; (simp only [Act.put, List.setIfInBounds_toArray, List.set_cons_zero, List.set_cons_succ]))
    | (refine st_alloc hS (by rfl) 75 (by rfl) _ zero75 ?_; clear hS; intro g5 w9 hS _; (simp only [Act.put, List.setIfInBounds_toArray, List.set_cons_zero, List.set_cons_succ]))
    | (refine st_store hS 0 (by rfl) 75 (.tmp 5) (.tmp 19) (by rfl) g5 (by rfl) (rcRow kc none 0 0) (by rfl) _ 75 rfl size75 rfl (one_rcRow _ _ _ _) ?_; clear hS; intro w10 hS; (simp only [List.set_cons_zero] at hS); (simp only [Act.put])))
  have hJ3 := hJ2 w10 a1 c1 hS.below (vts_zero hvl.out _ _)
  go_wp2_with (first
    | (refine st_load hS 1 (by rfl) 75 (.tmp 3) (by rfl) g3 (by rfl) _ 75 rfl _ Tryd.underlying75 rfl size75 ?_; (simp only [Act.put, List.setIfInBounds_toArray, List.set_cons_zero, List.set_cons_succ]))
    | (refine st_load hS 0 (by rfl) 75 (.tmp 5) (by rfl) g5 (by rfl) _ 75 rfl _ Tryd.underlying75 rfl size75 ?_; (simp only [Act.put, List.setIfInBounds_toArray, List.set_cons_zero, List.set_cons_succ])))
  refine hJ3.mono ?_
  rintro e w11 ⟨a2, c2, rfl, ho, hb⟩
  have hS1 := hS.call hb
  clear hS hb hJ2 hJ3 ho
  have hS := hS1
  clear hS1
  rw [recV_row]
  go_upto_region 6 with (first
    | (refine st_alloc hS (by rfl) 75 (by rfl) _ zero75 ?_; clear hS; intro g6 w12 hS _; (simp only [Act.put, List.setIfInBounds_toArray, List.set_cons_zero, List.set_cons_succ]))
    | (refine st_store hS 0 (by rfl) 75 (.tmp 6) (.tmp 24) (by rfl) g6 (by rfl) (rcRow k a2 k.votes.length c2) (by rfl) _ 75 rfl size75 rfl (one_rcRow _ _ _ _) ?_; clear hS; intro w13 hS; (simp only [List.set_cons_zero] at hS); (simp only [Act.put])))
  have q1 := cell_life (hS.row 2 rfl)
  have q2 := cell_st (hS.row 2 rfl)
  have q3 := cell_gen (hS.row 0 rfl)
  have q4 := cell_life (hS.row 0 rfl)
  rw [e1.out] at q1
  rw [e2.out] at q2
  rw [e3.out] at q3
  rw [e4.out] at q4
  clear e1 e2 e3 e4 hvl
  go_wp2_with (first
    | (refine st_load hS 4 (by rfl) 75 (.tmp 1) (by rfl) g1 (by rfl) _ 75 rfl _ Tryd.underlying75 rfl size75 ?_; (simp only [Act.put, List.setIfInBounds_toArray, List.set_cons_zero, List.set_cons_succ])))
  refine (hW _ hS.below).mono ?_
  rintro e w14 ⟨rfl, hb⟩
  have hS1 := hS.call hb
  clear hS hb hW q1 q2 q3 q4
  have hS := hS1
  clear hS1
  go_wp2_with (first
    | (refine st_load hS 4 (by rfl) 75 (.tmp 1) (by rfl) g1 (by rfl) _ 75 rfl _ Tryd.underlying75 rfl size75 ?_; (simp only [Act.put, List.setIfInBounds_toArray, List.set_cons_zero, List.set_cons_succ])))
  refine (hO _ hS.below).mono ?_
  rintro e w15 ⟨rfl, hb⟩
  have HB := (hS.call hb).below
  clear hS hb hO
  go_wp2_with fail
  go_ret
  exact ⟨rfl, HB⟩
end Go.Proofs.YtniejpfjbifjkaaDoor
