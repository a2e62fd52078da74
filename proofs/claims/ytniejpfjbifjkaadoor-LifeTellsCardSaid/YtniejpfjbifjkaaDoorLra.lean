/- The reference: Right (102). -/
import Derived.Test.YtniejpfjbifjkaaDoorLze
import Derived.Test.YtniejpfjbifjkaaDoorLs
namespace Go.Proofs.YtniejpfjbifjkaaDoor
open Go.RowKit Fl

set_option maxRecDepth 100000 in
theorem eq68 (d : Nat) (s t : Spc) (w : World) : (Op.equalIn (d + 4) 68 (spcV s) (spcV t)).run Tryd.prog w = .ok (eqSpc s t) w := by
  unfold eqSpc
  have u2 := Tryd.underlying2
  have a2 := Tryd.isAgg2
  have z2 := Tryd.sizeOf2
  have u3 := Tryd.underlying3
  have a3 := Tryd.isAgg3
  have z3 := Tryd.sizeOf3
  have a66 := Tryd.isAgg66
  have z66 := Tryd.sizeOf66
  have a22 := Tryd.isAgg22
  have z22 := Tryd.sizeOf22
  have e66 := fun v u b c (w : World) => eq66 d v u b c w
  have e22 := fun x y (w : World) => eq22 (d + 2) x y w
  have e2 := fun x y (w : World) => run_equalIn_int (P := Tryd.prog) w (d + 2) 2 .i64 .i64 x y u2
  have e3 := fun x y (w : World) => run_equalIn_int (P := Tryd.prog) w (d + 2) 3 .i64 .i64 x y u3
  have hS : Tryd.prog.underlying 68 = some (.struct (Tryd.prog.fieldsOf 68)) := by kernel_rfl
  have hp : Tryd.prog.stoodInHeld 68 = false := by kernel_rfl
  unfold adrV at e66
  unfold spcV
  rw [show d + 4 = d + 3 + 1 from rfl, run_equalIn_agg w (d + 3) 68 _ _ hS hp]
  simp only [Program.fieldsOf, Tryd.underlying68]
  go_simp
  clear e66 e22 e2 e3 u2 a2 z2 u3 a3 z3 a66 z66 a22 z22 hS hp
  by_cases h1 : s.st = t.st
  · by_cases h2 : s.by_ = t.by_
    · by_cases h3 : s.v6 = t.v6
      · cases h5 : eqB s.b t.b
        · simp [h1, h2, h3]
        · cases h4 : eqF s.w t.w
          · simp [h1, h2, h3]
          · simp [h1, h2, h3]
      · simp [h1, h2, h3]
    · simp [h1, h2]
  · simp [h1]
theorem eq89 (d : Nat) (v u : Int × Bool) (w : World) : (Op.equalIn (d + 2) 89 (votV v) (votV u)).run Tryd.prog w = .ok (v.1 == u.1 && v.2 == u.2) w := by
  have u2 := Tryd.underlying2
  have a2 := Tryd.isAgg2
  have z2 := Tryd.sizeOf2
  have u4 := Tryd.underlying4
  have a4 := Tryd.isAgg4
  have z4 := Tryd.sizeOf4
  have e2 := fun x y (w : World) => run_equalIn_int (P := Tryd.prog) w d 2 .i64 .i64 x y u2
  have e4 := fun x y (w : World) => run_equalIn_bool' (P := Tryd.prog) w d 4 x y u4
  have hS : Tryd.prog.underlying 89 = some (.struct (Tryd.prog.fieldsOf 89)) := by kernel_rfl
  have hp : Tryd.prog.stoodInHeld 89 = false := by kernel_rfl
  unfold votV
  rw [show d + 2 = d + 1 + 1 from rfl, run_equalIn_agg w (d + 1) 89 _ _ hS hp]
  simp only [Program.fieldsOf, Tryd.underlying89]
  go_simp
  by_cases h1 : v.1 = u.1 <;> by_cases h2 : v.2 = u.2 <;> simp [h1, h2]
def zSpR : Array Value := spRow zSpc
theorem built68 : Tryd.prog.built 68 [] = some (spRow zSpc) := by kernel_rfl
theorem zero68 : (Tryd.prog.info? 68).map (·.zero) = some (some (.agg (spRow zSpc))) := by kernel_rfl
theorem rnone_cases (r : Rc) : ((r.life == 0) = false ∧ noneOk r = false) ∨ ((r.life == 0) = true ∧ (
    (eqSpc r.spec zSpc = false ∧ noneOk r = false) ∨ (eqSpc r.spec zSpc = true ∧ (
    (sgnF r.spec.w = true ∧ noneOk r = false) ∨ (sgnF r.spec.w = false ∧ (
    (((r.votes.length : Int) == 0) = false ∧ noneOk r = false) ∨ (((r.votes.length : Int) == 0) = true ∧ noneOk r = (r.done == 0)))))))) := by
  unfold noneOk
  cases eqSpc r.spec zSpc <;> cases sgnF r.spec.w <;> cases r.life == 0 <;> cases r.done == 0 <;> cases (r.votes.length : Int) == 0 <;> simp
set_option maxRecDepth 100000 in
set_option maxHeartbeats 4000000 in
theorem rright_none (r : Rc) (a : Option Addr) (c : Nat) (w : World) (hn : RcN r) (h0 : r.gen = 0) :
    Calls Tryd.prog 102 #[recV r a r.votes.length c] w fun e w' => e = .returned (.bool (rcOk r)) ∧ Below w.heap.size w w' := by
  have hS := St.start w
  have hR : rcOk r = noneOk r := rcOk_zero h0
  have he := fun w => eq68 9996 r.spec zSpc w
  rw [spcV_row, spcV_row] at he
  have hcs := rnone_cases r
  rw [recV_row, hR]
  have HN := Lib.hid hn.w
  have e0 : (r.gen == 0) = true := by rw [h0]; rfl
  clear hR h0 hn
  rcases hcs with ⟨d1, hN⟩ | ⟨d1, ⟨d2, hN⟩ | ⟨d2, ⟨d3, hN⟩ | ⟨d3, ⟨d4, hN⟩ | ⟨d4, hN⟩⟩⟩⟩
  · skip
    have HNO := Lib.hid hN
    clear hN
    go_enter Tryd.func102, Tryd.ntmps102
    go_upto_region 1 with (first
        | (refine st_box hS (by rfl) 71 (.tmp 0) (by rfl) _ (by rfl) ?_; clear hS; intro g1 w1 hS _; (simp only [Act.put, List.setIfInBounds_toArray, List.set_cons_zero, List.set_cons_succ])))
    have q1 := cell_gen (hS.row 0 rfl)
    go_upto_region 3 with (first
        | (refine st_build (by rfl) 68 #[] (by rfl) _ built68 ?_; (simp only [Act.put, List.setIfInBounds_toArray, List.set_cons_zero, List.set_cons_succ]))
        | (refine st_alloc hS (by rfl) 68 (by rfl) _ zero68 ?_; clear hS; intro g3 w2 hS _; (simp only [Act.put, List.setIfInBounds_toArray, List.set_cons_zero, List.set_cons_succ]))
        | (refine st_store hS 0 (by rfl) 68 (.tmp 3) (.tmp 10) (by rfl) g3 (by rfl) (spRow zSpc) (by rfl) _ 68 rfl size68 rfl (one_spRow _) ?_; clear hS; intro w3 hS; (simp only [List.set_cons_zero] at hS); (simp only [Act.put])))
    have q2 := cell_life (hS.row 1 rfl)
    have q3 := cell_votes (hS.row 1 rfl)
    have q4 := cell_done (hS.row 1 rfl)
    have q5 := cell_wt (hS.row 1 rfl)
    have p1 := range_spec (hS.row 1 rfl)
    go_wp2_with (first
        | go_skip
        | (refine st_part (by rfl) 68 (.tmp 15) (by rfl) g1 2 (by rfl) (spRow r.spec) p1 _ Tryd.underlying68 rfl size68 ?_; (simp only [Act.put, List.setIfInBounds_toArray, List.set_cons_zero, List.set_cons_succ]))
        | (refine st_load hS 0 (by rfl) 68 (.tmp 3) (by rfl) g3 (by rfl) _ 68 rfl _ Tryd.underlying68 rfl size68 ?_; (simp only [Act.put, List.setIfInBounds_toArray, List.set_cons_zero, List.set_cons_succ])))
    have HB := hS.below
    go_ret
    exact ⟨by rw [HNO.out]; rfl, HB⟩
  · rw [d2] at he
    have HNO := Lib.hid hN
    clear hN
    go_enter Tryd.func102, Tryd.ntmps102
    go_upto_region 1 with (first
        | (refine st_box hS (by rfl) 71 (.tmp 0) (by rfl) _ (by rfl) ?_; clear hS; intro g1 w1 hS _; (simp only [Act.put, List.setIfInBounds_toArray, List.set_cons_zero, List.set_cons_succ])))
    have q1 := cell_gen (hS.row 0 rfl)
    go_upto_region 3 with (first
        | (refine st_build (by rfl) 68 #[] (by rfl) _ built68 ?_; (simp only [Act.put, List.setIfInBounds_toArray, List.set_cons_zero, List.set_cons_succ]))
        | (refine st_alloc hS (by rfl) 68 (by rfl) _ zero68 ?_; clear hS; intro g3 w2 hS _; (simp only [Act.put, List.setIfInBounds_toArray, List.set_cons_zero, List.set_cons_succ]))
        | (refine st_store hS 0 (by rfl) 68 (.tmp 3) (.tmp 10) (by rfl) g3 (by rfl) (spRow zSpc) (by rfl) _ 68 rfl size68 rfl (one_spRow _) ?_; clear hS; intro w3 hS; (simp only [List.set_cons_zero] at hS); (simp only [Act.put])))
    have q2 := cell_life (hS.row 1 rfl)
    have q3 := cell_votes (hS.row 1 rfl)
    have q4 := cell_done (hS.row 1 rfl)
    have q5 := cell_wt (hS.row 1 rfl)
    have p1 := range_spec (hS.row 1 rfl)
    go_wp2_with (first
        | go_skip
        | (refine st_part (by rfl) 68 (.tmp 15) (by rfl) g1 2 (by rfl) (spRow r.spec) p1 _ Tryd.underlying68 rfl size68 ?_; (simp only [Act.put, List.setIfInBounds_toArray, List.set_cons_zero, List.set_cons_succ]))
        | (refine st_load hS 0 (by rfl) 68 (.tmp 3) (by rfl) g3 (by rfl) _ 68 rfl _ Tryd.underlying68 rfl size68 ?_; (simp only [Act.put, List.setIfInBounds_toArray, List.set_cons_zero, List.set_cons_succ])))
    have HB := hS.below
    go_ret
    exact ⟨by rw [HNO.out]; rfl, HB⟩
  · rw [d2] at he
    have HNO := Lib.hid hN
    clear hN
    go_enter Tryd.func102, Tryd.ntmps102
    go_upto_region 1 with (first
        | (refine st_box hS (by rfl) 71 (.tmp 0) (by rfl) _ (by rfl) ?_; clear hS; intro g1 w1 hS _; (simp only [Act.put, List.setIfInBounds_toArray, List.set_cons_zero, List.set_cons_succ])))
    have q1 := cell_gen (hS.row 0 rfl)
    go_upto_region 3 with (first
        | (refine st_build (by rfl) 68 #[] (by rfl) _ built68 ?_; (simp only [Act.put, List.setIfInBounds_toArray, List.set_cons_zero, List.set_cons_succ]))
        | (refine st_alloc hS (by rfl) 68 (by rfl) _ zero68 ?_; clear hS; intro g3 w2 hS _; (simp only [Act.put, List.setIfInBounds_toArray, List.set_cons_zero, List.set_cons_succ]))
        | (refine st_store hS 0 (by rfl) 68 (.tmp 3) (.tmp 10) (by rfl) g3 (by rfl) (spRow zSpc) (by rfl) _ 68 rfl size68 rfl (one_spRow _) ?_; clear hS; intro w3 hS; (simp only [List.set_cons_zero] at hS); (simp only [Act.put])))
    have q2 := cell_life (hS.row 1 rfl)
    have q3 := cell_votes (hS.row 1 rfl)
    have q4 := cell_done (hS.row 1 rfl)
    have q5 := cell_wt (hS.row 1 rfl)
    have p1 := range_spec (hS.row 1 rfl)
    have hz : r.spec.w = 0 ∨ r.spec.w = 9223372036854775808 := by
      have h6 : eqF r.spec.w 0 = true := by
        have := d2
        unfold eqSpc at this
        simp only [Bool.and_eq_true] at this
        exact this.2.2.2
      exact (eqF_zero HN.out).1 h6
    have hw : r.spec.w = 9223372036854775808 := by
      rcases hz with h | h
      · rw [h] at d3; exact absurd d3 (by decide +kernel)
      · exact h
    have z1 : eqF 9223372036854775808 0 = true := by decide +kernel
    have z2 : ltF 18442240474082181120 0 = true := by decide +kernel
    have z3 := fun (w : World) => run_float_arith (P := Tryd.prog) w .quo 22 .f64 _ _ _ one_over_minus
    rw [hw] at q5
    clear hw hz d3
    go_wp2_with (first
        | go_skip
        | (refine st_part (by rfl) 68 (.tmp 15) (by rfl) g1 2 (by rfl) (spRow r.spec) p1 _ Tryd.underlying68 rfl size68 ?_; (simp only [Act.put, List.setIfInBounds_toArray, List.set_cons_zero, List.set_cons_succ]))
        | (refine st_load hS 0 (by rfl) 68 (.tmp 3) (by rfl) g3 (by rfl) _ 68 rfl _ Tryd.underlying68 rfl size68 ?_; (simp only [Act.put, List.setIfInBounds_toArray, List.set_cons_zero, List.set_cons_succ])))
    have HB := hS.below
    go_ret
    exact ⟨by rw [HNO.out]; rfl, HB⟩
  · rw [d2] at he
    have HNO := Lib.hid hN
    clear hN
    go_enter Tryd.func102, Tryd.ntmps102
    go_upto_region 1 with (first
        | (refine st_box hS (by rfl) 71 (.tmp 0) (by rfl) _ (by rfl) ?_; clear hS; intro g1 w1 hS _; (simp only [Act.put, List.setIfInBounds_toArray, List.set_cons_zero, List.set_cons_succ])))
    have q1 := cell_gen (hS.row 0 rfl)
    go_upto_region 3 with (first
        | (refine st_build (by rfl) 68 #[] (by rfl) _ built68 ?_; (simp only [Act.put, List.setIfInBounds_toArray, List.set_cons_zero, List.set_cons_succ]))
        | (refine st_alloc hS (by rfl) 68 (by rfl) _ zero68 ?_; clear hS; intro g3 w2 hS _; (simp only [Act.put, List.setIfInBounds_toArray, List.set_cons_zero, List.set_cons_succ]))
        | (refine st_store hS 0 (by rfl) 68 (.tmp 3) (.tmp 10) (by rfl) g3 (by rfl) (spRow zSpc) (by rfl) _ 68 rfl size68 rfl (one_spRow _) ?_; clear hS; intro w3 hS; (simp only [List.set_cons_zero] at hS); (simp only [Act.put])))
    have q2 := cell_life (hS.row 1 rfl)
    have q3 := cell_votes (hS.row 1 rfl)
    have q4 := cell_done (hS.row 1 rfl)
    have q5 := cell_wt (hS.row 1 rfl)
    have p1 := range_spec (hS.row 1 rfl)
    have hz : r.spec.w = 0 ∨ r.spec.w = 9223372036854775808 := by
      have h6 : eqF r.spec.w 0 = true := by
        have := d2
        unfold eqSpc at this
        simp only [Bool.and_eq_true] at this
        exact this.2.2.2
      exact (eqF_zero HN.out).1 h6
    have hw : r.spec.w = 0 := by
      rcases hz with h | h
      · exact h
      · rw [h] at d3; exact absurd d3 (by decide +kernel)
    have z1 : eqF 0 0 = true := by decide +kernel
    have z2 : ltF 9218868437227405312 0 = false := by decide +kernel
    have z3 := fun (w : World) => run_float_arith (P := Tryd.prog) w .quo 22 .f64 _ _ _ one_over_zero
    rw [hw] at q5
    clear hw hz d3
    go_wp2_with (first
        | go_skip
        | (refine st_part (by rfl) 68 (.tmp 15) (by rfl) g1 2 (by rfl) (spRow r.spec) p1 _ Tryd.underlying68 rfl size68 ?_; (simp only [Act.put, List.setIfInBounds_toArray, List.set_cons_zero, List.set_cons_succ]))
        | (refine st_load hS 0 (by rfl) 68 (.tmp 3) (by rfl) g3 (by rfl) _ 68 rfl _ Tryd.underlying68 rfl size68 ?_; (simp only [Act.put, List.setIfInBounds_toArray, List.set_cons_zero, List.set_cons_succ])))
    have HB := hS.below
    go_ret
    exact ⟨by rw [HNO.out]; rfl, HB⟩
  · rw [d2] at he
    have HNO := Lib.hid hN
    clear hN
    go_enter Tryd.func102, Tryd.ntmps102
    go_upto_region 1 with (first
        | (refine st_box hS (by rfl) 71 (.tmp 0) (by rfl) _ (by rfl) ?_; clear hS; intro g1 w1 hS _; (simp only [Act.put, List.setIfInBounds_toArray, List.set_cons_zero, List.set_cons_succ])))
    have q1 := cell_gen (hS.row 0 rfl)
    go_upto_region 3 with (first
        | (refine st_build (by rfl) 68 #[] (by rfl) _ built68 ?_; (simp only [Act.put, List.setIfInBounds_toArray, List.set_cons_zero, List.set_cons_succ]))
        | (refine st_alloc hS (by rfl) 68 (by rfl) _ zero68 ?_; clear hS; intro g3 w2 hS _; (simp only [Act.put, List.setIfInBounds_toArray, List.set_cons_zero, List.set_cons_succ]))
        | (refine st_store hS 0 (by rfl) 68 (.tmp 3) (.tmp 10) (by rfl) g3 (by rfl) (spRow zSpc) (by rfl) _ 68 rfl size68 rfl (one_spRow _) ?_; clear hS; intro w3 hS; (simp only [List.set_cons_zero] at hS); (simp only [Act.put])))
    have q2 := cell_life (hS.row 1 rfl)
    have q3 := cell_votes (hS.row 1 rfl)
    have q4 := cell_done (hS.row 1 rfl)
    have q5 := cell_wt (hS.row 1 rfl)
    have p1 := range_spec (hS.row 1 rfl)
    have hz : r.spec.w = 0 ∨ r.spec.w = 9223372036854775808 := by
      have h6 : eqF r.spec.w 0 = true := by
        have := d2
        unfold eqSpc at this
        simp only [Bool.and_eq_true] at this
        exact this.2.2.2
      exact (eqF_zero HN.out).1 h6
    have hw : r.spec.w = 0 := by
      rcases hz with h | h
      · exact h
      · rw [h] at d3; exact absurd d3 (by decide +kernel)
    have z1 : eqF 0 0 = true := by decide +kernel
    have z2 : ltF 9218868437227405312 0 = false := by decide +kernel
    have z3 := fun (w : World) => run_float_arith (P := Tryd.prog) w .quo 22 .f64 _ _ _ one_over_zero
    rw [hw] at q5
    clear hw hz d3
    go_wp2_with (first
        | go_skip
        | (refine st_part (by rfl) 68 (.tmp 15) (by rfl) g1 2 (by rfl) (spRow r.spec) p1 _ Tryd.underlying68 rfl size68 ?_; (simp only [Act.put, List.setIfInBounds_toArray, List.set_cons_zero, List.set_cons_succ]))
        | (refine st_load hS 0 (by rfl) 68 (.tmp 3) (by rfl) g3 (by rfl) _ 68 rfl _ Tryd.underlying68 rfl size68 ?_; (simp only [Act.put, List.setIfInBounds_toArray, List.set_cons_zero, List.set_cons_succ])))
    have HB := hS.below
    go_ret
    exact ⟨by rw [HNO.out]; rfl, HB⟩
end Go.Proofs.YtniejpfjbifjkaaDoor
