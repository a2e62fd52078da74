/- The reference: Right (102), at a gen. -/
import Derived.Test.YtniejpfjbifjkaaDoorLra
namespace Go.Proofs.YtniejpfjbifjkaaDoor
open Go.RowKit Fl

/-- each part by itself, as the reference asks them. -/
def headOk (r : Rc) : Bool := stampOk r.gen && (!decide (r.life < 1) && (!decide (3 < r.life) && (!decide (r.spec.st < 1) && (stampOk r.spec.st && (!decide (r.spec.by_ < 0) && (!decide (16 ≤ r.spec.by_) && (adrOk r.spec.v6 r.spec.b && sameF r.spec.w (cl r.spec.w))))))))
def bodyOk (r : Rc) : Bool := !decide (16 < r.votes.length) && (lastOk r.votes && (!decide (r.done < 0) && (!decide (65535 < r.done) && votsOk r.votes)))
theorem some_head (r : Rc) : someOk r = (headOk r && bodyOk r) := by
  unfold someOk headOk bodyOk spcOk
  rw [show decide (1 ≤ r.spec.st) = !decide (r.spec.st < 1) by by_cases h : r.spec.st < 1 <;> simp [h] <;> omega, show decide (0 ≤ r.spec.by_) = !decide (r.spec.by_ < 0) by by_cases h : r.spec.by_ < 0 <;> simp [h] <;> omega, show decide (r.spec.by_ < 16) = !decide (16 ≤ r.spec.by_) by by_cases h : r.spec.by_ < 16 <;> simp [h] <;> omega]
  generalize stampOk r.gen = b1
  generalize decide (r.life < 1) = b2
  generalize decide (3 < r.life) = b3
  generalize decide (r.spec.st < 1) = b4
  generalize stampOk r.spec.st = b5
  generalize decide (r.spec.by_ < 0) = b6
  generalize decide (16 ≤ r.spec.by_) = b7
  generalize adrOk r.spec.v6 r.spec.b = b8
  generalize sameF r.spec.w (cl r.spec.w) = b9
  generalize decide (16 < r.votes.length) = c1
  generalize lastOk r.votes = c2
  generalize decide (r.done < 0) = c3
  generalize decide (65535 < r.done) = c4
  generalize votsOk r.votes = c5
  cases b1 <;> cases b2 <;> cases b3 <;> cases b4 <;> cases b5 <;> cases b6 <;> cases b7 <;> cases b8 <;> cases b9 <;> first | rfl | (cases c1 <;> cases c2 <;> cases c3 <;> cases c4 <;> rfl)
theorem cell_sst {w : World} {g : Nat} {s : Spc} {t : TypeId} {fr : Nat × Nat} (h : w.heap[g]? = some (.cells (spRow s) t fr)) : w.cell? ⟨g, 0, none⟩ = some (.int .i64 s.st) := by rw [cell_of_row w g 0 _ t fr h]; rfl
theorem cell_sby {w : World} {g : Nat} {s : Spc} {t : TypeId} {fr : Nat × Nat} (h : w.heap[g]? = some (.cells (spRow s) t fr)) : w.cell? ⟨g, 1, none⟩ = some (.int .i64 s.by_) := by rw [cell_of_row w g 1 _ t fr h]; rfl
theorem head_cases (r : Rc) : (stampOk r.gen = false ∧ headOk r = false) ∨ (stampOk r.gen = true ∧ ((decide (r.life < 1) = true ∧ headOk r = false) ∨ (decide (r.life < 1) = false ∧ ((decide (3 < r.life) = true ∧ headOk r = false) ∨ (decide (3 < r.life) = false ∧ ((decide (r.spec.st < 1) = true ∧ headOk r = false) ∨ (decide (r.spec.st < 1) = false ∧ ((stampOk r.spec.st = false ∧ headOk r = false) ∨ (stampOk r.spec.st = true ∧ ((decide (r.spec.by_ < 0) = true ∧ headOk r = false) ∨ (decide (r.spec.by_ < 0) = false ∧ ((decide (16 ≤ r.spec.by_) = true ∧ headOk r = false) ∨ (decide (16 ≤ r.spec.by_) = false ∧ ((adrOk r.spec.v6 r.spec.b = false ∧ headOk r = false) ∨ (adrOk r.spec.v6 r.spec.b = true ∧ ((sameF r.spec.w (cl r.spec.w) = false ∧ headOk r = false) ∨ (sameF r.spec.w (cl r.spec.w) = true ∧ (headOk r = true)))))))))))))))))) := by
  unfold headOk
  cases stampOk r.gen <;> cases decide (r.life < 1) <;> cases decide (3 < r.life) <;> cases decide (r.spec.st < 1) <;> cases stampOk r.spec.st <;> cases decide (r.spec.by_ < 0) <;> cases decide (16 ≤ r.spec.by_) <;> cases adrOk r.spec.v6 r.spec.b <;> cases sameF r.spec.w (cl r.spec.w) <;> simp
set_option maxRecDepth 100000 in
set_option maxHeartbeats 64000000 in
theorem rright_some (r : Rc) (a : Option Addr) (c : Nat) (w : World) (hn : RcN r) (hv : Vts w a r.votes) (h0 : r.gen ≠ 0) :
    Calls Tryd.prog 102 #[recV r a r.votes.length c] w fun e w' => e = .returned (.bool (rcOk r)) ∧ Below w.heap.size w w' := by
  have hS := St.start w
  have hR : rcOk r = (headOk r && bodyOk r) := by rw [rcOk_some h0, some_head]
  have hst := fun W => rstampC r.gen W
  have hst2 := fun W => rstampC r.spec.st W
  have had := fun W => rarightC r.spec.v6 r.spec.b W
  have hcl := fun W => rcleanC r.spec.w W hn.w
  have hsa := fun W => rsameC r.spec.w (cl r.spec.w) W hn.w (cl_B64 _)
  rw [show adrV r.spec.v6 r.spec.b = .agg (adRow r.spec) from rfl] at had
  have hcs := head_cases r
  obtain ⟨n, hlen⟩ : ∃ n, r.votes.length = n := ⟨_, rfl⟩
  have hn43 : n ≤ 8796093022208 := by rw [← hlen]; exact hv.1
  rw [hlen]
  rw [recV_row]
  have HLEN := Lib.hid hlen
  have HVT := Lib.hid hv.2
  have HR := Lib.hid hR
  have e0 : (r.gen == 0) = false := by rw [beq_eq_false_iff_ne]; exact h0
  clear hR h0 hn hlen hv
  rcases hcs with ⟨d0, hf⟩ | ⟨d0, ⟨d1, hf⟩ | ⟨d1, ⟨d2, hf⟩ | ⟨d2, ⟨d3, hf⟩ | ⟨d3, ⟨d4, hf⟩ | ⟨d4, ⟨d5, hf⟩ | ⟨d5, ⟨d6, hf⟩ | ⟨d6, ⟨d7, hf⟩ | ⟨d7, ⟨d8, hf⟩ | ⟨d8, hf⟩⟩⟩⟩⟩⟩⟩⟩⟩
  · have HF := Lib.hid hf
    clear hf
    rw [d0] at hst
    clear d0
    as_aux_lemma =>
      go_enter Tryd.func102, Tryd.ntmps102
      go_upto_region 1 with (first
        | (refine st_box hS (by rfl) 71 (.tmp 0) (by rfl) _ (by rfl) ?_; clear hS; intro g1 w1 hS _; (simp only [Act.put, List.setIfInBounds_toArray, List.set_cons_zero, List.set_cons_succ])))
      have q1 := cell_gen (hS.row 0 rfl)
      go_upto_region 4 with fail
      clear q1
      have p1 := range_spec (hS.row 0 rfl)
      go_upto_region 5 with (first
        | (refine st_part (by rfl) 68 (.tmp 45) (by rfl) g1 2 (by rfl) (spRow r.spec) p1 _ Tryd.underlying68 rfl size68 ?_; (simp only [Act.put, List.setIfInBounds_toArray, List.set_cons_zero, List.set_cons_succ]))
        | (refine st_alloc hS (by rfl) 68 (by rfl) _ zero68 ?_; clear hS; intro g4 w2 hS _; (simp only [Act.put, List.setIfInBounds_toArray, List.set_cons_zero, List.set_cons_succ]))
        | (refine st_store hS 0 (by rfl) 68 (.tmp 4) (.tmp 46) (by rfl) g4 (by rfl) (spRow r.spec) (by rfl) _ 68 rfl size68 rfl (one_spRow _) ?_; clear hS; intro w3 hS; (simp only [List.set_cons_zero] at hS); (simp only [Act.put])))
      have n1 := hS.lt 1 rfl
      have n4 := hS.lt 0 rfl
      have q1 := cell_gen (hS.row 1 rfl)
      have q2 := cell_life (hS.row 1 rfl)
      have q3 := cell_sst (hS.row 0 rfl)
      have q4 := cell_sby (hS.row 0 rfl)
      have q5 := cell_w (hS.row 0 rfl)
      have x1 : ∀ x : Aft w3, x.1.cell? ⟨g1, 0, none⟩ = some (.int .i64 r.gen) := fun x => (aft_cell x _ _ n1).trans q1
      have x2 : ∀ x : Aft w3, x.1.cell? ⟨g1, 1, none⟩ = some (.int .i64 r.life) := fun x => (aft_cell x _ _ n1).trans q2
      have x3 : ∀ x : Aft w3, x.1.cell? ⟨g4, 0, none⟩ = some (.int .i64 r.spec.st) := fun x => (aft_cell x _ _ n4).trans q3
      have x4 : ∀ x : Aft w3, x.1.cell? ⟨g4, 1, none⟩ = some (.int .i64 r.spec.by_) := fun x => (aft_cell x _ _ n4).trans q4
      have x5 : ∀ x : Aft w3, x.1.cell? ⟨g4, 19, none⟩ = some (.float .f64 r.spec.w) := fun x => (aft_cell x _ _ n4).trans q5
      have H66 : Hid (∀ w', (∃ x : Aft w3, w' = x.1) → w'.rangeAt g4 2 (adRow r.spec).toList) := Lib.hid (by
        rintro w' ⟨x, rfl⟩
        exact range_row (aft_block (hS.row 0 rfl) x) 2 _ (drop_lit _ 2 _ rfl))
      clear q1 q2 q3 q4 q5 n1 n4 p1
      refine wp_region_aft (by kernel_rfl) (by kernel_rfl) ?_
      repeat (first | (go_big_quiet_want; refine quiet_load 66 (.tmp 83) (by rfl) g4 2 (by rfl) (adRow r.spec).toList _ H66.out Tryd.underlying66 rfl size66 ?_; (simp only [Array.toArray_toList, Act.put, List.setIfInBounds_toArray, List.set_cons_zero, List.set_cons_succ]); go_big_quiet_on) | go_big_quiet_step ((first
          | (go_at_call 103; exact aft_same (hst _))
          | (go_at_call 103; exact aft_same (hst2 _))
          | (go_at_call 121; exact aft_below (had _))
          | (go_at_call 25; exact aft_same (hcl _))
          | (go_at_call 24; exact aft_same (hsa _)))))
      refine wpQuiet_nil ?_
      intro _ hw'
      obtain ⟨x, rfl⟩ := hw'
      have HB := hS.below.trans (x.2.mono hS.below.size)
      clear x1 x2 x3 x4 x5
      go_wp2_with fail
      go_ret
      exact ⟨by rw [HR.out, HF.out]; rfl, HB⟩
  · have HF := Lib.hid hf
    clear hf
    rw [d0] at hst
    clear d0
    as_aux_lemma =>
      go_enter Tryd.func102, Tryd.ntmps102
      go_upto_region 1 with (first
        | (refine st_box hS (by rfl) 71 (.tmp 0) (by rfl) _ (by rfl) ?_; clear hS; intro g1 w1 hS _; (simp only [Act.put, List.setIfInBounds_toArray, List.set_cons_zero, List.set_cons_succ])))
      have q1 := cell_gen (hS.row 0 rfl)
      go_upto_region 4 with fail
      clear q1
      have p1 := range_spec (hS.row 0 rfl)
      go_upto_region 5 with (first
        | (refine st_part (by rfl) 68 (.tmp 45) (by rfl) g1 2 (by rfl) (spRow r.spec) p1 _ Tryd.underlying68 rfl size68 ?_; (simp only [Act.put, List.setIfInBounds_toArray, List.set_cons_zero, List.set_cons_succ]))
        | (refine st_alloc hS (by rfl) 68 (by rfl) _ zero68 ?_; clear hS; intro g4 w2 hS _; (simp only [Act.put, List.setIfInBounds_toArray, List.set_cons_zero, List.set_cons_succ]))
        | (refine st_store hS 0 (by rfl) 68 (.tmp 4) (.tmp 46) (by rfl) g4 (by rfl) (spRow r.spec) (by rfl) _ 68 rfl size68 rfl (one_spRow _) ?_; clear hS; intro w3 hS; (simp only [List.set_cons_zero] at hS); (simp only [Act.put])))
      have n1 := hS.lt 1 rfl
      have n4 := hS.lt 0 rfl
      have q1 := cell_gen (hS.row 1 rfl)
      have q2 := cell_life (hS.row 1 rfl)
      have q3 := cell_sst (hS.row 0 rfl)
      have q4 := cell_sby (hS.row 0 rfl)
      have q5 := cell_w (hS.row 0 rfl)
      have x1 : ∀ x : Aft w3, x.1.cell? ⟨g1, 0, none⟩ = some (.int .i64 r.gen) := fun x => (aft_cell x _ _ n1).trans q1
      have x2 : ∀ x : Aft w3, x.1.cell? ⟨g1, 1, none⟩ = some (.int .i64 r.life) := fun x => (aft_cell x _ _ n1).trans q2
      have x3 : ∀ x : Aft w3, x.1.cell? ⟨g4, 0, none⟩ = some (.int .i64 r.spec.st) := fun x => (aft_cell x _ _ n4).trans q3
      have x4 : ∀ x : Aft w3, x.1.cell? ⟨g4, 1, none⟩ = some (.int .i64 r.spec.by_) := fun x => (aft_cell x _ _ n4).trans q4
      have x5 : ∀ x : Aft w3, x.1.cell? ⟨g4, 19, none⟩ = some (.float .f64 r.spec.w) := fun x => (aft_cell x _ _ n4).trans q5
      have H66 : Hid (∀ w', (∃ x : Aft w3, w' = x.1) → w'.rangeAt g4 2 (adRow r.spec).toList) := Lib.hid (by
        rintro w' ⟨x, rfl⟩
        exact range_row (aft_block (hS.row 0 rfl) x) 2 _ (drop_lit _ 2 _ rfl))
      clear q1 q2 q3 q4 q5 n1 n4 p1
      refine wp_region_aft (by kernel_rfl) (by kernel_rfl) ?_
      repeat (first | (go_big_quiet_want; refine quiet_load 66 (.tmp 83) (by rfl) g4 2 (by rfl) (adRow r.spec).toList _ H66.out Tryd.underlying66 rfl size66 ?_; (simp only [Array.toArray_toList, Act.put, List.setIfInBounds_toArray, List.set_cons_zero, List.set_cons_succ]); go_big_quiet_on) | go_big_quiet_step ((first
          | (go_at_call 103; exact aft_same (hst _))
          | (go_at_call 103; exact aft_same (hst2 _))
          | (go_at_call 121; exact aft_below (had _))
          | (go_at_call 25; exact aft_same (hcl _))
          | (go_at_call 24; exact aft_same (hsa _)))))
      refine wpQuiet_nil ?_
      intro _ hw'
      obtain ⟨x, rfl⟩ := hw'
      have HB := hS.below.trans (x.2.mono hS.below.size)
      clear x1 x2 x3 x4 x5
      go_wp2_with fail
      go_ret
      exact ⟨by rw [HR.out, HF.out]; rfl, HB⟩
  · have HF := Lib.hid hf
    clear hf
    rw [d0] at hst
    clear d0
    as_aux_lemma =>
      go_enter Tryd.func102, Tryd.ntmps102
      go_upto_region 1 with (first
        | (refine st_box hS (by rfl) 71 (.tmp 0) (by rfl) _ (by rfl) ?_; clear hS; intro g1 w1 hS _; (simp only [Act.put, List.setIfInBounds_toArray, List.set_cons_zero, List.set_cons_succ])))
      have q1 := cell_gen (hS.row 0 rfl)
      go_upto_region 4 with fail
      clear q1
      have p1 := range_spec (hS.row 0 rfl)
      go_upto_region 5 with (first
        | (refine st_part (by rfl) 68 (.tmp 45) (by rfl) g1 2 (by rfl) (spRow r.spec) p1 _ Tryd.underlying68 rfl size68 ?_; (simp only [Act.put, List.setIfInBounds_toArray, List.set_cons_zero, List.set_cons_succ]))
        | (refine st_alloc hS (by rfl) 68 (by rfl) _ zero68 ?_; clear hS; intro g4 w2 hS _; (simp only [Act.put, List.setIfInBounds_toArray, List.set_cons_zero, List.set_cons_succ]))
        | (refine st_store hS 0 (by rfl) 68 (.tmp 4) (.tmp 46) (by rfl) g4 (by rfl) (spRow r.spec) (by rfl) _ 68 rfl size68 rfl (one_spRow _) ?_; clear hS; intro w3 hS; (simp only [List.set_cons_zero] at hS); (simp only [Act.put])))
      have n1 := hS.lt 1 rfl
      have n4 := hS.lt 0 rfl
      have q1 := cell_gen (hS.row 1 rfl)
      have q2 := cell_life (hS.row 1 rfl)
      have q3 := cell_sst (hS.row 0 rfl)
      have q4 := cell_sby (hS.row 0 rfl)
      have q5 := cell_w (hS.row 0 rfl)
      have x1 : ∀ x : Aft w3, x.1.cell? ⟨g1, 0, none⟩ = some (.int .i64 r.gen) := fun x => (aft_cell x _ _ n1).trans q1
      have x2 : ∀ x : Aft w3, x.1.cell? ⟨g1, 1, none⟩ = some (.int .i64 r.life) := fun x => (aft_cell x _ _ n1).trans q2
      have x3 : ∀ x : Aft w3, x.1.cell? ⟨g4, 0, none⟩ = some (.int .i64 r.spec.st) := fun x => (aft_cell x _ _ n4).trans q3
      have x4 : ∀ x : Aft w3, x.1.cell? ⟨g4, 1, none⟩ = some (.int .i64 r.spec.by_) := fun x => (aft_cell x _ _ n4).trans q4
      have x5 : ∀ x : Aft w3, x.1.cell? ⟨g4, 19, none⟩ = some (.float .f64 r.spec.w) := fun x => (aft_cell x _ _ n4).trans q5
      have H66 : Hid (∀ w', (∃ x : Aft w3, w' = x.1) → w'.rangeAt g4 2 (adRow r.spec).toList) := Lib.hid (by
        rintro w' ⟨x, rfl⟩
        exact range_row (aft_block (hS.row 0 rfl) x) 2 _ (drop_lit _ 2 _ rfl))
      clear q1 q2 q3 q4 q5 n1 n4 p1
      refine wp_region_aft (by kernel_rfl) (by kernel_rfl) ?_
      repeat (first | (go_big_quiet_want; refine quiet_load 66 (.tmp 83) (by rfl) g4 2 (by rfl) (adRow r.spec).toList _ H66.out Tryd.underlying66 rfl size66 ?_; (simp only [Array.toArray_toList, Act.put, List.setIfInBounds_toArray, List.set_cons_zero, List.set_cons_succ]); go_big_quiet_on) | go_big_quiet_step ((first
          | (go_at_call 103; exact aft_same (hst _))
          | (go_at_call 103; exact aft_same (hst2 _))
          | (go_at_call 121; exact aft_below (had _))
          | (go_at_call 25; exact aft_same (hcl _))
          | (go_at_call 24; exact aft_same (hsa _)))))
      refine wpQuiet_nil ?_
      intro _ hw'
      obtain ⟨x, rfl⟩ := hw'
      have HB := hS.below.trans (x.2.mono hS.below.size)
      clear x1 x2 x3 x4 x5
      go_wp2_with fail
      go_ret
      exact ⟨by rw [HR.out, HF.out]; rfl, HB⟩
  · have HF := Lib.hid hf
    clear hf
    rw [d0] at hst
    clear d0
    as_aux_lemma =>
      go_enter Tryd.func102, Tryd.ntmps102
      go_upto_region 1 with (first
        | (refine st_box hS (by rfl) 71 (.tmp 0) (by rfl) _ (by rfl) ?_; clear hS; intro g1 w1 hS _; (simp only [Act.put, List.setIfInBounds_toArray, List.set_cons_zero, List.set_cons_succ])))
      have q1 := cell_gen (hS.row 0 rfl)
      go_upto_region 4 with fail
      clear q1
      have p1 := range_spec (hS.row 0 rfl)
      go_upto_region 5 with (first
        | (refine st_part (by rfl) 68 (.tmp 45) (by rfl) g1 2 (by rfl) (spRow r.spec) p1 _ Tryd.underlying68 rfl size68 ?_; (simp only [Act.put, List.setIfInBounds_toArray, List.set_cons_zero, List.set_cons_succ]))
        | (refine st_alloc hS (by rfl) 68 (by rfl) _ zero68 ?_; clear hS; intro g4 w2 hS _; (simp only [Act.put, List.setIfInBounds_toArray, List.set_cons_zero, List.set_cons_succ]))
        | (refine st_store hS 0 (by rfl) 68 (.tmp 4) (.tmp 46) (by rfl) g4 (by rfl) (spRow r.spec) (by rfl) _ 68 rfl size68 rfl (one_spRow _) ?_; clear hS; intro w3 hS; (simp only [List.set_cons_zero] at hS); (simp only [Act.put])))
      have n1 := hS.lt 1 rfl
      have n4 := hS.lt 0 rfl
      have q1 := cell_gen (hS.row 1 rfl)
      have q2 := cell_life (hS.row 1 rfl)
      have q3 := cell_sst (hS.row 0 rfl)
      have q4 := cell_sby (hS.row 0 rfl)
      have q5 := cell_w (hS.row 0 rfl)
      have x1 : ∀ x : Aft w3, x.1.cell? ⟨g1, 0, none⟩ = some (.int .i64 r.gen) := fun x => (aft_cell x _ _ n1).trans q1
      have x2 : ∀ x : Aft w3, x.1.cell? ⟨g1, 1, none⟩ = some (.int .i64 r.life) := fun x => (aft_cell x _ _ n1).trans q2
      have x3 : ∀ x : Aft w3, x.1.cell? ⟨g4, 0, none⟩ = some (.int .i64 r.spec.st) := fun x => (aft_cell x _ _ n4).trans q3
      have x4 : ∀ x : Aft w3, x.1.cell? ⟨g4, 1, none⟩ = some (.int .i64 r.spec.by_) := fun x => (aft_cell x _ _ n4).trans q4
      have x5 : ∀ x : Aft w3, x.1.cell? ⟨g4, 19, none⟩ = some (.float .f64 r.spec.w) := fun x => (aft_cell x _ _ n4).trans q5
      have H66 : Hid (∀ w', (∃ x : Aft w3, w' = x.1) → w'.rangeAt g4 2 (adRow r.spec).toList) := Lib.hid (by
        rintro w' ⟨x, rfl⟩
        exact range_row (aft_block (hS.row 0 rfl) x) 2 _ (drop_lit _ 2 _ rfl))
      clear q1 q2 q3 q4 q5 n1 n4 p1
      refine wp_region_aft (by kernel_rfl) (by kernel_rfl) ?_
      repeat (first | (go_big_quiet_want; refine quiet_load 66 (.tmp 83) (by rfl) g4 2 (by rfl) (adRow r.spec).toList _ H66.out Tryd.underlying66 rfl size66 ?_; (simp only [Array.toArray_toList, Act.put, List.setIfInBounds_toArray, List.set_cons_zero, List.set_cons_succ]); go_big_quiet_on) | go_big_quiet_step ((first
          | (go_at_call 103; exact aft_same (hst _))
          | (go_at_call 103; exact aft_same (hst2 _))
          | (go_at_call 121; exact aft_below (had _))
          | (go_at_call 25; exact aft_same (hcl _))
          | (go_at_call 24; exact aft_same (hsa _)))))
      refine wpQuiet_nil ?_
      intro _ hw'
      obtain ⟨x, rfl⟩ := hw'
      have HB := hS.below.trans (x.2.mono hS.below.size)
      clear x1 x2 x3 x4 x5
      go_wp2_with fail
      go_ret
      exact ⟨by rw [HR.out, HF.out]; rfl, HB⟩
  · have HF := Lib.hid hf
    clear hf
    rw [d0] at hst
    clear d0
    rw [d4] at hst2
    clear d4
    as_aux_lemma =>
      go_enter Tryd.func102, Tryd.ntmps102
      go_upto_region 1 with (first
        | (refine st_box hS (by rfl) 71 (.tmp 0) (by rfl) _ (by rfl) ?_; clear hS; intro g1 w1 hS _; (simp only [Act.put, List.setIfInBounds_toArray, List.set_cons_zero, List.set_cons_succ])))
      have q1 := cell_gen (hS.row 0 rfl)
      go_upto_region 4 with fail
      clear q1
      have p1 := range_spec (hS.row 0 rfl)
      go_upto_region 5 with (first
        | (refine st_part (by rfl) 68 (.tmp 45) (by rfl) g1 2 (by rfl) (spRow r.spec) p1 _ Tryd.underlying68 rfl size68 ?_; (simp only [Act.put, List.setIfInBounds_toArray, List.set_cons_zero, List.set_cons_succ]))
        | (refine st_alloc hS (by rfl) 68 (by rfl) _ zero68 ?_; clear hS; intro g4 w2 hS _; (simp only [Act.put, List.setIfInBounds_toArray, List.set_cons_zero, List.set_cons_succ]))
        | (refine st_store hS 0 (by rfl) 68 (.tmp 4) (.tmp 46) (by rfl) g4 (by rfl) (spRow r.spec) (by rfl) _ 68 rfl size68 rfl (one_spRow _) ?_; clear hS; intro w3 hS; (simp only [List.set_cons_zero] at hS); (simp only [Act.put])))
      have n1 := hS.lt 1 rfl
      have n4 := hS.lt 0 rfl
      have q1 := cell_gen (hS.row 1 rfl)
      have q2 := cell_life (hS.row 1 rfl)
      have q3 := cell_sst (hS.row 0 rfl)
      have q4 := cell_sby (hS.row 0 rfl)
      have q5 := cell_w (hS.row 0 rfl)
      have x1 : ∀ x : Aft w3, x.1.cell? ⟨g1, 0, none⟩ = some (.int .i64 r.gen) := fun x => (aft_cell x _ _ n1).trans q1
      have x2 : ∀ x : Aft w3, x.1.cell? ⟨g1, 1, none⟩ = some (.int .i64 r.life) := fun x => (aft_cell x _ _ n1).trans q2
      have x3 : ∀ x : Aft w3, x.1.cell? ⟨g4, 0, none⟩ = some (.int .i64 r.spec.st) := fun x => (aft_cell x _ _ n4).trans q3
      have x4 : ∀ x : Aft w3, x.1.cell? ⟨g4, 1, none⟩ = some (.int .i64 r.spec.by_) := fun x => (aft_cell x _ _ n4).trans q4
      have x5 : ∀ x : Aft w3, x.1.cell? ⟨g4, 19, none⟩ = some (.float .f64 r.spec.w) := fun x => (aft_cell x _ _ n4).trans q5
      have H66 : Hid (∀ w', (∃ x : Aft w3, w' = x.1) → w'.rangeAt g4 2 (adRow r.spec).toList) := Lib.hid (by
        rintro w' ⟨x, rfl⟩
        exact range_row (aft_block (hS.row 0 rfl) x) 2 _ (drop_lit _ 2 _ rfl))
      clear q1 q2 q3 q4 q5 n1 n4 p1
      refine wp_region_aft (by kernel_rfl) (by kernel_rfl) ?_
      repeat (first | (go_big_quiet_want; refine quiet_load 66 (.tmp 83) (by rfl) g4 2 (by rfl) (adRow r.spec).toList _ H66.out Tryd.underlying66 rfl size66 ?_; (simp only [Array.toArray_toList, Act.put, List.setIfInBounds_toArray, List.set_cons_zero, List.set_cons_succ]); go_big_quiet_on) | go_big_quiet_step ((first
          | (go_at_call 103; exact aft_same (hst _))
          | (go_at_call 103; exact aft_same (hst2 _))
          | (go_at_call 121; exact aft_below (had _))
          | (go_at_call 25; exact aft_same (hcl _))
          | (go_at_call 24; exact aft_same (hsa _)))))
      refine wpQuiet_nil ?_
      intro _ hw'
      obtain ⟨x, rfl⟩ := hw'
      have HB := hS.below.trans (x.2.mono hS.below.size)
      clear x1 x2 x3 x4 x5
      go_wp2_with fail
      go_ret
      exact ⟨by rw [HR.out, HF.out]; rfl, HB⟩
  · have HF := Lib.hid hf
    clear hf
    rw [d0] at hst
    clear d0
    rw [d4] at hst2
    clear d4
    as_aux_lemma =>
      go_enter Tryd.func102, Tryd.ntmps102
      go_upto_region 1 with (first
        | (refine st_box hS (by rfl) 71 (.tmp 0) (by rfl) _ (by rfl) ?_; clear hS; intro g1 w1 hS _; (simp only [Act.put, List.setIfInBounds_toArray, List.set_cons_zero, List.set_cons_succ])))
      have q1 := cell_gen (hS.row 0 rfl)
      go_upto_region 4 with fail
      clear q1
      have p1 := range_spec (hS.row 0 rfl)
      go_upto_region 5 with (first
        | (refine st_part (by rfl) 68 (.tmp 45) (by rfl) g1 2 (by rfl) (spRow r.spec) p1 _ Tryd.underlying68 rfl size68 ?_; (simp only [Act.put, List.setIfInBounds_toArray, List.set_cons_zero, List.set_cons_succ]))
        | (refine st_alloc hS (by rfl) 68 (by rfl) _ zero68 ?_; clear hS; intro g4 w2 hS _; (simp only [Act.put, List.setIfInBounds_toArray, List.set_cons_zero, List.set_cons_succ]))
        | (refine st_store hS 0 (by rfl) 68 (.tmp 4) (.tmp 46) (by rfl) g4 (by rfl) (spRow r.spec) (by rfl) _ 68 rfl size68 rfl (one_spRow _) ?_; clear hS; intro w3 hS; (simp only [List.set_cons_zero] at hS); (simp only [Act.put])))
      have n1 := hS.lt 1 rfl
      have n4 := hS.lt 0 rfl
      have q1 := cell_gen (hS.row 1 rfl)
      have q2 := cell_life (hS.row 1 rfl)
      have q3 := cell_sst (hS.row 0 rfl)
      have q4 := cell_sby (hS.row 0 rfl)
      have q5 := cell_w (hS.row 0 rfl)
      have x1 : ∀ x : Aft w3, x.1.cell? ⟨g1, 0, none⟩ = some (.int .i64 r.gen) := fun x => (aft_cell x _ _ n1).trans q1
      have x2 : ∀ x : Aft w3, x.1.cell? ⟨g1, 1, none⟩ = some (.int .i64 r.life) := fun x => (aft_cell x _ _ n1).trans q2
      have x3 : ∀ x : Aft w3, x.1.cell? ⟨g4, 0, none⟩ = some (.int .i64 r.spec.st) := fun x => (aft_cell x _ _ n4).trans q3
      have x4 : ∀ x : Aft w3, x.1.cell? ⟨g4, 1, none⟩ = some (.int .i64 r.spec.by_) := fun x => (aft_cell x _ _ n4).trans q4
      have x5 : ∀ x : Aft w3, x.1.cell? ⟨g4, 19, none⟩ = some (.float .f64 r.spec.w) := fun x => (aft_cell x _ _ n4).trans q5
      have H66 : Hid (∀ w', (∃ x : Aft w3, w' = x.1) → w'.rangeAt g4 2 (adRow r.spec).toList) := Lib.hid (by
        rintro w' ⟨x, rfl⟩
        exact range_row (aft_block (hS.row 0 rfl) x) 2 _ (drop_lit _ 2 _ rfl))
      clear q1 q2 q3 q4 q5 n1 n4 p1
      refine wp_region_aft (by kernel_rfl) (by kernel_rfl) ?_
      repeat (first | (go_big_quiet_want; refine quiet_load 66 (.tmp 83) (by rfl) g4 2 (by rfl) (adRow r.spec).toList _ H66.out Tryd.underlying66 rfl size66 ?_; (simp only [Array.toArray_toList, Act.put, List.setIfInBounds_toArray, List.set_cons_zero, List.set_cons_succ]); go_big_quiet_on) | go_big_quiet_step ((first
          | (go_at_call 103; exact aft_same (hst _))
          | (go_at_call 103; exact aft_same (hst2 _))
          | (go_at_call 121; exact aft_below (had _))
          | (go_at_call 25; exact aft_same (hcl _))
          | (go_at_call 24; exact aft_same (hsa _)))))
      refine wpQuiet_nil ?_
      intro _ hw'
      obtain ⟨x, rfl⟩ := hw'
      have HB := hS.below.trans (x.2.mono hS.below.size)
      clear x1 x2 x3 x4 x5
      go_wp2_with fail
      go_ret
      exact ⟨by rw [HR.out, HF.out]; rfl, HB⟩
  · have HF := Lib.hid hf
    clear hf
    rw [d0] at hst
    clear d0
    rw [d4] at hst2
    clear d4
    as_aux_lemma =>
      go_enter Tryd.func102, Tryd.ntmps102
      go_upto_region 1 with (first
        | (refine st_box hS (by rfl) 71 (.tmp 0) (by rfl) _ (by rfl) ?_; clear hS; intro g1 w1 hS _; (simp only [Act.put, List.setIfInBounds_toArray, List.set_cons_zero, List.set_cons_succ])))
      have q1 := cell_gen (hS.row 0 rfl)
      go_upto_region 4 with fail
      clear q1
      have p1 := range_spec (hS.row 0 rfl)
      go_upto_region 5 with (first
        | (refine st_part (by rfl) 68 (.tmp 45) (by rfl) g1 2 (by rfl) (spRow r.spec) p1 _ Tryd.underlying68 rfl size68 ?_; (simp only [Act.put, List.setIfInBounds_toArray, List.set_cons_zero, List.set_cons_succ]))
        | (refine st_alloc hS (by rfl) 68 (by rfl) _ zero68 ?_; clear hS; intro g4 w2 hS _; (simp only [Act.put, List.setIfInBounds_toArray, List.set_cons_zero, List.set_cons_succ]))
        | (refine st_store hS 0 (by rfl) 68 (.tmp 4) (.tmp 46) (by rfl) g4 (by rfl) (spRow r.spec) (by rfl) _ 68 rfl size68 rfl (one_spRow _) ?_; clear hS; intro w3 hS; (simp only [List.set_cons_zero] at hS); (simp only [Act.put])))
      have n1 := hS.lt 1 rfl
      have n4 := hS.lt 0 rfl
      have q1 := cell_gen (hS.row 1 rfl)
      have q2 := cell_life (hS.row 1 rfl)
      have q3 := cell_sst (hS.row 0 rfl)
      have q4 := cell_sby (hS.row 0 rfl)
      have q5 := cell_w (hS.row 0 rfl)
      have x1 : ∀ x : Aft w3, x.1.cell? ⟨g1, 0, none⟩ = some (.int .i64 r.gen) := fun x => (aft_cell x _ _ n1).trans q1
      have x2 : ∀ x : Aft w3, x.1.cell? ⟨g1, 1, none⟩ = some (.int .i64 r.life) := fun x => (aft_cell x _ _ n1).trans q2
      have x3 : ∀ x : Aft w3, x.1.cell? ⟨g4, 0, none⟩ = some (.int .i64 r.spec.st) := fun x => (aft_cell x _ _ n4).trans q3
      have x4 : ∀ x : Aft w3, x.1.cell? ⟨g4, 1, none⟩ = some (.int .i64 r.spec.by_) := fun x => (aft_cell x _ _ n4).trans q4
      have x5 : ∀ x : Aft w3, x.1.cell? ⟨g4, 19, none⟩ = some (.float .f64 r.spec.w) := fun x => (aft_cell x _ _ n4).trans q5
      have H66 : Hid (∀ w', (∃ x : Aft w3, w' = x.1) → w'.rangeAt g4 2 (adRow r.spec).toList) := Lib.hid (by
        rintro w' ⟨x, rfl⟩
        exact range_row (aft_block (hS.row 0 rfl) x) 2 _ (drop_lit _ 2 _ rfl))
      clear q1 q2 q3 q4 q5 n1 n4 p1
      refine wp_region_aft (by kernel_rfl) (by kernel_rfl) ?_
      repeat (first | (go_big_quiet_want; refine quiet_load 66 (.tmp 83) (by rfl) g4 2 (by rfl) (adRow r.spec).toList _ H66.out Tryd.underlying66 rfl size66 ?_; (simp only [Array.toArray_toList, Act.put, List.setIfInBounds_toArray, List.set_cons_zero, List.set_cons_succ]); go_big_quiet_on) | go_big_quiet_step ((first
          | (go_at_call 103; exact aft_same (hst _))
          | (go_at_call 103; exact aft_same (hst2 _))
          | (go_at_call 121; exact aft_below (had _))
          | (go_at_call 25; exact aft_same (hcl _))
          | (go_at_call 24; exact aft_same (hsa _)))))
      refine wpQuiet_nil ?_
      intro _ hw'
      obtain ⟨x, rfl⟩ := hw'
      have HB := hS.below.trans (x.2.mono hS.below.size)
      clear x1 x2 x3 x4 x5
      go_wp2_with fail
      go_ret
      exact ⟨by rw [HR.out, HF.out]; rfl, HB⟩
  · have HF := Lib.hid hf
    clear hf
    rw [d0] at hst
    clear d0
    rw [d4] at hst2
    clear d4
    rw [d7] at had
    clear d7
    as_aux_lemma =>
      go_enter Tryd.func102, Tryd.ntmps102
      go_upto_region 1 with (first
        | (refine st_box hS (by rfl) 71 (.tmp 0) (by rfl) _ (by rfl) ?_; clear hS; intro g1 w1 hS _; (simp only [Act.put, List.setIfInBounds_toArray, List.set_cons_zero, List.set_cons_succ])))
      have q1 := cell_gen (hS.row 0 rfl)
      go_upto_region 4 with fail
      clear q1
      have p1 := range_spec (hS.row 0 rfl)
      go_upto_region 5 with (first
        | (refine st_part (by rfl) 68 (.tmp 45) (by rfl) g1 2 (by rfl) (spRow r.spec) p1 _ Tryd.underlying68 rfl size68 ?_; (simp only [Act.put, List.setIfInBounds_toArray, List.set_cons_zero, List.set_cons_succ]))
        | (refine st_alloc hS (by rfl) 68 (by rfl) _ zero68 ?_; clear hS; intro g4 w2 hS _; (simp only [Act.put, List.setIfInBounds_toArray, List.set_cons_zero, List.set_cons_succ]))
        | (refine st_store hS 0 (by rfl) 68 (.tmp 4) (.tmp 46) (by rfl) g4 (by rfl) (spRow r.spec) (by rfl) _ 68 rfl size68 rfl (one_spRow _) ?_; clear hS; intro w3 hS; (simp only [List.set_cons_zero] at hS); (simp only [Act.put])))
      have n1 := hS.lt 1 rfl
      have n4 := hS.lt 0 rfl
      have q1 := cell_gen (hS.row 1 rfl)
      have q2 := cell_life (hS.row 1 rfl)
      have q3 := cell_sst (hS.row 0 rfl)
      have q4 := cell_sby (hS.row 0 rfl)
      have q5 := cell_w (hS.row 0 rfl)
      have x1 : ∀ x : Aft w3, x.1.cell? ⟨g1, 0, none⟩ = some (.int .i64 r.gen) := fun x => (aft_cell x _ _ n1).trans q1
      have x2 : ∀ x : Aft w3, x.1.cell? ⟨g1, 1, none⟩ = some (.int .i64 r.life) := fun x => (aft_cell x _ _ n1).trans q2
      have x3 : ∀ x : Aft w3, x.1.cell? ⟨g4, 0, none⟩ = some (.int .i64 r.spec.st) := fun x => (aft_cell x _ _ n4).trans q3
      have x4 : ∀ x : Aft w3, x.1.cell? ⟨g4, 1, none⟩ = some (.int .i64 r.spec.by_) := fun x => (aft_cell x _ _ n4).trans q4
      have x5 : ∀ x : Aft w3, x.1.cell? ⟨g4, 19, none⟩ = some (.float .f64 r.spec.w) := fun x => (aft_cell x _ _ n4).trans q5
      have H66 : Hid (∀ w', (∃ x : Aft w3, w' = x.1) → w'.rangeAt g4 2 (adRow r.spec).toList) := Lib.hid (by
        rintro w' ⟨x, rfl⟩
        exact range_row (aft_block (hS.row 0 rfl) x) 2 _ (drop_lit _ 2 _ rfl))
      clear q1 q2 q3 q4 q5 n1 n4 p1
      refine wp_region_aft (by kernel_rfl) (by kernel_rfl) ?_
      repeat (first | (go_big_quiet_want; refine quiet_load 66 (.tmp 83) (by rfl) g4 2 (by rfl) (adRow r.spec).toList _ H66.out Tryd.underlying66 rfl size66 ?_; (simp only [Array.toArray_toList, Act.put, List.setIfInBounds_toArray, List.set_cons_zero, List.set_cons_succ]); go_big_quiet_on) | go_big_quiet_step ((first
          | (go_at_call 103; exact aft_same (hst _))
          | (go_at_call 103; exact aft_same (hst2 _))
          | (go_at_call 121; exact aft_below (had _))
          | (go_at_call 25; exact aft_same (hcl _))
          | (go_at_call 24; exact aft_same (hsa _)))))
      refine wpQuiet_nil ?_
      intro _ hw'
      obtain ⟨x, rfl⟩ := hw'
      have HB := hS.below.trans (x.2.mono hS.below.size)
      clear x1 x2 x3 x4 x5
      go_wp2_with fail
      go_ret
      exact ⟨by rw [HR.out, HF.out]; rfl, HB⟩
  · have HF := Lib.hid hf
    clear hf
    rw [d0] at hst
    clear d0
    rw [d4] at hst2
    clear d4
    rw [d7] at had
    clear d7
    rw [d8] at hsa
    clear d8
    as_aux_lemma =>
      go_enter Tryd.func102, Tryd.ntmps102
      go_upto_region 1 with (first
        | (refine st_box hS (by rfl) 71 (.tmp 0) (by rfl) _ (by rfl) ?_; clear hS; intro g1 w1 hS _; (simp only [Act.put, List.setIfInBounds_toArray, List.set_cons_zero, List.set_cons_succ])))
      have q1 := cell_gen (hS.row 0 rfl)
      go_upto_region 4 with fail
      clear q1
      have p1 := range_spec (hS.row 0 rfl)
      go_upto_region 5 with (first
        | (refine st_part (by rfl) 68 (.tmp 45) (by rfl) g1 2 (by rfl) (spRow r.spec) p1 _ Tryd.underlying68 rfl size68 ?_; (simp only [Act.put, List.setIfInBounds_toArray, List.set_cons_zero, List.set_cons_succ]))
        | (refine st_alloc hS (by rfl) 68 (by rfl) _ zero68 ?_; clear hS; intro g4 w2 hS _; (simp only [Act.put, List.setIfInBounds_toArray, List.set_cons_zero, List.set_cons_succ]))
        | (refine st_store hS 0 (by rfl) 68 (.tmp 4) (.tmp 46) (by rfl) g4 (by rfl) (spRow r.spec) (by rfl) _ 68 rfl size68 rfl (one_spRow _) ?_; clear hS; intro w3 hS; (simp only [List.set_cons_zero] at hS); (simp only [Act.put])))
      have n1 := hS.lt 1 rfl
      have n4 := hS.lt 0 rfl
      have q1 := cell_gen (hS.row 1 rfl)
      have q2 := cell_life (hS.row 1 rfl)
      have q3 := cell_sst (hS.row 0 rfl)
      have q4 := cell_sby (hS.row 0 rfl)
      have q5 := cell_w (hS.row 0 rfl)
      have x1 : ∀ x : Aft w3, x.1.cell? ⟨g1, 0, none⟩ = some (.int .i64 r.gen) := fun x => (aft_cell x _ _ n1).trans q1
      have x2 : ∀ x : Aft w3, x.1.cell? ⟨g1, 1, none⟩ = some (.int .i64 r.life) := fun x => (aft_cell x _ _ n1).trans q2
      have x3 : ∀ x : Aft w3, x.1.cell? ⟨g4, 0, none⟩ = some (.int .i64 r.spec.st) := fun x => (aft_cell x _ _ n4).trans q3
      have x4 : ∀ x : Aft w3, x.1.cell? ⟨g4, 1, none⟩ = some (.int .i64 r.spec.by_) := fun x => (aft_cell x _ _ n4).trans q4
      have x5 : ∀ x : Aft w3, x.1.cell? ⟨g4, 19, none⟩ = some (.float .f64 r.spec.w) := fun x => (aft_cell x _ _ n4).trans q5
      have H66 : Hid (∀ w', (∃ x : Aft w3, w' = x.1) → w'.rangeAt g4 2 (adRow r.spec).toList) := Lib.hid (by
        rintro w' ⟨x, rfl⟩
        exact range_row (aft_block (hS.row 0 rfl) x) 2 _ (drop_lit _ 2 _ rfl))
      clear q1 q2 q3 q4 q5 n1 n4 p1
      refine wp_region_aft (by kernel_rfl) (by kernel_rfl) ?_
      repeat (first | (go_big_quiet_want; refine quiet_load 66 (.tmp 83) (by rfl) g4 2 (by rfl) (adRow r.spec).toList _ H66.out Tryd.underlying66 rfl size66 ?_; (simp only [Array.toArray_toList, Act.put, List.setIfInBounds_toArray, List.set_cons_zero, List.set_cons_succ]); go_big_quiet_on) | go_big_quiet_step ((first
          | (go_at_call 103; exact aft_same (hst _))
          | (go_at_call 103; exact aft_same (hst2 _))
          | (go_at_call 121; exact aft_below (had _))
          | (go_at_call 25; exact aft_same (hcl _))
          | (go_at_call 24; exact aft_same (hsa _)))))
      refine wpQuiet_nil ?_
      intro _ hw'
      obtain ⟨x, rfl⟩ := hw'
      have HB := hS.below.trans (x.2.mono hS.below.size)
      clear x1 x2 x3 x4 x5
      go_wp2_with fail
      go_ret
      exact ⟨by rw [HR.out, HF.out]; rfl, HB⟩
  · have HF := Lib.hid hf
    clear hf
    rw [d0] at hst
    clear d0
    rw [d4] at hst2
    clear d4
    rw [d7] at had
    clear d7
    rw [d8] at hsa
    clear d8
    go_enter Tryd.func102, Tryd.ntmps102
    go_upto_region 1 with (first
        | (refine st_box hS (by rfl) 71 (.tmp 0) (by rfl) _ (by rfl) ?_; clear hS; intro g1 w1 hS _; (simp only [Act.put, List.setIfInBounds_toArray, List.set_cons_zero, List.set_cons_succ])))
    have q1 := cell_gen (hS.row 0 rfl)
    go_upto_region 4 with fail
    clear q1
    have p1 := range_spec (hS.row 0 rfl)
    go_upto_region 5 with (first
        | (refine st_part (by rfl) 68 (.tmp 45) (by rfl) g1 2 (by rfl) (spRow r.spec) p1 _ Tryd.underlying68 rfl size68 ?_; (simp only [Act.put, List.setIfInBounds_toArray, List.set_cons_zero, List.set_cons_succ]))
        | (refine st_alloc hS (by rfl) 68 (by rfl) _ zero68 ?_; clear hS; intro g4 w2 hS _; (simp only [Act.put, List.setIfInBounds_toArray, List.set_cons_zero, List.set_cons_succ]))
        | (refine st_store hS 0 (by rfl) 68 (.tmp 4) (.tmp 46) (by rfl) g4 (by rfl) (spRow r.spec) (by rfl) _ 68 rfl size68 rfl (one_spRow _) ?_; clear hS; intro w3 hS; (simp only [List.set_cons_zero] at hS); (simp only [Act.put])))
    have n1 := hS.lt 1 rfl
    have n4 := hS.lt 0 rfl
    have q1 := cell_gen (hS.row 1 rfl)
    have q2 := cell_life (hS.row 1 rfl)
    have q3 := cell_sst (hS.row 0 rfl)
    have q4 := cell_sby (hS.row 0 rfl)
    have q5 := cell_w (hS.row 0 rfl)
    have x1 : ∀ x : Aft w3, x.1.cell? ⟨g1, 0, none⟩ = some (.int .i64 r.gen) := fun x => (aft_cell x _ _ n1).trans q1
    have x2 : ∀ x : Aft w3, x.1.cell? ⟨g1, 1, none⟩ = some (.int .i64 r.life) := fun x => (aft_cell x _ _ n1).trans q2
    have x3 : ∀ x : Aft w3, x.1.cell? ⟨g4, 0, none⟩ = some (.int .i64 r.spec.st) := fun x => (aft_cell x _ _ n4).trans q3
    have x4 : ∀ x : Aft w3, x.1.cell? ⟨g4, 1, none⟩ = some (.int .i64 r.spec.by_) := fun x => (aft_cell x _ _ n4).trans q4
    have x5 : ∀ x : Aft w3, x.1.cell? ⟨g4, 19, none⟩ = some (.float .f64 r.spec.w) := fun x => (aft_cell x _ _ n4).trans q5
    have H66 : Hid (∀ w', (∃ x : Aft w3, w' = x.1) → w'.rangeAt g4 2 (adRow r.spec).toList) := Lib.hid (by
      rintro w' ⟨x, rfl⟩
      exact range_row (aft_block (hS.row 0 rfl) x) 2 _ (drop_lit _ 2 _ rfl))
    clear q1 q2 q3 q4 q5 n1 n4 p1
    refine wp_region_aft (by kernel_rfl) (by kernel_rfl) ?_
    repeat (first | (go_big_quiet_want; refine quiet_load 66 (.tmp 83) (by rfl) g4 2 (by rfl) (adRow r.spec).toList _ H66.out Tryd.underlying66 rfl size66 ?_; (simp only [Array.toArray_toList, Act.put, List.setIfInBounds_toArray, List.set_cons_zero, List.set_cons_succ]); go_big_quiet_on) | go_big_quiet_step ((first
        | (go_at_call 103; exact aft_same (hst _))
        | (go_at_call 103; exact aft_same (hst2 _))
        | (go_at_call 121; exact aft_below (had _))
        | (go_at_call 25; exact aft_same (hcl _))
        | (go_at_call 24; exact aft_same (hsa _)))))
    refine wpQuiet_nil ?_
    intro w4 hw'
    obtain ⟨x, hx⟩ := hw'
    have hS4 : St w w4 [(g4, spRow r.spec, 68), (g1, rcRow r a n c, 71)] := by rw [hx]; exact hS.call x.2
    clear hS hx x
    have hS := hS4
    clear hS4 x1 x2 x3 x4 x5 hst2 had hcl hsa
    rw [HF.out, Bool.true_and] at HR
    have q3 := cell_votes (hS.row 1 rfl)
    have q4 := cell_done (hS.row 1 rfl)
    have HS := Lib.hid hS
    go_upto_region 8 with fail
    by_cases d16 : 16 < n
    · have e16 : decide ((16 : Int) < (n : Int)) = true := decide_eq_true (by omega)
      have HBODY : Hid (bodyOk r = false) := Lib.hid (by unfold bodyOk; rw [HLEN.out, decide_eq_true d16]; rfl)
      as_aux_lemma =>
        go_wp2_with fail
        have HB := HS.out.below
        go_ret
        exact ⟨by rw [HR.out, HBODY.out]; rfl, HB⟩
    · have e16 : decide ((16 : Int) < (n : Int)) = false := decide_eq_false (by omega)
      have hb16 : decide (16 < n) = false := decide_eq_false d16
      have hl0 : lastOk r.votes = (decide (n = 0) || !((r.votes.getD (n - 1) vt0).1 == 0)) := by unfold lastOk; rw [HLEN.out]
      have hbd : bodyOk r = (lastOk r.votes && (!decide (r.done < 0) && (!decide (65535 < r.done) && votsOk r.votes))) := by unfold bodyOk; rw [HLEN.out, hb16]; rfl
      have HBD := Lib.hid hbd
      clear hbd hb16
      rcases Nat.eq_zero_or_pos n with rfl | hnp
      · have HLO : Hid (lastOk r.votes = true) := Lib.hid (by rw [hl0]; rfl)
        clear hl0
        by_cases k1 : r.done < 0
        · have f1 : decide (r.done < 0) = true := decide_eq_true k1
          as_aux_lemma =>
            go_wp2_with fail
            have HB := HS.out.below
            go_ret
            exact ⟨by rw [HR.out, HBD.out, HLO.out, f1]; rfl, HB⟩
        · have f1 : decide (r.done < 0) = false := decide_eq_false k1
          clear k1
          by_cases k2 : 65535 < r.done
          · have f2 : decide (65535 < r.done) = true := decide_eq_true k2
            as_aux_lemma =>
              go_wp2_with fail
              have HB := HS.out.below
              go_ret
              exact ⟨by rw [HR.out, HBD.out, HLO.out, f1, f2]; rfl, HB⟩
          · have f2 : decide (65535 < r.done) = false := decide_eq_false k2
            have HALL : Hid (rcOk r = votsOk r.votes) := Lib.hid (by rw [HR.out, HBD.out, HLO.out, f1, f2]; rfl)
            clear k2 hst
            go_wp2_with fail
            clear f1 f2
            go_loop [6] (fun i => ∃ k : Nat, k ≤ 0 ∧ i = .int .i64 k ∧ Hid (∀ j, j < k → votOk (r.votes.getD j vt0) = true)) (fun i => 0 - (intOf i).toNat)
            case atStart => exact ⟨0, Nat.zero_le _, rfl, Lib.hid (fun j hj => by omega)⟩
            case round =>
              obtain ⟨k, hk, rfl, hI⟩ := hrel
              by_cases hlt : k < 0
              · exfalso; omega
              · have hkn : k = 0 := by omega
                have HN : Hid (votsOk r.votes = true) := Lib.hid (votsOk_true (by rw [HLEN.out, ← hkn]; exact hI.out))
                subst hkn
                clear hI
                as_aux_lemma =>
                  go_wp2_with fail
                  have HB := HS.out.below
                  go_ret
                  exact ⟨by rw [HALL.out, HN.out] <;> rfl, HB⟩
      · obtain ⟨m, rfl⟩ : ∃ m, n = m + 1 := ⟨n - 1, by omega⟩
        have en : decide ((0 : Int) < (((m + 1 : Nat)) : Int)) = true := decide_eq_true (by omega)
        obtain ⟨b, off, rfl, c1, c2⟩ := HVT.out m (by rw [HLEN.out]; omega)
        have c1' := (HS.out.below.cell (p := ⟨b, off + m * 2, none⟩) (World.block_lt_of_cell? w _ c1)).trans c1
        clear c1 c2
        rw [show m + 1 - 1 = m by omega] at hl0
        have e0n : decide (m + 1 = 0) = false := decide_eq_false (by omega)
        rw [e0n, Bool.false_or] at hl0
        cases hz : (r.votes.getD m vt0).1 == 0
        · have HLO : Hid (lastOk r.votes = true) := Lib.hid (by rw [hl0, hz]; rfl)
          clear hl0 e0n
          generalize (r.votes.getD m vt0).1 = lst at *
          by_cases k1 : r.done < 0
          · have f1 : decide (r.done < 0) = true := decide_eq_true k1
            as_aux_lemma =>
              go_wp2_with fail
              have HB := HS.out.below
              go_ret
              exact ⟨by rw [HR.out, HBD.out, HLO.out, f1]; rfl, HB⟩
          · have f1 : decide (r.done < 0) = false := decide_eq_false k1
            clear k1
            by_cases k2 : 65535 < r.done
            · have f2 : decide (65535 < r.done) = true := decide_eq_true k2
              as_aux_lemma =>
                go_wp2_with fail
                have HB := HS.out.below
                go_ret
                exact ⟨by rw [HR.out, HBD.out, HLO.out, f1, f2]; rfl, HB⟩
            · have f2 : decide (65535 < r.done) = false := decide_eq_false k2
              have HALL : Hid (rcOk r = votsOk r.votes) := Lib.hid (by rw [HR.out, HBD.out, HLO.out, f1, f2]; rfl)
              clear k2 hst
              go_wp2_with fail
              clear f1 f2
              go_loop [6] (fun i => ∃ k : Nat, k ≤ (m + 1) ∧ i = .int .i64 k ∧ Hid (∀ j, j < k → votOk (r.votes.getD j vt0) = true)) (fun i => (m + 1) - (intOf i).toNat)
              case atStart => exact ⟨0, Nat.zero_le _, rfl, Lib.hid (fun j hj => by omega)⟩
              case round =>
                obtain ⟨k, hk, rfl, hI⟩ := hrel
                by_cases hlt : k < (m + 1)
                · obtain ⟨b2, off2, hab, c3, c4⟩ := HVT.out k (by rw [HLEN.out]; exact hlt)
                  obtain ⟨rfl, rfl⟩ : b = b2 ∧ off = off2 := by simpa using hab
                  have c3' := (HS.out.below.cell (p := ⟨b, off + k * 2, none⟩) (World.block_lt_of_cell? w _ c3)).trans c3
                  have c4' := (HS.out.below.cell (p := ⟨b, off + k * 2 + 1, none⟩) (World.block_lt_of_cell? w _ c4)).trans c4
                  clear c3 c4
                  have hsv := fun W => rstampC (r.votes.getD k vt0).1 W
                  cases hq : votOk (r.votes.getD k vt0)
                  · have HN := Lib.hid (votsOk_false (by rw [HLEN.out]; exact hlt) hq)
                    clear hI
                    unfold votOk at hq
                    generalize r.votes.getD k vt0 = v at *
                    cases hs : stampOk v.1
                    · rw [hs] at hsv
                      clear hq hs
                      as_aux_lemma =>
                        go_wp2_with (go_at_call 103; refine (hsv _).mono ?_; rintro e w' ⟨rfl, rfl⟩)
                        have HB := HS.out.below
                        go_ret
                        exact ⟨by rw [HALL.out, HN.out] <;> rfl, HB⟩
                    · rw [hs, Bool.true_and] at hq
                      rw [hs] at hsv
                      have hv0 : (v.1 == 0) = true := by
                        unfold stampOk at hs
                        simp at hs hq ⊢
                        omega
                      have hv1 : v.2 = true := by simp at hq; exact hq.2
                      rw [hv1] at c4'
                      clear hq hs hv1
                      as_aux_lemma =>
                        go_wp2_with (go_at_call 103; refine (hsv _).mono ?_; rintro e w' ⟨rfl, rfl⟩)
                        have HB := HS.out.below
                        go_ret
                        exact ⟨by rw [HALL.out, HN.out] <;> rfl, HB⟩
                  · have HI : Hid (∀ j, j < k + 1 → votOk (r.votes.getD j vt0) = true) := Lib.hid (fun j hj => by
                      rcases Nat.lt_or_ge j k with h | h
                      · exact hI.out j h
                      · have : j = k := by omega
                        subst this; exact hq)
                    clear hI
                    unfold votOk at hq
                    generalize r.votes.getD k vt0 = v at *
                    rw [Bool.and_eq_true] at hq
                    rw [hq.1] at hsv
                    have hq2 := hq.2
                    clear hq
                    cases hv0 : v.1 == 0
                    · clear hq2
                      as_aux_lemma =>
                        go_wp2_with (go_at_call 103; refine (hsv _).mono ?_; rintro e w' ⟨rfl, rfl⟩)
                        go_round
                        case rel => exact ⟨k + 1, by omega, by go_num, HI⟩
                        case measure => simp [intOf]; omega
                    · have hv1 : v.2 = false := by
                        rw [beq_iff_eq] at hv0
                        rw [hv0] at hq2
                        simpa using hq2
                      rw [hv1] at c4'
                      clear hq2 hv1
                      as_aux_lemma =>
                        go_wp2_with (go_at_call 103; refine (hsv _).mono ?_; rintro e w' ⟨rfl, rfl⟩)
                        go_round
                        case rel => exact ⟨k + 1, by omega, by go_num, HI⟩
                        case measure => simp [intOf]; omega
                · have hkn : k = (m + 1) := by omega
                  have HN : Hid (votsOk r.votes = true) := Lib.hid (votsOk_true (by rw [HLEN.out, ← hkn]; exact hI.out))
                  subst hkn
                  clear hI
                  as_aux_lemma =>
                    go_wp2_with fail
                    have HB := HS.out.below
                    go_ret
                    exact ⟨by rw [HALL.out, HN.out] <;> rfl, HB⟩
        · have HLO : Hid (lastOk r.votes = false) := Lib.hid (by rw [hl0, hz]; rfl)
          clear hl0 e0n
          generalize (r.votes.getD m vt0).1 = lst at *
          as_aux_lemma =>
            go_wp2_with fail
            have HB := HS.out.below
            go_ret
            exact ⟨by rw [HR.out, HBD.out, HLO.out]; rfl, HB⟩
theorem rrightC (r : Rc) (a : Option Addr) (c : Nat) (w : World) (hn : RcN r) (hv : Vts w a r.votes) :
    Calls Tryd.prog 102 #[recV r a r.votes.length c] w fun e w' => e = .returned (.bool (rcOk r)) ∧ Below w.heap.size w w' := by
  by_cases h0 : r.gen = 0
  · exact rright_none r a c w hn h0
  · exact rright_some r a c w hn hv h0
end Go.Proofs.YtniejpfjbifjkaaDoor
