/- Spec.right. -/
import Derived.Test.YtniejpfjbifjkaaDoorLb
import Derived.Test.YtniejpfjbifjkaaDoorLd
import Derived.Test.YtniejpfjbifjkaaDoorLt
namespace Go.Proofs.YtniejpfjbifjkaaDoor
open Go.RowKit Fl

theorem size66 : (Tryd.prog.info? 66).map (·.size) = some 17 := by kernel_rfl
def spcOk (s : Spc) : Bool := decide (1 ≤ s.st) && (stampOk s.st && (decide (0 ≤ s.by_) && (decide (s.by_ < 16) && (adrOk s.v6 s.b && sameF s.w (cl s.w)))))
theorem drop_lit (cs : Array Value) (o : Nat) (l : List Value) (h : (cs.toList.drop o).take l.length = l) : ∀ (j : Nat) (v : Value), l[j]? = some v → cs[o + j]? = some v := by
  intro j v hv
  rw [← h, List.getElem?_take] at hv
  split at hv
  · simpa using hv
  · cases hv
/-- each part by itself. -/
theorem spcOk_cases (s : Spc) : (decide (1 ≤ s.st) = false ∧ spcOk s = false) ∨ (decide (1 ≤ s.st) = true ∧ (
    (stampOk s.st = false ∧ spcOk s = false) ∨ (stampOk s.st = true ∧ (
    (decide (0 ≤ s.by_) = false ∧ spcOk s = false) ∨ (decide (0 ≤ s.by_) = true ∧ (
    (decide (s.by_ < 16) = false ∧ spcOk s = false) ∨ (decide (s.by_ < 16) = true ∧ (
    (adrOk s.v6 s.b = false ∧ spcOk s = false) ∨ (adrOk s.v6 s.b = true ∧ spcOk s = sameF s.w (cl s.w)))))))))) := by
  unfold spcOk
  cases decide (1 ≤ s.st) <;> cases stampOk s.st <;> cases decide (0 ≤ s.by_) <;> cases decide (s.by_ < 16) <;> cases adrOk s.v6 s.b <;> simp
theorem laid_box {w : World} {o : Obj} (hl : Laid w) (hpos : 0 < w.heap.size) (x : Aft (w.alloc o)) : Laid x.1 ∧ Below w.heap.size w x.1 := by
  have h : Below w.heap.size w x.1 := ((Below.refl _ _).alloc (Nat.le_refl _) _).trans (x.2.mono (by simp))
  exact ⟨hl.below h hpos, h⟩
set_option maxRecDepth 100000 in
set_option maxHeartbeats 2000000 in
theorem srightC (s : Spc) (w : World) (hw : s.w < B64) (hl : Laid w) (hpos : 0 < w.heap.size) :
    Calls Tryd.prog 90 #[spcV s] w fun e w' => e = .returned (.bool (spcOk s)) ∧ Below w.heap.size w w' := by
  have hst := fun W => stampC s.st W
  have had := fun W => arightC s.v6 s.b W
  have hLB := fun o x => laid_box (o := o) hl hpos x
  have hcell := fun (W : World) (x : Aft W) => aft_cell x
  have HLB := Lib.hid hLB
  clear hLB
  have hcases := spcOk_cases s
  unfold spcV
  unfold adrV at had
  generalize hR : spcOk s = R at *
  have HRR := Lib.hid hR
  clear hR
  generalize s.st = st at *
  generalize s.by_ = by_ at *
  generalize s.v6 = v6 at *
  generalize s.w = y at *
  have h66 : ∀ w', (∃ x : Aft (w.alloc (.cells #[.int .i64 st, .int .i64 by_, .bool v6, .int .u8 (s.b 0), .int .u8 (s.b 1), .int .u8 (s.b 2), .int .u8 (s.b 3), .int .u8 (s.b 4), .int .u8 (s.b 5), .int .u8 (s.b 6), .int .u8 (s.b 7), .int .u8 (s.b 8), .int .u8 (s.b 9), .int .u8 (s.b 10), .int .u8 (s.b 11), .int .u8 (s.b 12), .int .u8 (s.b 13), .int .u8 (s.b 14), .int .u8 (s.b 15), .float .f64 y] 72)), w' = x.1) → w'.rangeAt w.heap.size 2 [.bool v6, .int .u8 (s.b 0), .int .u8 (s.b 1), .int .u8 (s.b 2), .int .u8 (s.b 3), .int .u8 (s.b 4), .int .u8 (s.b 5), .int .u8 (s.b 6), .int .u8 (s.b 7), .int .u8 (s.b 8), .int .u8 (s.b 9), .int .u8 (s.b 10), .int .u8 (s.b 11), .int .u8 (s.b 12), .int .u8 (s.b 13), .int .u8 (s.b 14), .int .u8 (s.b 15)] := by
    rintro w' ⟨x, rfl⟩
    exact range_row (aft_block (heap_alloc_new w _) x) 2 _ (drop_lit _ 2 _ rfl)
  have H66 := Lib.hid h66
  clear h66
  rcases hcases with ⟨d1, rfl⟩ | ⟨d1, ⟨d2, rfl⟩ | ⟨d2, ⟨d3, rfl⟩ | ⟨d3, ⟨d4, rfl⟩ | ⟨d4, ⟨d5, rfl⟩ | ⟨d5, hr⟩⟩⟩⟩⟩
  · skip
    as_aux_lemma =>
      go_enter Tryd.func90, Tryd.ntmps90
      go_wp2_with fail
      refine wp_region_aft (by kernel_rfl) (by kernel_rfl) ?_
      repeat (first | (go_big_quiet_want; refine quiet_load 66 (.tmp 22) (by rfl) w.heap.size 2 (by rfl) [.bool v6, .int .u8 (s.b 0), .int .u8 (s.b 1), .int .u8 (s.b 2), .int .u8 (s.b 3), .int .u8 (s.b 4), .int .u8 (s.b 5), .int .u8 (s.b 6), .int .u8 (s.b 7), .int .u8 (s.b 8), .int .u8 (s.b 9), .int .u8 (s.b 10), .int .u8 (s.b 11), .int .u8 (s.b 12), .int .u8 (s.b 13), .int .u8 (s.b 14), .int .u8 (s.b 15)] _ H66.out Tryd.underlying66 rfl size66 ?_; (simp only [Act.put, List.setIfInBounds_toArray, List.set_cons_zero, List.set_cons_succ]); go_big_quiet_on) | go_big_quiet_step ((first
        | (go_at_call 89; exact aft_same (hst _))
        | (go_at_call 112; exact aft_below (had _))
        | (go_at_call 22; exact aft_same (cleanC _ _ hw (HLB.out _ _).1))
        | (go_at_call 28; exact aft_same (same_calls _ _ _)))))
      refine wpQuiet_nil ?_
      intro _ hw'
      obtain ⟨x, rfl⟩ := hw'
      go_wp2
      go_ret
      exact ⟨rfl, (HLB.out _ x).2⟩
  · rw [d2] at hst
    as_aux_lemma =>
      go_enter Tryd.func90, Tryd.ntmps90
      go_wp2_with fail
      refine wp_region_aft (by kernel_rfl) (by kernel_rfl) ?_
      repeat (first | (go_big_quiet_want; refine quiet_load 66 (.tmp 22) (by rfl) w.heap.size 2 (by rfl) [.bool v6, .int .u8 (s.b 0), .int .u8 (s.b 1), .int .u8 (s.b 2), .int .u8 (s.b 3), .int .u8 (s.b 4), .int .u8 (s.b 5), .int .u8 (s.b 6), .int .u8 (s.b 7), .int .u8 (s.b 8), .int .u8 (s.b 9), .int .u8 (s.b 10), .int .u8 (s.b 11), .int .u8 (s.b 12), .int .u8 (s.b 13), .int .u8 (s.b 14), .int .u8 (s.b 15)] _ H66.out Tryd.underlying66 rfl size66 ?_; (simp only [Act.put, List.setIfInBounds_toArray, List.set_cons_zero, List.set_cons_succ]); go_big_quiet_on) | go_big_quiet_step ((first
        | (go_at_call 89; exact aft_same (hst _))
        | (go_at_call 112; exact aft_below (had _))
        | (go_at_call 22; exact aft_same (cleanC _ _ hw (HLB.out _ _).1))
        | (go_at_call 28; exact aft_same (same_calls _ _ _)))))
      refine wpQuiet_nil ?_
      intro _ hw'
      obtain ⟨x, rfl⟩ := hw'
      go_wp2
      go_ret
      exact ⟨rfl, (HLB.out _ x).2⟩
  · rw [d2] at hst
    as_aux_lemma =>
      go_enter Tryd.func90, Tryd.ntmps90
      go_wp2_with fail
      refine wp_region_aft (by kernel_rfl) (by kernel_rfl) ?_
      repeat (first | (go_big_quiet_want; refine quiet_load 66 (.tmp 22) (by rfl) w.heap.size 2 (by rfl) [.bool v6, .int .u8 (s.b 0), .int .u8 (s.b 1), .int .u8 (s.b 2), .int .u8 (s.b 3), .int .u8 (s.b 4), .int .u8 (s.b 5), .int .u8 (s.b 6), .int .u8 (s.b 7), .int .u8 (s.b 8), .int .u8 (s.b 9), .int .u8 (s.b 10), .int .u8 (s.b 11), .int .u8 (s.b 12), .int .u8 (s.b 13), .int .u8 (s.b 14), .int .u8 (s.b 15)] _ H66.out Tryd.underlying66 rfl size66 ?_; (simp only [Act.put, List.setIfInBounds_toArray, List.set_cons_zero, List.set_cons_succ]); go_big_quiet_on) | go_big_quiet_step ((first
        | (go_at_call 89; exact aft_same (hst _))
        | (go_at_call 112; exact aft_below (had _))
        | (go_at_call 22; exact aft_same (cleanC _ _ hw (HLB.out _ _).1))
        | (go_at_call 28; exact aft_same (same_calls _ _ _)))))
      refine wpQuiet_nil ?_
      intro _ hw'
      obtain ⟨x, rfl⟩ := hw'
      go_wp2
      go_ret
      exact ⟨rfl, (HLB.out _ x).2⟩
  · rw [d2] at hst
    as_aux_lemma =>
      go_enter Tryd.func90, Tryd.ntmps90
      go_wp2_with fail
      refine wp_region_aft (by kernel_rfl) (by kernel_rfl) ?_
      repeat (first | (go_big_quiet_want; refine quiet_load 66 (.tmp 22) (by rfl) w.heap.size 2 (by rfl) [.bool v6, .int .u8 (s.b 0), .int .u8 (s.b 1), .int .u8 (s.b 2), .int .u8 (s.b 3), .int .u8 (s.b 4), .int .u8 (s.b 5), .int .u8 (s.b 6), .int .u8 (s.b 7), .int .u8 (s.b 8), .int .u8 (s.b 9), .int .u8 (s.b 10), .int .u8 (s.b 11), .int .u8 (s.b 12), .int .u8 (s.b 13), .int .u8 (s.b 14), .int .u8 (s.b 15)] _ H66.out Tryd.underlying66 rfl size66 ?_; (simp only [Act.put, List.setIfInBounds_toArray, List.set_cons_zero, List.set_cons_succ]); go_big_quiet_on) | go_big_quiet_step ((first
        | (go_at_call 89; exact aft_same (hst _))
        | (go_at_call 112; exact aft_below (had _))
        | (go_at_call 22; exact aft_same (cleanC _ _ hw (HLB.out _ _).1))
        | (go_at_call 28; exact aft_same (same_calls _ _ _)))))
      refine wpQuiet_nil ?_
      intro _ hw'
      obtain ⟨x, rfl⟩ := hw'
      go_wp2
      go_ret
      exact ⟨rfl, (HLB.out _ x).2⟩
  · rw [d2] at hst; rw [d5] at had
    as_aux_lemma =>
      go_enter Tryd.func90, Tryd.ntmps90
      go_wp2_with fail
      refine wp_region_aft (by kernel_rfl) (by kernel_rfl) ?_
      repeat (first | (go_big_quiet_want; refine quiet_load 66 (.tmp 22) (by rfl) w.heap.size 2 (by rfl) [.bool v6, .int .u8 (s.b 0), .int .u8 (s.b 1), .int .u8 (s.b 2), .int .u8 (s.b 3), .int .u8 (s.b 4), .int .u8 (s.b 5), .int .u8 (s.b 6), .int .u8 (s.b 7), .int .u8 (s.b 8), .int .u8 (s.b 9), .int .u8 (s.b 10), .int .u8 (s.b 11), .int .u8 (s.b 12), .int .u8 (s.b 13), .int .u8 (s.b 14), .int .u8 (s.b 15)] _ H66.out Tryd.underlying66 rfl size66 ?_; (simp only [Act.put, List.setIfInBounds_toArray, List.set_cons_zero, List.set_cons_succ]); go_big_quiet_on) | go_big_quiet_step ((first
        | (go_at_call 89; exact aft_same (hst _))
        | (go_at_call 112; exact aft_below (had _))
        | (go_at_call 22; exact aft_same (cleanC _ _ hw (HLB.out _ _).1))
        | (go_at_call 28; exact aft_same (same_calls _ _ _)))))
      refine wpQuiet_nil ?_
      intro _ hw'
      obtain ⟨x, rfl⟩ := hw'
      go_wp2
      go_ret
      exact ⟨rfl, (HLB.out _ x).2⟩
  · rw [d2] at hst; rw [d5] at had; have HR2 := Lib.hid hr; clear hr
    as_aux_lemma =>
      go_enter Tryd.func90, Tryd.ntmps90
      go_wp2_with fail
      refine wp_region_aft (by kernel_rfl) (by kernel_rfl) ?_
      repeat (first | (go_big_quiet_want; refine quiet_load 66 (.tmp 22) (by rfl) w.heap.size 2 (by rfl) [.bool v6, .int .u8 (s.b 0), .int .u8 (s.b 1), .int .u8 (s.b 2), .int .u8 (s.b 3), .int .u8 (s.b 4), .int .u8 (s.b 5), .int .u8 (s.b 6), .int .u8 (s.b 7), .int .u8 (s.b 8), .int .u8 (s.b 9), .int .u8 (s.b 10), .int .u8 (s.b 11), .int .u8 (s.b 12), .int .u8 (s.b 13), .int .u8 (s.b 14), .int .u8 (s.b 15)] _ H66.out Tryd.underlying66 rfl size66 ?_; (simp only [Act.put, List.setIfInBounds_toArray, List.set_cons_zero, List.set_cons_succ]); go_big_quiet_on) | go_big_quiet_step ((first
        | (go_at_call 89; exact aft_same (hst _))
        | (go_at_call 112; exact aft_below (had _))
        | (go_at_call 22; exact aft_same (cleanC _ _ hw (HLB.out _ _).1))
        | (go_at_call 28; exact aft_same (same_calls _ _ _)))))
      refine wpQuiet_nil ?_
      intro _ hw'
      obtain ⟨x, rfl⟩ := hw'
      go_wp2
      go_ret
      exact ⟨by rw [HR2.out]; rfl, (HLB.out _ x).2⟩
end Go.Proofs.YtniejpfjbifjkaaDoor
