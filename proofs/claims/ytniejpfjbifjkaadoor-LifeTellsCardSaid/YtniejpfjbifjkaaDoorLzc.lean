/- given (60), taken (73). -/
import Derived.Test.YtniejpfjbifjkaaDoorLzb
namespace Go.Proofs.YtniejpfjbifjkaaDoor
open Go.RowKit Fl

set_option maxRecDepth 100000 in
set_option maxHeartbeats 8000000 in
theorem givenC (r : Rc) (a : Option Addr) (c : Nat) (w : World) (hv : Vts w a r.votes) :
    Calls Tryd.prog 60 #[recV r a r.votes.length c] w fun e w' => GivenPost 87 w r e w' := by
  have hS := St.start w
  rw [recV_row]
  go_enter Tryd.func60, Tryd.ntmps60
  go_upto_region 1 with (first
    | (refine st_box hS (by rfl) 71 (.tmp 0) (by rfl) _ (by rfl) ?_; clear hS; intro g1 w1 hS _; (simp only [Act.put, List.setIfInBounds_toArray, List.set_cons_zero, List.set_cons_succ]))
    | (refine st_alloc hS (by rfl) 75 (by rfl) _ zero75 ?_; clear hS; intro g2 w2 hS _; (simp only [Act.put, List.setIfInBounds_toArray, List.set_cons_zero, List.set_cons_succ])))
  have q1 := cell_gen (hS.row 1 rfl)
  have q2 := cell_life (hS.row 1 rfl)
  have q3 := cell_done (hS.row 1 rfl)
  go_upto_region 2 with (first
    | (refine st_build (by rfl) 75 #[(0, .tmp 6), (1, .tmp 8), (4, .tmp 10)] (by rfl) (rcRow ⟨r.gen, r.life, zSpc, [], r.done⟩ none 0 0) (by kernel_rfl) ?_; (simp only [Act.put, List.setIfInBounds_toArray, List.set_cons_zero, List.set_cons_succ]))
    | (refine st_alloc hS (by rfl) 75 (by rfl) _ zero75 ?_; clear hS; intro g3 w3 hS _; (simp only [Act.put, List.setIfInBounds_toArray, List.set_cons_zero, List.set_cons_succ]))
    | (refine st_store hS 0 (by rfl) 75 (.tmp 3) (.tmp 11) (by rfl) g3 (by rfl) (rcRow ⟨r.gen, r.life, zSpc, [], r.done⟩ none 0 0) (by rfl) _ 75 rfl size75 rfl (one_rcRow _ _ _ _) ?_; clear hS; intro w4 hS; (simp only [List.set_cons_zero] at hS); (simp only [Act.put])))
  clear q1 q2 q3
  have p1 := range_adr (hS.row 2 rfl)
  have q1 := cell_st (hS.row 2 rfl)
  have q2 := cell_by (hS.row 2 rfl)
  have q3 := cell_wt (hS.row 2 rfl)
  go_upto_region 3 with (first
    | (refine st_part (by rfl) 66 (.tmp 19) (by rfl) g1 4 (by rfl) (adRow r.spec) p1 _ Tryd.underlying66 rfl size66 ?_; (simp only [Act.put, List.setIfInBounds_toArray, List.set_cons_zero, List.set_cons_succ]))
    | (refine st_build (by rfl) 72 #[(0, .tmp 14), (1, .tmp 17), (2, .tmp 20), (3, .tmp 23)] (by rfl) (spRow r.spec) (by kernel_rfl) ?_; (simp only [Act.put, List.setIfInBounds_toArray, List.set_cons_zero, List.set_cons_succ]))
    | (refine st_puts hS 0 (by rfl) 72 (.tmp 25) (.tmp 24) (by rfl) g3 2 (by rfl) (spRow r.spec) (by rfl) _ 75 rfl rfl (one_spRow _) size72 ?_; clear hS; intro w5 hS; (simp only [List.set_cons_zero, put_spec] at hS); (simp only [Act.put])))
  clear q1 q2 q3 p1
  go_wp2_with fail
  have m1 := hv.1
  go_loopw [4] (fun i wr => ∃ (k : Nat) (aV : Option Addr) (cV : Nat), k ≤ r.votes.length ∧ i = .int .i64 k ∧ wr.ownsRow w.heap.size 87 2 (.slice aV k cV) k (flatV (r.votes.take k)) ∧ St w wr [(g3, rcRow ⟨r.gen, r.life, r.spec, [], r.done⟩ aV k cV, 75), (g2, rcRow zRc none 0 0, 75), (g1, rcRow r a r.votes.length c, 71)]) (fun i _ => r.votes.length - (intOf i).toNat)
  case atStart => exact ⟨0, none, 0, Nat.zero_le _, rfl, World.ownsRow_nil _ _ _ _, hS⟩
  case round =>
    clear hS
    obtain ⟨k, aV, cV, hkN, rfl, hown, hS⟩ := hrel
    by_cases hlt : k < r.votes.length
    · obtain ⟨b, off, rfl, c1, c2⟩ := hv.2 k hlt
      have HV : Hid (r.votes.take (k + 1) = r.votes.take k ++ [r.votes.getD k vt0]) := Lib.hid (take_snoc' r.votes k hlt)
      have q1 := cell_votes (hS.row 2 rfl)
      have HC1 := Lib.hid c1
      have HC2 := Lib.hid c2
      have HVV := Lib.hid hv
      clear c1 c2 hv
      generalize r.votes.getD k vt0 = v at *
      go_upto_region 6 with fail
      have c1 := HC1.out
      have c2 := HC2.out
      clear q1
      · skip
        have hS2 := hS.drew
        have hown2 := hown.drew
        have row1 := hS2.row 2 rfl
        have c1' := (hS2.below.cell (p := ⟨b, off + k * 2, none⟩) (World.block_lt_of_cell? w _ c1)).trans c1
        have c2' := (hS2.below.cell (p := ⟨b, off + k * 2 + 1, none⟩) (World.block_lt_of_cell? w _ c2)).trans c2
        have hB2 := hS2.below
        refine wp_region_held (S := fun W => W.heap[g1]? = some (.cells (rcRow r (some ⟨b, off, none⟩) r.votes.length c) 71 (0, 0)) ∧ Below w.heap.size w W) (by kernel_rfl) ?_
        change wpAnyH Tryd.prog .any _ _ _ (18 + 1) (Array.replicate 19 false) _ wr.drew
        clear hS hown
        generalize wr.drew = w6 at *
        refine takeH 0 (some 33) rfl rfl (by kernel_rfl) (by kernel_rfl) (by kernel_rfl) (fun _ _ _ h => h) (v := .pointer (some ⟨g3, 22, none⟩)) (.inl ⟨by rfl, fun w _ => by rfl⟩) ⟨row1, hB2⟩ ?_
        (simp only [Act.put, List.setIfInBounds_toArray, List.set_cons_zero, List.set_cons_succ])
        refine takeH 2 (some 35) rfl rfl (by kernel_rfl) (by kernel_rfl) (by kernel_rfl) (fun _ _ _ h => h) (v := .pointer (some ⟨g1, 22, none⟩)) (.inl ⟨by rfl, fun w _ => by rfl⟩) ⟨row1, hB2⟩ ?_
        (simp only [Act.put, List.setIfInBounds_toArray, List.set_cons_zero, List.set_cons_succ])
        refine takeH 3 (some 36) rfl rfl (by kernel_rfl) (by kernel_rfl) (by kernel_rfl) (fun _ _ _ h => h) (v := .slice (some ⟨b, off, none⟩) r.votes.length c) (.inl ⟨by rfl, fun W hW => run_load1 _ _ _ 69 (.tmp 35) rfl ⟨g1, 22, none⟩ (by rfl) _ (cell_votes hW.1) agg69⟩) ⟨row1, hB2⟩ ?_
        (simp only [Act.put, List.setIfInBounds_toArray, List.set_cons_zero, List.set_cons_succ])
        refine takeH 4 (some 37) rfl rfl (by kernel_rfl) (by kernel_rfl) (by kernel_rfl) (fun _ _ _ h => h) (v := .int .i64 k) (.inl ⟨by rfl, fun w _ => by rfl⟩) ⟨row1, hB2⟩ ?_
        (simp only [Act.put, List.setIfInBounds_toArray, List.set_cons_zero, List.set_cons_succ])
        refine takeH 5 (some 38) rfl rfl (by kernel_rfl) (by kernel_rfl) (by kernel_rfl) (fun _ _ _ h => h) (v := .pointer (some ⟨b, off + k * 2, none⟩)) (.inl ⟨by rfl, fun W _ => run_idxG vk69 _ _ _ (.tmp 36) (.tmp 37) rfl b off _ _ k (by rfl) (by rfl) hlt⟩) ⟨row1, hB2⟩ ?_
        (simp only [Act.put, List.setIfInBounds_toArray, List.set_cons_zero, List.set_cons_succ])
        refine takeH 6 (some 39) rfl rfl (by kernel_rfl) (by kernel_rfl) (by kernel_rfl) (fun _ _ _ h => h) (v := .pointer (some ⟨b, off + k * 2, none⟩)) (.inl ⟨by rfl, fun w _ => by rfl⟩) ⟨row1, hB2⟩ ?_
        (simp only [Act.put, List.setIfInBounds_toArray, List.set_cons_zero, List.set_cons_succ])
        refine takeH 7 (some 40) rfl rfl (by kernel_rfl) (by kernel_rfl) (by kernel_rfl) (fun _ _ _ h => h) (v := .int .i64 v.1) (.inl ⟨by rfl, fun W hW => run_load1 _ _ _ 2 (.tmp 39) rfl ⟨b, off + k * 2, none⟩ (by rfl) _ ((hW.2.cell (p := ⟨b, off + k * 2, none⟩) (World.block_lt_of_cell? w _ c1)).trans c1) agg2⟩) ⟨row1, hB2⟩ ?_
        (simp only [Act.put, List.setIfInBounds_toArray, List.set_cons_zero, List.set_cons_succ])
        refine takeH 8 (some 41) rfl rfl (by kernel_rfl) (by kernel_rfl) (by kernel_rfl) (fun _ _ _ h => h) (v := .pointer (some ⟨g1, 22, none⟩)) (.inl ⟨by rfl, fun w _ => by rfl⟩) ⟨row1, hB2⟩ ?_
        (simp only [Act.put, List.setIfInBounds_toArray, List.set_cons_zero, List.set_cons_succ])
        refine takeH 9 (some 42) rfl rfl (by kernel_rfl) (by kernel_rfl) (by kernel_rfl) (fun _ _ _ h => h) (v := .slice (some ⟨b, off, none⟩) r.votes.length c) (.inl ⟨by rfl, fun W hW => run_load1 _ _ _ 69 (.tmp 41) rfl ⟨g1, 22, none⟩ (by rfl) _ (cell_votes hW.1) agg69⟩) ⟨row1, hB2⟩ ?_
        (simp only [Act.put, List.setIfInBounds_toArray, List.set_cons_zero, List.set_cons_succ])
        refine takeH 10 (some 43) rfl rfl (by kernel_rfl) (by kernel_rfl) (by kernel_rfl) (fun _ _ _ h => h) (v := .int .i64 k) (.inl ⟨by rfl, fun w _ => by rfl⟩) ⟨row1, hB2⟩ ?_
        (simp only [Act.put, List.setIfInBounds_toArray, List.set_cons_zero, List.set_cons_succ])
        refine takeH 11 (some 44) rfl rfl (by kernel_rfl) (by kernel_rfl) (by kernel_rfl) (fun _ _ _ h => h) (v := .pointer (some ⟨b, off + k * 2, none⟩)) (.inl ⟨by rfl, fun W _ => run_idxG vk69 _ _ _ (.tmp 42) (.tmp 43) rfl b off _ _ k (by rfl) (by rfl) hlt⟩) ⟨row1, hB2⟩ ?_
        (simp only [Act.put, List.setIfInBounds_toArray, List.set_cons_zero, List.set_cons_succ])
        refine takeH 12 (some 45) rfl rfl (by kernel_rfl) (by kernel_rfl) (by kernel_rfl) (fun _ _ _ h => h) (v := .pointer (some ⟨b, off + k * 2 + 1, none⟩)) (.inl ⟨by rfl, fun w _ => by rfl⟩) ⟨row1, hB2⟩ ?_
        (simp only [Act.put, List.setIfInBounds_toArray, List.set_cons_zero, List.set_cons_succ])
        refine takeH 13 (some 46) rfl rfl (by kernel_rfl) (by kernel_rfl) (by kernel_rfl) (fun _ _ _ h => h) (v := .bool v.2) (.inl ⟨by rfl, fun W hW => run_load1 _ _ _ 4 (.tmp 45) rfl ⟨b, off + k * 2 + 1, none⟩ (by rfl) _ ((hW.2.cell (p := ⟨b, off + k * 2 + 1, none⟩) (World.block_lt_of_cell? w _ c2)).trans c2) agg4⟩) ⟨row1, hB2⟩ ?_
        (simp only [Act.put, List.setIfInBounds_toArray, List.set_cons_zero, List.set_cons_succ])
        refine takeH 14 (some 47) rfl rfl (by kernel_rfl) (by kernel_rfl) (by kernel_rfl) (fun _ _ _ h => h) (v := .agg (vtRow v)) (.inl ⟨by rfl, fun W _ => run_buildG _ _ _ 87 [(0, .tmp 40), (1, .tmp 46)] rfl (vtRow v) (by kernel_rfl)⟩) ⟨row1, hB2⟩ ?_
        (simp only [Act.put, List.setIfInBounds_toArray, List.set_cons_zero, List.set_cons_succ])
        refine wpAnyH_all (rs := [1, 15]) (by kernel_rfl) (by simp) ?_
        intro i hi
        have hi' : i = 1 ∨ i = 15 := by simpa using hi
        clear hi
        rcases hi' with rfl | rfl
        · refine wpOp_val (some 34) rfl rfl (by kernel_rfl) (run_load1 _ _ _ 73 (.tmp 33) rfl ⟨g3, 22, none⟩ (by rfl) (.slice aV k cV) (cell_votes (hS2.row 0 rfl)) agg73) ?_
          refine ⟨⟨hS2.row 2 rfl, hS2.below⟩, ?_⟩
          (simp only [Act.put, List.setIfInBounds_toArray, List.set_cons_zero, List.set_cons_succ])
          refine wpAnyH_all (rs := [15]) (by kernel_rfl) (by simp) ?_
          intro i hi
          obtain rfl : i = 15 := by simpa using hi
          clear hi
          refine wpOp_val (some 48) rfl rfl (by kernel_rfl) (run_bsliceG vk73 _ _ _ (.tmp 47) rfl v (by rfl)) ?_
          have hS3 := hS2.alloc (vtRow v) 87
          have ho3 := own_below hown2 ((Below.refl _ _).alloc (Nat.le_refl _) (.cells (vtRow v) 87))
          refine ⟨⟨hS3.row 3 rfl, hS3.below⟩, ?_⟩
          (simp only [Act.put, List.setIfInBounds_toArray, List.set_cons_zero, List.set_cons_succ])
          generalize w6.heap.size = gN at *
          generalize w6.alloc (.cells (vtRow v) 87) = w7 at *
          refine wpAnyH_all (rs := [16]) (by kernel_rfl) (by simp) ?_
          intro i hi
          obtain rfl : i = 16 := by simpa using hi
          clear hi
          refine wpOp_appendG vk73 (some 49) rfl rfl (by kernel_rfl) (.tmp 34) (.tmp 48) rfl w.heap.size k (.slice aV k cV) _ (by rfl) ho3 gN v (by rfl) (hS3.row 0 rfl) (by omega) hS3.below.size ?_
          intro a' c' w8 ho4 hg4
          have hS4a := hS3.drop _ (List.sublist_cons_self _ _)
          have hS4 := hS4a.grown hg4 (fun j hj => (ho3.lt j hj).1) (by
            intro x hx
            simp only [List.mem_cons, List.not_mem_nil, or_false] at hx
            rcases hx with rfl | rfl | rfl
            · exact own_ne ho3 (hS4a.row 0 rfl) (by decide)
            · exact own_ne ho3 (hS4a.row 1 rfl) (by decide)
            · exact own_ne ho3 (hS4a.row 2 rfl) (by decide))
          refine ⟨⟨hS4.row 2 rfl, hS4.below⟩, ?_⟩
          (simp only [Act.put, List.setIfInBounds_toArray, List.set_cons_zero, List.set_cons_succ])
          refine wpAnyH_all (rs := [17]) (by kernel_rfl) (by simp) ?_
          intro i hi
          obtain rfl : i = 17 := by simpa using hi
          clear hi
          refine wpOp_val (some 50) rfl rfl (by kernel_rfl) (v := .pointer (some ⟨g3, 22, none⟩)) (by rfl) ?_
          refine ⟨⟨hS4.row 2 rfl, hS4.below⟩, ?_⟩
          (simp only [Act.put, List.setIfInBounds_toArray, List.set_cons_zero, List.set_cons_succ])
          refine wpAnyH_all (rs := [18]) (by kernel_rfl) (by simp) ?_
          intro i hi
          obtain rfl : i = 18 := by simpa using hi
          clear hi
          refine wpOp_unit none rfl rfl (by kernel_rfl) (run_store1 _ _ _ 73 (.tmp 50) (.tmp 49) rfl g3 22 (by rfl) (.slice a' (k + 1) c') (by rfl) _ 75 (hS4.row 0 rfl) rfl rfl rfl size73) ?_
          have hS5 := hS4.put 0 rfl 22 (.slice a' (k + 1) c')
          have ho5 := own_setCell ho4 (own_ne ho4 (hS4.row 0 rfl) (by decide)) 22 (.slice a' (k + 1) c')
          simp only [List.set_cons_zero, put_votes] at hS5
          refine ⟨⟨hS5.row 2 rfl, hS5.below⟩, ?_⟩
          rw [← flatV_snoc, ← HV.out] at ho5
          have HS5 := Lib.hid hS5
          have HO5 := Lib.hid ho5
          refine wpAnyH_done (by kernel_rfl) ?_ _
          simp only [Act.put]
          as_aux_lemma =>
            go_wp2_with fail
            go_roundw
            case rel => exact ⟨k + 1, a', c', by omega, by go_num, HO5.out, HS5.out⟩
            case measure => simp [intOf]; omega
        · refine wpOp_val (some 48) rfl rfl (by kernel_rfl) (run_bsliceG vk73 _ _ _ (.tmp 47) rfl v (by rfl)) ?_
          have hS3 := hS2.alloc (vtRow v) 87
          have ho3 := own_below hown2 ((Below.refl _ _).alloc (Nat.le_refl _) (.cells (vtRow v) 87))
          refine ⟨⟨hS3.row 3 rfl, hS3.below⟩, ?_⟩
          (simp only [Act.put, List.setIfInBounds_toArray, List.set_cons_zero, List.set_cons_succ])
          generalize w6.heap.size = gN at *
          generalize w6.alloc (.cells (vtRow v) 87) = w7 at *
          refine wpAnyH_all (rs := [1]) (by kernel_rfl) (by simp) ?_
          intro i hi
          obtain rfl : i = 1 := by simpa using hi
          clear hi
          refine wpOp_val (some 34) rfl rfl (by kernel_rfl) (run_load1 _ _ _ 73 (.tmp 33) rfl ⟨g3, 22, none⟩ (by rfl) (.slice aV k cV) (cell_votes (hS3.row 1 rfl)) agg73) ?_
          refine ⟨⟨hS3.row 3 rfl, hS3.below⟩, ?_⟩
          (simp only [Act.put, List.setIfInBounds_toArray, List.set_cons_zero, List.set_cons_succ])
          refine wpAnyH_all (rs := [16]) (by kernel_rfl) (by simp) ?_
          intro i hi
          obtain rfl : i = 16 := by simpa using hi
          clear hi
          refine wpOp_appendG vk73 (some 49) rfl rfl (by kernel_rfl) (.tmp 34) (.tmp 48) rfl w.heap.size k (.slice aV k cV) _ (by rfl) ho3 gN v (by rfl) (hS3.row 0 rfl) (by omega) hS3.below.size ?_
          intro a' c' w8 ho4 hg4
          have hS4a := hS3.drop _ (List.sublist_cons_self _ _)
          have hS4 := hS4a.grown hg4 (fun j hj => (ho3.lt j hj).1) (by
            intro x hx
            simp only [List.mem_cons, List.not_mem_nil, or_false] at hx
            rcases hx with rfl | rfl | rfl
            · exact own_ne ho3 (hS4a.row 0 rfl) (by decide)
            · exact own_ne ho3 (hS4a.row 1 rfl) (by decide)
            · exact own_ne ho3 (hS4a.row 2 rfl) (by decide))
          refine ⟨⟨hS4.row 2 rfl, hS4.below⟩, ?_⟩
          (simp only [Act.put, List.setIfInBounds_toArray, List.set_cons_zero, List.set_cons_succ])
          refine wpAnyH_all (rs := [17]) (by kernel_rfl) (by simp) ?_
          intro i hi
          obtain rfl : i = 17 := by simpa using hi
          clear hi
          refine wpOp_val (some 50) rfl rfl (by kernel_rfl) (v := .pointer (some ⟨g3, 22, none⟩)) (by rfl) ?_
          refine ⟨⟨hS4.row 2 rfl, hS4.below⟩, ?_⟩
          (simp only [Act.put, List.setIfInBounds_toArray, List.set_cons_zero, List.set_cons_succ])
          refine wpAnyH_all (rs := [18]) (by kernel_rfl) (by simp) ?_
          intro i hi
          obtain rfl : i = 18 := by simpa using hi
          clear hi
          refine wpOp_unit none rfl rfl (by kernel_rfl) (run_store1 _ _ _ 73 (.tmp 50) (.tmp 49) rfl g3 22 (by rfl) (.slice a' (k + 1) c') (by rfl) _ 75 (hS4.row 0 rfl) rfl rfl rfl size73) ?_
          have hS5 := hS4.put 0 rfl 22 (.slice a' (k + 1) c')
          have ho5 := own_setCell ho4 (own_ne ho4 (hS4.row 0 rfl) (by decide)) 22 (.slice a' (k + 1) c')
          simp only [List.set_cons_zero, put_votes] at hS5
          refine ⟨⟨hS5.row 2 rfl, hS5.below⟩, ?_⟩
          rw [← flatV_snoc, ← HV.out] at ho5
          have HS5 := Lib.hid hS5
          have HO5 := Lib.hid ho5
          refine wpAnyH_done (by kernel_rfl) ?_ _
          simp only [Act.put]
          as_aux_lemma =>
            go_wp2_with fail
            go_roundw
            case rel => exact ⟨k + 1, a', c', by omega, by go_num, HO5.out, HS5.out⟩
            case measure => simp [intOf]; omega
    · obtain rfl : k = r.votes.length := by omega
      have hne := own_ne hown (hS.row 1 rfl) (by decide)
      have HO := Lib.hid hown
      have q1 := cell_votes (hS.row 2 rfl)
      clear hown hv
      rw [List.take_length] at HO
      go_wp2_with (first
        | (refine st_load hS 0 (by rfl) 75 (.tmp 3) (by rfl) g3 (by rfl) _ 75 rfl _ Tryd.underlying75 rfl size75 ?_; (simp only [Act.put, List.setIfInBounds_toArray, List.set_cons_zero, List.set_cons_succ]))
        | (refine st_storeE hS 1 (by rfl) 75 (.tmp 2) (.tmp 51) (by rfl) g2 (by rfl) (rcRow ⟨r.gen, r.life, r.spec, [], r.done⟩ aV r.votes.length cV) (by rfl) _ 75 rfl size75 rfl (one_rcRow _ _ _ _) ?_; clear hS; intro w11 hS HE; (simp only [List.set_cons_zero, List.set_cons_succ] at hS); (simp only [Act.put])))
      have HB := hS.below
      have hrow := hS.row 1 rfl
      have HO2 := own_setRow HO.out hne (rcRow ⟨r.gen, r.life, r.spec, [], r.done⟩ aV r.votes.length cV)
      rw [← HE.out] at HO2
      refine bodyPost_ret (results_cell_row rfl _ _ g2 75 _ _ _ rfl hrow Tryd.underlying75 rfl size75) rfl ?_
      exact ⟨aV, cV, rfl, HO2, HB⟩
set_option maxRecDepth 100000 in
set_option maxHeartbeats 8000000 in
theorem takenC (r : Rc) (a : Option Addr) (c : Nat) (w : World) (hv : Vts w a r.votes) :
    Calls Tryd.prog 73 #[recV r a r.votes.length c] w fun e w' => GivenPost 89 w r e w' := by
  have hS := St.start w
  rw [recV_row]
  go_enter Tryd.func73, Tryd.ntmps73
  go_upto_region 1 with (first
    | (refine st_box hS (by rfl) 75 (.tmp 0) (by rfl) _ (by rfl) ?_; clear hS; intro g1 w1 hS _; (simp only [Act.put, List.setIfInBounds_toArray, List.set_cons_zero, List.set_cons_succ]))
    | (refine st_alloc hS (by rfl) 71 (by rfl) _ zero71 ?_; clear hS; intro g2 w2 hS _; (simp only [Act.put, List.setIfInBounds_toArray, List.set_cons_zero, List.set_cons_succ])))
  have q1 := cell_gen (hS.row 1 rfl)
  have q2 := cell_life (hS.row 1 rfl)
  have q3 := cell_done (hS.row 1 rfl)
  go_upto_region 2 with (first
    | (refine st_build (by rfl) 71 #[(0, .tmp 6), (1, .tmp 8), (4, .tmp 10)] (by rfl) (rcRow ⟨r.gen, r.life, zSpc, [], r.done⟩ none 0 0) (by kernel_rfl) ?_; (simp only [Act.put, List.setIfInBounds_toArray, List.set_cons_zero, List.set_cons_succ]))
    | (refine st_alloc hS (by rfl) 71 (by rfl) _ zero71 ?_; clear hS; intro g3 w3 hS _; (simp only [Act.put, List.setIfInBounds_toArray, List.set_cons_zero, List.set_cons_succ]))
    | (refine st_store hS 0 (by rfl) 71 (.tmp 3) (.tmp 11) (by rfl) g3 (by rfl) (rcRow ⟨r.gen, r.life, zSpc, [], r.done⟩ none 0 0) (by rfl) _ 71 rfl size71 rfl (one_rcRow _ _ _ _) ?_; clear hS; intro w4 hS; (simp only [List.set_cons_zero] at hS); (simp only [Act.put])))
  clear q1 q2 q3
  have p1 := range_adr (hS.row 2 rfl)
  have q1 := cell_st (hS.row 2 rfl)
  have q2 := cell_by (hS.row 2 rfl)
  have q3 := cell_wt (hS.row 2 rfl)
  go_upto_region 3 with (first
    | (refine st_part (by rfl) 66 (.tmp 19) (by rfl) g1 4 (by rfl) (adRow r.spec) p1 _ Tryd.underlying66 rfl size66 ?_; (simp only [Act.put, List.setIfInBounds_toArray, List.set_cons_zero, List.set_cons_succ]))
    | (refine st_build (by rfl) 68 #[(0, .tmp 14), (1, .tmp 17), (2, .tmp 20), (3, .tmp 23)] (by rfl) (spRow r.spec) (by kernel_rfl) ?_; (simp only [Act.put, List.setIfInBounds_toArray, List.set_cons_zero, List.set_cons_succ]))
    | (refine st_puts hS 0 (by rfl) 68 (.tmp 25) (.tmp 24) (by rfl) g3 2 (by rfl) (spRow r.spec) (by rfl) _ 71 rfl rfl (one_spRow _) size68 ?_; clear hS; intro w5 hS; (simp only [List.set_cons_zero, put_spec] at hS); (simp only [Act.put])))
  clear q1 q2 q3 p1
  go_wp2_with fail
  have m1 := hv.1
  go_loopw [4] (fun i wr => ∃ (k : Nat) (aV : Option Addr) (cV : Nat), k ≤ r.votes.length ∧ i = .int .i64 k ∧ wr.ownsRow w.heap.size 89 2 (.slice aV k cV) k (flatV (r.votes.take k)) ∧ St w wr [(g3, rcRow ⟨r.gen, r.life, r.spec, [], r.done⟩ aV k cV, 71), (g2, rcRow zRc none 0 0, 71), (g1, rcRow r a r.votes.length c, 75)]) (fun i _ => r.votes.length - (intOf i).toNat)
  case atStart => exact ⟨0, none, 0, Nat.zero_le _, rfl, World.ownsRow_nil _ _ _ _, hS⟩
  case round =>
    clear hS
    obtain ⟨k, aV, cV, hkN, rfl, hown, hS⟩ := hrel
    by_cases hlt : k < r.votes.length
    · obtain ⟨b, off, rfl, c1, c2⟩ := hv.2 k hlt
      have HV : Hid (r.votes.take (k + 1) = r.votes.take k ++ [r.votes.getD k vt0]) := Lib.hid (take_snoc' r.votes k hlt)
      have q1 := cell_votes (hS.row 2 rfl)
      have HC1 := Lib.hid c1
      have HC2 := Lib.hid c2
      have HVV := Lib.hid hv
      clear c1 c2 hv
      generalize r.votes.getD k vt0 = v at *
      go_upto_region 6 with fail
      have c1 := HC1.out
      have c2 := HC2.out
      clear q1
      · skip
        have hS2 := hS.drew
        have hown2 := hown.drew
        have row1 := hS2.row 2 rfl
        have c1' := (hS2.below.cell (p := ⟨b, off + k * 2, none⟩) (World.block_lt_of_cell? w _ c1)).trans c1
        have c2' := (hS2.below.cell (p := ⟨b, off + k * 2 + 1, none⟩) (World.block_lt_of_cell? w _ c2)).trans c2
        have hB2 := hS2.below
        refine wp_region_held (S := fun W => W.heap[g1]? = some (.cells (rcRow r (some ⟨b, off, none⟩) r.votes.length c) 75 (0, 0)) ∧ Below w.heap.size w W) (by kernel_rfl) ?_
        change wpAnyH Tryd.prog .any _ _ _ (18 + 1) (Array.replicate 19 false) _ wr.drew
        clear hS hown
        generalize wr.drew = w6 at *
        refine takeH 0 (some 33) rfl rfl (by kernel_rfl) (by kernel_rfl) (by kernel_rfl) (fun _ _ _ h => h) (v := .pointer (some ⟨g3, 22, none⟩)) (.inl ⟨by rfl, fun w _ => by rfl⟩) ⟨row1, hB2⟩ ?_
        (simp only [Act.put, List.setIfInBounds_toArray, List.set_cons_zero, List.set_cons_succ])
        refine takeH 2 (some 35) rfl rfl (by kernel_rfl) (by kernel_rfl) (by kernel_rfl) (fun _ _ _ h => h) (v := .pointer (some ⟨g1, 22, none⟩)) (.inl ⟨by rfl, fun w _ => by rfl⟩) ⟨row1, hB2⟩ ?_
        (simp only [Act.put, List.setIfInBounds_toArray, List.set_cons_zero, List.set_cons_succ])
        refine takeH 3 (some 36) rfl rfl (by kernel_rfl) (by kernel_rfl) (by kernel_rfl) (fun _ _ _ h => h) (v := .slice (some ⟨b, off, none⟩) r.votes.length c) (.inl ⟨by rfl, fun W hW => run_load1 _ _ _ 73 (.tmp 35) rfl ⟨g1, 22, none⟩ (by rfl) _ (cell_votes hW.1) agg73⟩) ⟨row1, hB2⟩ ?_
        (simp only [Act.put, List.setIfInBounds_toArray, List.set_cons_zero, List.set_cons_succ])
        refine takeH 4 (some 37) rfl rfl (by kernel_rfl) (by kernel_rfl) (by kernel_rfl) (fun _ _ _ h => h) (v := .int .i64 k) (.inl ⟨by rfl, fun w _ => by rfl⟩) ⟨row1, hB2⟩ ?_
        (simp only [Act.put, List.setIfInBounds_toArray, List.set_cons_zero, List.set_cons_succ])
        refine takeH 5 (some 38) rfl rfl (by kernel_rfl) (by kernel_rfl) (by kernel_rfl) (fun _ _ _ h => h) (v := .pointer (some ⟨b, off + k * 2, none⟩)) (.inl ⟨by rfl, fun W _ => run_idxG vk73 _ _ _ (.tmp 36) (.tmp 37) rfl b off _ _ k (by rfl) (by rfl) hlt⟩) ⟨row1, hB2⟩ ?_
        (simp only [Act.put, List.setIfInBounds_toArray, List.set_cons_zero, List.set_cons_succ])
        refine takeH 6 (some 39) rfl rfl (by kernel_rfl) (by kernel_rfl) (by kernel_rfl) (fun _ _ _ h => h) (v := .pointer (some ⟨b, off + k * 2, none⟩)) (.inl ⟨by rfl, fun w _ => by rfl⟩) ⟨row1, hB2⟩ ?_
        (simp only [Act.put, List.setIfInBounds_toArray, List.set_cons_zero, List.set_cons_succ])
        refine takeH 7 (some 40) rfl rfl (by kernel_rfl) (by kernel_rfl) (by kernel_rfl) (fun _ _ _ h => h) (v := .int .i64 v.1) (.inl ⟨by rfl, fun W hW => run_load1 _ _ _ 2 (.tmp 39) rfl ⟨b, off + k * 2, none⟩ (by rfl) _ ((hW.2.cell (p := ⟨b, off + k * 2, none⟩) (World.block_lt_of_cell? w _ c1)).trans c1) agg2⟩) ⟨row1, hB2⟩ ?_
        (simp only [Act.put, List.setIfInBounds_toArray, List.set_cons_zero, List.set_cons_succ])
        refine takeH 8 (some 41) rfl rfl (by kernel_rfl) (by kernel_rfl) (by kernel_rfl) (fun _ _ _ h => h) (v := .pointer (some ⟨g1, 22, none⟩)) (.inl ⟨by rfl, fun w _ => by rfl⟩) ⟨row1, hB2⟩ ?_
        (simp only [Act.put, List.setIfInBounds_toArray, List.set_cons_zero, List.set_cons_succ])
        refine takeH 9 (some 42) rfl rfl (by kernel_rfl) (by kernel_rfl) (by kernel_rfl) (fun _ _ _ h => h) (v := .slice (some ⟨b, off, none⟩) r.votes.length c) (.inl ⟨by rfl, fun W hW => run_load1 _ _ _ 73 (.tmp 41) rfl ⟨g1, 22, none⟩ (by rfl) _ (cell_votes hW.1) agg73⟩) ⟨row1, hB2⟩ ?_
        (simp only [Act.put, List.setIfInBounds_toArray, List.set_cons_zero, List.set_cons_succ])
        refine takeH 10 (some 43) rfl rfl (by kernel_rfl) (by kernel_rfl) (by kernel_rfl) (fun _ _ _ h => h) (v := .int .i64 k) (.inl ⟨by rfl, fun w _ => by rfl⟩) ⟨row1, hB2⟩ ?_
        (simp only [Act.put, List.setIfInBounds_toArray, List.set_cons_zero, List.set_cons_succ])
        refine takeH 11 (some 44) rfl rfl (by kernel_rfl) (by kernel_rfl) (by kernel_rfl) (fun _ _ _ h => h) (v := .pointer (some ⟨b, off + k * 2, none⟩)) (.inl ⟨by rfl, fun W _ => run_idxG vk73 _ _ _ (.tmp 42) (.tmp 43) rfl b off _ _ k (by rfl) (by rfl) hlt⟩) ⟨row1, hB2⟩ ?_
        (simp only [Act.put, List.setIfInBounds_toArray, List.set_cons_zero, List.set_cons_succ])
        refine takeH 12 (some 45) rfl rfl (by kernel_rfl) (by kernel_rfl) (by kernel_rfl) (fun _ _ _ h => h) (v := .pointer (some ⟨b, off + k * 2 + 1, none⟩)) (.inl ⟨by rfl, fun w _ => by rfl⟩) ⟨row1, hB2⟩ ?_
        (simp only [Act.put, List.setIfInBounds_toArray, List.set_cons_zero, List.set_cons_succ])
        refine takeH 13 (some 46) rfl rfl (by kernel_rfl) (by kernel_rfl) (by kernel_rfl) (fun _ _ _ h => h) (v := .bool v.2) (.inl ⟨by rfl, fun W hW => run_load1 _ _ _ 4 (.tmp 45) rfl ⟨b, off + k * 2 + 1, none⟩ (by rfl) _ ((hW.2.cell (p := ⟨b, off + k * 2 + 1, none⟩) (World.block_lt_of_cell? w _ c2)).trans c2) agg4⟩) ⟨row1, hB2⟩ ?_
        (simp only [Act.put, List.setIfInBounds_toArray, List.set_cons_zero, List.set_cons_succ])
        refine takeH 14 (some 47) rfl rfl (by kernel_rfl) (by kernel_rfl) (by kernel_rfl) (fun _ _ _ h => h) (v := .agg (vtRow v)) (.inl ⟨by rfl, fun W _ => run_buildG _ _ _ 89 [(0, .tmp 40), (1, .tmp 46)] rfl (vtRow v) (by kernel_rfl)⟩) ⟨row1, hB2⟩ ?_
        (simp only [Act.put, List.setIfInBounds_toArray, List.set_cons_zero, List.set_cons_succ])
        refine wpAnyH_all (rs := [1, 15]) (by kernel_rfl) (by simp) ?_
        intro i hi
        have hi' : i = 1 ∨ i = 15 := by simpa using hi
        clear hi
        rcases hi' with rfl | rfl
        · refine wpOp_val (some 34) rfl rfl (by kernel_rfl) (run_load1 _ _ _ 69 (.tmp 33) rfl ⟨g3, 22, none⟩ (by rfl) (.slice aV k cV) (cell_votes (hS2.row 0 rfl)) agg69) ?_
          refine ⟨⟨hS2.row 2 rfl, hS2.below⟩, ?_⟩
          (simp only [Act.put, List.setIfInBounds_toArray, List.set_cons_zero, List.set_cons_succ])
          refine wpAnyH_all (rs := [15]) (by kernel_rfl) (by simp) ?_
          intro i hi
          obtain rfl : i = 15 := by simpa using hi
          clear hi
          refine wpOp_val (some 48) rfl rfl (by kernel_rfl) (run_bsliceG vk69 _ _ _ (.tmp 47) rfl v (by rfl)) ?_
          have hS3 := hS2.alloc (vtRow v) 89
          have ho3 := own_below hown2 ((Below.refl _ _).alloc (Nat.le_refl _) (.cells (vtRow v) 89))
          refine ⟨⟨hS3.row 3 rfl, hS3.below⟩, ?_⟩
          (simp only [Act.put, List.setIfInBounds_toArray, List.set_cons_zero, List.set_cons_succ])
          generalize w6.heap.size = gN at *
          generalize w6.alloc (.cells (vtRow v) 89) = w7 at *
          refine wpAnyH_all (rs := [16]) (by kernel_rfl) (by simp) ?_
          intro i hi
          obtain rfl : i = 16 := by simpa using hi
          clear hi
          refine wpOp_appendG vk69 (some 49) rfl rfl (by kernel_rfl) (.tmp 34) (.tmp 48) rfl w.heap.size k (.slice aV k cV) _ (by rfl) ho3 gN v (by rfl) (hS3.row 0 rfl) (by omega) hS3.below.size ?_
          intro a' c' w8 ho4 hg4
          have hS4a := hS3.drop _ (List.sublist_cons_self _ _)
          have hS4 := hS4a.grown hg4 (fun j hj => (ho3.lt j hj).1) (by
            intro x hx
            simp only [List.mem_cons, List.not_mem_nil, or_false] at hx
            rcases hx with rfl | rfl | rfl
            · exact own_ne ho3 (hS4a.row 0 rfl) (by decide)
            · exact own_ne ho3 (hS4a.row 1 rfl) (by decide)
            · exact own_ne ho3 (hS4a.row 2 rfl) (by decide))
          refine ⟨⟨hS4.row 2 rfl, hS4.below⟩, ?_⟩
          (simp only [Act.put, List.setIfInBounds_toArray, List.set_cons_zero, List.set_cons_succ])
          refine wpAnyH_all (rs := [17]) (by kernel_rfl) (by simp) ?_
          intro i hi
          obtain rfl : i = 17 := by simpa using hi
          clear hi
          refine wpOp_val (some 50) rfl rfl (by kernel_rfl) (v := .pointer (some ⟨g3, 22, none⟩)) (by rfl) ?_
          refine ⟨⟨hS4.row 2 rfl, hS4.below⟩, ?_⟩
          (simp only [Act.put, List.setIfInBounds_toArray, List.set_cons_zero, List.set_cons_succ])
          refine wpAnyH_all (rs := [18]) (by kernel_rfl) (by simp) ?_
          intro i hi
          obtain rfl : i = 18 := by simpa using hi
          clear hi
          refine wpOp_unit none rfl rfl (by kernel_rfl) (run_store1 _ _ _ 69 (.tmp 50) (.tmp 49) rfl g3 22 (by rfl) (.slice a' (k + 1) c') (by rfl) _ 71 (hS4.row 0 rfl) rfl rfl rfl size69) ?_
          have hS5 := hS4.put 0 rfl 22 (.slice a' (k + 1) c')
          have ho5 := own_setCell ho4 (own_ne ho4 (hS4.row 0 rfl) (by decide)) 22 (.slice a' (k + 1) c')
          simp only [List.set_cons_zero, put_votes] at hS5
          refine ⟨⟨hS5.row 2 rfl, hS5.below⟩, ?_⟩
          rw [← flatV_snoc, ← HV.out] at ho5
          have HS5 := Lib.hid hS5
          have HO5 := Lib.hid ho5
          refine wpAnyH_done (by kernel_rfl) ?_ _
          simp only [Act.put]
          as_aux_lemma =>
            go_wp2_with fail
            go_roundw
            case rel => exact ⟨k + 1, a', c', by omega, by go_num, HO5.out, HS5.out⟩
            case measure => simp [intOf]; omega
        · refine wpOp_val (some 48) rfl rfl (by kernel_rfl) (run_bsliceG vk69 _ _ _ (.tmp 47) rfl v (by rfl)) ?_
          have hS3 := hS2.alloc (vtRow v) 89
          have ho3 := own_below hown2 ((Below.refl _ _).alloc (Nat.le_refl _) (.cells (vtRow v) 89))
          refine ⟨⟨hS3.row 3 rfl, hS3.below⟩, ?_⟩
          (simp only [Act.put, List.setIfInBounds_toArray, List.set_cons_zero, List.set_cons_succ])
          generalize w6.heap.size = gN at *
          generalize w6.alloc (.cells (vtRow v) 89) = w7 at *
          refine wpAnyH_all (rs := [1]) (by kernel_rfl) (by simp) ?_
          intro i hi
          obtain rfl : i = 1 := by simpa using hi
          clear hi
          refine wpOp_val (some 34) rfl rfl (by kernel_rfl) (run_load1 _ _ _ 69 (.tmp 33) rfl ⟨g3, 22, none⟩ (by rfl) (.slice aV k cV) (cell_votes (hS3.row 1 rfl)) agg69) ?_
          refine ⟨⟨hS3.row 3 rfl, hS3.below⟩, ?_⟩
          (simp only [Act.put, List.setIfInBounds_toArray, List.set_cons_zero, List.set_cons_succ])
          refine wpAnyH_all (rs := [16]) (by kernel_rfl) (by simp) ?_
          intro i hi
          obtain rfl : i = 16 := by simpa using hi
          clear hi
          refine wpOp_appendG vk69 (some 49) rfl rfl (by kernel_rfl) (.tmp 34) (.tmp 48) rfl w.heap.size k (.slice aV k cV) _ (by rfl) ho3 gN v (by rfl) (hS3.row 0 rfl) (by omega) hS3.below.size ?_
          intro a' c' w8 ho4 hg4
          have hS4a := hS3.drop _ (List.sublist_cons_self _ _)
          have hS4 := hS4a.grown hg4 (fun j hj => (ho3.lt j hj).1) (by
            intro x hx
            simp only [List.mem_cons, List.not_mem_nil, or_false] at hx
            rcases hx with rfl | rfl | rfl
            · exact own_ne ho3 (hS4a.row 0 rfl) (by decide)
            · exact own_ne ho3 (hS4a.row 1 rfl) (by decide)
            · exact own_ne ho3 (hS4a.row 2 rfl) (by decide))
          refine ⟨⟨hS4.row 2 rfl, hS4.below⟩, ?_⟩
          (simp only [Act.put, List.setIfInBounds_toArray, List.set_cons_zero, List.set_cons_succ])
          refine wpAnyH_all (rs := [17]) (by kernel_rfl) (by simp) ?_
          intro i hi
          obtain rfl : i = 17 := by simpa using hi
          clear hi
          refine wpOp_val (some 50) rfl rfl (by kernel_rfl) (v := .pointer (some ⟨g3, 22, none⟩)) (by rfl) ?_
          refine ⟨⟨hS4.row 2 rfl, hS4.below⟩, ?_⟩
          (simp only [Act.put, List.setIfInBounds_toArray, List.set_cons_zero, List.set_cons_succ])
          refine wpAnyH_all (rs := [18]) (by kernel_rfl) (by simp) ?_
          intro i hi
          obtain rfl : i = 18 := by simpa using hi
          clear hi
          refine wpOp_unit none rfl rfl (by kernel_rfl) (run_store1 _ _ _ 69 (.tmp 50) (.tmp 49) rfl g3 22 (by rfl) (.slice a' (k + 1) c') (by rfl) _ 71 (hS4.row 0 rfl) rfl rfl rfl size69) ?_
          have hS5 := hS4.put 0 rfl 22 (.slice a' (k + 1) c')
          have ho5 := own_setCell ho4 (own_ne ho4 (hS4.row 0 rfl) (by decide)) 22 (.slice a' (k + 1) c')
          simp only [List.set_cons_zero, put_votes] at hS5
          refine ⟨⟨hS5.row 2 rfl, hS5.below⟩, ?_⟩
          rw [← flatV_snoc, ← HV.out] at ho5
          have HS5 := Lib.hid hS5
          have HO5 := Lib.hid ho5
          refine wpAnyH_done (by kernel_rfl) ?_ _
          simp only [Act.put]
          as_aux_lemma =>
            go_wp2_with fail
            go_roundw
            case rel => exact ⟨k + 1, a', c', by omega, by go_num, HO5.out, HS5.out⟩
            case measure => simp [intOf]; omega
    · obtain rfl : k = r.votes.length := by omega
      have hne := own_ne hown (hS.row 1 rfl) (by decide)
      have HO := Lib.hid hown
      have q1 := cell_votes (hS.row 2 rfl)
      clear hown hv
      rw [List.take_length] at HO
      go_wp2_with (first
        | (refine st_load hS 0 (by rfl) 71 (.tmp 3) (by rfl) g3 (by rfl) _ 71 rfl _ Tryd.underlying71 rfl size71 ?_; (simp only [Act.put, List.setIfInBounds_toArray, List.set_cons_zero, List.set_cons_succ]))
        | (refine st_storeE hS 1 (by rfl) 71 (.tmp 2) (.tmp 51) (by rfl) g2 (by rfl) (rcRow ⟨r.gen, r.life, r.spec, [], r.done⟩ aV r.votes.length cV) (by rfl) _ 71 rfl size71 rfl (one_rcRow _ _ _ _) ?_; clear hS; intro w11 hS HE; (simp only [List.set_cons_zero, List.set_cons_succ] at hS); (simp only [Act.put])))
      have HB := hS.below
      have hrow := hS.row 1 rfl
      have HO2 := own_setRow HO.out hne (rcRow ⟨r.gen, r.life, r.spec, [], r.done⟩ aV r.votes.length cV)
      rw [← HE.out] at HO2
      refine bodyPost_ret (results_cell_row rfl _ _ g2 71 _ _ _ rfl hrow Tryd.underlying71 rfl size71) rfl ?_
      exact ⟨aV, cV, rfl, HO2, HB⟩
end Go.Proofs.YtniejpfjbifjkaaDoor
