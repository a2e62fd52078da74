/- life.Same (65). -/
import Derived.Test.YtniejpfjbifjkaaDoorLu
import Derived.Deep.DeepCutAuto
namespace Go.Proofs.YtniejpfjbifjkaaDoor
open Go.RowKit Fl

def sameR (r s : Rc) : Bool := sameF r.spec.w s.spec.w && (r.gen == s.gen && (r.life == s.life && (r.done == s.done && (eqSpc { r.spec with w := 0 } { s.spec with w := 0 } && decide (r.votes = s.votes)))))
theorem sameR_cases (r s : Rc) : (sameF r.spec.w s.spec.w = false ∧ sameR r s = false) ∨ (sameF r.spec.w s.spec.w = true ∧ (
    ((r.gen == s.gen) = false ∧ sameR r s = false) ∨ ((r.gen == s.gen) = true ∧ (
    ((r.life == s.life) = false ∧ sameR r s = false) ∨ ((r.life == s.life) = true ∧ (
    ((r.done == s.done) = false ∧ sameR r s = false) ∨ ((r.done == s.done) = true ∧ (
    (eqSpc { r.spec with w := 0 } { s.spec with w := 0 } = false ∧ sameR r s = false) ∨ (eqSpc { r.spec with w := 0 } { s.spec with w := 0 } = true ∧ sameR r s = decide (r.votes = s.votes)))))))))) := by
  unfold sameR
  cases sameF r.spec.w s.spec.w <;> cases r.gen == s.gen <;> cases r.life == s.life <;> cases r.done == s.done <;> cases eqSpc { r.spec with w := 0 } { s.spec with w := 0 } <;> simp
theorem below_drewN (B : Nat) (w : World) (q : Nat) : Below B w (w.drewN q) := ⟨rfl, rfl, rfl, Nat.le_refl _, fun _ _ => rfl⟩
theorem range_alloc {w : World} {b o : Nat} {cs : List Value} (h : w.rangeAt b o cs) (ob : Obj) : (w.alloc ob).rangeAt b o cs := fun j v hv => cellA (h j v hv) ob
theorem range_below {w w1 : World} {b o : Nat} {cs : List Value} (h : w.rangeAt b o cs) (hb : Below w.heap.size w w1) : w1.rangeAt b o cs := fun j v hv => by
  have := h j v hv
  exact (hb.cell (p := ⟨b, o + j, none⟩) (World.block_lt_of_cell? w _ this)).trans this
theorem wpOp_val {P : Program} {ops : Array Oper} {Q : Exit → Act → World → Prop} {i : Nat} {K : Act → World → Prop} {a : Act} {w : World} {o : Oper} (d : Option Tmp) (hi : ops[i]? = some o) (hd : o.dst = d) (hw : Region.wanted o (yielded ops a.tmps) = true) {v : Value} {w' : World} (hr : (execOp a.eval o).run P w = .ok (.value v) w') (h : K (a.put d v) w') : wpOp P ops Q i K a w := by
  subst hd; unfold wpOp; rw [hi]; simp only; rw [if_pos hw]; refine .inl ?_
  unfold Oper.wp; rw [hr]; exact h
theorem wpOp_unit {P : Program} {ops : Array Oper} {Q : Exit → Act → World → Prop} {i : Nat} {K : Act → World → Prop} {a : Act} {w : World} {o : Oper} (d : Option Tmp) (hi : ops[i]? = some o) (hd : o.dst = d) (hw : Region.wanted o (yielded ops a.tmps) = true) {w' : World} (hr : (execOp a.eval o).run P w = .ok .skip w') (h : K (a.put d undef) w') : wpOp P ops Q i K a w := by
  subst hd; unfold wpOp; rw [hi]; simp only; rw [if_pos hw]; refine .inl ?_
  unfold Oper.wp; rw [hr]; exact h
theorem takeH {P : Program} {md : Region.Mode} {ops : Array Oper} {Q : Exit → Act → World → Prop} {S : World → Prop} (i : Nat) (d : Option Tmp) {oi : Oper} {v : Value} {fuel : Nat} {listed : Array Bool} {a : Act} {w : World} (hi : ops[i]? = some oi) (hd : oi.dst = d)
    (hs : Region.noSelect ops = true) (hf : Region.free md ops listed i = true) (hr : (Region.ready md ops listed).contains i = true)
    (hQ : ∀ c a w, Q (.panic c) (a.put d v) w → Q (.panic c) a w) (hy : YieldsIf P ops S oi v a) (hS : S w)
    (h : wpAnyH P md ops Q S fuel (listed.setIfInBounds i true) (a.put d v) w) : wpAnyH P md ops Q S (fuel + 1) listed a w := by
  subst hd
  exact wpAnyH_take hi hs hf hr hQ hy hS h
def zSp : Array Value := #[.int .i64 0, .int .i64 0, .bool false, .int .u8 0, .int .u8 0, .int .u8 0, .int .u8 0, .int .u8 0, .int .u8 0, .int .u8 0, .int .u8 0, .int .u8 0, .int .u8 0, .int .u8 0, .int .u8 0, .int .u8 0, .int .u8 0, .int .u8 0, .int .u8 0, .float .f64 0]
theorem zero72 : (Tryd.prog.info? 72).map (·.zero) = some (some (.agg zSp)) := by kernel_rfl
theorem run_alloc {P : Program} (w : World) (ρ : Operand → Value) (o : Oper) (ty : TypeId) (ho : o.op = .alloc ty) (cs : Array Value) (hz : (P.info? ty).map (·.zero) = some (some (.agg cs))) :
    (execOp ρ o).run P w = .ok (.value (.pointer (some ⟨w.heap.size, 0, none⟩))) (w.alloc (.cells cs ty)) := by
  cases hq : P.info? ty with
  | none => simp [hq] at hz
  | some i =>
    have hs : i.zero = some (.agg cs) := by simpa [hq] using hz
    unfold execOp
    simp [ho, Instr.alloc, zeroValue, typeInfo, hq, hs, Sem.run_bind, Sem.run_pure, Result.andThen_ok, run_newVar_agg]
theorem run_store_row {P : Program} (w : World) (ρ : Operand → Value) (o : Oper) (ty : TypeId) (x y : Operand) (ho : o.op = .store ty x y) (g : Nat) (hx : ρ x = .pointer (some ⟨g, 0, none⟩)) (cs : Array Value) (hy : ρ y = .agg cs)
    (old : Array Value) (t : TypeId) (hg : w.heap[g]? = some (.cells old t (0, 0))) (hi : (P.info? ty).map (·.size) = some cs.size) (hold : old.size = cs.size) (h1 : cs.all (·.oneCell') = true) :
    (execOp ρ o).run P w = .ok .skip (w.setRow g cs) := by
  unfold execOp
  simp only [ho, hx, hy, Instr.storeAt, Instr.sureAddr, Sem.run_bind, Sem.run_pure, Result.andThen_ok, run_storeVar_row w g t ty old cs hg hi hold h1]
set_option maxRecDepth 100000 in
set_option maxHeartbeats 4000000 in
theorem lsameC (r s : Rc) (a b : Option Addr) (c d : Nat) (w : World) (hv : Vts w a r.votes) (hu : Vts w b s.votes) :
    Calls Tryd.prog 65 #[recV r a r.votes.length c, recV s b s.votes.length d] w fun e w' => e = .returned (.bool (sameR r s)) ∧ Below w.heap.size w w' := by
  rw [recV_row, recV_row]
  have h0 := (St.start w).alloc (rcRow r a r.votes.length c) 75
  have h1 := h0.alloc (rcRow s b s.votes.length d) 75
  rw [show (w.alloc (.cells (rcRow r a r.votes.length c) 75)).heap.size = w.heap.size + 1 by simp] at h1
  have h2 := Lib.hid h1.drew
  clear h0 h1
  go_enter Tryd.func65, Tryd.ntmps65
  go_upto_region 1 with fail
  go_cut [5, 6] (fun s5 s6 wx => ∃ p q, s5 = .pointer (some ⟨p, 0, none⟩) ∧ s6 = .pointer (some ⟨q, 0, none⟩) ∧ St w wx [(p, spRow r.spec, 72), (q, spRow s.spec, 72), (w.heap.size + 1, rcRow s b s.votes.length d, 75), (w.heap.size, rcRow r a r.votes.length c, 75)])
  case first =>
    have r0 := h2.out.row 1 rfl
    have r1 := h2.out.row 0 rfl
    have p1 := range_spec r0
    have p2 := range_spec r1
    refine wp_region_held (S := fun W => W.rangeAt w.heap.size 2 (spRow r.spec).toList ∧ W.rangeAt (w.heap.size + 1) 2 (spRow s.spec).toList) (by kernel_rfl) ?_
    change wpAnyH Tryd.prog .any _ _ _ (7 + 1) (Array.replicate 8 false) _ (World.drew ((w.alloc (.cells (rcRow r a r.votes.length c) 75)).alloc (.cells (rcRow s b s.votes.length d) 75)))
    generalize World.drew ((w.alloc (.cells (rcRow r a r.votes.length c) 75)).alloc (.cells (rcRow s b s.votes.length d) 75)) = w2 at *
    refine takeH 0 (some 7) rfl rfl (by kernel_rfl) (by kernel_rfl) (by kernel_rfl) (fun _ _ _ h => h) (v := .pointer (some ⟨w.heap.size, 2, none⟩)) (.inl ⟨by rfl, fun w _ => rfl⟩) ⟨p1, p2⟩ ?_
    refine takeH 1 (some 8) rfl rfl (by kernel_rfl) (by kernel_rfl) (by kernel_rfl) (fun _ _ _ h => h) (yieldsIf_load_mid (by rfl) 72 (.tmp 7) (by rfl) w.heap.size 2 (by rfl) (spRow r.spec).toList _ (fun _ h => h.1) Tryd.underlying72 rfl size72) ⟨p1, p2⟩ ?_
    refine takeH 2 (some 9) rfl rfl (by kernel_rfl) (by kernel_rfl) (by kernel_rfl) (fun _ _ _ h => h) (v := .pointer (some ⟨w.heap.size + 1, 2, none⟩)) (.inl ⟨by rfl, fun w _ => rfl⟩) ⟨p1, p2⟩ ?_
    refine takeH 3 (some 10) rfl rfl (by kernel_rfl) (by kernel_rfl) (by kernel_rfl) (fun _ _ _ h => h) (yieldsIf_load_mid (by rfl) 72 (.tmp 9) (by rfl) (w.heap.size + 1) 2 (by rfl) (spRow s.spec).toList _ (fun _ h => h.2) Tryd.underlying72 rfl size72) ⟨p1, p2⟩ ?_
    refine wpAnyH_all (rs := [4, 5]) (by kernel_rfl) (by simp) ?_
    intro i hi
    have hi' : i = 4 ∨ i = 5 := by simpa using hi
    clear hi
    rcases hi' with rfl | rfl
    · refine wpOp_val (some 5) rfl rfl (by kernel_rfl) (run_alloc w2 _ _ 72 rfl zSp zero72) ?_
      have s1 := h2.out.alloc zSp 72
      have b1 : Below w2.heap.size w2 (w2.alloc (.cells zSp 72)) := (Below.refl _ _).alloc (Nat.le_refl _) _
      have p3 := range_below p1 b1
      have p4 := range_below p2 b1
      refine ⟨⟨p3, p4⟩, ?_⟩
      generalize w2.heap.size = g1 at *
      generalize w2.alloc (.cells zSp 72) = w3 at *
      refine wpAnyH_all (rs := [5]) (by kernel_rfl) (by simp) ?_
      intro i hi
      obtain rfl : i = 5 := by simpa using hi
      refine wpOp_val (some 6) rfl rfl (by kernel_rfl) (run_alloc w3 _ _ 72 rfl zSp zero72) ?_
      have s2 := s1.alloc zSp 72
      have b2 : Below w3.heap.size w3 (w3.alloc (.cells zSp 72)) := (Below.refl _ _).alloc (Nat.le_refl _) _
      have q1 := range_below p3 b2
      have q2 := range_below p4 b2
      refine ⟨⟨q1, q2⟩, ?_⟩
      generalize w3.heap.size = g2 at *
      generalize w3.alloc (.cells zSp 72) = w4 at *
      have r4 := s2.row 1 rfl
      have r5 := s2.row 0 rfl
      have s3 := s2.set 1 rfl (spRow r.spec)
      have s4 := s3.set 0 rfl (spRow s.spec)
      have r5' := s3.row 0 rfl
      have n1 := (s2.ge 1 rfl)
      refine wpAnyH_all (rs := [6]) (by kernel_rfl) (by simp) ?_
      intro i hi
      obtain rfl : i = 6 := by simpa using hi
      refine wpOp_unit none rfl rfl (by kernel_rfl) (run_store_row w4 _ _ 72 (.tmp 5) (.tmp 8) rfl g1 (by rfl) (spRow r.spec) (by rfl) zSp 72 r4 size72 rfl (one_spRow _)) ?_
      refine ⟨⟨range_spec (s3.row 3 rfl), range_spec (s3.row 2 rfl)⟩, ?_⟩
      refine wpAnyH_all (rs := [7]) (by kernel_rfl) (by simp) ?_
      intro i hi
      obtain rfl : i = 7 := by simpa using hi
      refine wpOp_unit none rfl rfl (by kernel_rfl) (run_store_row _ _ _ 72 (.tmp 6) (.tmp 10) rfl g2 (by rfl) (spRow s.spec) (by rfl) zSp 72 r5' size72 rfl (one_spRow _)) ?_
      refine ⟨⟨range_spec (s4.row 3 rfl), range_spec (s4.row 2 rfl)⟩, ?_⟩
      refine wpAnyH_done (by kernel_rfl) ?_ _
      simp only [Array.toArray_toList, Act.put, List.setIfInBounds_toArray, List.set_cons_zero, List.set_cons_succ]
      go_wp2_with fail
      go_meet
      case rel => exact ⟨g1, g2, rfl, rfl, St.swap s4⟩
    · refine wpOp_val (some 6) rfl rfl (by kernel_rfl) (run_alloc w2 _ _ 72 rfl zSp zero72) ?_
      have s1 := h2.out.alloc zSp 72
      have b1 : Below w2.heap.size w2 (w2.alloc (.cells zSp 72)) := (Below.refl _ _).alloc (Nat.le_refl _) _
      have p3 := range_below p1 b1
      have p4 := range_below p2 b1
      refine ⟨⟨p3, p4⟩, ?_⟩
      generalize w2.heap.size = g1 at *
      generalize w2.alloc (.cells zSp 72) = w3 at *
      refine wpAnyH_all (rs := [4]) (by kernel_rfl) (by simp) ?_
      intro i hi
      obtain rfl : i = 4 := by simpa using hi
      refine wpOp_val (some 5) rfl rfl (by kernel_rfl) (run_alloc w3 _ _ 72 rfl zSp zero72) ?_
      have s2 := s1.alloc zSp 72
      have b2 : Below w3.heap.size w3 (w3.alloc (.cells zSp 72)) := (Below.refl _ _).alloc (Nat.le_refl _) _
      have q1 := range_below p3 b2
      have q2 := range_below p4 b2
      refine ⟨⟨q1, q2⟩, ?_⟩
      generalize w3.heap.size = g2 at *
      generalize w3.alloc (.cells zSp 72) = w4 at *
      have r4 := s2.row 1 rfl
      have r5 := s2.row 0 rfl
      have s3 := s2.set 0 rfl (spRow r.spec)
      have s4 := s3.set 1 rfl (spRow s.spec)
      have r5' := s3.row 1 rfl
      have n1 := (s2.ge 1 rfl)
      refine wpAnyH_all (rs := [6]) (by kernel_rfl) (by simp) ?_
      intro i hi
      obtain rfl : i = 6 := by simpa using hi
      refine wpOp_unit none rfl rfl (by kernel_rfl) (run_store_row w4 _ _ 72 (.tmp 5) (.tmp 8) rfl g2 (by rfl) (spRow r.spec) (by rfl) zSp 72 r5 size72 rfl (one_spRow _)) ?_
      refine ⟨⟨range_spec (s3.row 3 rfl), range_spec (s3.row 2 rfl)⟩, ?_⟩
      refine wpAnyH_all (rs := [7]) (by kernel_rfl) (by simp) ?_
      intro i hi
      obtain rfl : i = 7 := by simpa using hi
      refine wpOp_unit none rfl rfl (by kernel_rfl) (run_store_row _ _ _ 72 (.tmp 6) (.tmp 10) rfl g1 (by rfl) (spRow s.spec) (by rfl) zSp 72 r5' size72 rfl (one_spRow _)) ?_
      refine ⟨⟨range_spec (s4.row 3 rfl), range_spec (s4.row 2 rfl)⟩, ?_⟩
      refine wpAnyH_done (by kernel_rfl) ?_ _
      simp only [Array.toArray_toList, Act.put, List.setIfInBounds_toArray, List.set_cons_zero, List.set_cons_succ]
      go_wp2_with fail
      go_meet
      case rel => exact ⟨g2, g1, rfl, rfl, s4⟩

  case rest =>
    obtain ⟨p, q, rfl, rfl, hS⟩ := hcut
    clear h2
    have hcs := sameR_cases r s
    have c1 := cell_w (hS.row 0 rfl)
    have c2 := cell_w (hS.row 1 rfl)
    have hsa := fun W => same_calls r.spec.w s.spec.w W
    rcases hcs with ⟨d1, hr⟩ | ⟨d1, hcs⟩
    · rw [d1] at hsa
      have HR := Lib.hid hr
      have HB := Lib.hid hS.below
      clear hr hS
      go_wp2_with (first | (go_at_call 28; refine (hsa _).mono ?_; rintro e w' ⟨rfl, rfl⟩))
      go_ret
      exact ⟨by rw [HR.out]; rfl, HB.out⟩
    · rw [d1] at hsa
      go_upto_region 5 with (first
        | (go_at_call 28; refine (hsa _).mono ?_; rintro e w' ⟨rfl, rfl⟩)
        | (refine st_put hS 0 (by rfl) 22 (.tmp 17) (.const (.float .f64 0)) (by rfl) p 19 (by rfl) (.float .f64 0) (by rfl) _ 72 rfl rfl rfl rfl size22 ?_; clear hS c1 c2; intro w1 hS; (simp only [List.set_cons_zero, set_w] at hS); (simp only [Act.put]))
        | (refine st_put hS 1 (by rfl) 22 (.tmp 18) (.const (.float .f64 0)) (by rfl) q 19 (by rfl) (.float .f64 0) (by rfl) _ 72 rfl rfl rfl rfl size22 ?_; clear hS; intro w1 hS; (simp only [List.set_cons_zero, List.set_cons_succ, set_w] at hS); (simp only [Act.put])))
      have H1 := Lib.hid (range_row (hS.row 0 rfl) 0 (spRow { r.spec with w := 0 }).toList (fun j v h => by simpa using h))
      have H2 := Lib.hid (range_row (hS.row 1 rfl) 0 (spRow { s.spec with w := 0 }).toList (fun j v h => by simpa using h))
      have g1 := cell_gen (hS.row 3 rfl)
      have g2 := cell_gen (hS.row 2 rfl)
      have l1 := cell_life (hS.row 3 rfl)
      have l2 := cell_life (hS.row 2 rfl)
      have n1 := cell_done (hS.row 3 rfl)
      have n2 := cell_done (hS.row 2 rfl)
      have v1 := cell_votes (hS.row 3 rfl)
      have v2 := cell_votes (hS.row 2 rfl)
      have he := fun W => eq72 9996 { r.spec with w := 0 } { s.spec with w := 0 } W
      rw [spcV_row, spcV_row] at he
      have hv1 := hv.below hS.below
      have hu1 := hu.below hS.below
      have hq := equalC r.votes s.votes a b c d w1 hv1 hu1
      have HB := Lib.hid hS.below
      clear hsa hv hu hv1 hu1 hS d1
      rcases hcs with ⟨d2, hr⟩ | ⟨d2, ⟨d3, hr⟩ | ⟨d3, ⟨d4, hr⟩ | ⟨d4, ⟨d5, hr⟩ | ⟨d5, hr⟩⟩⟩⟩
      · have HR := Lib.hid hr
        clear hr
        as_aux_lemma =>
          go_wp2_with (first
          | (refine wpList_load_want (by rfl) 72 (.tmp 5) (by rfl) p 0 (by rfl) (spRow { r.spec with w := 0 }).toList _ H1.out Tryd.underlying72 rfl size72 ?_; (simp only [Act.put, List.setIfInBounds_toArray, List.set_cons_zero, List.set_cons_succ]))
          | (refine wpList_load_want (by rfl) 72 (.tmp 6) (by rfl) q 0 (by rfl) (spRow { s.spec with w := 0 }).toList _ H2.out Tryd.underlying72 rfl size72 ?_; (simp only [Act.put, List.setIfInBounds_toArray, List.set_cons_zero, List.set_cons_succ])))
          go_ret
          exact ⟨by rw [HR.out]; rfl, HB.out⟩
      · have HR := Lib.hid hr
        clear hr
        as_aux_lemma =>
          go_wp2_with (first
          | (refine wpList_load_want (by rfl) 72 (.tmp 5) (by rfl) p 0 (by rfl) (spRow { r.spec with w := 0 }).toList _ H1.out Tryd.underlying72 rfl size72 ?_; (simp only [Act.put, List.setIfInBounds_toArray, List.set_cons_zero, List.set_cons_succ]))
          | (refine wpList_load_want (by rfl) 72 (.tmp 6) (by rfl) q 0 (by rfl) (spRow { s.spec with w := 0 }).toList _ H2.out Tryd.underlying72 rfl size72 ?_; (simp only [Act.put, List.setIfInBounds_toArray, List.set_cons_zero, List.set_cons_succ])))
          go_ret
          exact ⟨by rw [HR.out]; rfl, HB.out⟩
      · have HR := Lib.hid hr
        clear hr
        as_aux_lemma =>
          go_wp2_with (first
          | (refine wpList_load_want (by rfl) 72 (.tmp 5) (by rfl) p 0 (by rfl) (spRow { r.spec with w := 0 }).toList _ H1.out Tryd.underlying72 rfl size72 ?_; (simp only [Act.put, List.setIfInBounds_toArray, List.set_cons_zero, List.set_cons_succ]))
          | (refine wpList_load_want (by rfl) 72 (.tmp 6) (by rfl) q 0 (by rfl) (spRow { s.spec with w := 0 }).toList _ H2.out Tryd.underlying72 rfl size72 ?_; (simp only [Act.put, List.setIfInBounds_toArray, List.set_cons_zero, List.set_cons_succ])))
          go_ret
          exact ⟨by rw [HR.out]; rfl, HB.out⟩
      · have HR := Lib.hid hr
        clear hr
        rw [d5] at he
        as_aux_lemma =>
          go_wp2_with (first
          | (refine wpList_load_want (by rfl) 72 (.tmp 5) (by rfl) p 0 (by rfl) (spRow { r.spec with w := 0 }).toList _ H1.out Tryd.underlying72 rfl size72 ?_; (simp only [Act.put, List.setIfInBounds_toArray, List.set_cons_zero, List.set_cons_succ]))
          | (refine wpList_load_want (by rfl) 72 (.tmp 6) (by rfl) q 0 (by rfl) (spRow { s.spec with w := 0 }).toList _ H2.out Tryd.underlying72 rfl size72 ?_; (simp only [Act.put, List.setIfInBounds_toArray, List.set_cons_zero, List.set_cons_succ])))
          go_ret
          exact ⟨by rw [HR.out]; rfl, HB.out⟩
      · rw [d5] at he
        have HR := Lib.hid hr
        clear hr
        as_aux_lemma =>
          go_wp2_with (first
          | (refine wpList_load_want (by rfl) 72 (.tmp 5) (by rfl) p 0 (by rfl) (spRow { r.spec with w := 0 }).toList _ H1.out Tryd.underlying72 rfl size72 ?_; (simp only [Act.put, List.setIfInBounds_toArray, List.set_cons_zero, List.set_cons_succ]))
          | (refine wpList_load_want (by rfl) 72 (.tmp 6) (by rfl) q 0 (by rfl) (spRow { s.spec with w := 0 }).toList _ H2.out Tryd.underlying72 rfl size72 ?_; (simp only [Act.put, List.setIfInBounds_toArray, List.set_cons_zero, List.set_cons_succ])))
          refine hq.mono ?_
          rintro e w' ⟨rfl, q', rfl⟩
          go_wp2_with fail
          go_ret
          exact ⟨by rw [HR.out]; rfl, HB.out.trans (below_drewN _ _ _)⟩
end Go.Proofs.YtniejpfjbifjkaaDoor
