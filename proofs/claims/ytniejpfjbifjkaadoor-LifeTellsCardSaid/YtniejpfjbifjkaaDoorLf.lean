/- life.Right. -/
import Derived.Test.YtniejpfjbifjkaaDoorLe
namespace Go.Proofs.YtniejpfjbifjkaaDoor
open Go.RowKit Fl

theorem size72 : (Tryd.prog.info? 72).map (·.size) = some 20 := by kernel_rfl
def zSpc : Spc := ⟨0, 0, false, fun _ => 0, 0⟩
def sgnF (x : Nat) : Bool := decide (wrap64 x < 0)
theorem signC (x : Nat) (w : World) : Calls Tryd.prog 88 #[.float .f64 x] w fun e w' => e = .returned (.bool (sgnF x)) ∧ w = w' := signbit_calls x w
/-- none is known. -/
def noneOk (r : Rc) : Bool := eqSpc r.spec zSpc && (!sgnF r.spec.w && (r.life == 0 && (r.done == 0 && ((r.votes.length : Int) == 0))))
def lastOk (l : List (Int × Bool)) : Bool := decide (l.length = 0) || !((l.getD (l.length - 1) vt0).1 == 0)
def someOk (r : Rc) : Bool :=
  stampOk r.gen && (!decide (r.life < 1) && (!decide (3 < r.life) && (spcOk r.spec && (!decide (16 < r.votes.length) && (!decide (r.done < 0) && (!decide (65535 < r.done) && (lastOk r.votes && votsOk r.votes)))))))
def rcOk (r : Rc) : Bool := if r.gen = 0 then noneOk r else someOk r
theorem none_cases (r : Rc) : (eqSpc r.spec zSpc = false ∧ noneOk r = false) ∨ (eqSpc r.spec zSpc = true ∧ (
    (sgnF r.spec.w = true ∧ noneOk r = false) ∨ (sgnF r.spec.w = false ∧ (
    ((r.life == 0) = false ∧ noneOk r = false) ∨ ((r.life == 0) = true ∧ (
    ((r.done == 0) = false ∧ noneOk r = false) ∨ ((r.done == 0) = true ∧ noneOk r = ((r.votes.length : Int) == 0)))))))) := by
  unfold noneOk
  cases eqSpc r.spec zSpc <;> cases sgnF r.spec.w <;> cases r.life == 0 <;> cases r.done == 0 <;> simp
set_option maxRecDepth 100000 in
set_option maxHeartbeats 2000000 in
theorem right_none (r : Rc) (a : Option Addr) (c : Nat) (w : World) (h0 : r.gen = 0) :
    Calls Tryd.prog 61 #[recV r a r.votes.length c] w fun e w' => e = .returned (.bool (rcOk r)) ∧ Below w.heap.size w w' := by
  have hR : rcOk r = noneOk r := by unfold rcOk; rw [if_pos h0]
  have he := fun w => eq72 9996 r.spec zSpc w
  have he' : ∀ w, (Op.equalIn 10000 72 (.agg #[.int .i64 r.spec.st, .int .i64 r.spec.by_, .bool r.spec.v6, .int .u8 (r.spec.b 0), .int .u8 (r.spec.b 1), .int .u8 (r.spec.b 2), .int .u8 (r.spec.b 3), .int .u8 (r.spec.b 4), .int .u8 (r.spec.b 5), .int .u8 (r.spec.b 6), .int .u8 (r.spec.b 7), .int .u8 (r.spec.b 8), .int .u8 (r.spec.b 9), .int .u8 (r.spec.b 10), .int .u8 (r.spec.b 11), .int .u8 (r.spec.b 12), .int .u8 (r.spec.b 13), .int .u8 (r.spec.b 14), .int .u8 (r.spec.b 15), .float .f64 r.spec.w]) (.agg #[.int .i64 0, .int .i64 0, .bool false, .int .u8 0, .int .u8 0, .int .u8 0, .int .u8 0, .int .u8 0, .int .u8 0, .int .u8 0, .int .u8 0, .int .u8 0, .int .u8 0, .int .u8 0, .int .u8 0, .int .u8 0, .int .u8 0, .int .u8 0, .int .u8 0, .float .f64 0])).run Tryd.prog w = .ok (eqSpc r.spec zSpc) w := he
  have hr : (w.alloc (.cells #[.int .i64 0, .int .i64 r.life, .int .i64 r.spec.st, .int .i64 r.spec.by_, .bool r.spec.v6, .int .u8 (r.spec.b 0), .int .u8 (r.spec.b 1), .int .u8 (r.spec.b 2), .int .u8 (r.spec.b 3), .int .u8 (r.spec.b 4), .int .u8 (r.spec.b 5), .int .u8 (r.spec.b 6), .int .u8 (r.spec.b 7), .int .u8 (r.spec.b 8), .int .u8 (r.spec.b 9), .int .u8 (r.spec.b 10), .int .u8 (r.spec.b 11), .int .u8 (r.spec.b 12), .int .u8 (r.spec.b 13), .int .u8 (r.spec.b 14), .int .u8 (r.spec.b 15), .float .f64 r.spec.w, .slice a r.votes.length c, .int .i64 r.done] 75)).rangeAt w.heap.size 2 [.int .i64 r.spec.st, .int .i64 r.spec.by_, .bool r.spec.v6, .int .u8 (r.spec.b 0), .int .u8 (r.spec.b 1), .int .u8 (r.spec.b 2), .int .u8 (r.spec.b 3), .int .u8 (r.spec.b 4), .int .u8 (r.spec.b 5), .int .u8 (r.spec.b 6), .int .u8 (r.spec.b 7), .int .u8 (r.spec.b 8), .int .u8 (r.spec.b 9), .int .u8 (r.spec.b 10), .int .u8 (r.spec.b 11), .int .u8 (r.spec.b 12), .int .u8 (r.spec.b 13), .int .u8 (r.spec.b 14), .int .u8 (r.spec.b 15), .float .f64 r.spec.w] :=
    range_row (heap_alloc_new w _) 2 _ (drop_lit _ 2 _ rfl)
  have hcs := none_cases r
  unfold recV
  rw [h0, hR]
  generalize hN : noneOk r = N at *
  clear he hR hN
  generalize eqSpc r.spec zSpc = es at *
  have HR := Lib.hid hr
  have hsg := fun W => signC r.spec.w W
  clear hr
  rcases hcs with ⟨rfl, rfl⟩ | ⟨rfl, ⟨d2, rfl⟩ | ⟨d2, ⟨d3, rfl⟩ | ⟨d3, ⟨d4, rfl⟩ | ⟨d4, d5⟩⟩⟩⟩
  · skip
    as_aux_lemma =>
      go_enter Tryd.func61, Tryd.ntmps61
      go_wp2_with (first | (refine wpList_load_want (by rfl) 72 (.tmp 7) (by rfl) w.heap.size 2 (by rfl) _ _ HR.out Tryd.underlying72 rfl size72 ?_; (simp only [Act.put, List.setIfInBounds_toArray, List.set_cons_zero, List.set_cons_succ])) | (go_at_call 88; refine (hsg _).mono ?_; rintro e w' ⟨rfl, rfl⟩))
      go_ret
      exact ⟨rfl, (Below.refl _ _).alloc (Nat.le_refl _) _⟩
  · rw [d2] at hsg
    as_aux_lemma =>
      go_enter Tryd.func61, Tryd.ntmps61
      go_wp2_with (first | (refine wpList_load_want (by rfl) 72 (.tmp 7) (by rfl) w.heap.size 2 (by rfl) _ _ HR.out Tryd.underlying72 rfl size72 ?_; (simp only [Act.put, List.setIfInBounds_toArray, List.set_cons_zero, List.set_cons_succ])) | (go_at_call 88; refine (hsg _).mono ?_; rintro e w' ⟨rfl, rfl⟩))
      go_ret
      exact ⟨rfl, (Below.refl _ _).alloc (Nat.le_refl _) _⟩
  · rw [d2] at hsg
    as_aux_lemma =>
      go_enter Tryd.func61, Tryd.ntmps61
      go_wp2_with (first | (refine wpList_load_want (by rfl) 72 (.tmp 7) (by rfl) w.heap.size 2 (by rfl) _ _ HR.out Tryd.underlying72 rfl size72 ?_; (simp only [Act.put, List.setIfInBounds_toArray, List.set_cons_zero, List.set_cons_succ])) | (go_at_call 88; refine (hsg _).mono ?_; rintro e w' ⟨rfl, rfl⟩))
      go_ret
      exact ⟨rfl, (Below.refl _ _).alloc (Nat.le_refl _) _⟩
  · rw [d2] at hsg
    as_aux_lemma =>
      go_enter Tryd.func61, Tryd.ntmps61
      go_wp2_with (first | (refine wpList_load_want (by rfl) 72 (.tmp 7) (by rfl) w.heap.size 2 (by rfl) _ _ HR.out Tryd.underlying72 rfl size72 ?_; (simp only [Act.put, List.setIfInBounds_toArray, List.set_cons_zero, List.set_cons_succ])) | (go_at_call 88; refine (hsg _).mono ?_; rintro e w' ⟨rfl, rfl⟩))
      go_ret
      exact ⟨rfl, (Below.refl _ _).alloc (Nat.le_refl _) _⟩
  · rw [d2] at hsg; have H5 := Lib.hid d5; clear d5
    as_aux_lemma =>
      go_enter Tryd.func61, Tryd.ntmps61
      go_wp2_with (first | (refine wpList_load_want (by rfl) 72 (.tmp 7) (by rfl) w.heap.size 2 (by rfl) _ _ HR.out Tryd.underlying72 rfl size72 ?_; (simp only [Act.put, List.setIfInBounds_toArray, List.set_cons_zero, List.set_cons_succ])) | (go_at_call 88; refine (hsg _).mono ?_; rintro e w' ⟨rfl, rfl⟩))
      go_ret
      exact ⟨by rw [H5.out]; rfl, (Below.refl _ _).alloc (Nat.le_refl _) _⟩
theorem some_cases (r : Rc) : (stampOk r.gen = false ∧ someOk r = false) ∨ (stampOk r.gen = true ∧ ((decide (r.life < 1) = true ∧ someOk r = false) ∨ (decide (r.life < 1) = false ∧ ((decide (3 < r.life) = true ∧ someOk r = false) ∨ (decide (3 < r.life) = false ∧ ((spcOk r.spec = false ∧ someOk r = false) ∨ (spcOk r.spec = true ∧ ((decide (16 < r.votes.length) = true ∧ someOk r = false) ∨ (decide (16 < r.votes.length) = false ∧ ((decide (r.done < 0) = true ∧ someOk r = false) ∨ (decide (r.done < 0) = false ∧ ((decide (65535 < r.done) = true ∧ someOk r = false) ∨ (decide (65535 < r.done) = false ∧ ((lastOk r.votes = false ∧ someOk r = false) ∨ (lastOk r.votes = true ∧ (someOk r = votsOk r.votes)))))))))))))))) := by
  unfold someOk
  cases stampOk r.gen <;> cases decide (r.life < 1) <;> cases decide (3 < r.life) <;> cases spcOk r.spec <;> cases decide (16 < r.votes.length) <;> cases decide (r.done < 0) <;> cases decide (65535 < r.done) <;> cases lastOk r.votes <;> simp
set_option maxRecDepth 100000 in
set_option maxHeartbeats 2000000 in
theorem right_some (r : Rc) (a : Option Addr) (c : Nat) (w : World) (h0 : r.gen ≠ 0) (hw : r.spec.w < B64) (hv : Vts w a r.votes) (hl : Laid w) (hpos : 0 < w.heap.size) :
    Calls Tryd.prog 61 #[recV r a r.votes.length c] w fun e w' => e = .returned (.bool (rcOk r)) ∧ Below w.heap.size w w' := by
  have hR : rcOk r = someOk r := by unfold rcOk; rw [if_neg h0]
  have hb0 : (r.gen == 0) = false := by rw [beq_eq_false_iff_ne]; exact h0
  have hm := hv.1
  have hcs := some_cases r
  have hr : (w.alloc (.cells #[.int .i64 r.gen, .int .i64 r.life, .int .i64 r.spec.st, .int .i64 r.spec.by_, .bool r.spec.v6, .int .u8 (r.spec.b 0), .int .u8 (r.spec.b 1), .int .u8 (r.spec.b 2), .int .u8 (r.spec.b 3), .int .u8 (r.spec.b 4), .int .u8 (r.spec.b 5), .int .u8 (r.spec.b 6), .int .u8 (r.spec.b 7), .int .u8 (r.spec.b 8), .int .u8 (r.spec.b 9), .int .u8 (r.spec.b 10), .int .u8 (r.spec.b 11), .int .u8 (r.spec.b 12), .int .u8 (r.spec.b 13), .int .u8 (r.spec.b 14), .int .u8 (r.spec.b 15), .float .f64 r.spec.w, .slice a r.votes.length c, .int .i64 r.done] 75)).rangeAt w.heap.size 2 [.int .i64 r.spec.st, .int .i64 r.spec.by_, .bool r.spec.v6, .int .u8 (r.spec.b 0), .int .u8 (r.spec.b 1), .int .u8 (r.spec.b 2), .int .u8 (r.spec.b 3), .int .u8 (r.spec.b 4), .int .u8 (r.spec.b 5), .int .u8 (r.spec.b 6), .int .u8 (r.spec.b 7), .int .u8 (r.spec.b 8), .int .u8 (r.spec.b 9), .int .u8 (r.spec.b 10), .int .u8 (r.spec.b 11), .int .u8 (r.spec.b 12), .int .u8 (r.spec.b 13), .int .u8 (r.spec.b 14), .int .u8 (r.spec.b 15), .float .f64 r.spec.w] :=
    range_row (heap_alloc_new w _) 2 _ (drop_lit _ 2 _ rfl)
  have HR := Lib.hid hr
  have hst := fun W => stampC r.gen W
  have hsp : ∀ (o : Obj) , Calls Tryd.prog 90 #[spcV r.spec] (w.alloc o) fun e w' => e = .returned (.bool (spcOk r.spec)) ∧ Below (w.alloc o).heap.size (w.alloc o) w' := fun o =>
    srightC r.spec _ hw (hl.below ((Below.refl w.heap.size w).alloc (Nat.le_refl _) o) hpos) (by simp)
  unfold recV
  unfold spcV at hsp
  rw [hR]
  clear hr hR h0 hl hw
  generalize someOk r = N at *
  rcases hcs with ⟨d1, rfl⟩ | ⟨d1, ⟨d2, rfl⟩ | ⟨d2, ⟨d3, rfl⟩ | ⟨d3, ⟨d4, rfl⟩ | ⟨d4, hcs⟩⟩⟩⟩
  · rw [d1] at hst
    as_aux_lemma =>
      go_enter Tryd.func61, Tryd.ntmps61
      go_wp2_with (first | (refine wpList_load_want (by rfl) 72 (.tmp 53) (by rfl) w.heap.size 2 (by rfl) _ _ HR.out Tryd.underlying72 rfl size72 ?_; (simp only [Act.put, List.setIfInBounds_toArray, List.set_cons_zero, List.set_cons_succ])) | (go_at_call 89; refine (hst _).mono ?_; rintro e w' ⟨rfl, rfl⟩))
      go_ret
      exact ⟨rfl, (Below.refl _ _).alloc (Nat.le_refl _) _⟩
  · rw [d1] at hst
    as_aux_lemma =>
      go_enter Tryd.func61, Tryd.ntmps61
      go_wp2_with (first | (refine wpList_load_want (by rfl) 72 (.tmp 53) (by rfl) w.heap.size 2 (by rfl) _ _ HR.out Tryd.underlying72 rfl size72 ?_; (simp only [Act.put, List.setIfInBounds_toArray, List.set_cons_zero, List.set_cons_succ])) | (go_at_call 89; refine (hst _).mono ?_; rintro e w' ⟨rfl, rfl⟩))
      go_ret
      exact ⟨rfl, (Below.refl _ _).alloc (Nat.le_refl _) _⟩
  · rw [d1] at hst
    as_aux_lemma =>
      go_enter Tryd.func61, Tryd.ntmps61
      go_wp2_with (first | (refine wpList_load_want (by rfl) 72 (.tmp 53) (by rfl) w.heap.size 2 (by rfl) _ _ HR.out Tryd.underlying72 rfl size72 ?_; (simp only [Act.put, List.setIfInBounds_toArray, List.set_cons_zero, List.set_cons_succ])) | (go_at_call 89; refine (hst _).mono ?_; rintro e w' ⟨rfl, rfl⟩))
      go_ret
      exact ⟨rfl, (Below.refl _ _).alloc (Nat.le_refl _) _⟩
  · rw [d1] at hst
    rw [d4] at hsp
    as_aux_lemma =>
      go_enter Tryd.func61, Tryd.ntmps61
      go_wp2_with (first | (refine wpList_load_want (by rfl) 72 (.tmp 53) (by rfl) w.heap.size 2 (by rfl) _ _ HR.out Tryd.underlying72 rfl size72 ?_; (simp only [Act.put, List.setIfInBounds_toArray, List.set_cons_zero, List.set_cons_succ])) | (go_at_call 89; refine (hst _).mono ?_; rintro e w' ⟨rfl, rfl⟩))
      refine (hsp _).mono ?_
      rintro e w1 ⟨rfl, hb1⟩
      have hB := below_trans'' hb1
      have HB := Lib.hid hB
      clear hb1 hB hsp hst
      go_wp2_with fail
      go_ret
      exact ⟨rfl, HB.out⟩
  · rw [d1] at hst
    rw [d4] at hsp
    rcases hcs with ⟨d5, rfl⟩ | ⟨d5, ⟨d6, rfl⟩ | ⟨d6, ⟨d7, rfl⟩ | ⟨d7, ⟨d8, rfl⟩ | ⟨d8, d9⟩⟩⟩⟩
    · have e5 : decide ((16 : Int) < (r.votes.length : Int)) = true := by have := of_decide_eq_true d5; exact decide_eq_true (by omega)
      as_aux_lemma =>
        go_enter Tryd.func61, Tryd.ntmps61
        go_wp2_with (first | (refine wpList_load_want (by rfl) 72 (.tmp 53) (by rfl) w.heap.size 2 (by rfl) _ _ HR.out Tryd.underlying72 rfl size72 ?_; (simp only [Act.put, List.setIfInBounds_toArray, List.set_cons_zero, List.set_cons_succ])) | (go_at_call 89; refine (hst _).mono ?_; rintro e w' ⟨rfl, rfl⟩))
        refine (hsp _).mono ?_
        rintro e w1 ⟨rfl, hb1⟩
        have hB := below_trans'' hb1
        obtain ⟨hc, hf⟩ := bcell hb1
        have HB := Lib.hid hB
        clear hb1 hB hsp hst hf
        go_wp2_with fail
        go_ret
        exact ⟨rfl, HB.out⟩
    · have e5 : decide ((16 : Int) < (r.votes.length : Int)) = false := by have := of_decide_eq_false d5; exact decide_eq_false (by omega)
      as_aux_lemma =>
        go_enter Tryd.func61, Tryd.ntmps61
        go_wp2_with (first | (refine wpList_load_want (by rfl) 72 (.tmp 53) (by rfl) w.heap.size 2 (by rfl) _ _ HR.out Tryd.underlying72 rfl size72 ?_; (simp only [Act.put, List.setIfInBounds_toArray, List.set_cons_zero, List.set_cons_succ])) | (go_at_call 89; refine (hst _).mono ?_; rintro e w' ⟨rfl, rfl⟩))
        refine (hsp _).mono ?_
        rintro e w1 ⟨rfl, hb1⟩
        have hB := below_trans'' hb1
        obtain ⟨hc, hf⟩ := bcell hb1
        have HB := Lib.hid hB
        clear hb1 hB hsp hst hf
        go_wp2_with fail
        go_ret
        exact ⟨rfl, HB.out⟩
    · have e5 : decide ((16 : Int) < (r.votes.length : Int)) = false := by have := of_decide_eq_false d5; exact decide_eq_false (by omega)
      as_aux_lemma =>
        go_enter Tryd.func61, Tryd.ntmps61
        go_wp2_with (first | (refine wpList_load_want (by rfl) 72 (.tmp 53) (by rfl) w.heap.size 2 (by rfl) _ _ HR.out Tryd.underlying72 rfl size72 ?_; (simp only [Act.put, List.setIfInBounds_toArray, List.set_cons_zero, List.set_cons_succ])) | (go_at_call 89; refine (hst _).mono ?_; rintro e w' ⟨rfl, rfl⟩))
        refine (hsp _).mono ?_
        rintro e w1 ⟨rfl, hb1⟩
        have hB := below_trans'' hb1
        obtain ⟨hc, hf⟩ := bcell hb1
        have HB := Lib.hid hB
        clear hb1 hB hsp hst hf
        go_wp2_with fail
        go_ret
        exact ⟨rfl, HB.out⟩
    · have hn0 : 0 < r.votes.length := by
        rcases Nat.eq_zero_or_pos r.votes.length with h | h
        · unfold lastOk at d8; rw [decide_eq_true h] at d8; simp at d8
        · exact h
      obtain ⟨m, hn⟩ : ∃ m, r.votes.length = m + 1 := ⟨r.votes.length - 1, by omega⟩
      obtain ⟨b1, o1, rfl, q1, _⟩ := hv.2 m (by omega)
      have q1lt := World.block_lt_of_cell? w _ q1
      have dl : ((r.votes.getD m vt0).1 == 0) = true := by
        unfold lastOk at d8
        rw [hn] at d8
        simpa using d8
      have e5 : decide ((16 : Int) < (m : Int) + 1) = false := by have := of_decide_eq_false d5; exact decide_eq_false (by omega)
      have e8 : decide ((0 : Int) < (m : Int) + 1) = true := decide_eq_true (by omega)
      have es : (m : Int) + 1 - 1 = (m : Int) := by omega
      clear d8 hn0 hv d5
      generalize r.votes.length = n at *
      subst hn
      generalize (r.votes.getD m vt0).1 = x at *
      as_aux_lemma =>
        go_enter Tryd.func61, Tryd.ntmps61
        go_wp2_with (first | (refine wpList_load_want (by rfl) 72 (.tmp 53) (by rfl) w.heap.size 2 (by rfl) _ _ HR.out Tryd.underlying72 rfl size72 ?_; (simp only [Act.put, List.setIfInBounds_toArray, List.set_cons_zero, List.set_cons_succ])) | (go_at_call 89; refine (hst _).mono ?_; rintro e w' ⟨rfl, rfl⟩))
        refine (hsp _).mono ?_
        rintro e w1 ⟨rfl, hb1⟩
        have hB := below_trans'' hb1
        obtain ⟨hc, hf⟩ := bcell hb1
        have q1' := (hB.cell q1lt).trans q1
        have HB := Lib.hid hB
        clear hb1 hB hsp hst hf q1 q1lt
        go_wp2_with fail
        go_ret
        exact ⟨rfl, HB.out⟩
    · have hcon := fun W hv => containsC r.votes a c W hv
      have HD9 := Lib.hid d9
      have HV := Lib.hid hv
      rcases Nat.eq_zero_or_pos r.votes.length with hn | hn
      · clear d8 d9 hv d5
        generalize votsOk r.votes = vo at *
        generalize r.votes.length = n at *
        subst hn
        as_aux_lemma =>
          go_enter Tryd.func61, Tryd.ntmps61
          go_wp2_with (first | (refine wpList_load_want (by rfl) 72 (.tmp 53) (by rfl) w.heap.size 2 (by rfl) _ _ HR.out Tryd.underlying72 rfl size72 ?_; (simp only [Act.put, List.setIfInBounds_toArray, List.set_cons_zero, List.set_cons_succ])) | (go_at_call 89; refine (hst _).mono ?_; rintro e w' ⟨rfl, rfl⟩))
          refine (hsp _).mono ?_
          rintro e w1 ⟨rfl, hb1⟩
          have hB := below_trans'' hb1
          obtain ⟨hc, hf⟩ := bcell hb1
          have hcon' := hcon w1 (HV.out.below hB)
          have HB := Lib.hid hB
          clear hb1 hB hsp hst hf hcon
          go_wp2_with fail
          refine hcon'.mono ?_
          rintro e w2 ⟨rfl, hb2⟩
          have HB2 := Lib.hid (below_trans' HB.out hb2)
          clear hb2 hcon'
          go_wp2_with fail
          go_ret
          exact ⟨by rw [HD9.out]; simp, HB2.out⟩
      · obtain ⟨m, hn'⟩ : ∃ m, r.votes.length = m + 1 := ⟨r.votes.length - 1, by omega⟩
        obtain ⟨b1, o1, rfl, q1, _⟩ := hv.2 m (by omega)
        have q1lt := World.block_lt_of_cell? w _ q1
        have dl : ((r.votes.getD m vt0).1 == 0) = false := by
          unfold lastOk at d8
          rw [hn'] at d8
          simpa using d8
        have e5 : decide ((16 : Int) < (m : Int) + 1) = false := by have := of_decide_eq_false d5; exact decide_eq_false (by omega)
        have e8 : decide ((0 : Int) < (m : Int) + 1) = true := decide_eq_true (by omega)
        have es : (m : Int) + 1 - 1 = (m : Int) := by omega
        clear d8 d9 hn hv d5
        generalize r.votes.length = n at *
        subst hn'
        generalize (r.votes.getD m vt0).1 = x at *
        generalize votsOk r.votes = vo at *
        as_aux_lemma =>
          go_enter Tryd.func61, Tryd.ntmps61
          go_wp2_with (first | (refine wpList_load_want (by rfl) 72 (.tmp 53) (by rfl) w.heap.size 2 (by rfl) _ _ HR.out Tryd.underlying72 rfl size72 ?_; (simp only [Act.put, List.setIfInBounds_toArray, List.set_cons_zero, List.set_cons_succ])) | (go_at_call 89; refine (hst _).mono ?_; rintro e w' ⟨rfl, rfl⟩))
          refine (hsp _).mono ?_
          rintro e w1 ⟨rfl, hb1⟩
          have hB := below_trans'' hb1
          obtain ⟨hc, hf⟩ := bcell hb1
          have q1' := (hB.cell q1lt).trans q1
          have hcon' := hcon w1 (HV.out.below hB)
          have HB := Lib.hid hB
          clear hb1 hB hsp hst hf hcon q1 q1lt
          go_wp2_with fail
          refine hcon'.mono ?_
          rintro e w2 ⟨rfl, hb2⟩
          have HB2 := Lib.hid (below_trans' HB.out hb2)
          clear hb2 hcon'
          go_wp2_with fail
          go_ret
          exact ⟨by rw [HD9.out]; simp, HB2.out⟩
/-- Right. -/
theorem rcRightC (r : Rc) (a : Option Addr) (c : Nat) (w : World) (hw : r.spec.w < B64) (hv : Vts w a r.votes) (hl : Laid w) (hpos : 0 < w.heap.size) :
    Calls Tryd.prog 61 #[recV r a r.votes.length c] w fun e w' => e = .returned (.bool (rcOk r)) ∧ Below w.heap.size w w' := by
  by_cases h0 : r.gen = 0
  · exact right_none r a c w h0
  · exact right_some r a c w h0 hw hv hl hpos
end Go.Proofs.YtniejpfjbifjkaaDoor
