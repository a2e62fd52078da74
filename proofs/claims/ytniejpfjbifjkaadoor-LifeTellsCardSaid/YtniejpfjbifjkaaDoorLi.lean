/- The one of two specs that is not ahead (95). -/
import Derived.Test.YtniejpfjbifjkaaDoorLh
namespace Go.Proofs.YtniejpfjbifjkaaDoor
open Go.RowKit Fl

theorem one72 (s : Spc) : (#[.int .i64 s.st, .int .i64 s.by_, .bool s.v6, .int .u8 (s.b 0), .int .u8 (s.b 1), .int .u8 (s.b 2), .int .u8 (s.b 3), .int .u8 (s.b 4), .int .u8 (s.b 5), .int .u8 (s.b 6), .int .u8 (s.b 7), .int .u8 (s.b 8), .int .u8 (s.b 9), .int .u8 (s.b 10), .int .u8 (s.b 11), .int .u8 (s.b 12), .int .u8 (s.b 13), .int .u8 (s.b 14), .int .u8 (s.b 15), .float .f64 s.w] : Array Value).all (·.oneCell') = true :=
  all_oneCell_toArray (by intro v hv; simp only [List.mem_cons, List.not_mem_nil, or_false] at hv; rcases hv with rfl | rfl | rfl | rfl | rfl | rfl | rfl | rfl | rfl | rfl | rfl | rfl | rfl | rfl | rfl | rfl | rfl | rfl | rfl | rfl <;> rfl)
theorem row3a {w : World} {a b c : Obj} : (((w.alloc a).alloc b).alloc c).heap[w.heap.size + 1]? = some b := by
  rw [heap_alloc_old _ _ (by simp), heap_new2]
set_option maxRecDepth 100000 in
set_option maxHeartbeats 1000000 in
theorem slastC (v u x : Spc) (w : World) (hx : ∀ i, 0 ≤ x.b i ∧ x.b i < 256) (hu : ∀ i, 0 ≤ u.b i ∧ u.b i < 256) (hxw : neF x.w x.w = false) (huw : neF u.w u.w = false) :
    Calls Tryd.prog 95 #[spcV v, spcV u, .func (.func 94) #[spcV x] #[]] w fun e w' => e = .returned (spcV (if ordS x u < 0 then u else v)) ∧ Below w.heap.size w w' := by
  have ho := fun W => sorderC x u W hx hu hxw huw
  have e2 : (((w.alloc (.cells #[.int .i64 v.st, .int .i64 v.by_, .bool v.v6, .int .u8 (v.b 0), .int .u8 (v.b 1), .int .u8 (v.b 2), .int .u8 (v.b 3), .int .u8 (v.b 4), .int .u8 (v.b 5), .int .u8 (v.b 6), .int .u8 (v.b 7), .int .u8 (v.b 8), .int .u8 (v.b 9), .int .u8 (v.b 10), .int .u8 (v.b 11), .int .u8 (v.b 12), .int .u8 (v.b 13), .int .u8 (v.b 14), .int .u8 (v.b 15), .float .f64 v.w] 72)).alloc (.cells #[.int .i64 u.st, .int .i64 u.by_, .bool u.v6, .int .u8 (u.b 0), .int .u8 (u.b 1), .int .u8 (u.b 2), .int .u8 (u.b 3), .int .u8 (u.b 4), .int .u8 (u.b 5), .int .u8 (u.b 6), .int .u8 (u.b 7), .int .u8 (u.b 8), .int .u8 (u.b 9), .int .u8 (u.b 10), .int .u8 (u.b 11), .int .u8 (u.b 12), .int .u8 (u.b 13), .int .u8 (u.b 14), .int .u8 (u.b 15), .float .f64 u.w] 72)).alloc (.cells #[.int .i64 0, .int .i64 0, .bool false, .int .u8 0, .int .u8 0, .int .u8 0, .int .u8 0, .int .u8 0, .int .u8 0, .int .u8 0, .int .u8 0, .int .u8 0, .int .u8 0, .int .u8 0, .int .u8 0, .int .u8 0, .int .u8 0, .int .u8 0, .int .u8 0, .float .f64 0] 72)).heap[w.heap.size + 1]? = some (.cells #[.int .i64 u.st, .int .i64 u.by_, .bool u.v6, .int .u8 (u.b 0), .int .u8 (u.b 1), .int .u8 (u.b 2), .int .u8 (u.b 3), .int .u8 (u.b 4), .int .u8 (u.b 5), .int .u8 (u.b 6), .int .u8 (u.b 7), .int .u8 (u.b 8), .int .u8 (u.b 9), .int .u8 (u.b 10), .int .u8 (u.b 11), .int .u8 (u.b 12), .int .u8 (u.b 13), .int .u8 (u.b 14), .int .u8 (u.b 15), .float .f64 u.w] 72) := row3a
  clear hx hu hxw huw
  unfold spcV at *
  by_cases hlt : ordS x u < 0
  · have d : decide (ordS x u < 0) = true := decide_eq_true hlt
    rw [if_pos hlt]
    generalize ordS x u = q at *
    clear hlt
    as_aux_lemma =>
      go_enter Tryd.func95, Tryd.ntmps95
      go_wp2_with (first | (refine wpList_load_row (by rfl) 72 (.tmp 4) (by rfl) (w.heap.size + 1) (by rfl) 72 _ _ _ e2 Tryd.underlying72 rfl size72 ?_; (simp only [Act.put, List.setIfInBounds_toArray, List.set_cons_zero, List.set_cons_succ])))
      refine (ho _).mono ?_
      rintro e w1 ⟨rfl, hb1⟩
      obtain ⟨r0, r1, r2, hB⟩ := row3 hb1
      clear hb1 e2 ho
      have HB := Lib.hid hB
      clear hB
      go_wp2_with (first
        | (refine wpList_load_row (by rfl) 72 (.tmp 4) (by rfl) (w.heap.size + 1) (by rfl) 72 _ _ _ r1 Tryd.underlying72 rfl size72 ?_; (simp only [Act.put, List.setIfInBounds_toArray, List.set_cons_zero, List.set_cons_succ]))
        | (refine wpList_store_row (by rfl) 72 (.tmp 6) (.tmp 11) (by rfl) (w.heap.size + 1 + 1) #[.int .i64 u.st, .int .i64 u.by_, .bool u.v6, .int .u8 (u.b 0), .int .u8 (u.b 1), .int .u8 (u.b 2), .int .u8 (u.b 3), .int .u8 (u.b 4), .int .u8 (u.b 5), .int .u8 (u.b 6), .int .u8 (u.b 7), .int .u8 (u.b 8), .int .u8 (u.b 9), .int .u8 (u.b 10), .int .u8 (u.b 11), .int .u8 (u.b 12), .int .u8 (u.b 13), .int .u8 (u.b 14), .int .u8 (u.b 15), .float .f64 u.w] (by rfl) (by rfl) 72 _ r2 size72 rfl (one72 u) ?_; (simp only [Act.put])))
      refine bodyPost_ret (results_cell_row rfl _ _ (w.heap.size + 1 + 1) 72 #[.int .i64 u.st, .int .i64 u.by_, .bool u.v6, .int .u8 (u.b 0), .int .u8 (u.b 1), .int .u8 (u.b 2), .int .u8 (u.b 3), .int .u8 (u.b 4), .int .u8 (u.b 5), .int .u8 (u.b 6), .int .u8 (u.b 7), .int .u8 (u.b 8), .int .u8 (u.b 9), .int .u8 (u.b 10), .int .u8 (u.b 11), .int .u8 (u.b 12), .int .u8 (u.b 13), .int .u8 (u.b 14), .int .u8 (u.b 15), .float .f64 u.w] _ _ rfl (setRow_heap _ _ _ _ _ _ r2) Tryd.underlying72 rfl size72) rfl ?_
      exact ⟨rfl, below_setRow HB.out (by omega) _⟩
  · have d : decide (ordS x u < 0) = false := decide_eq_false hlt
    rw [if_neg hlt]
    generalize ordS x u = q at *
    clear hlt
    as_aux_lemma =>
      go_enter Tryd.func95, Tryd.ntmps95
      go_wp2_with (first | (refine wpList_load_row (by rfl) 72 (.tmp 4) (by rfl) (w.heap.size + 1) (by rfl) 72 _ _ _ e2 Tryd.underlying72 rfl size72 ?_; (simp only [Act.put, List.setIfInBounds_toArray, List.set_cons_zero, List.set_cons_succ])))
      refine (ho _).mono ?_
      rintro e w1 ⟨rfl, hb1⟩
      obtain ⟨r0, r1, r2, hB⟩ := row3 hb1
      clear hb1 e2 ho
      have HB := Lib.hid hB
      clear hB
      go_wp2_with (first
        | (refine wpList_load_row (by rfl) 72 (.tmp 3) (by rfl) w.heap.size (by rfl) 72 _ _ _ r0 Tryd.underlying72 rfl size72 ?_; (simp only [Act.put, List.setIfInBounds_toArray, List.set_cons_zero, List.set_cons_succ]))
        | (refine wpList_store_row (by rfl) 72 (.tmp 6) (.tmp 12) (by rfl) (w.heap.size + 1 + 1) #[.int .i64 v.st, .int .i64 v.by_, .bool v.v6, .int .u8 (v.b 0), .int .u8 (v.b 1), .int .u8 (v.b 2), .int .u8 (v.b 3), .int .u8 (v.b 4), .int .u8 (v.b 5), .int .u8 (v.b 6), .int .u8 (v.b 7), .int .u8 (v.b 8), .int .u8 (v.b 9), .int .u8 (v.b 10), .int .u8 (v.b 11), .int .u8 (v.b 12), .int .u8 (v.b 13), .int .u8 (v.b 14), .int .u8 (v.b 15), .float .f64 v.w] (by rfl) (by rfl) 72 _ r2 size72 rfl (one72 v) ?_; (simp only [Act.put])))
      refine bodyPost_ret (results_cell_row rfl _ _ (w.heap.size + 1 + 1) 72 #[.int .i64 v.st, .int .i64 v.by_, .bool v.v6, .int .u8 (v.b 0), .int .u8 (v.b 1), .int .u8 (v.b 2), .int .u8 (v.b 3), .int .u8 (v.b 4), .int .u8 (v.b 5), .int .u8 (v.b 6), .int .u8 (v.b 7), .int .u8 (v.b 8), .int .u8 (v.b 9), .int .u8 (v.b 10), .int .u8 (v.b 11), .int .u8 (v.b 12), .int .u8 (v.b 13), .int .u8 (v.b 14), .int .u8 (v.b 15), .float .f64 v.w] _ _ rfl (setRow_heap _ _ _ _ _ _ r2) Tryd.underlying72 rfl size72) rfl ?_
      exact ⟨rfl, below_setRow HB.out (by omega) _⟩
end Go.Proofs.YtniejpfjbifjkaaDoor
