/- A record of one among so many (100). -/
import Derived.Test.YtniejpfjbifjkaaDoorLi
namespace Go.Proofs.YtniejpfjbifjkaaDoor
open Go.RowKit Fl

theorem size75 : (Tryd.prog.info? 75).map (·.size) = some 24 := by kernel_rfl
def amongOk (r : Rc) (n : Int) : Bool := decide (1 ≤ n) && (decide (n ≤ 16) && (decide (0 < r.gen) && rcOk r))
set_option maxRecDepth 100000 in
set_option maxHeartbeats 1000000 in
theorem amongC (r : Rc) (a : Option Addr) (c : Nat) (n : Int) (w : World) (hw : r.spec.w < B64) (hv : Vts w a r.votes) (hl : Laid w) (hpos : 0 < w.heap.size) :
    Calls Tryd.prog 100 #[recV r a r.votes.length c, .int .i64 n] w fun e w' => e = .returned (.bool (amongOk r n)) ∧ Below w.heap.size w w' := by
  have hB0 : Below w.heap.size w (w.alloc (.cells #[.int .i64 r.gen, .int .i64 r.life, .int .i64 r.spec.st, .int .i64 r.spec.by_, .bool r.spec.v6, .int .u8 (r.spec.b 0), .int .u8 (r.spec.b 1), .int .u8 (r.spec.b 2), .int .u8 (r.spec.b 3), .int .u8 (r.spec.b 4), .int .u8 (r.spec.b 5), .int .u8 (r.spec.b 6), .int .u8 (r.spec.b 7), .int .u8 (r.spec.b 8), .int .u8 (r.spec.b 9), .int .u8 (r.spec.b 10), .int .u8 (r.spec.b 11), .int .u8 (r.spec.b 12), .int .u8 (r.spec.b 13), .int .u8 (r.spec.b 14), .int .u8 (r.spec.b 15), .float .f64 r.spec.w, .slice a r.votes.length c, .int .i64 r.done] 75)) := (Below.refl _ _).alloc (Nat.le_refl _) _
  have hr : (w.alloc (.cells #[.int .i64 r.gen, .int .i64 r.life, .int .i64 r.spec.st, .int .i64 r.spec.by_, .bool r.spec.v6, .int .u8 (r.spec.b 0), .int .u8 (r.spec.b 1), .int .u8 (r.spec.b 2), .int .u8 (r.spec.b 3), .int .u8 (r.spec.b 4), .int .u8 (r.spec.b 5), .int .u8 (r.spec.b 6), .int .u8 (r.spec.b 7), .int .u8 (r.spec.b 8), .int .u8 (r.spec.b 9), .int .u8 (r.spec.b 10), .int .u8 (r.spec.b 11), .int .u8 (r.spec.b 12), .int .u8 (r.spec.b 13), .int .u8 (r.spec.b 14), .int .u8 (r.spec.b 15), .float .f64 r.spec.w, .slice a r.votes.length c, .int .i64 r.done] 75)).rangeAt w.heap.size 0 [.int .i64 r.gen, .int .i64 r.life, .int .i64 r.spec.st, .int .i64 r.spec.by_, .bool r.spec.v6, .int .u8 (r.spec.b 0), .int .u8 (r.spec.b 1), .int .u8 (r.spec.b 2), .int .u8 (r.spec.b 3), .int .u8 (r.spec.b 4), .int .u8 (r.spec.b 5), .int .u8 (r.spec.b 6), .int .u8 (r.spec.b 7), .int .u8 (r.spec.b 8), .int .u8 (r.spec.b 9), .int .u8 (r.spec.b 10), .int .u8 (r.spec.b 11), .int .u8 (r.spec.b 12), .int .u8 (r.spec.b 13), .int .u8 (r.spec.b 14), .int .u8 (r.spec.b 15), .float .f64 r.spec.w, .slice a r.votes.length c, .int .i64 r.done] := range_row (heap_alloc_new w _) 0 _ (drop_lit _ 0 _ rfl)
  have HR := Lib.hid hr
  have hc := rcRightC r a c _ hw (hv.below hB0) (hl.below hB0 hpos) (by simp)
  unfold recV at hc ⊢
  clear hr hv hl hpos hw
  have hcs : (decide (n < 1) = true ∧ amongOk r n = false) ∨ (decide (n < 1) = false ∧ ((decide (n ≤ 16) = false ∧ amongOk r n = false) ∨ (decide (n ≤ 16) = true ∧ ((decide (0 < r.gen) = false ∧ amongOk r n = false) ∨ (decide (0 < r.gen) = true ∧ amongOk r n = rcOk r))))) := by
    unfold amongOk
    by_cases h1 : n < 1
    · left; simp [h1]; intro h; omega
    · right; refine ⟨by simp [h1], ?_⟩
      rw [decide_eq_true (show (1 : Int) ≤ n by omega)]
      cases decide (n ≤ 16) <;> cases decide (0 < r.gen) <;> simp
  generalize amongOk r n = q at *
  generalize rcOk r = v at *
  rcases hcs with ⟨d1, rfl⟩ | ⟨d1, ⟨d2, rfl⟩ | ⟨d2, ⟨d3, rfl⟩ | ⟨d3, rfl⟩⟩⟩
  · have e1 : decide ((1 : Int) ≤ n) = false := by have := of_decide_eq_true d1; exact decide_eq_false (by omega)
    clear hc
    as_aux_lemma =>
      go_enter Tryd.func100, Tryd.ntmps100
      go_wp2
      go_ret
      exact ⟨rfl, hB0⟩
  · have e1 : decide ((1 : Int) ≤ n) = true := by have := of_decide_eq_false d1; exact decide_eq_true (by omega)
    clear hc
    as_aux_lemma =>
      go_enter Tryd.func100, Tryd.ntmps100
      go_wp2
      go_ret
      exact ⟨rfl, hB0⟩
  · have e1 : decide ((1 : Int) ≤ n) = true := by have := of_decide_eq_false d1; exact decide_eq_true (by omega)
    clear hc
    as_aux_lemma =>
      go_enter Tryd.func100, Tryd.ntmps100
      go_wp2
      go_ret
      exact ⟨rfl, hB0⟩
  · have e1 : decide ((1 : Int) ≤ n) = true := by have := of_decide_eq_false d1; exact decide_eq_true (by omega)
    as_aux_lemma =>
      go_enter Tryd.func100, Tryd.ntmps100
      go_wp2_with (first | (refine wpList_load_want (by rfl) 75 (.tmp 2) (by rfl) w.heap.size 0 (by rfl) _ _ HR.out Tryd.underlying75 rfl size75 ?_; (simp only [Act.put, List.setIfInBounds_toArray, List.set_cons_zero, List.set_cons_succ])))
      refine hc.mono ?_
      rintro e w1 ⟨rfl, hb1⟩
      have HB := Lib.hid (below_trans'' hb1)
      clear hb1 hc hB0
      go_wp2_with fail
      go_ret
      exact ⟨rfl, HB.out⟩
end Go.Proofs.YtniejpfjbifjkaaDoor
