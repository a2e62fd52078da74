/- The mask of so many (99); Over (64). -/
import Derived.Test.YtniejpfjbifjkaaDoorLj
namespace Go.Proofs.YtniejpfjbifjkaaDoor
open Go.RowKit Fl

def maskI (n : Int) : Int := 2 ^ n.toNat - 1
theorem maskC (n : Int) (g : Nat) (w : World) (h1 : 1 ≤ n) (h2 : n ≤ 16) (hc : w.cell? ⟨g, 0, none⟩ = some (.int .i64 n)) :
    Calls Tryd.prog 99 #[.pointer (some ⟨g, 0, none⟩)] w fun e w' => e = .returned (.int .i64 (maskI n)) ∧ w = w' := by
  have h16 : n = 1 ∨ n = 2 ∨ n = 3 ∨ n = 4 ∨ n = 5 ∨ n = 6 ∨ n = 7 ∨ n = 8 ∨ n = 9 ∨ n = 10 ∨ n = 11 ∨ n = 12 ∨ n = 13 ∨ n = 14 ∨ n = 15 ∨ n = 16 := by omega
  clear h1 h2
  rcases h16 with rfl | rfl | rfl | rfl | rfl | rfl | rfl | rfl | rfl | rfl | rfl | rfl | rfl | rfl | rfl | rfl
  all_goals
    go_enter Tryd.func99, Tryd.ntmps99
    go_wp2
    go_ret
    exact ⟨rfl, rfl⟩
def overOk (r : Rc) (n : Int) : Bool := amongOk r n && (bits BinOp.and .i64 r.done (maskI n) == maskI n)
set_option maxRecDepth 100000 in
set_option maxHeartbeats 1000000 in
theorem overC (r : Rc) (a : Option Addr) (c : Nat) (n : Int) (w : World) (hw : r.spec.w < B64) (hv : Vts w a r.votes) (hl : Laid w) (hpos : 0 < w.heap.size) :
    Calls Tryd.prog 64 #[recV r a r.votes.length c, .int .i64 n] w fun e w' => e = .returned (.bool (overOk r n)) ∧ Below w.heap.size w w' := by
  have hB0 : Below w.heap.size w ((w.alloc (.cells #[.int .i64 r.gen, .int .i64 r.life, .int .i64 r.spec.st, .int .i64 r.spec.by_, .bool r.spec.v6, .int .u8 (r.spec.b 0), .int .u8 (r.spec.b 1), .int .u8 (r.spec.b 2), .int .u8 (r.spec.b 3), .int .u8 (r.spec.b 4), .int .u8 (r.spec.b 5), .int .u8 (r.spec.b 6), .int .u8 (r.spec.b 7), .int .u8 (r.spec.b 8), .int .u8 (r.spec.b 9), .int .u8 (r.spec.b 10), .int .u8 (r.spec.b 11), .int .u8 (r.spec.b 12), .int .u8 (r.spec.b 13), .int .u8 (r.spec.b 14), .int .u8 (r.spec.b 15), .float .f64 r.spec.w, .slice a r.votes.length c, .int .i64 r.done] 75)).alloc (.cells #[.int .i64 n] 3)) := ((Below.refl _ _).alloc (Nat.le_refl _) _).alloc (by simp) _
  have q1 : ((w.alloc (.cells #[.int .i64 r.gen, .int .i64 r.life, .int .i64 r.spec.st, .int .i64 r.spec.by_, .bool r.spec.v6, .int .u8 (r.spec.b 0), .int .u8 (r.spec.b 1), .int .u8 (r.spec.b 2), .int .u8 (r.spec.b 3), .int .u8 (r.spec.b 4), .int .u8 (r.spec.b 5), .int .u8 (r.spec.b 6), .int .u8 (r.spec.b 7), .int .u8 (r.spec.b 8), .int .u8 (r.spec.b 9), .int .u8 (r.spec.b 10), .int .u8 (r.spec.b 11), .int .u8 (r.spec.b 12), .int .u8 (r.spec.b 13), .int .u8 (r.spec.b 14), .int .u8 (r.spec.b 15), .float .f64 r.spec.w, .slice a r.votes.length c, .int .i64 r.done] 75)).alloc (.cells #[.int .i64 n] 3)).heap[w.heap.size]? = some (.cells #[.int .i64 r.gen, .int .i64 r.life, .int .i64 r.spec.st, .int .i64 r.spec.by_, .bool r.spec.v6, .int .u8 (r.spec.b 0), .int .u8 (r.spec.b 1), .int .u8 (r.spec.b 2), .int .u8 (r.spec.b 3), .int .u8 (r.spec.b 4), .int .u8 (r.spec.b 5), .int .u8 (r.spec.b 6), .int .u8 (r.spec.b 7), .int .u8 (r.spec.b 8), .int .u8 (r.spec.b 9), .int .u8 (r.spec.b 10), .int .u8 (r.spec.b 11), .int .u8 (r.spec.b 12), .int .u8 (r.spec.b 13), .int .u8 (r.spec.b 14), .int .u8 (r.spec.b 15), .float .f64 r.spec.w, .slice a r.votes.length c, .int .i64 r.done] 75) := by
    rw [heap_alloc_old _ _ (by simp), heap_alloc_new]
  have q2 : ((w.alloc (.cells #[.int .i64 r.gen, .int .i64 r.life, .int .i64 r.spec.st, .int .i64 r.spec.by_, .bool r.spec.v6, .int .u8 (r.spec.b 0), .int .u8 (r.spec.b 1), .int .u8 (r.spec.b 2), .int .u8 (r.spec.b 3), .int .u8 (r.spec.b 4), .int .u8 (r.spec.b 5), .int .u8 (r.spec.b 6), .int .u8 (r.spec.b 7), .int .u8 (r.spec.b 8), .int .u8 (r.spec.b 9), .int .u8 (r.spec.b 10), .int .u8 (r.spec.b 11), .int .u8 (r.spec.b 12), .int .u8 (r.spec.b 13), .int .u8 (r.spec.b 14), .int .u8 (r.spec.b 15), .float .f64 r.spec.w, .slice a r.votes.length c, .int .i64 r.done] 75)).alloc (.cells #[.int .i64 n] 3)).heap[w.heap.size + 1]? = some (.cells #[.int .i64 n] 3) := heap_new2 _ _ _
  have HR : Hid (∀ W', (∃ x : Aft ((w.alloc (.cells #[.int .i64 r.gen, .int .i64 r.life, .int .i64 r.spec.st, .int .i64 r.spec.by_, .bool r.spec.v6, .int .u8 (r.spec.b 0), .int .u8 (r.spec.b 1), .int .u8 (r.spec.b 2), .int .u8 (r.spec.b 3), .int .u8 (r.spec.b 4), .int .u8 (r.spec.b 5), .int .u8 (r.spec.b 6), .int .u8 (r.spec.b 7), .int .u8 (r.spec.b 8), .int .u8 (r.spec.b 9), .int .u8 (r.spec.b 10), .int .u8 (r.spec.b 11), .int .u8 (r.spec.b 12), .int .u8 (r.spec.b 13), .int .u8 (r.spec.b 14), .int .u8 (r.spec.b 15), .float .f64 r.spec.w, .slice a r.votes.length c, .int .i64 r.done] 75)).alloc (.cells #[.int .i64 n] 3)), W' = x.1) → W'.rangeAt w.heap.size 0 [.int .i64 r.gen, .int .i64 r.life, .int .i64 r.spec.st, .int .i64 r.spec.by_, .bool r.spec.v6, .int .u8 (r.spec.b 0), .int .u8 (r.spec.b 1), .int .u8 (r.spec.b 2), .int .u8 (r.spec.b 3), .int .u8 (r.spec.b 4), .int .u8 (r.spec.b 5), .int .u8 (r.spec.b 6), .int .u8 (r.spec.b 7), .int .u8 (r.spec.b 8), .int .u8 (r.spec.b 9), .int .u8 (r.spec.b 10), .int .u8 (r.spec.b 11), .int .u8 (r.spec.b 12), .int .u8 (r.spec.b 13), .int .u8 (r.spec.b 14), .int .u8 (r.spec.b 15), .float .f64 r.spec.w, .slice a r.votes.length c, .int .i64 r.done]) :=
    Lib.hid (fun W' ⟨x, hx⟩ => hx ▸ range_row (aft_block q1 x) 0 _ (drop_lit _ 0 _ rfl))
  have hBx : ∀ x : Aft ((w.alloc (.cells #[.int .i64 r.gen, .int .i64 r.life, .int .i64 r.spec.st, .int .i64 r.spec.by_, .bool r.spec.v6, .int .u8 (r.spec.b 0), .int .u8 (r.spec.b 1), .int .u8 (r.spec.b 2), .int .u8 (r.spec.b 3), .int .u8 (r.spec.b 4), .int .u8 (r.spec.b 5), .int .u8 (r.spec.b 6), .int .u8 (r.spec.b 7), .int .u8 (r.spec.b 8), .int .u8 (r.spec.b 9), .int .u8 (r.spec.b 10), .int .u8 (r.spec.b 11), .int .u8 (r.spec.b 12), .int .u8 (r.spec.b 13), .int .u8 (r.spec.b 14), .int .u8 (r.spec.b 15), .float .f64 r.spec.w, .slice a r.votes.length c, .int .i64 r.done] 75)).alloc (.cells #[.int .i64 n] 3)), Below w.heap.size w x.1 := fun x => hB0.trans (x.2.mono (by simp; omega))
  have hc := fun x : Aft ((w.alloc (.cells #[.int .i64 r.gen, .int .i64 r.life, .int .i64 r.spec.st, .int .i64 r.spec.by_, .bool r.spec.v6, .int .u8 (r.spec.b 0), .int .u8 (r.spec.b 1), .int .u8 (r.spec.b 2), .int .u8 (r.spec.b 3), .int .u8 (r.spec.b 4), .int .u8 (r.spec.b 5), .int .u8 (r.spec.b 6), .int .u8 (r.spec.b 7), .int .u8 (r.spec.b 8), .int .u8 (r.spec.b 9), .int .u8 (r.spec.b 10), .int .u8 (r.spec.b 11), .int .u8 (r.spec.b 12), .int .u8 (r.spec.b 13), .int .u8 (r.spec.b 14), .int .u8 (r.spec.b 15), .float .f64 r.spec.w, .slice a r.votes.length c, .int .i64 r.done] 75)).alloc (.cells #[.int .i64 n] 3)) => amongC r a c n x.1 hw (hv.below (hBx x)) (hl.below (hBx x) hpos) (Nat.lt_of_lt_of_le hpos (hBx x).size)
  have cD : ∀ x : Aft ((w.alloc (.cells #[.int .i64 r.gen, .int .i64 r.life, .int .i64 r.spec.st, .int .i64 r.spec.by_, .bool r.spec.v6, .int .u8 (r.spec.b 0), .int .u8 (r.spec.b 1), .int .u8 (r.spec.b 2), .int .u8 (r.spec.b 3), .int .u8 (r.spec.b 4), .int .u8 (r.spec.b 5), .int .u8 (r.spec.b 6), .int .u8 (r.spec.b 7), .int .u8 (r.spec.b 8), .int .u8 (r.spec.b 9), .int .u8 (r.spec.b 10), .int .u8 (r.spec.b 11), .int .u8 (r.spec.b 12), .int .u8 (r.spec.b 13), .int .u8 (r.spec.b 14), .int .u8 (r.spec.b 15), .float .f64 r.spec.w, .slice a r.votes.length c, .int .i64 r.done] 75)).alloc (.cells #[.int .i64 n] 3)), x.1.cell? ⟨w.heap.size, 23, none⟩ = some (.int .i64 r.done) := fun x => cell_of_row x.1 _ 23 _ _ _ (aft_block q1 x)
  have cN : ∀ x : Aft ((w.alloc (.cells #[.int .i64 r.gen, .int .i64 r.life, .int .i64 r.spec.st, .int .i64 r.spec.by_, .bool r.spec.v6, .int .u8 (r.spec.b 0), .int .u8 (r.spec.b 1), .int .u8 (r.spec.b 2), .int .u8 (r.spec.b 3), .int .u8 (r.spec.b 4), .int .u8 (r.spec.b 5), .int .u8 (r.spec.b 6), .int .u8 (r.spec.b 7), .int .u8 (r.spec.b 8), .int .u8 (r.spec.b 9), .int .u8 (r.spec.b 10), .int .u8 (r.spec.b 11), .int .u8 (r.spec.b 12), .int .u8 (r.spec.b 13), .int .u8 (r.spec.b 14), .int .u8 (r.spec.b 15), .float .f64 r.spec.w, .slice a r.votes.length c, .int .i64 r.done] 75)).alloc (.cells #[.int .i64 n] 3)), x.1.cell? ⟨w.heap.size + 1, 0, none⟩ = some (.int .i64 n) := fun x => cell_of_row x.1 _ 0 _ _ _ (aft_block q2 x)
  have hO : overOk r n = (amongOk r n && (bits BinOp.and .i64 r.done (maskI n) == maskI n)) := rfl
  have hm : ∀ x : Aft ((w.alloc (.cells #[.int .i64 r.gen, .int .i64 r.life, .int .i64 r.spec.st, .int .i64 r.spec.by_, .bool r.spec.v6, .int .u8 (r.spec.b 0), .int .u8 (r.spec.b 1), .int .u8 (r.spec.b 2), .int .u8 (r.spec.b 3), .int .u8 (r.spec.b 4), .int .u8 (r.spec.b 5), .int .u8 (r.spec.b 6), .int .u8 (r.spec.b 7), .int .u8 (r.spec.b 8), .int .u8 (r.spec.b 9), .int .u8 (r.spec.b 10), .int .u8 (r.spec.b 11), .int .u8 (r.spec.b 12), .int .u8 (r.spec.b 13), .int .u8 (r.spec.b 14), .int .u8 (r.spec.b 15), .float .f64 r.spec.w, .slice a r.votes.length c, .int .i64 r.done] 75)).alloc (.cells #[.int .i64 n] 3)), amongOk r n = true → Calls Tryd.prog 99 #[.pointer (some ⟨w.heap.size + 1, 0, none⟩)] x.1 fun e w' => e = .returned (.int .i64 (maskI n)) ∧ x.1 = w' := fun x hk => by
    unfold amongOk at hk
    simp only [Bool.and_eq_true, decide_eq_true_eq] at hk
    exact maskC n _ _ hk.1 hk.2.1 (cN x)
  rw [hO]
  clear hO hB0 q1 q2 hv hl hpos hw
  have HB := Lib.hid hBx
  clear hBx
  unfold recV at hc ⊢
  generalize maskI n = m at *
  cases hk : amongOk r n
  · rw [hk] at hc
    clear hm hk
    rw [Bool.false_and]
    as_aux_lemma =>
      go_enter Tryd.func64, Tryd.ntmps64
      go_wp2_with fail
      refine wp_region_aft (by kernel_rfl) (by kernel_rfl) ?_
      repeat (first | (go_big_quiet_want; refine quiet_load 75 (.tmp 2) (by rfl) w.heap.size 0 (by rfl) [.int .i64 r.gen, .int .i64 r.life, .int .i64 r.spec.st, .int .i64 r.spec.by_, .bool r.spec.v6, .int .u8 (r.spec.b 0), .int .u8 (r.spec.b 1), .int .u8 (r.spec.b 2), .int .u8 (r.spec.b 3), .int .u8 (r.spec.b 4), .int .u8 (r.spec.b 5), .int .u8 (r.spec.b 6), .int .u8 (r.spec.b 7), .int .u8 (r.spec.b 8), .int .u8 (r.spec.b 9), .int .u8 (r.spec.b 10), .int .u8 (r.spec.b 11), .int .u8 (r.spec.b 12), .int .u8 (r.spec.b 13), .int .u8 (r.spec.b 14), .int .u8 (r.spec.b 15), .float .f64 r.spec.w, .slice a r.votes.length c, .int .i64 r.done] _ HR.out Tryd.underlying75 rfl size75 ?_; (simp only [Act.put, List.setIfInBounds_toArray, List.set_cons_zero, List.set_cons_succ]); go_big_quiet_on) | go_big_quiet_step ((first
        | (go_at_call 100; exact aft_below (hc _))
        | (go_at_call 99; exact aft_same (hm _)))))
      refine wpQuiet_nil ?_
      intro _ hw'
      obtain ⟨x, rfl⟩ := hw'
      go_wp2
      go_ret
      exact ⟨rfl, HB.out x⟩
  · rw [hk] at hc
    have hm := fun x => hm x hk
    clear hk
    rw [Bool.true_and]
    as_aux_lemma =>
      go_enter Tryd.func64, Tryd.ntmps64
      go_wp2_with fail
      refine wp_region_aft (by kernel_rfl) (by kernel_rfl) ?_
      repeat (first | (go_big_quiet_want; refine quiet_load 75 (.tmp 2) (by rfl) w.heap.size 0 (by rfl) [.int .i64 r.gen, .int .i64 r.life, .int .i64 r.spec.st, .int .i64 r.spec.by_, .bool r.spec.v6, .int .u8 (r.spec.b 0), .int .u8 (r.spec.b 1), .int .u8 (r.spec.b 2), .int .u8 (r.spec.b 3), .int .u8 (r.spec.b 4), .int .u8 (r.spec.b 5), .int .u8 (r.spec.b 6), .int .u8 (r.spec.b 7), .int .u8 (r.spec.b 8), .int .u8 (r.spec.b 9), .int .u8 (r.spec.b 10), .int .u8 (r.spec.b 11), .int .u8 (r.spec.b 12), .int .u8 (r.spec.b 13), .int .u8 (r.spec.b 14), .int .u8 (r.spec.b 15), .float .f64 r.spec.w, .slice a r.votes.length c, .int .i64 r.done] _ HR.out Tryd.underlying75 rfl size75 ?_; (simp only [Act.put, List.setIfInBounds_toArray, List.set_cons_zero, List.set_cons_succ]); go_big_quiet_on) | go_big_quiet_step ((first
        | (go_at_call 100; exact aft_below (hc _))
        | (go_at_call 99; exact aft_same (hm _)))))
      refine wpQuiet_nil ?_
      intro _ hw'
      obtain ⟨x, rfl⟩ := hw'
      go_wp2
      go_ret
      exact ⟨rfl, HB.out x⟩
end Go.Proofs.YtniejpfjbifjkaaDoor
