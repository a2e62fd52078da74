/- Well (67): more hold it well than not. -/
import Derived.Test.YtniejpfjbifjkaaDoorLk
namespace Go.Proofs.YtniejpfjbifjkaaDoor
open Go.RowKit Fl

/-- how many of the first k said: not well. -/
def nays (l : List (Int × Bool)) : Nat → Nat
  | 0 => 0
  | k + 1 => nays l k + (if 0 < (l.getD k vt0).1 ∧ (l.getD k vt0).2 = false then 1 else 0)
theorem nays_le (l : List (Int × Bool)) : ∀ k, nays l k ≤ k
  | 0 => Nat.le_refl _
  | k + 1 => by unfold nays; have := nays_le l k; split <;> omega
def wellOk (r : Rc) (n : Int) : Bool := amongOk r n && decide ((nays r.votes n.toNat : Int) < n - nays r.votes n.toNat)
set_option maxRecDepth 100000 in
set_option maxHeartbeats 1000000 in
theorem wellC (r : Rc) (a : Option Addr) (c : Nat) (n : Int) (w : World) (hw : r.spec.w < B64) (hv : Vts w a r.votes) (hl : Laid w) (hpos : 0 < w.heap.size) :
    Calls Tryd.prog 67 #[recV r a r.votes.length c, .int .i64 n] w fun e w' => e = .returned (.bool (wellOk r n)) ∧ Below w.heap.size w w' := by
  have hB0 : Below w.heap.size w (w.alloc (.cells #[.int .i64 r.gen, .int .i64 r.life, .int .i64 r.spec.st, .int .i64 r.spec.by_, .bool r.spec.v6, .int .u8 (r.spec.b 0), .int .u8 (r.spec.b 1), .int .u8 (r.spec.b 2), .int .u8 (r.spec.b 3), .int .u8 (r.spec.b 4), .int .u8 (r.spec.b 5), .int .u8 (r.spec.b 6), .int .u8 (r.spec.b 7), .int .u8 (r.spec.b 8), .int .u8 (r.spec.b 9), .int .u8 (r.spec.b 10), .int .u8 (r.spec.b 11), .int .u8 (r.spec.b 12), .int .u8 (r.spec.b 13), .int .u8 (r.spec.b 14), .int .u8 (r.spec.b 15), .float .f64 r.spec.w, .slice a r.votes.length c, .int .i64 r.done] 75)) := (Below.refl _ _).alloc (Nat.le_refl _) _
  have hr : (w.alloc (.cells #[.int .i64 r.gen, .int .i64 r.life, .int .i64 r.spec.st, .int .i64 r.spec.by_, .bool r.spec.v6, .int .u8 (r.spec.b 0), .int .u8 (r.spec.b 1), .int .u8 (r.spec.b 2), .int .u8 (r.spec.b 3), .int .u8 (r.spec.b 4), .int .u8 (r.spec.b 5), .int .u8 (r.spec.b 6), .int .u8 (r.spec.b 7), .int .u8 (r.spec.b 8), .int .u8 (r.spec.b 9), .int .u8 (r.spec.b 10), .int .u8 (r.spec.b 11), .int .u8 (r.spec.b 12), .int .u8 (r.spec.b 13), .int .u8 (r.spec.b 14), .int .u8 (r.spec.b 15), .float .f64 r.spec.w, .slice a r.votes.length c, .int .i64 r.done] 75)).heap[w.heap.size]? = some (.cells #[.int .i64 r.gen, .int .i64 r.life, .int .i64 r.spec.st, .int .i64 r.spec.by_, .bool r.spec.v6, .int .u8 (r.spec.b 0), .int .u8 (r.spec.b 1), .int .u8 (r.spec.b 2), .int .u8 (r.spec.b 3), .int .u8 (r.spec.b 4), .int .u8 (r.spec.b 5), .int .u8 (r.spec.b 6), .int .u8 (r.spec.b 7), .int .u8 (r.spec.b 8), .int .u8 (r.spec.b 9), .int .u8 (r.spec.b 10), .int .u8 (r.spec.b 11), .int .u8 (r.spec.b 12), .int .u8 (r.spec.b 13), .int .u8 (r.spec.b 14), .int .u8 (r.spec.b 15), .float .f64 r.spec.w, .slice a r.votes.length c, .int .i64 r.done] 75) := heap_alloc_new _ _
  have hR : ∀ W, Below (w.alloc (.cells #[.int .i64 r.gen, .int .i64 r.life, .int .i64 r.spec.st, .int .i64 r.spec.by_, .bool r.spec.v6, .int .u8 (r.spec.b 0), .int .u8 (r.spec.b 1), .int .u8 (r.spec.b 2), .int .u8 (r.spec.b 3), .int .u8 (r.spec.b 4), .int .u8 (r.spec.b 5), .int .u8 (r.spec.b 6), .int .u8 (r.spec.b 7), .int .u8 (r.spec.b 8), .int .u8 (r.spec.b 9), .int .u8 (r.spec.b 10), .int .u8 (r.spec.b 11), .int .u8 (r.spec.b 12), .int .u8 (r.spec.b 13), .int .u8 (r.spec.b 14), .int .u8 (r.spec.b 15), .float .f64 r.spec.w, .slice a r.votes.length c, .int .i64 r.done] 75)).heap.size (w.alloc (.cells #[.int .i64 r.gen, .int .i64 r.life, .int .i64 r.spec.st, .int .i64 r.spec.by_, .bool r.spec.v6, .int .u8 (r.spec.b 0), .int .u8 (r.spec.b 1), .int .u8 (r.spec.b 2), .int .u8 (r.spec.b 3), .int .u8 (r.spec.b 4), .int .u8 (r.spec.b 5), .int .u8 (r.spec.b 6), .int .u8 (r.spec.b 7), .int .u8 (r.spec.b 8), .int .u8 (r.spec.b 9), .int .u8 (r.spec.b 10), .int .u8 (r.spec.b 11), .int .u8 (r.spec.b 12), .int .u8 (r.spec.b 13), .int .u8 (r.spec.b 14), .int .u8 (r.spec.b 15), .float .f64 r.spec.w, .slice a r.votes.length c, .int .i64 r.done] 75)) W → Hid (W.rangeAt w.heap.size 0 [.int .i64 r.gen, .int .i64 r.life, .int .i64 r.spec.st, .int .i64 r.spec.by_, .bool r.spec.v6, .int .u8 (r.spec.b 0), .int .u8 (r.spec.b 1), .int .u8 (r.spec.b 2), .int .u8 (r.spec.b 3), .int .u8 (r.spec.b 4), .int .u8 (r.spec.b 5), .int .u8 (r.spec.b 6), .int .u8 (r.spec.b 7), .int .u8 (r.spec.b 8), .int .u8 (r.spec.b 9), .int .u8 (r.spec.b 10), .int .u8 (r.spec.b 11), .int .u8 (r.spec.b 12), .int .u8 (r.spec.b 13), .int .u8 (r.spec.b 14), .int .u8 (r.spec.b 15), .float .f64 r.spec.w, .slice a r.votes.length c, .int .i64 r.done]) := fun W hW =>
    Lib.hid (range_row (row_below hr hW) 0 _ (drop_lit _ 0 _ rfl))
  have HR0 := hR _ (Below.refl _ _)
  have hc := amongC r a c n (w.alloc (.cells #[.int .i64 r.gen, .int .i64 r.life, .int .i64 r.spec.st, .int .i64 r.spec.by_, .bool r.spec.v6, .int .u8 (r.spec.b 0), .int .u8 (r.spec.b 1), .int .u8 (r.spec.b 2), .int .u8 (r.spec.b 3), .int .u8 (r.spec.b 4), .int .u8 (r.spec.b 5), .int .u8 (r.spec.b 6), .int .u8 (r.spec.b 7), .int .u8 (r.spec.b 8), .int .u8 (r.spec.b 9), .int .u8 (r.spec.b 10), .int .u8 (r.spec.b 11), .int .u8 (r.spec.b 12), .int .u8 (r.spec.b 13), .int .u8 (r.spec.b 14), .int .u8 (r.spec.b 15), .float .f64 r.spec.w, .slice a r.votes.length c, .int .i64 r.done] 75)) hw (hv.below hB0) (hl.below hB0 hpos) (by simp)
  have hO : wellOk r n = (amongOk r n && decide ((nays r.votes n.toNat : Int) < n - nays r.votes n.toNat)) := rfl
  have hvo := fun (k : Nat) (W : World) (hW : Below (w.alloc (.cells #[.int .i64 r.gen, .int .i64 r.life, .int .i64 r.spec.st, .int .i64 r.spec.by_, .bool r.spec.v6, .int .u8 (r.spec.b 0), .int .u8 (r.spec.b 1), .int .u8 (r.spec.b 2), .int .u8 (r.spec.b 3), .int .u8 (r.spec.b 4), .int .u8 (r.spec.b 5), .int .u8 (r.spec.b 6), .int .u8 (r.spec.b 7), .int .u8 (r.spec.b 8), .int .u8 (r.spec.b 9), .int .u8 (r.spec.b 10), .int .u8 (r.spec.b 11), .int .u8 (r.spec.b 12), .int .u8 (r.spec.b 13), .int .u8 (r.spec.b 14), .int .u8 (r.spec.b 15), .float .f64 r.spec.w, .slice a r.votes.length c, .int .i64 r.done] 75)).heap.size (w.alloc (.cells #[.int .i64 r.gen, .int .i64 r.life, .int .i64 r.spec.st, .int .i64 r.spec.by_, .bool r.spec.v6, .int .u8 (r.spec.b 0), .int .u8 (r.spec.b 1), .int .u8 (r.spec.b 2), .int .u8 (r.spec.b 3), .int .u8 (r.spec.b 4), .int .u8 (r.spec.b 5), .int .u8 (r.spec.b 6), .int .u8 (r.spec.b 7), .int .u8 (r.spec.b 8), .int .u8 (r.spec.b 9), .int .u8 (r.spec.b 10), .int .u8 (r.spec.b 11), .int .u8 (r.spec.b 12), .int .u8 (r.spec.b 13), .int .u8 (r.spec.b 14), .int .u8 (r.spec.b 15), .float .f64 r.spec.w, .slice a r.votes.length c, .int .i64 r.done] 75)) W) => voteC r a c k W ((hv.below hB0).below hW)
  rw [hO]
  clear hO hl hpos hw hr hv
  unfold recV at hc hvo ⊢
  cases hk : amongOk r n
  · rw [hk] at hc
    clear hk hvo hR
    rw [Bool.false_and]
    as_aux_lemma =>
      go_enter Tryd.func67, Tryd.ntmps67
      go_wp2_with (first | (refine wpList_load_want (by rfl) 75 (.tmp 2) (by rfl) w.heap.size 0 (by rfl) [.int .i64 r.gen, .int .i64 r.life, .int .i64 r.spec.st, .int .i64 r.spec.by_, .bool r.spec.v6, .int .u8 (r.spec.b 0), .int .u8 (r.spec.b 1), .int .u8 (r.spec.b 2), .int .u8 (r.spec.b 3), .int .u8 (r.spec.b 4), .int .u8 (r.spec.b 5), .int .u8 (r.spec.b 6), .int .u8 (r.spec.b 7), .int .u8 (r.spec.b 8), .int .u8 (r.spec.b 9), .int .u8 (r.spec.b 10), .int .u8 (r.spec.b 11), .int .u8 (r.spec.b 12), .int .u8 (r.spec.b 13), .int .u8 (r.spec.b 14), .int .u8 (r.spec.b 15), .float .f64 r.spec.w, .slice a r.votes.length c, .int .i64 r.done] _ HR0.out Tryd.underlying75 rfl size75 ?_; (simp only [Act.put, List.setIfInBounds_toArray, List.set_cons_zero, List.set_cons_succ])))
      refine hc.mono ?_
      rintro e w1 ⟨rfl, hb1⟩
      have HB := Lib.hid (below_trans'' hb1)
      clear hb1 hc HR0 hB0
      go_wp2_with fail
      go_ret
      exact ⟨rfl, HB.out⟩
  · rw [hk] at hc
    rw [Bool.true_and]
    obtain ⟨N, rfl⟩ : ∃ N : Nat, n = N := by
      unfold amongOk at hk
      simp only [Bool.and_eq_true, decide_eq_true_eq] at hk
      exact ⟨n.toNat, by omega⟩
    have hN : N ≤ 16 := by
      unfold amongOk at hk
      simp only [Bool.and_eq_true, decide_eq_true_eq] at hk
      omega
    rw [Int.toNat_natCast]
    clear hk
    go_enter Tryd.func67, Tryd.ntmps67
    go_wp2_with (first | (refine wpList_load_want (by rfl) 75 (.tmp 2) (by rfl) w.heap.size 0 (by rfl) [.int .i64 r.gen, .int .i64 r.life, .int .i64 r.spec.st, .int .i64 r.spec.by_, .bool r.spec.v6, .int .u8 (r.spec.b 0), .int .u8 (r.spec.b 1), .int .u8 (r.spec.b 2), .int .u8 (r.spec.b 3), .int .u8 (r.spec.b 4), .int .u8 (r.spec.b 5), .int .u8 (r.spec.b 6), .int .u8 (r.spec.b 7), .int .u8 (r.spec.b 8), .int .u8 (r.spec.b 9), .int .u8 (r.spec.b 10), .int .u8 (r.spec.b 11), .int .u8 (r.spec.b 12), .int .u8 (r.spec.b 13), .int .u8 (r.spec.b 14), .int .u8 (r.spec.b 15), .float .f64 r.spec.w, .slice a r.votes.length c, .int .i64 r.done] _ HR0.out Tryd.underlying75 rfl size75 ?_; (simp only [Act.put, List.setIfInBounds_toArray, List.set_cons_zero, List.set_cons_succ])))
    refine hc.mono ?_
    rintro e w1 ⟨rfl, hb1⟩
    clear hc HR0
    go_wp2_with fail
    go_loopw [5, 14] (fun m i wr => ∃ k : Nat, k ≤ N ∧ i = .int .i64 k ∧ m = .int .i64 ((N : Int) - nays r.votes k) ∧ Below (w.alloc (.cells #[.int .i64 r.gen, .int .i64 r.life, .int .i64 r.spec.st, .int .i64 r.spec.by_, .bool r.spec.v6, .int .u8 (r.spec.b 0), .int .u8 (r.spec.b 1), .int .u8 (r.spec.b 2), .int .u8 (r.spec.b 3), .int .u8 (r.spec.b 4), .int .u8 (r.spec.b 5), .int .u8 (r.spec.b 6), .int .u8 (r.spec.b 7), .int .u8 (r.spec.b 8), .int .u8 (r.spec.b 9), .int .u8 (r.spec.b 10), .int .u8 (r.spec.b 11), .int .u8 (r.spec.b 12), .int .u8 (r.spec.b 13), .int .u8 (r.spec.b 14), .int .u8 (r.spec.b 15), .float .f64 r.spec.w, .slice a r.votes.length c, .int .i64 r.done] 75)).heap.size (w.alloc (.cells #[.int .i64 r.gen, .int .i64 r.life, .int .i64 r.spec.st, .int .i64 r.spec.by_, .bool r.spec.v6, .int .u8 (r.spec.b 0), .int .u8 (r.spec.b 1), .int .u8 (r.spec.b 2), .int .u8 (r.spec.b 3), .int .u8 (r.spec.b 4), .int .u8 (r.spec.b 5), .int .u8 (r.spec.b 6), .int .u8 (r.spec.b 7), .int .u8 (r.spec.b 8), .int .u8 (r.spec.b 9), .int .u8 (r.spec.b 10), .int .u8 (r.spec.b 11), .int .u8 (r.spec.b 12), .int .u8 (r.spec.b 13), .int .u8 (r.spec.b 14), .int .u8 (r.spec.b 15), .float .f64 r.spec.w, .slice a r.votes.length c, .int .i64 r.done] 75)) wr) (fun _ i _ => N - (intOf i).toNat)
    case atStart => exact ⟨0, Nat.zero_le _, rfl, by unfold nays; simp, hb1⟩
    case round =>
      obtain ⟨k, hkN, rfl, rfl, hB⟩ := hrel
      have HR := hR _ hB
      have hle := nays_le r.votes k
      by_cases hlt : k < N
      · have hcv := hvo k _ hB
        have hn1 : nays r.votes (k + 1) = nays r.votes k + (if 0 < (r.votes.getD k vt0).1 ∧ (r.votes.getD k vt0).2 = false then 1 else 0) := rfl
        unfold votV at hcv
        generalize r.votes.getD k vt0 = v at *
        have HN1 := Lib.hid hn1
        clear hvo hR hn1 hB0
        go_wp2_with (first | (refine wpList_load_want (by rfl) 75 (.tmp 2) (by rfl) w.heap.size 0 (by rfl) [.int .i64 r.gen, .int .i64 r.life, .int .i64 r.spec.st, .int .i64 r.spec.by_, .bool r.spec.v6, .int .u8 (r.spec.b 0), .int .u8 (r.spec.b 1), .int .u8 (r.spec.b 2), .int .u8 (r.spec.b 3), .int .u8 (r.spec.b 4), .int .u8 (r.spec.b 5), .int .u8 (r.spec.b 6), .int .u8 (r.spec.b 7), .int .u8 (r.spec.b 8), .int .u8 (r.spec.b 9), .int .u8 (r.spec.b 10), .int .u8 (r.spec.b 11), .int .u8 (r.spec.b 12), .int .u8 (r.spec.b 13), .int .u8 (r.spec.b 14), .int .u8 (r.spec.b 15), .float .f64 r.spec.w, .slice a r.votes.length c, .int .i64 r.done] _ HR.out Tryd.underlying75 rfl size75 ?_; (simp only [Act.put, List.setIfInBounds_toArray, List.set_cons_zero, List.set_cons_succ])))
        refine hcv.mono ?_
        rintro e w2 ⟨rfl, hb2⟩
        have hB2 := hB.trans (hb2.mono hB.size)
        clear hcv hB hb2 HR
        by_cases p1 : 0 < v.1
        · cases p2 : v.2
          · have HV : Hid (nays r.votes (k + 1) = nays r.votes k + 1) := Lib.hid (by rw [HN1.out, if_pos ⟨p1, p2⟩])
            clear HN1 p2
            go_wp2_with fail
            go_roundw
            case rel => exact ⟨k + 1, by omega, by go_num, by rw [HV.out]; go_num, hB2.alloc hB2.size _⟩
            case measure => simp [intOf]; omega
          · have HV : Hid (nays r.votes (k + 1) = nays r.votes k) := Lib.hid (by rw [HN1.out, if_neg (by rw [p2]; simp)]; rfl)
            clear HN1 p2
            go_wp2_with fail
            go_roundw
            case rel => exact ⟨k + 1, by omega, by go_num, by rw [HV.out], hB2.alloc hB2.size _⟩
            case measure => simp [intOf]; omega
        · have HV : Hid (nays r.votes (k + 1) = nays r.votes k) := Lib.hid (by rw [HN1.out, if_neg (fun h => p1 h.1)]; rfl)
          clear HN1
          go_wp2_with fail
          go_roundw
          case rel => exact ⟨k + 1, by omega, by go_num, by rw [HV.out], hB2.alloc hB2.size _⟩
          case measure => simp [intOf]; omega
      · have hkl : k = N := by omega
        subst hkl
        have HB := Lib.hid (below_trans'' hB)
        clear hB hB0 HR hR hvo
        go_wp2_with fail
        go_ret
        exact ⟨rfl, HB.out⟩
end Go.Proofs.YtniejpfjbifjkaaDoor
