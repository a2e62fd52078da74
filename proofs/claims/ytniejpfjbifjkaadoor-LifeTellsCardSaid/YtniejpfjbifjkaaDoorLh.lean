/- The first number that is not zero; Spec.order (94) up to its addresses. -/
import Derived.Test.YtniejpfjbifjkaaDoorLg
import Derived.Test.YtniejpfjbifjkaaDoorLf
import Derived.StillTail
namespace Go.Proofs.YtniejpfjbifjkaaDoor
open Go.RowKit Fl

theorem still_quiet {P : Program} {ops : Array Oper} {w1 : World} {Q : Act → Prop} : ∀ (l : List Oper) (a : Act), wpQuiet P ops (fun w' => w' = w1) Q l a → wpStill P ops w1 Q l a 
  | [], _, h => h
  | o :: rest, a, h => by
    unfold wpQuiet at h
    unfold wpStill
    by_cases hw : Region.wanted o (yielded ops a.tmps) = true
    · rw [if_pos hw] at h ⊢
      obtain ⟨v, hv, hn⟩ := h
      have h1 := hv w1 rfl
      unfold Oper.quietAt at h1
      unfold Oper.still
      generalize (execOp a.eval o).run P w1 = r at h1
      unfold Oper.quietUpon at h1
      unfold Oper.stillUpon
      split at h1
      · exact ⟨h1.1, by rw [h1.2]; exact still_quiet rest _ hn⟩
      · exact ⟨h1.1, by rw [← h1.2]; exact still_quiet rest _ hn⟩
      · exact ⟨h1.1, v, h1.2, still_quiet rest _ hn⟩
      · exact h1.elim
    · rw [if_neg hw] at h ⊢
      exact still_quiet rest _ h

theorem quiet_is {P : Program} {f : FuncId} {args : Array Value} {W : World} {v : Value} (h : Calls P f args W fun e w' => e = .returned v ∧ W = w') : Calls P f args W fun e w'' => e = .returned v ∧ w'' = W :=
  h.mono fun _ _ ⟨he, hm⟩ => ⟨he, hm.symm⟩
def orL (l : List Int) : Int := (l.find? (· ≠ 0)).getD 0
theorem orL_cons_zero {l : List Int} : orL (0 :: l) = orL l := by unfold orL; simp
theorem orL_cons {x : Int} {l : List Int} (h : x ≠ 0) : orL (x :: l) = x := by unfold orL; simp [h]
theorem orL_drop {l : List Int} {k : Nat} (hk : k < l.length) : orL (l.drop k) = if l.getD k 0 = 0 then orL (l.drop (k + 1)) else l.getD k 0 := by
  rw [List.drop_eq_getElem_cons hk]
  have : l.getD k 0 = l[k] := by simp [List.getD, hk]
  rw [this]
  split
  · rename_i h; rw [h, orL_cons_zero]
  · rename_i h; rw [orL_cons h]
set_option maxRecDepth 100000 in
theorem orC (l : List Int) (g o c : Nat) (w : World) (hl : l.length ≤ 1099511627776) (hc : ∀ i, i < l.length → w.cell? ⟨g, o + i, none⟩ = some (.int .i64 (l.getD i 0))) :
    Calls Tryd.prog 117 #[.slice (some ⟨g, o, none⟩) l.length c] w fun e w' => e = .returned (.int .i64 (orL l)) ∧ w = w' := by
  have HC := Lib.hid hc
  clear hc
  go_enter Tryd.func117, Tryd.ntmps117
  go_wp2
  go_loopw [8] (fun i wr => ∃ k : Nat, k ≤ l.length ∧ i = .int .i64 k ∧ wr = w ∧ Hid (orL l = orL (l.drop k))) (fun i _ => l.length - (intOf i).toNat)
  case atStart => exact ⟨0, Nat.zero_le _, rfl, rfl, Lib.hid rfl⟩
  case round =>
    obtain ⟨k, hk, rfl, rfl, hI⟩ := hrel
    by_cases hlt : k < l.length
    · have h1 := HC.out k hlt
      have hd := orL_drop hlt
      by_cases hz : l.getD k 0 = 0
      · rw [if_pos hz] at hd
        rw [hz] at h1
        have HN := Lib.hid (hI.out.trans hd)
        clear hd hI hz
        go_wp2
        go_roundw
        case rel => exact ⟨k + 1, by omega, by go_num, trivial, HN⟩
        case measure => simp [intOf]; omega
      · rw [if_neg hz] at hd
        have HN := Lib.hid (hI.out.trans hd)
        have hz' : (l.getD k 0 != 0) = true := by simpa using hz
        clear hd hI hz
        generalize l.getD k 0 = q at *
        go_wp2
        go_ret
        exact ⟨by rw [HN.out]; rfl, rfl⟩
    · have hkl : k = l.length := by omega
      have HN : Hid (orL l = 0) := Lib.hid (by rw [hI.out, hkl, List.drop_length]; rfl)
      clear hI
      subst hkl
      go_wp2
      go_ret
      exact ⟨by rw [HN.out]; rfl, rfl⟩
theorem row_below {w w1 : World} {g : Nat} {o : Obj} (h : w.heap[g]? = some o) (hb : Below w.heap.size w w1) : w1.heap[g]? = some o := aft_block h ⟨w1, hb⟩
set_option maxRecDepth 100000 in
theorem order2C (k : Bool) (s t : Spc) (g1 g2 : Nat) (w : World) (h1 : w.heap[g1]? = some (.cells #[.int .i64 s.st, .int .i64 s.by_, .bool s.v6, .int .u8 (s.b 0), .int .u8 (s.b 1), .int .u8 (s.b 2), .int .u8 (s.b 3), .int .u8 (s.b 4), .int .u8 (s.b 5), .int .u8 (s.b 6), .int .u8 (s.b 7), .int .u8 (s.b 8), .int .u8 (s.b 9), .int .u8 (s.b 10), .int .u8 (s.b 11), .int .u8 (s.b 12), .int .u8 (s.b 13), .int .u8 (s.b 14), .int .u8 (s.b 15), .float .f64 s.w] 72)) (h2 : w.heap[g2]? = some (.cells #[.int .i64 t.st, .int .i64 t.by_, .bool t.v6, .int .u8 (t.b 0), .int .u8 (t.b 1), .int .u8 (t.b 2), .int .u8 (t.b 3), .int .u8 (t.b 4), .int .u8 (t.b 5), .int .u8 (t.b 6), .int .u8 (t.b 7), .int .u8 (t.b 8), .int .u8 (t.b 9), .int .u8 (t.b 10), .int .u8 (t.b 11), .int .u8 (t.b 12), .int .u8 (t.b 13), .int .u8 (t.b 14), .int .u8 (t.b 15), .float .f64 t.w] 72))
    (hs : ∀ i, 0 ≤ s.b i ∧ s.b i < 256) (ht : ∀ i, 0 ≤ t.b i ∧ t.b i < 256) :
    Calls Tryd.prog 115 #[.bool k, .pointer (some ⟨g1, 0, none⟩), .pointer (some ⟨g2, 0, none⟩)] w fun e w' => e = .returned (.bool (if k then decide (adrC s.v6 s.b t.v6 t.b < 0) else decide (adrC t.v6 t.b s.v6 s.b < 0))) ∧ Below w.heap.size w w' := by
  have r1 : w.rangeAt g1 2 [.bool s.v6, .int .u8 (s.b 0), .int .u8 (s.b 1), .int .u8 (s.b 2), .int .u8 (s.b 3), .int .u8 (s.b 4), .int .u8 (s.b 5), .int .u8 (s.b 6), .int .u8 (s.b 7), .int .u8 (s.b 8), .int .u8 (s.b 9), .int .u8 (s.b 10), .int .u8 (s.b 11), .int .u8 (s.b 12), .int .u8 (s.b 13), .int .u8 (s.b 14), .int .u8 (s.b 15)] := range_row h1 2 _ (drop_lit _ 2 _ rfl)
  have r2 : w.rangeAt g2 2 [.bool t.v6, .int .u8 (t.b 0), .int .u8 (t.b 1), .int .u8 (t.b 2), .int .u8 (t.b 3), .int .u8 (t.b 4), .int .u8 (t.b 5), .int .u8 (t.b 6), .int .u8 (t.b 7), .int .u8 (t.b 8), .int .u8 (t.b 9), .int .u8 (t.b 10), .int .u8 (t.b 11), .int .u8 (t.b 12), .int .u8 (t.b 13), .int .u8 (t.b 14), .int .u8 (t.b 15)] := range_row h2 2 _ (drop_lit _ 2 _ rfl)
  have R1 := Lib.hid r1
  have R2 := Lib.hid r2
  have a1 := fun W => alessC s.v6 s.b t.v6 t.b W hs ht
  have a2 := fun W => alessC t.v6 t.b s.v6 s.b W ht hs
  unfold adrV at a1 a2
  clear r1 r2 h1 h2
  cases k
  · rw [if_neg (by simp)]
    clear a1
    generalize decide (adrC t.v6 t.b s.v6 s.b < 0) = q at *
    as_aux_lemma =>
      go_enter Tryd.func115, Tryd.ntmps115
      go_wp2_with (first | (refine wpList_load_want (by rfl) 66 (.tmp 11) (by rfl) g2 2 (by rfl) _ _ R2.out Tryd.underlying66 rfl size66 ?_; (simp only [Act.put, List.setIfInBounds_toArray, List.set_cons_zero, List.set_cons_succ])) | (refine wpList_load_want (by rfl) 66 (.tmp 13) (by rfl) g1 2 (by rfl) _ _ R1.out Tryd.underlying66 rfl size66 ?_; (simp only [Act.put, List.setIfInBounds_toArray, List.set_cons_zero, List.set_cons_succ])))
      refine (a2 _).mono ?_
      rintro e w1 ⟨rfl, hb1⟩
      have HB := Lib.hid hb1
      clear hb1 a2
      go_wp2_with fail
      go_ret
      exact ⟨rfl, HB.out⟩
  · rw [if_pos rfl]
    clear a2
    generalize decide (adrC s.v6 s.b t.v6 t.b < 0) = q at *
    as_aux_lemma =>
      go_enter Tryd.func115, Tryd.ntmps115
      go_wp2_with (first | (refine wpList_load_want (by rfl) 66 (.tmp 6) (by rfl) g1 2 (by rfl) _ _ R1.out Tryd.underlying66 rfl size66 ?_; (simp only [Act.put, List.setIfInBounds_toArray, List.set_cons_zero, List.set_cons_succ])) | (refine wpList_load_want (by rfl) 66 (.tmp 8) (by rfl) g2 2 (by rfl) _ _ R2.out Tryd.underlying66 rfl size66 ?_; (simp only [Act.put, List.setIfInBounds_toArray, List.set_cons_zero, List.set_cons_succ])))
      refine (a1 _).mono ?_
      rintro e w1 ⟨rfl, hb1⟩
      have HB := Lib.hid hb1
      clear hb1 a1
      go_wp2_with fail
      go_ret
      exact ⟨rfl, HB.out⟩
/-- addresses, as order's closures answer. -/
def ordA (s t : Spc) : Int := if adrC s.v6 s.b t.v6 t.b < 0 then -1 else if adrC t.v6 t.b s.v6 s.b < 0 then 1 else 0
set_option maxRecDepth 100000 in
theorem order1C (s t : Spc) (g1 g2 : Nat) (w : World) (h1 : w.heap[g1]? = some (.cells #[.int .i64 s.st, .int .i64 s.by_, .bool s.v6, .int .u8 (s.b 0), .int .u8 (s.b 1), .int .u8 (s.b 2), .int .u8 (s.b 3), .int .u8 (s.b 4), .int .u8 (s.b 5), .int .u8 (s.b 6), .int .u8 (s.b 7), .int .u8 (s.b 8), .int .u8 (s.b 9), .int .u8 (s.b 10), .int .u8 (s.b 11), .int .u8 (s.b 12), .int .u8 (s.b 13), .int .u8 (s.b 14), .int .u8 (s.b 15), .float .f64 s.w] 72)) (h2 : w.heap[g2]? = some (.cells #[.int .i64 t.st, .int .i64 t.by_, .bool t.v6, .int .u8 (t.b 0), .int .u8 (t.b 1), .int .u8 (t.b 2), .int .u8 (t.b 3), .int .u8 (t.b 4), .int .u8 (t.b 5), .int .u8 (t.b 6), .int .u8 (t.b 7), .int .u8 (t.b 8), .int .u8 (t.b 9), .int .u8 (t.b 10), .int .u8 (t.b 11), .int .u8 (t.b 12), .int .u8 (t.b 13), .int .u8 (t.b 14), .int .u8 (t.b 15), .float .f64 t.w] 72))
    (hs : ∀ i, 0 ≤ s.b i ∧ s.b i < 256) (ht : ∀ i, 0 ≤ t.b i ∧ t.b i < 256) :
    Calls Tryd.prog 114 #[.func (.func 115) #[] #[.pointer (some ⟨g1, 0, none⟩), .pointer (some ⟨g2, 0, none⟩)]] w fun e w' => e = .returned (.int .i64 (ordA s t)) ∧ Below w.heap.size w w' := by
  have b1 := order2C true s t g1 g2 w h1 h2 hs ht
  have b2 : ∀ w1, Below w.heap.size w w1 → _ := fun w1 hb => order2C false s t g1 g2 w1 (row_below h1 hb) (row_below h2 hb) hs ht
  rw [if_pos rfl] at b1
  rw [if_neg (by simp)] at b2
  unfold ordA
  clear h1 h2
  by_cases d1 : adrC s.v6 s.b t.v6 t.b < 0
  · rw [if_pos d1]
    rw [decide_eq_true d1] at b1
    clear d1 b2
    as_aux_lemma =>
      go_enter Tryd.func114, Tryd.ntmps114
      go_wp2_with fail
      refine b1.mono ?_
      rintro e w1 ⟨rfl, hb1⟩
      have HB := Lib.hid hb1
      clear hb1 b1
      go_wp2_with fail
      go_ret
      exact ⟨rfl, HB.out⟩
  · rw [if_neg d1]
    rw [decide_eq_false d1] at b1
    by_cases d2 : adrC t.v6 t.b s.v6 s.b < 0
    · rw [if_pos d2]
      rw [decide_eq_true d2] at b2
      clear d1 d2
      as_aux_lemma =>
        go_enter Tryd.func114, Tryd.ntmps114
        go_wp2_with fail
        refine b1.mono ?_
        rintro e w1 ⟨rfl, hb1⟩
        have b3 := b2 w1 hb1
        have HB := Lib.hid hb1
        clear hb1 b1 b2
        go_wp2_with fail
        refine b3.mono ?_
        rintro e w2 ⟨rfl, hb2⟩
        have HB2 := Lib.hid (below_trans' HB.out hb2)
        clear hb2 b3
        go_wp2_with fail
        go_ret
        exact ⟨rfl, HB2.out⟩
    · rw [if_neg d2]
      rw [decide_eq_false d2] at b2
      clear d1 d2
      as_aux_lemma =>
        go_enter Tryd.func114, Tryd.ntmps114
        go_wp2_with fail
        refine b1.mono ?_
        rintro e w1 ⟨rfl, hb1⟩
        have b3 := b2 w1 hb1
        have HB := Lib.hid hb1
        clear hb1 b1 b2
        go_wp2_with fail
        refine b3.mono ?_
        rintro e w2 ⟨rfl, hb2⟩
        have HB2 := Lib.hid (below_trans' HB.out hb2)
        clear hb2 b3
        go_wp2_with fail
        go_ret
        exact ⟨rfl, HB2.out⟩
def ordS (s t : Spc) : Int := if eqSpc s t = true then 0 else orL [cmpI s.st t.st, cmpI s.by_ t.by_, ordA s t, cmpF s.w t.w]
set_option maxRecDepth 100000 in
set_option maxHeartbeats 1000000 in
theorem sorderC (s t : Spc) (w : World) (hs : ∀ i, 0 ≤ s.b i ∧ s.b i < 256) (ht : ∀ i, 0 ≤ t.b i ∧ t.b i < 256) (hsw : neF s.w s.w = false) (htw : neF t.w t.w = false) :
    Calls Tryd.prog 94 #[spcV s, spcV t] w fun e w' => e = .returned (.int .i64 (ordS s t)) ∧ Below w.heap.size w w' := by
  have he : ∀ w, (Op.equalIn 10000 72 (.agg #[.int .i64 s.st, .int .i64 s.by_, .bool s.v6, .int .u8 (s.b 0), .int .u8 (s.b 1), .int .u8 (s.b 2), .int .u8 (s.b 3), .int .u8 (s.b 4), .int .u8 (s.b 5), .int .u8 (s.b 6), .int .u8 (s.b 7), .int .u8 (s.b 8), .int .u8 (s.b 9), .int .u8 (s.b 10), .int .u8 (s.b 11), .int .u8 (s.b 12), .int .u8 (s.b 13), .int .u8 (s.b 14), .int .u8 (s.b 15), .float .f64 s.w]) (.agg #[.int .i64 t.st, .int .i64 t.by_, .bool t.v6, .int .u8 (t.b 0), .int .u8 (t.b 1), .int .u8 (t.b 2), .int .u8 (t.b 3), .int .u8 (t.b 4), .int .u8 (t.b 5), .int .u8 (t.b 6), .int .u8 (t.b 7), .int .u8 (t.b 8), .int .u8 (t.b 9), .int .u8 (t.b 10), .int .u8 (t.b 11), .int .u8 (t.b 12), .int .u8 (t.b 13), .int .u8 (t.b 14), .int .u8 (t.b 15), .float .f64 t.w])).run Tryd.prog w = .ok (eqSpc s t) w := fun w => eq72 9996 s t w
  have r1 : ((w.alloc (.cells #[.int .i64 s.st, .int .i64 s.by_, .bool s.v6, .int .u8 (s.b 0), .int .u8 (s.b 1), .int .u8 (s.b 2), .int .u8 (s.b 3), .int .u8 (s.b 4), .int .u8 (s.b 5), .int .u8 (s.b 6), .int .u8 (s.b 7), .int .u8 (s.b 8), .int .u8 (s.b 9), .int .u8 (s.b 10), .int .u8 (s.b 11), .int .u8 (s.b 12), .int .u8 (s.b 13), .int .u8 (s.b 14), .int .u8 (s.b 15), .float .f64 s.w] 72)).alloc (.cells #[.int .i64 t.st, .int .i64 t.by_, .bool t.v6, .int .u8 (t.b 0), .int .u8 (t.b 1), .int .u8 (t.b 2), .int .u8 (t.b 3), .int .u8 (t.b 4), .int .u8 (t.b 5), .int .u8 (t.b 6), .int .u8 (t.b 7), .int .u8 (t.b 8), .int .u8 (t.b 9), .int .u8 (t.b 10), .int .u8 (t.b 11), .int .u8 (t.b 12), .int .u8 (t.b 13), .int .u8 (t.b 14), .int .u8 (t.b 15), .float .f64 t.w] 72)).heap[w.heap.size]? = some (.cells #[.int .i64 s.st, .int .i64 s.by_, .bool s.v6, .int .u8 (s.b 0), .int .u8 (s.b 1), .int .u8 (s.b 2), .int .u8 (s.b 3), .int .u8 (s.b 4), .int .u8 (s.b 5), .int .u8 (s.b 6), .int .u8 (s.b 7), .int .u8 (s.b 8), .int .u8 (s.b 9), .int .u8 (s.b 10), .int .u8 (s.b 11), .int .u8 (s.b 12), .int .u8 (s.b 13), .int .u8 (s.b 14), .int .u8 (s.b 15), .float .f64 s.w] 72) := by
    rw [heap_alloc_old _ _ (by simp), heap_alloc_new]
  have r2 : ((w.alloc (.cells #[.int .i64 s.st, .int .i64 s.by_, .bool s.v6, .int .u8 (s.b 0), .int .u8 (s.b 1), .int .u8 (s.b 2), .int .u8 (s.b 3), .int .u8 (s.b 4), .int .u8 (s.b 5), .int .u8 (s.b 6), .int .u8 (s.b 7), .int .u8 (s.b 8), .int .u8 (s.b 9), .int .u8 (s.b 10), .int .u8 (s.b 11), .int .u8 (s.b 12), .int .u8 (s.b 13), .int .u8 (s.b 14), .int .u8 (s.b 15), .float .f64 s.w] 72)).alloc (.cells #[.int .i64 t.st, .int .i64 t.by_, .bool t.v6, .int .u8 (t.b 0), .int .u8 (t.b 1), .int .u8 (t.b 2), .int .u8 (t.b 3), .int .u8 (t.b 4), .int .u8 (t.b 5), .int .u8 (t.b 6), .int .u8 (t.b 7), .int .u8 (t.b 8), .int .u8 (t.b 9), .int .u8 (t.b 10), .int .u8 (t.b 11), .int .u8 (t.b 12), .int .u8 (t.b 13), .int .u8 (t.b 14), .int .u8 (t.b 15), .float .f64 t.w] 72)).heap[w.heap.size + 1]? = some (.cells #[.int .i64 t.st, .int .i64 t.by_, .bool t.v6, .int .u8 (t.b 0), .int .u8 (t.b 1), .int .u8 (t.b 2), .int .u8 (t.b 3), .int .u8 (t.b 4), .int .u8 (t.b 5), .int .u8 (t.b 6), .int .u8 (t.b 7), .int .u8 (t.b 8), .int .u8 (t.b 9), .int .u8 (t.b 10), .int .u8 (t.b 11), .int .u8 (t.b 12), .int .u8 (t.b 13), .int .u8 (t.b 14), .int .u8 (t.b 15), .float .f64 t.w] 72) := heap_new2 _ _ _
  have hB0 : Below w.heap.size w ((w.alloc (.cells #[.int .i64 s.st, .int .i64 s.by_, .bool s.v6, .int .u8 (s.b 0), .int .u8 (s.b 1), .int .u8 (s.b 2), .int .u8 (s.b 3), .int .u8 (s.b 4), .int .u8 (s.b 5), .int .u8 (s.b 6), .int .u8 (s.b 7), .int .u8 (s.b 8), .int .u8 (s.b 9), .int .u8 (s.b 10), .int .u8 (s.b 11), .int .u8 (s.b 12), .int .u8 (s.b 13), .int .u8 (s.b 14), .int .u8 (s.b 15), .float .f64 s.w] 72)).alloc (.cells #[.int .i64 t.st, .int .i64 t.by_, .bool t.v6, .int .u8 (t.b 0), .int .u8 (t.b 1), .int .u8 (t.b 2), .int .u8 (t.b 3), .int .u8 (t.b 4), .int .u8 (t.b 5), .int .u8 (t.b 6), .int .u8 (t.b 7), .int .u8 (t.b 8), .int .u8 (t.b 9), .int .u8 (t.b 10), .int .u8 (t.b 11), .int .u8 (t.b 12), .int .u8 (t.b 13), .int .u8 (t.b 14), .int .u8 (t.b 15), .float .f64 t.w] 72)) := ((Below.refl _ _).alloc (Nat.le_refl _) _).alloc (by simp) _
  have hz : ((w.alloc (.cells #[.int .i64 s.st, .int .i64 s.by_, .bool s.v6, .int .u8 (s.b 0), .int .u8 (s.b 1), .int .u8 (s.b 2), .int .u8 (s.b 3), .int .u8 (s.b 4), .int .u8 (s.b 5), .int .u8 (s.b 6), .int .u8 (s.b 7), .int .u8 (s.b 8), .int .u8 (s.b 9), .int .u8 (s.b 10), .int .u8 (s.b 11), .int .u8 (s.b 12), .int .u8 (s.b 13), .int .u8 (s.b 14), .int .u8 (s.b 15), .float .f64 s.w] 72)).alloc (.cells #[.int .i64 t.st, .int .i64 t.by_, .bool t.v6, .int .u8 (t.b 0), .int .u8 (t.b 1), .int .u8 (t.b 2), .int .u8 (t.b 3), .int .u8 (t.b 4), .int .u8 (t.b 5), .int .u8 (t.b 6), .int .u8 (t.b 7), .int .u8 (t.b 8), .int .u8 (t.b 9), .int .u8 (t.b 10), .int .u8 (t.b 11), .int .u8 (t.b 12), .int .u8 (t.b 13), .int .u8 (t.b 14), .int .u8 (t.b 15), .float .f64 t.w] 72)).heap.size = w.heap.size + 2 := by simp
  have o1 := order1C s t w.heap.size (w.heap.size + 1) _ r1 r2 hs ht
  unfold spcV
  cases hq : eqSpc s t
  · rw [hq] at he
    have hS : ordS s t = orL [cmpI s.st t.st, cmpI s.by_ t.by_, ordA s t, cmpF s.w t.w] := by unfold ordS; rw [if_neg (by rw [hq]; simp)]
    rw [hS]
    clear hS hq
    have f1 := fun W => cmp118 s.st t.st W
    have f2 := fun W => cmp119 s.by_ t.by_ W
    have f3 := fun W => cmp120 s.w t.w W hsw htw
    clear hsw htw hs ht
    generalize ordA s t = x3 at *
    generalize cmpI s.st t.st = x1 at *
    generalize cmpI s.by_ t.by_ = x2 at *
    generalize cmpF s.w t.w = x4 at *
    as_aux_lemma =>
      go_enter Tryd.func94, Tryd.ntmps94
      go_wp2_with (first | (refine wpList_load_row (by rfl) 72 (.tmp 2) (by rfl) w.heap.size (by rfl) 72 _ _ _ r1 Tryd.underlying72 rfl size72 ?_; (simp only [Act.put, List.setIfInBounds_toArray, List.set_cons_zero, List.set_cons_succ])) | (refine wpList_load_row (by rfl) 72 (.tmp 3) (by rfl) (w.heap.size + 1) (by rfl) 72 _ _ _ r2 Tryd.underlying72 rfl size72 ?_; (simp only [Act.put, List.setIfInBounds_toArray, List.set_cons_zero, List.set_cons_succ])) )
      refine o1.mono ?_
      rintro e w1 ⟨rfl, hb1⟩
      have q1 := row_below r1 hb1
      have q2 := row_below r2 hb1
      have hB : Below w.heap.size w (World.drew w1) := (hB0.trans (hb1.mono (by simp; omega))).drew
      have k1 : (World.drew w1).cell? ⟨w.heap.size, 0, none⟩ = some (.int .i64 s.st) := cell_of_row w1 _ 0 _ _ _ q1
      have k2 : (World.drew w1).cell? ⟨w.heap.size, 1, none⟩ = some (.int .i64 s.by_) := cell_of_row w1 _ 1 _ _ _ q1
      have k3 : (World.drew w1).cell? ⟨w.heap.size, 19, none⟩ = some (.float .f64 s.w) := cell_of_row w1 _ 19 _ _ _ q1
      have k4 : (World.drew w1).cell? ⟨w.heap.size + 1, 0, none⟩ = some (.int .i64 t.st) := cell_of_row w1 _ 0 _ _ _ q2
      have k5 : (World.drew w1).cell? ⟨w.heap.size + 1, 1, none⟩ = some (.int .i64 t.by_) := cell_of_row w1 _ 1 _ _ _ q2
      have k6 : (World.drew w1).cell? ⟨w.heap.size + 1, 19, none⟩ = some (.float .f64 t.w) := cell_of_row w1 _ 19 _ _ _ q2
      have HB := Lib.hid hB
      clear hb1 q1 q2 hB r1 r2 hB0 hz o1 he
      go_upto_region 5 with fail
      refine wp_region_still_tail 16 (by kernel_rfl) (by kernel_rfl) ?_
      simp only [List.take_succ_cons, List.take_zero, List.drop_succ_cons, List.drop_zero]
      change wpStill Tryd.prog _ (World.drew w1) (fun a' => wpList Tryd.prog _ _ _ a' (World.drew w1)) _ _
      generalize World.drew w1 = w2 at *
      refine still_quiet _ _ ?_
      repeat (go_big_quiet_step (first | exact quiet_is (f1 _) _ | exact quiet_is (f2 _) _ | exact quiet_is (f3 _) _))
      refine wpQuiet_nil ?_
      have oo : Calls Tryd.prog 117 #[.slice (some ⟨w2.heap.size, 0, none⟩) 4 4] (w2.alloc (.cells #[.int .i64 x1, .int .i64 x2, .int .i64 x3, .int .i64 x4] 3)) fun e w' => e = .returned (.int .i64 (orL [x1, x2, x3, x4])) ∧ w2.alloc (.cells #[.int .i64 x1, .int .i64 x2, .int .i64 x3, .int .i64 x4] 3) = w' :=
        orC [x1, x2, x3, x4] w2.heap.size 0 4 _ (by simp) (fun i hi => by
          rw [cell_of_row _ _ _ _ _ _ (heap_alloc_new w2 _)]
          match i, hi with
          | 0, _ => rfl
          | 1, _ => rfl
          | 2, _ => rfl
          | 3, _ => rfl
          | i + 4, h => exact absurd h (by simp))
      go_wp2_with fail
      refine oo.mono ?_
      rintro e w3 ⟨rfl, rfl⟩
      clear oo
      go_wp2_with fail
      go_ret
      exact ⟨rfl, HB.out.alloc HB.out.size _⟩
  · rw [hq] at he
    have hS : ordS s t = 0 := by unfold ordS; rw [if_pos hq]
    rw [hS]
    clear hS hq o1 hs ht hsw htw
    as_aux_lemma =>
      go_enter Tryd.func94, Tryd.ntmps94
      go_wp2_with (first | (refine wpList_load_row (by rfl) 72 (.tmp 2) (by rfl) w.heap.size (by rfl) 72 _ _ _ r1 Tryd.underlying72 rfl size72 ?_; (simp only [Act.put, List.setIfInBounds_toArray, List.set_cons_zero, List.set_cons_succ])) | (refine wpList_load_row (by rfl) 72 (.tmp 3) (by rfl) (w.heap.size + 1) (by rfl) 72 _ _ _ r2 Tryd.underlying72 rfl size72 ?_; (simp only [Act.put, List.setIfInBounds_toArray, List.set_cons_zero, List.set_cons_succ])) )
      go_ret
      exact ⟨rfl, hB0⟩
end Go.Proofs.YtniejpfjbifjkaaDoor
