/- maglev.Build, all ways. -/
import Derived.Test.YtniejpfjbifjkaaDoorMq
namespace Go.Proofs.YtniejpfjbifjkaaDoor
open Go.RowKit Fl
attribute [local go_sem ↓] Go.wp_at_zero Go.wp_at_succ

set_option maxRecDepth 100000 in
set_option maxHeartbeats 4000000 in
theorem buildC (l : List (Int × Nat)) (a : Option Addr) (ca : Nat) (slots : Int) (w : World) (hx : Ens w a l) (hs : -9223372036854775808 ≤ slots ∧ slots ≤ 9223372036854775807) (hl : Laid w) (hpos : 0 < w.heap.size) :
    Calls Tryd.prog 49 #[.slice a l.length ca, .int .i64 slots] w fun e w' => ∃ v, e = .returned (.tuple #[v, .int .i64 (bErr l slots)]) ∧
      w'.ownsRow w.heap.size 3 1 v (bTab l slots).length (ints' (bTab l slots)) ∧ Below w.heap.size w w' := by
  by_cases h1 : slotsOk slots = true
  case neg =>
    have h1' : slotsOk slots = false := by simpa using h1
    have hB : ¬ bOk l slots = true := fun h => h1 (bOk_parts.1 h).1
    have HE : Hid (bErr l slots = 1) := Lib.hid (by unfold bErr; rw [if_neg hB])
    have HT : Hid (bTab l slots = []) := Lib.hid (by unfold bTab; rw [if_neg (fun h => hB h.1)])
    clear hB h1 hx hl
    go_enter Tryd.func49, Tryd.ntmps49
    go_wp2_with (go_at_call 82; refine (slottedC _ _ hs).mono ?_; rw [h1']; rintro e w' ⟨rfl, rfl⟩)
    go_ret2
    refine ⟨.slice none 0 0, by rw [HE.out]; rfl, ?_, Below.refl _ _⟩
    rw [HT.out]; exact World.ownsRow_nil _ _ _ _
  by_cases h2 : rightOk l = true
  case neg =>
    have h2' : rightOk l = false := by simpa using h2
    have hB : ¬ bOk l slots = true := fun h => h2 (bOk_parts.1 h).2
    have HE : Hid (bErr l slots = 1) := Lib.hid (by unfold bErr; rw [if_neg hB])
    have HT : Hid (bTab l slots = []) := Lib.hid (by unfold bTab; rw [if_neg (fun h => hB h.1)])
    have HX := Lib.hid hx
    clear hB h2 hx hl
    go_enter Tryd.func49, Tryd.ntmps49
    go_wp2_with (first | (go_at_call 82; refine (slottedC _ _ hs).mono ?_; rw [h1]; rintro e w' ⟨rfl, rfl⟩) | (go_at_call 87; refine (rightC l _ _ _ HX.out).mono ?_; rw [h2']; rintro e w0 ⟨rfl, hb0⟩))
    go_ret2
    refine ⟨.slice none 0 0, by rw [HE.out]; rfl, ?_, hb0⟩
    rw [HT.out]; exact World.ownsRow_nil _ _ _ _
  have hr := slotsOk_range h1
  obtain ⟨n, rfl⟩ : ∃ n : Nat, slots = (n : Int) := ⟨slots.toNat, by omega⟩
  have hB : bOk l n = true := bOk_parts.2 ⟨h1, h2⟩
  by_cases h3 : turns (wts l) n = []
  case neg =>
    have hE : bErr l n = 0 := by unfold bErr bTurns; rw [if_pos hB, if_neg h3]
    have hT : bTab l n = tableOf l n (turns (wts l) n) := by unfold bTab bTurns; rw [if_pos ⟨hB, h3⟩, Int.toNat_natCast]
    rw [hE, hT, tableOf_length]
    exact (build_some l a ca n w hx h1 h2 h3 hl hpos).mono fun e w' ⟨g, he, ho, hb⟩ => ⟨_, he, ho, hb⟩
  have HE : Hid (bErr l n = 20) := Lib.hid (by unfold bErr bTurns; rw [if_pos hB, if_pos h3])
  have HT : Hid (bTab l n = []) := Lib.hid (by unfold bTab bTurns; rw [if_neg (fun h => h.2 h3)])
  have hbnd := bnd_wts hx
  have hids := (of_decide_eq_true h2).2
  have hl32 := (of_decide_eq_true h2).1
  have hw := hx
  obtain ⟨hm, hwb, hc⟩ := hw
  obtain ⟨hr1, hr2⟩ := hr
  have HX := Lib.hid hx
  have HB := Lib.hid hbnd
  have HL := Lib.hid hl
  have H3 := Lib.hid h3
  clear hx hbnd hl h3 hB hs
  go_enter Tryd.func49, Tryd.ntmps49
  go_wp2_with (first | (go_at_call 82; refine (slottedC _ _ ⟨by omega, by omega⟩).mono ?_; rw [h1]; rintro e w' ⟨rfl, rfl⟩) | (go_at_call 87; refine (rightC l _ _ _ HX.out).mono ?_; rw [h2]; rintro e w0 ⟨rfl, hb0⟩))
  have I1 := L1.start l n w w0 hb0
  clear hb0
  go_loopw [6, 7, 26] (fun v6 v7 i wr => ∃ (a6 a7 : Option Addr) (c6 c7 k : Nat), k ≤ l.length ∧ i = .int .i64 k ∧ v6 = .slice a6 k c6 ∧ v7 = .slice a7 k c7 ∧ L1 l n w wr k v6 v7) (fun _ _ i _ => l.length - (intOf i).toNat)
  case atStart => exact ⟨none, none, 0, 0, 0, Nat.zero_le _, rfl, rfl, rfl, I1⟩
  case round =>
    clear I1
    obtain ⟨a6, a7, c6, c7, k, hk, rfl, rfl, rfl, hI⟩ := hrel
    by_cases hlt : k < l.length
    · obtain ⟨b1, o1, rfl, e1, e2⟩ := hc k hlt
      have e1' := (hI.below.cell (p := ⟨b1, o1 + k * 2, none⟩) (World.block_lt_of_cell? w _ e1)).trans e1
      have e2' := (hI.below.cell (p := ⟨b1, o1 + k * 2 + 1, none⟩) (World.block_lt_of_cell? w _ e2)).trans e2
      have hid := hids k hlt
      have hhid : 0 ≤ idAt l k ∧ idAt l k < 32 := ⟨hid.1, hid.2.1⟩
      obtain ⟨i22, hi22, hz22, hy22, hb22⟩ := info_parts info22
      obtain ⟨i104, hi104, hz104, hy104, hb104⟩ := info_parts info104
      have hMid := fun (w2 : World) (g6 c6' : Nat) (o1 o2 : Obj) => hI.mid (w2 := w2) (g6 := g6) (c6 := c6') hlt o1 o2
      have hDone := fun (w2 w3 w4 : World) (g6 c6' g7 c7' : Nat) (o : Obj) (h : L1m l n w wr.heap.size w2 k g6 c6' (.slice a7 k c7)) (hb3 : Below w2.heap.size w2 w3) => h.done (w4 := w4) (g7 := g7) (c7 := c7') (by omega) hlt hb3 o
      have hbg := fun w => beginC (idAt l k) n w hhid ⟨by omega, by omega⟩
      have hbs := hI.below.size
      have hold := fun g hg => (hI.ws.lt g hg).2
      have h6own := hI.ws
      have hold7 := fun g hg => (hI.wk.lt g hg).2
      have hidx : (l.getD k ent0).1 = idAt l k := rfl
      rw [hidx] at e1'
      have hn1 : k + 1 ≤ maxLen := by unfold maxLen; omega
      have hn8 : (k + 1) * 8 ≤ 140737488355328 := by omega
      have hn24 : (k + 1) * 24 ≤ 140737488355328 := by omega
      clear e1 e2 hidx hid hids hc hwb hhid
      have HI := Lib.hid hI
      have HM := Lib.hid hMid
      have HD := Lib.hid hDone
      have HG := Lib.hid hbg
      have HO := Lib.hid hold
      have HO7 := Lib.hid hold7
      have H6 := Lib.hid h6own
      clear hI hMid hDone hbg hold hold7 h6own
      generalize (l.getD k ent0).2 = y at *
      generalize idAt l k = x at *
      generalize stAt x n = sa at *
      generalize stStep x n = ss at *
      go_upto_region 8 with fail
      have s1 : (wr.alloc (Obj.cells #[Value.int IntKind.i64 x, Value.float FloatKind.f64 y] 51)).cell? ⟨wr.heap.size, 0, none⟩ = some (.int .i64 x) := World.news_of_block (cs := #[.int .i64 x, .float .f64 y]) (heap_alloc_new wr _) 0 _ rfl
      have s2 : (wr.alloc (Obj.cells #[Value.int IntKind.i64 x, Value.float FloatKind.f64 y] 51)).cell? ⟨wr.heap.size, 1, none⟩ = some (.float .f64 y) := World.news_of_block (cs := #[.int .i64 x, .float .f64 y]) (heap_alloc_new wr _) 1 _ rfl
      have hN1 : ∀ j u, ([.float .f64 y] : List Value)[j]? = some u → (((wr.alloc (Obj.cells #[Value.int IntKind.i64 x, Value.float FloatKind.f64 y] 51)).alloc (Obj.cells #[Value.float FloatKind.f64 y] 22)).drew).cell? ((⟨wr.heap.size + 1, 0, none⟩ : Addr).add j) = some u := by
        have := World.news_of_block (cs := #[.float .f64 y]) (heap_alloc_new (wr.alloc (Obj.cells #[Value.int IntKind.i64 x, Value.float FloatKind.f64 y] 51)) (Obj.cells #[Value.float FloatKind.f64 y] 22))
        rw [show (wr.alloc (Obj.cells #[Value.int IntKind.i64 x, Value.float FloatKind.f64 y] 51)).heap.size = wr.heap.size + 1 by simp] at this
        exact this
      have hN0 := (heap_alloc_old (wr.alloc (Obj.cells #[Value.int IntKind.i64 x, Value.float FloatKind.f64 y] 51)) (Obj.cells #[Value.float FloatKind.f64 y] 22) (r := wr.heap.size) (by simp)).trans (heap_alloc_new wr (Obj.cells #[Value.int IntKind.i64 x, Value.float FloatKind.f64 y] 51))
      have t1 : (((wr.alloc (Obj.cells #[Value.int IntKind.i64 x, Value.float FloatKind.f64 y] 51)).alloc (Obj.cells #[Value.float FloatKind.f64 y] 22)).drew).cell? ⟨wr.heap.size, 0, none⟩ = some (.int .i64 x) := World.news_of_block (cs := #[.int .i64 x, .float .f64 y]) hN0 0 _ rfl
      have t2 : (((wr.alloc (Obj.cells #[Value.int IntKind.i64 x, Value.float FloatKind.f64 y] 51)).alloc (Obj.cells #[Value.float FloatKind.f64 y] 22)).drew).cell? ⟨wr.heap.size, 1, none⟩ = some (.float .f64 y) := World.news_of_block (cs := #[.int .i64 x, .float .f64 y]) hN0 1 _ rfl
      have hne6 : some wr.heap.size ≠ (Value.slice a6 k c6).ownBlock := fun e => by have := HO.out _ e.symm; omega
      have hne7 : some wr.heap.size ≠ (Value.slice a7 k c7).ownBlock := fun e => by have := HO7.out _ e.symm; omega
      have HN1 := Lib.hid hN1
      clear hN0 hN1
      go_region_held3 (fun w' => w'.cell? ⟨wr.heap.size, 0, none⟩ = some (.int .i64 x) ∧ w'.cell? ⟨wr.heap.size, 1, none⟩ = some (.float .f64 y))
        (first | exact ⟨q4.1, q4.2⟩ | exact ⟨q3.1, q3.2⟩ | exact ⟨q2.1, q2.2⟩ | go_keep)
        (first
          | (refine step_append_lies _ (by rfl) (.tmp 30) (.tmp 33) 29 (by rfl) w.heap.size 22 i22 _ 1 8 Tryd.underlying29 hi22 hz22 hy22 hb22 rfl (by omega) (.slice a6 k c6) k _ (by rfl) (((H6.out.alloc _).alloc _).drew) ⟨wr.heap.size + 1, 0, none⟩ 1 1 [.float .f64 y] (by rfl) (by rfl) HN1.out (by simp [Value.oneCell']) (by omega) hn1 hn8 (by simp; omega) (wr.heap.size + 2) (by simp) ?_; intro g6 c6' w2 h62 hg2 hat2 hlt2; have hM := HM.out w2 g6 c6' _ _ h62 hg2 hat2 hlt2; have q2 : w2.cell? ⟨wr.heap.size, 0, none⟩ = some (.int .i64 x) ∧ w2.cell? ⟨wr.heap.size, 1, none⟩ = some (.float .f64 y) := ⟨(hg2.cell_far _ (by simp; omega) hne6).trans t1, (hg2.cell_far _ (by simp; omega) hne6).trans t2⟩)
          | (go_at_call 84; refine (HG.out _).mono ?_; rintro e w3 ⟨rfl, hb3⟩; have q3 := keep2 hb3 q2)
          | (refine step_append_lies _ (by rfl) (.tmp 35) (.tmp 40) 109 (by rfl) w.heap.size 104 i104 _ 3 24 Tryd.underlying109 hi104 hz104 hy104 hb104 rfl (by omega) (.slice a7 k c7) k _ (by rfl) ((owns_below hM.wk hb3 (fun g hg => (hM.wk.lt g hg).2)).alloc _) ⟨w3.heap.size, 0, none⟩ 1 1 [.int .i64 sa, .int .i64 ss, .int .i64 n] (by rfl) (by rfl) (World.news_of_block (cs := #[.int .i64 sa, .int .i64 ss, .int .i64 n]) (t := 104) (fr := (0, 0)) (heap_alloc_new w3 _)) (by simp [Value.oneCell']) (by omega) hn1 hn24 (by have := hb3.size; have := hM.below.size; simp; omega) (w3.heap.size + 1) (by simp) ?_; intro g7 c7' w4 h74 hg4 hat4 hlt4; have hD := HD.out w2 w3 w4 g6 c6' g7 c7' _ hM hb3 h74 hg4 hat4; have q4 := keep4 hg4 hne7 q3))
      clear s1 s2 t1 t2 q2 q3 q4 h62 hg2 hat2 hlt2 h74 hg4 hat4 hlt4 hM hne6 hne7 hb3 hi22 hz22 hy22 hb22 hi104 hz104 hy104 hb104 hbs HN1
      have HD' := Lib.hid hD
      clear hD
      go_wp2
      go_roundw
      case rel => exact ⟨_, _, _, _, k + 1, by omega, by go_num, rfl, rfl, HD'.out⟩
      case measure => simp [intOf]; omega
    · have hk' : k = l.length := by omega
      subst hk'
      have ho6 := hI.ws
      rw [List.take_length] at ho6
      obtain ⟨aw, cw6, he6, hfw⟩ := Fls.owned (wts_length l).symm HB.out ho6
      cases he6
      have hlw := HL.out.below hI.below hpos
      have hpw : 0 < wr.heap.size := by have := hI.below.size; omega
      have htc := turnsC (wts l) n a6 c6 wr hlw hfw hpw
      rw [wts_length] at htc
      have hbw := hI.below
      have hnil := run_is_nil
      clear hI ho6 hfw hlw hpos
      go_wp2_with fail
      refine htc.mono ?_
      rintro e w1 ⟨v, rfl, ho1, hb1, hv1, hv2⟩
      obtain rfl := hv1.2 H3.out
      have hb1' := below_trans' hbw hb1
      clear htc hv1 hv2 hpw ho1 hb1 hbw
      go_wp2_with fail
      go_ret2
      refine ⟨.slice none 0 0, by rw [HE.out]; rfl, ?_, hb1'⟩
      rw [HT.out]; exact World.ownsRow_nil _ _ _ _
end Go.Proofs.YtniejpfjbifjkaaDoor
