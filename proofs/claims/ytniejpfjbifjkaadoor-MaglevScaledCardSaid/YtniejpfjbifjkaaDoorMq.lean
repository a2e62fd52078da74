/- maglev.Build: the table, where there is one. -/
import Derived.Test.YtniejpfjbifjkaaDoorMr
import Derived.Deep.LoopGhost
namespace Go.Proofs.YtniejpfjbifjkaaDoor
open Go.RowKit Fl
attribute [local go_sem ↓] Go.wp_at_zero Go.wp_at_succ

set_option maxRecDepth 100000 in
set_option maxHeartbeats 4000000 in
theorem build_some (l : List (Int × Nat)) (a : Option Addr) (ca : Nat) (n : Nat) (w : World) (hx : Ens w a l) (h1 : slotsOk n = true) (h2 : rightOk l = true) (h3 : turns (wts l) n ≠ []) (hl : Laid w) (hpos : 0 < w.heap.size) :
    Calls Tryd.prog 49 #[.slice a l.length ca, .int .i64 n] w fun e w' => ∃ g, e = .returned (.tuple #[.slice (some ⟨g, 0, none⟩) n n, .int .i64 0]) ∧
      w'.ownsRow w.heap.size 3 1 (.slice (some ⟨g, 0, none⟩) n n) n (ints' (tableOf l n (turns (wts l) n))) ∧ Below w.heap.size w w' := by
  have hr := slotsOk_range h1
  have hp : Pr n := slotsOk_pr h1
  obtain ⟨hlen, hmem⟩ := turns_facts h3
  rw [Int.toNat_natCast] at hlen
  rw [wts_length] at hmem
  have hmk := fun (W : World) => run_mkN (w := W) n (by omega)
  have hbnd := bnd_wts hx
  have htab := tabOk_of hp h2 (turns (wts l) n) (by omega) hmem
  have hids := (of_decide_eq_true h2).2
  have hl32 := (of_decide_eq_true h2).1
  have hw := hx
  obtain ⟨hm, hwb, hc⟩ := hw
  obtain ⟨hr1, hr2⟩ := hr
  have HX := Lib.hid hx
  have HB := Lib.hid hbnd
  have HL := Lib.hid hl
  clear hx hbnd hl
  go_enter Tryd.func49, Tryd.ntmps49
  go_wp2_with (first | (go_at_call 82; refine (slottedC _ _ ⟨by omega, by omega⟩).mono ?_; rw [h1]; rintro e w' ⟨rfl, rfl⟩) | (go_at_call 87; refine (rightC l _ _ _ HX.out).mono ?_; rw [h2]; rintro e w0 ⟨rfl, hb0⟩))
  have I1 := L1.start l n w w0 hb0
  clear hb0
  go_loopw [6, 7, 26] (fun v6 v7 i wr => ∃ (a6 a7 : Option Addr) (c6 c7 k : Nat), k ≤ l.length ∧ i = .int .i64 k ∧ v6 = .slice a6 k c6 ∧ v7 = .slice a7 k c7 ∧ L1 l n w wr k v6 v7) (fun _ _ i _ => l.length - (intOf i).toNat)
  case atStart => exact ⟨none, none, 0, 0, 0, Nat.zero_le _, rfl, rfl, rfl, I1⟩
  case round =>
    clear I1
    obtain ⟨a6, a7, c6, c7, k, hk, rfl, rfl, rfl, hI⟩ := hrel
    by_cases hlt : k < l.length
    · obtain ⟨b1, o1, rfl, e1, e2⟩ := hc k hlt
      have e1' := (hI.below.cell (p := ⟨b1, o1 + k * 2, none⟩) (World.block_lt_of_cell? w _ e1)).trans e1
      have e2' := (hI.below.cell (p := ⟨b1, o1 + k * 2 + 1, none⟩) (World.block_lt_of_cell? w _ e2)).trans e2
      have hid := hids k hlt
      have hhid : 0 ≤ idAt l k ∧ idAt l k < 32 := ⟨hid.1, hid.2.1⟩
      obtain ⟨i22, hi22, hz22, hy22, hb22⟩ := info_parts info22
      obtain ⟨i104, hi104, hz104, hy104, hb104⟩ := info_parts info104
      have hMid := fun (w2 : World) (g6 c6' : Nat) (o1 o2 : Obj) => hI.mid (w2 := w2) (g6 := g6) (c6 := c6') hlt o1 o2
      have hDone := fun (w2 w3 w4 : World) (g6 c6' g7 c7' : Nat) (o : Obj) (h : L1m l n w wr.heap.size w2 k g6 c6' (.slice a7 k c7)) (hb3 : Below w2.heap.size w2 w3) => h.done (w4 := w4) (g7 := g7) (c7 := c7') (by omega) hlt hb3 o
      have hbg := fun w => beginC (idAt l k) n w hhid ⟨by omega, by omega⟩
      have hbs := hI.below.size
      have hold := fun g hg => (hI.ws.lt g hg).2
      have h6own := hI.ws
      have hold7 := fun g hg => (hI.wk.lt g hg).2
      have hidx : (l.getD k ent0).1 = idAt l k := rfl
      rw [hidx] at e1'
      have hn1 : k + 1 ≤ maxLen := by unfold maxLen; omega
      have hn8 : (k + 1) * 8 ≤ 140737488355328 := by omega
      have hn24 : (k + 1) * 24 ≤ 140737488355328 := by omega
      clear e1 e2 hidx hid hids hc htab hmem hwb hhid
      have HI := Lib.hid hI
      have HM := Lib.hid hMid
      have HD := Lib.hid hDone
      have HG := Lib.hid hbg
      have HO := Lib.hid hold
      have HO7 := Lib.hid hold7
      have H6 := Lib.hid h6own
      clear hI hMid hDone hbg hold hold7 h6own
      generalize (l.getD k ent0).2 = y at *
      generalize idAt l k = x at *
      generalize stAt x n = sa at *
      generalize stStep x n = ss at *
      go_upto_region 8 with fail
      have s1 : (wr.alloc (Obj.cells #[Value.int IntKind.i64 x, Value.float FloatKind.f64 y] 51)).cell? ⟨wr.heap.size, 0, none⟩ = some (.int .i64 x) := World.news_of_block (cs := #[.int .i64 x, .float .f64 y]) (heap_alloc_new wr _) 0 _ rfl
      have s2 : (wr.alloc (Obj.cells #[Value.int IntKind.i64 x, Value.float FloatKind.f64 y] 51)).cell? ⟨wr.heap.size, 1, none⟩ = some (.float .f64 y) := World.news_of_block (cs := #[.int .i64 x, .float .f64 y]) (heap_alloc_new wr _) 1 _ rfl
      have hN1 : ∀ j u, ([.float .f64 y] : List Value)[j]? = some u → (((wr.alloc (Obj.cells #[Value.int IntKind.i64 x, Value.float FloatKind.f64 y] 51)).alloc (Obj.cells #[Value.float FloatKind.f64 y] 22)).drew).cell? ((⟨wr.heap.size + 1, 0, none⟩ : Addr).add j) = some u := by
        have := World.news_of_block (cs := #[.float .f64 y]) (heap_alloc_new (wr.alloc (Obj.cells #[Value.int IntKind.i64 x, Value.float FloatKind.f64 y] 51)) (Obj.cells #[Value.float FloatKind.f64 y] 22))
        rw [show (wr.alloc (Obj.cells #[Value.int IntKind.i64 x, Value.float FloatKind.f64 y] 51)).heap.size = wr.heap.size + 1 by simp] at this
        exact this
      have hN0 := (heap_alloc_old (wr.alloc (Obj.cells #[Value.int IntKind.i64 x, Value.float FloatKind.f64 y] 51)) (Obj.cells #[Value.float FloatKind.f64 y] 22) (r := wr.heap.size) (by simp)).trans (heap_alloc_new wr (Obj.cells #[Value.int IntKind.i64 x, Value.float FloatKind.f64 y] 51))
      have t1 : (((wr.alloc (Obj.cells #[Value.int IntKind.i64 x, Value.float FloatKind.f64 y] 51)).alloc (Obj.cells #[Value.float FloatKind.f64 y] 22)).drew).cell? ⟨wr.heap.size, 0, none⟩ = some (.int .i64 x) := World.news_of_block (cs := #[.int .i64 x, .float .f64 y]) hN0 0 _ rfl
      have t2 : (((wr.alloc (Obj.cells #[Value.int IntKind.i64 x, Value.float FloatKind.f64 y] 51)).alloc (Obj.cells #[Value.float FloatKind.f64 y] 22)).drew).cell? ⟨wr.heap.size, 1, none⟩ = some (.float .f64 y) := World.news_of_block (cs := #[.int .i64 x, .float .f64 y]) hN0 1 _ rfl
      have hne6 : some wr.heap.size ≠ (Value.slice a6 k c6).ownBlock := fun e => by have := HO.out _ e.symm; omega
      have hne7 : some wr.heap.size ≠ (Value.slice a7 k c7).ownBlock := fun e => by have := HO7.out _ e.symm; omega
      have HN1 := Lib.hid hN1
      clear hN0 hN1
      go_region_held3 (fun w' => w'.cell? ⟨wr.heap.size, 0, none⟩ = some (.int .i64 x) ∧ w'.cell? ⟨wr.heap.size, 1, none⟩ = some (.float .f64 y))
        (first | exact ⟨q4.1, q4.2⟩ | exact ⟨q3.1, q3.2⟩ | exact ⟨q2.1, q2.2⟩ | go_keep)
        (first
          | (refine step_append_lies _ (by rfl) (.tmp 30) (.tmp 33) 29 (by rfl) w.heap.size 22 i22 _ 1 8 Tryd.underlying29 hi22 hz22 hy22 hb22 rfl (by omega) (.slice a6 k c6) k _ (by rfl) (((H6.out.alloc _).alloc _).drew) ⟨wr.heap.size + 1, 0, none⟩ 1 1 [.float .f64 y] (by rfl) (by rfl) HN1.out (by simp [Value.oneCell']) (by omega) hn1 hn8 (by simp; omega) (wr.heap.size + 2) (by simp) ?_; intro g6 c6' w2 h62 hg2 hat2 hlt2; have hM := HM.out w2 g6 c6' _ _ h62 hg2 hat2 hlt2; have q2 : w2.cell? ⟨wr.heap.size, 0, none⟩ = some (.int .i64 x) ∧ w2.cell? ⟨wr.heap.size, 1, none⟩ = some (.float .f64 y) := ⟨(hg2.cell_far _ (by simp; omega) hne6).trans t1, (hg2.cell_far _ (by simp; omega) hne6).trans t2⟩)
          | (go_at_call 84; refine (HG.out _).mono ?_; rintro e w3 ⟨rfl, hb3⟩; have q3 := keep2 hb3 q2)
          | (refine step_append_lies _ (by rfl) (.tmp 35) (.tmp 40) 109 (by rfl) w.heap.size 104 i104 _ 3 24 Tryd.underlying109 hi104 hz104 hy104 hb104 rfl (by omega) (.slice a7 k c7) k _ (by rfl) ((owns_below hM.wk hb3 (fun g hg => (hM.wk.lt g hg).2)).alloc _) ⟨w3.heap.size, 0, none⟩ 1 1 [.int .i64 sa, .int .i64 ss, .int .i64 n] (by rfl) (by rfl) (World.news_of_block (cs := #[.int .i64 sa, .int .i64 ss, .int .i64 n]) (t := 104) (fr := (0, 0)) (heap_alloc_new w3 _)) (by simp [Value.oneCell']) (by omega) hn1 hn24 (by have := hb3.size; have := hM.below.size; simp; omega) (w3.heap.size + 1) (by simp) ?_; intro g7 c7' w4 h74 hg4 hat4 hlt4; have hD := HD.out w2 w3 w4 g6 c6' g7 c7' _ hM hb3 h74 hg4 hat4; have q4 := keep4 hg4 hne7 q3))
      clear s1 s2 t1 t2 q2 q3 q4 h62 hg2 hat2 hlt2 h74 hg4 hat4 hlt4 hM hne6 hne7 hb3 hi22 hz22 hy22 hb22 hi104 hz104 hy104 hb104 hbs HN1
      have HD' := Lib.hid hD
      clear hD
      go_wp2
      go_roundw
      case rel => exact ⟨_, _, _, _, k + 1, by omega, by go_num, rfl, rfl, HD'.out⟩
      case measure => simp [intOf]; omega
    · have hk' : k = l.length := by omega
      subst hk'
      have ho6 := hI.ws
      rw [List.take_length] at ho6
      obtain ⟨aw, cw6, he6, hfw⟩ := Fls.owned (wts_length l).symm HB.out ho6
      cases he6
      have hlw := HL.out.below hI.below hpos
      have hpw : 0 < wr.heap.size := by have := hI.below.size; omega
      have htc := turnsC (wts l) n a6 c6 wr hlw hfw hpw
      rw [wts_length] at htc
      have hl0 : 0 < l.length := by
        have h0 := getD_mem' (turns (wts l) n) 0 (by omega)
        have := hmem _ h0
        omega
      obtain ⟨gw, cw, he7, _, hgw2⟩ := hI.wk.form hl0
      cases he7
      have hwk := hI.wk
      have hbw := hI.below
      have hnil := run_is_nil
      clear hI ho6 hfw hlw hpos hl0
      go_wp2_with fail
      refine htc.mono ?_
      rintro e w1 ⟨v, rfl, ho1, hb1, _, hv2⟩
      obtain ⟨gt, rfl⟩ := hv2 h3
      clear htc hv2 h3 hpw
      generalize hT : turns (wts l) n = ts at *
      have HT := Lib.hid hT
      clear hT
      have hgt1 := ho1.lt gt rfl
      have ho1' := owns_base ho1 hbw.size
      have hb1' := below_trans' hbw hb1
      have hwk1 := owns_below hwk hb1 (fun g hg => (hwk.lt g hg).2)
      clear ho1 hbw hb1 hwk
      have hbn : ((n : Int) == 0) = false := by rw [beq_eq_false_iff_ne]; omega
      go_wp2_with fail
      obtain ⟨gb, hgb⟩ : ∃ gb, gb = w1.heap.size := ⟨_, rfl⟩
      have n1 : gt ≠ gb := by omega
      have n2 : gt ≠ gw := by omega
      have n3 : gb ≠ gw := by omega
      have I2 : BM l n ts w gt gb gw c7 (w1.alloc (.cells (madeCells #[.int .i64 0] n) 3)) (clearing n 0) (List.replicate l.length 0) :=
        ⟨ho1'.alloc _, by rw [hgb]; exact owns_base (owns_madeN n (by omega)) hb1'.size, hwk1.alloc _, hb1'.alloc hb1'.size _, n1, n2, n3, by simp⟩
      rw [← hgb]
      clear hgb hgt1 hgw2 ho1' hb1' hmk hwk1 n1 n2 n3 hnil
      go_loopw [52] (fun i wr => ∃ k : Nat, k ≤ n ∧ i = .int .i64 k ∧ BM l n ts w gt gb gw c7 wr (clearing n k) (List.replicate l.length 0)) (fun i _ => n - (intOf i).toNat)
      case atStart => exact ⟨0, Nat.zero_le _, rfl, I2⟩
      case round =>
        clear I2
        obtain ⟨k, hk, rfl, hI⟩ := hrel
        by_cases hlt : k < n
        · have hcell := hI.tab.cellAt k (by omega)
          rw [ints'_getD _ k (by rw [clearing_length (by omega)]; exact hlt)] at hcell
          have hfz := hI.tab.frozenAt k
          have hst := hI.store k (-1)
          rw [clearing_set hlt] at hst
          have HS := Lib.hid hst
          clear hst hI
          go_wp2
          go_roundw
          case rel => exact ⟨k + 1, by omega, by go_num, HS.out⟩
          case measure => simp [intOf]; omega
        · have hk' : k = n := by omega
          have I3 : BM l n ts w gt gb gw c7 wr (tableOf l n (ts.take 0)) (List.replicate l.length 0) := by
            have : clearing n n = tableOf l n (ts.take 0) := by simp [clearing, tableOf]
            rw [← this, ← hk']; rw [hk'] at hI ⊢; exact hI
          have hS := seen_start l n (tableOf l n (ts.take 0))
          clear hI hk'
          have HS := Lib.hid hS
          clear hS
          go_wp2_with fail
          go_loopw [61] (fun i wr => ∃ (j : Nat) (c : List Nat), j ≤ n ∧ i = .int .i64 j ∧ BM l n ts w gt gb gw c7 wr (tableOf l n (ts.take j)) c ∧ Hid (Seen l n (tableOf l n (ts.take j)) c)) (fun i _ => n - (intOf i).toNat)
          case atStart => exact ⟨0, _, Nat.zero_le _, rfl, I3, HS⟩
          case round =>
            clear I3 HS
            obtain ⟨j, c, hj, rfl, hI, hS⟩ := hrel
            by_cases hjl : j < n
            · have hjt : j < ts.length := by omega
              have hi := hmem _ (getD_mem' ts j hjt)
              have hct := hI.turns.cellAt j (by omega)
              rw [ints_getD ts j hjt] at hct
              obtain ⟨b1, o1, rfl, hid, _⟩ := hc _ hi
              have hid' := (hI.below.cell (p := ⟨b1, o1 + ts.getD j 0 * 2, none⟩) (World.block_lt_of_cell? w _ hid)).trans hid
              have hidx : (l.getD (ts.getD j 0) ent0).1 = idAt l (ts.getD j 0) := rfl
              rw [hidx] at hid'
              have hT := htab j (by omega)
              have hff := ff_spec (hT.free_slot (l := l) (i := ts.getD j 0) hp hjl)
              have hle := hS.out.le hT hp hjl hi
              have hsn := hS.out.step hT hp hjl hi (fun q hq => (hids q hq).1)
              have htk : tableOf l n (ts.take (j + 1)) = bstep l n (tableOf l n (ts.take j)) (ts.getD j 0) := by
                rw [take_succ_getD ts j hjt, tableOf_snoc]
              unfold bstep at htk hsn
              rw [← htk] at hsn
              have hidsT := hT.ids
              have hlenT := hT.len
              have hstp := fun (c : List Nat) (wr : World) (h : BM l n ts w gt gb gw c7 wr (tableOf l n (ts.take j)) c) => h.stepC (i := ts.getD j 0) (q := c.getD (ts.getD j 0) 0) (by omega) (by omega) hi rfl
              have hbm := hI.below
              have hcl : c.length = l.length := hI.clen
              have HK := Lib.hid htk
              have HSN := Lib.hid hsn
              have HI := Lib.hid hI
              have HST := Lib.hid hstp
              have HC := Lib.hid hc
              have hsl : ∀ k, slotAt l n (ts.getD j 0) k < n := fun k => slotAt_lt (by omega)
              clear hid hidx hI hS htk hsn hT hstp hc hids hmem htab hjt hwb
              generalize hgi : ts.getD j 0 = i at *
              have HG := Lib.hid hgi
              clear hgi
              obtain ⟨f1, f2, f3⟩ := hff
              generalize hTB : tableOf l n (ts.take j) = tb at *
              generalize hFF : ff tb (slotAt l n i) n = fk at *
              clear hTB hFF
              generalize hq0 : c.getD i 0 = q0 at *
              have HQ := Lib.hid hq0
              clear hq0
              generalize slotAt l n i = sl at *
              have hci : i < c.length := by omega
              have hset : ∀ q, (c.set i q).getD i 0 = q := fun q => by rw [getD_set_nat c i i q hci, if_pos rfl]
              have hd0 := HST.out c wr HI.out
              rw [HQ.out] at hd0
              have HSET := Lib.hid hset
              clear hset hlen
              go_wp2_with fail
              refine hd0.mono ?_
              rintro e w4 ⟨rfl, hB4⟩
              clear hd0 hct hid'
              have HB4 := Lib.hid hB4
              clear hB4
              go_wp2_with fail
              go_loopg [15] (fk - q0) (fun g v wr' => ∃ q, q ≤ fk ∧ g = fk - q ∧ v = .int .i64 (sl q : Nat) ∧ BM l n ts w gt gb gw c7 wr' tb (c.set i (q + 1)))
              case atStart => exact ⟨q0, hle, rfl, rfl, HB4.out⟩
              case round =>
                clear HB4
                obtain ⟨q, hq3, rfl, rfl, hB⟩ := hrel
                have c3 := hsl q
                have c2 := hB.tab.cellAt (sl q) (by omega)
                rw [ints'_getD _ _ (by omega)] at c2
                have c5 := hB.tab.frozenAt (sl q)
                by_cases hqf : q < fk
                · have c6 := f3 q hqf
                  have d1 : (tb.getD (sl q) 0 != -1) = true := by simpa using c6
                  have hd := HST.out _ wr hB
                  rw [HSET.out, List.set_set] at hd
                  clear f3 c6 f2 c5 hB hsl hidsT hlenT
                  generalize tb.getD (sl q) 0 = y at *
                  as_aux_lemma =>
                    go_wp2_with fail
                    refine hd.mono ?_
                    rintro e w5 ⟨rfl, hB5⟩
                    have HB5 := Lib.hid hB5
                    clear hB5 hd c2
                    go_wp2_with fail
                    go_roundg (fk - (q + 1))
                    case measure => omega
                    case rel => exact ⟨q + 1, by omega, rfl, rfl, HB5.out⟩
                · have hqf' : q = fk := by omega
                  have d1 : (tb.getD (sl q) 0 != -1) = false := by rw [hqf', f2]; rfl
                  have hst := hB.store (sl q) (idAt l i)
                  obtain ⟨b2, o2, e2, hid, _⟩ := HC.out i hi
                  cases e2
                  have hid' := (hB.below.cell (p := ⟨b1, o1 + i * 2, none⟩) (World.block_lt_of_cell? w _ hid)).trans hid
                  have hidx : (l.getD i ent0).1 = idAt l i := rfl
                  rw [hidx] at hid'
                  rw [hqf'] at hst
                  rw [← HK.out] at hst
                  rw [← hqf'] at hst
                  have hsn := HSN.out
                  rw [← hqf'] at hsn
                  have HS1 := Lib.hid hst
                  have HS2 := Lib.hid hsn
                  clear f3 f2 hB hsl hidsT hlenT hid hidx hst hqf' hsn
                  generalize tb.getD (sl q) 0 = y at *
                  as_aux_lemma =>
                    go_wp2_with fail
                    go_roundw
                    case rel => exact ⟨j + 1, _, by omega, by go_num, HS1.out, HS2⟩
                    case measure => simp [intOf]; omega
            · have hj' : j = ts.length := by omega
              have HJ := Lib.hid hj'
              have HI := Lib.hid hI
              clear hI hj' hS
              go_wp2
              go_ret2
              have hI := HI.out.tab
              rw [HJ.out, List.take_length] at hI
              exact ⟨gb, rfl, by rw [HT.out]; exact hI, HI.out.below⟩
end Go.Proofs.YtniejpfjbifjkaaDoor
