/- LifeEach walked. -/
import Derived.Test.YtniejpfjbifjkaaDoorLzr
import Derived.Test.YtniejpfjbifjkaaDoorWs
namespace Go.Proofs.YtniejpfjbifjkaaDoor.lifeEach
open Go.RowKit Fl

theorem size4 : (Tryd.prog.info? 4).map (·.size) = some 1 := by kernel_rfl
theorem run_shl1 (w : World) (a : Act) (o : Oper) (x : Operand) (ho : o.op = .binOp .shl 3 (.const (.int .i64 1)) x 78) (s : Nat) (hs : s ≤ 15) (hx : a.eval x = .int .u64 (s : Int)) :
    (execOp a.eval o).run Tryd.prog w = .ok (.value (.int .i64 ((2 ^ s : Nat) : Int))) w := by
  have h16 : s = 0 ∨ s = 1 ∨ s = 2 ∨ s = 3 ∨ s = 4 ∨ s = 5 ∨ s = 6 ∨ s = 7 ∨ s = 8 ∨ s = 9 ∨ s = 10 ∨ s = 11 ∨ s = 12 ∨ s = 13 ∨ s = 14 ∨ s = 15 := by omega
  unfold execOp
  simp only [ho, hx]
  clear hs hx
  rcases h16 with rfl | rfl | rfl | rfl | rfl | rfl | rfl | rfl | rfl | rfl | rfl | rfl | rfl | rfl | rfl | rfl <;> rfl
set_option maxRecDepth 100000 in
set_option maxHeartbeats 16000000 in
theorem walk (bx : Option Addr) (x : Rc) (dx : Nat) (nodes : Int) (ia : Option Addr) (il : List Int) (ic : Nat) (w : World) (nx : RcN x) (hvx : Vts w bx x.votes) (hn : -9223372036854775808 ≤ nodes ∧ nodes ≤ 9223372036854775807) (hv : Ils w ia il) (_ : ia = none → ic = 0) (hr : ∀ y ∈ il, -9223372036854775808 ≤ y ∧ y ≤ 9223372036854775807) (_ : il.length * 8 ≤ 140737488351232) (hl : Laid w) (hpos : 0 < w.heap.size) :
    Calls Tryd.prog 18 #[recV x bx x.votes.length dx, .int .i64 nodes, .slice ia il.length ic] w fun e w' => e = .returned (.bool true) ∧ Below w.heap.size w w' := by
  have hS := Sv.start hl hpos
  have HR := Lib.hid hr
  clear hr
  have hcs : rcOk x = false ∨ (rcOk x = true ∧ ((x.gen == 0) = true ∨ (x.gen == 0) = false)) := by
    cases rcOk x <;> cases x.gen == 0 <;> simp
  simp only [recV_row]
  go_enter Tryd.func18, Tryd.ntmps18
  go_upto_region 1 with (first
      | (refine sv_box hS (by rfl) 71 (.tmp 0) (by rfl) _ (by rfl) (by decide) ?_; clear hS; intro g3 w1 hS; (simp only [Act.put, List.setIfInBounds_toArray, List.set_cons_zero, List.set_cons_succ])))
  go_wp2_with (first
      | (refine sv_load hS 0 (by rfl) 71 (.tmp 3) (by rfl) g3 (by rfl) _ 71 rfl _ Tryd.underlying71 rfl size71 ?_; (simp only [Act.put, List.setIfInBounds_toArray, List.set_cons_zero, List.set_cons_succ])))
  have hc := sv_given hS x bx dx hvx
  refine hc.mono ?_
  rintro e w1 ⟨ax, cx, rfl, hS1⟩
  clear hc hS
  have hS := hS1
  clear hS1
  go_upto_region 2 with (first
      | (refine sv_alloc hS (by rfl) 75 (by rfl) _ zero75 (by decide) ?_; clear hS; intro g7 w1 hS; (simp only [Act.put, List.setIfInBounds_toArray, List.set_cons_zero, List.set_cons_succ]))
      | (refine sv_store hS 0 (by rfl) 75 (.tmp 7) (.tmp 17) (by rfl) g7 (by rfl) (rcRow x ax x.votes.length cx) (by rfl) _ 75 rfl size75 rfl (one_rcRow _ _ _ _) ?_; clear hS; intro w1 hS; (simp only [List.set_cons_zero] at hS); (simp only [Act.put])))
  clear hvx
  rcases hcs with kx | ⟨kx, kg | kg⟩
  · go_wp2_with (first
        | (refine sv_load hS 0 (by rfl) 75 (.tmp 7) (by rfl) g7 (by rfl) _ 75 rfl _ Tryd.underlying75 rfl size75 ?_; (simp only [Act.put, List.setIfInBounds_toArray, List.set_cons_zero, List.set_cons_succ])))
    have hc := sv_right hS 0 x ax cx rfl nx
    rw [kx] at hc
    refine hc.mono ?_
    rintro e w1 ⟨rfl, hS1⟩
    clear hc hS
    have hS := hS1
    clear hS1
    have q1 := cell_gen (hS.st.row 0 rfl)
    go_wp2_with fail
    have hc := sv_known hS
    refine hc.mono ?_
    rintro e w1 ⟨rfl, hS1⟩
    clear hc hS
    have hS := hS1
    clear hS1
    go_wp2_with fail
    have HB := hS.st.below
    go_ret
    exact ⟨rfl, HB⟩
  · go_wp2_with (first
        | (refine sv_load hS 0 (by rfl) 75 (.tmp 7) (by rfl) g7 (by rfl) _ 75 rfl _ Tryd.underlying75 rfl size75 ?_; (simp only [Act.put, List.setIfInBounds_toArray, List.set_cons_zero, List.set_cons_succ])))
    have hc := sv_right hS 0 x ax cx rfl nx
    rw [kx] at hc
    refine hc.mono ?_
    rintro e w1 ⟨rfl, hS1⟩
    clear hc hS
    have hS := hS1
    clear hS1
    have q1 := cell_gen (hS.st.row 0 rfl)
    go_wp2_with fail
    have hc := sv_known hS
    refine hc.mono ?_
    rintro e w1 ⟨rfl, hS1⟩
    clear hc hS
    have hS := hS1
    clear hS1
    go_wp2_with fail
    have HB := hS.st.below
    go_ret
    exact ⟨rfl, HB⟩
  · go_wp2_with (first
        | (refine sv_load hS 0 (by rfl) 75 (.tmp 7) (by rfl) g7 (by rfl) _ 75 rfl _ Tryd.underlying75 rfl size75 ?_; (simp only [Act.put, List.setIfInBounds_toArray, List.set_cons_zero, List.set_cons_succ])))
    have hc := sv_right hS 0 x ax cx rfl nx
    rw [kx] at hc
    refine hc.mono ?_
    rintro e w1 ⟨rfl, hS1⟩
    clear hc hS
    have hS := hS1
    clear hS1
    have q1 := cell_gen (hS.st.row 0 rfl)
    go_upto_region 4 with fail
    have hg : x.gen ≠ 0 := by intro h; rw [h] at kg; exact absurd kg (by decide)
    have Gx := Gd_of nx kx
    obtain ⟨q, hq⟩ : ∃ q : Nat, nodes % 16 = q := ⟨(nodes % 16).toNat, by omega⟩
    have hq15 : q ≤ 15 := by omega
    have hcnt := fun W => countC nodes 16 W hn ⟨by decide, by decide⟩
    rw [hq] at hcnt
    have HX := Lib.hid kx
    have HG := Lib.hid hg
    have HGX := Lib.hid Gx
    clear hq q1 kx hg Gx kg nx
    go_upto_region 5 with (first
        | (go_at_call 31; refine (hcnt _).mono ?_; rintro e w' ⟨rfl, rfl⟩))
    go_upto_region 6 with (first
        | (refine sv_put hS 0 (by rfl) 3 (.tmp 30) (.const (.int .i64 0)) (by rfl) g7 23 (by rfl) (.int .i64 0) (by rfl) _ 75 rfl rfl rfl rfl size3 ?_; clear hS; intro w1 hS; (simp only [List.set_cons_zero, put_done0] at hS); (simp only [Act.put])))
    go_wp2_with (first
        | (refine sv_makeB hS (by rfl) (.tmp 31) (.tmp 31) (by rfl) (q + 1) (by show Value.int .i64 _ = _; rw [show ((q + 1 : Nat) : Int) = 1 + (q : Int) by omega]) (by show Value.int .i64 _ = _; rw [show ((q + 1 : Nat) : Int) = 1 + (q : Int) by omega]) (by omega) ?_; clear hS; intro gs w1 hS; (simp only [Act.put, List.setIfInBounds_toArray, List.set_cons_zero, List.set_cons_succ])))
    have hm1 := hv.1
    clear hcnt
    have HIL := Lib.hid hv
    clear hv
    go_loopw [10, 11] (fun t10 i wr => ∃ (k : Nat) (l : List Bool) (aX : Option Addr) (cX : Nat), k ≤ il.length ∧ i = .int .i64 k ∧ l.length = q + 1 ∧ t10 = .int .i64 (l.count false : Int) ∧ Sv w wr [(gs, boRow l, 4), (g7, rcRow (dn x (bnat l)) aX (dn x (bnat l)).votes.length cX, 75), (g3, rcRow x bx x.votes.length dx, 71)] [(aX, cX, (dn x (bnat l)).votes)]) (fun _ i _ => il.length - (intOf i).toNat)
    case atStart => exact ⟨0, List.replicate (q + 1) false, ax, cx, Nat.zero_le _, rfl, by simp, by rw [List.count_replicate_self]; simp [Int.add_comm], by rw [bnat_false]; exact hS⟩
    case round =>
      clear hS
      obtain ⟨k, l, aX, cX, hkl, rfl, hll, rfl, hS⟩ := hrel
      by_cases hlt : k < il.length
      · by_cases h60 : k < 60
        · obtain ⟨ib, io, rfl, hc0⟩ := HIL.out.2 k hlt
          have hc1 := (hS.st.below.cell (p := ⟨ib, io + k, none⟩) (World.block_lt_of_cell? w _ hc0)).trans hc0
          have hrange := HR.out (il.getD k 0) (by rw [List.getD_eq_getElem?_getD, List.getElem?_eq_getElem hlt]; exact List.getElem_mem hlt)
          obtain ⟨s, hs⟩ : ∃ s : Nat, il.getD k 0 % (1 + (q : Int)) = s := ⟨(il.getD k 0 % (1 + (q : Int))).toNat, by have := Int.emod_nonneg (il.getD k 0) (show 1 + (q : Int) ≠ 0 by omega); omega⟩
          have hs1 : s < q + 1 := by have := Int.emod_lt_of_pos (il.getD k 0) (show 0 < 1 + (q : Int) by omega); omega
          have hcn := fun W => countC (il.getD k 0) (1 + (q : Int)) W hrange ⟨by omega, by omega⟩
          rw [hs] at hcn
          have HS0 := Lib.hid hs
          clear hs hrange
          generalize il.getD k 0 = oi at *
          go_upto_region 12 with (first
              | (go_at_call 31; refine (hcn _).mono ?_; rintro e w' ⟨rfl, rfl⟩))
          clear hcn hc1
          have hjd := join_done HX.out HG.out (l := l) (by omega) (k := s) (by omega)
          have hov := over_all HX.out HG.out (l := l.set s true) (by simp; omega) (by simp; omega)
          have hbl := bnat_le (l := l) (by omega)
          have hbl2 := bnat_le (l := l.set s true) (by simp; omega)
          have h2k : 2 ^ s ≤ 65535 := by
            have : 2 ^ s ≤ 2 ^ 15 := Nat.pow_le_pow_right (by decide) (by omega)
            omega
          have hy16 : (0 : Int) ≤ ((2 ^ s : Nat) : Int) ∧ ((2 ^ s : Nat) : Int) ≤ 65535 := ⟨Int.natCast_nonneg _, Int.ofNat_le.2 h2k⟩
          have kl := dn_right HX.out HG.out (d := ((bnat l : Nat) : Int)) ⟨by omega, by omega⟩
          have kj := dn_right HX.out HG.out (d := ((bnat (l.set s true) : Nat) : Int)) ⟨by omega, by omega⟩
          have ky := wv_right (dn_right HX.out HG.out hy16) HG.out (l := []) (by simp) (by decide) (by decide)
          have NL := (dn_Gd HGX.out (d := ((bnat l : Nat) : Int)) ⟨by omega, by omega⟩).N
          have NJ := (dn_Gd HGX.out (d := ((bnat (l.set s true) : Nat) : Int)) ⟨by omega, by omega⟩).N
          have NY := (wv_Gd (dn_Gd HGX.out hy16) []).N
          have hcs := count_set (l := l) (k := s) (by omega)
          have hss := set_same (l := l) (k := s) (by omega)
          rw [List.length_set, hll, show ((q + 1 : Nat) : Int) = 1 + (q : Int) by omega] at hov
          have HJD := Lib.hid hjd
          have HOV := Lib.hid hov
          have KL := Lib.hid kl
          have KJ := Lib.hid kj
          have KY := Lib.hid ky
          have HCS := Lib.hid hcs
          have HSS := Lib.hid hss
          clear hjd hov hbl hbl2 h2k hy16 kl kj ky hcs hss
          go_upto_region 13 with (first
              | (refine sv_load hS 1 (by rfl) 75 (.tmp 7) (by rfl) g7 (by rfl) _ 75 rfl _ Tryd.underlying75 rfl size75 ?_; (simp only [Act.put, List.setIfInBounds_toArray, List.set_cons_zero, List.set_cons_succ]))
              | (refine sv_alloc hS (by rfl) 75 (by rfl) _ zero75 (by decide) ?_; clear hS; intro g13 w1 hS; (simp only [Act.put, List.setIfInBounds_toArray, List.set_cons_zero, List.set_cons_succ]))
              | (refine sv_store hS 0 (by rfl) 75 (.tmp 13) (.tmp 50) (by rfl) g13 (by rfl) (rcRow (dn x (bnat l)) aX (dn x (bnat l)).votes.length cX) (by rfl) _ 75 rfl size75 rfl (one_rcRow _ _ _ _) ?_; clear hS; intro w1 hS; (simp only [List.set_cons_zero] at hS); (simp only [Act.put])))
          go_upto_region 14 with (first
              | (refine sv_put hS 0 (by rfl) 73 (.tmp 51) (.const (.slice none 0 0)) (by rfl) g13 22 (by rfl) (.slice none 0 0) (by rfl) _ 75 rfl rfl rfl rfl size73 ?_; clear hS; intro w1 hS; (simp only [List.set_cons_zero, put_votes] at hS); (simp only [Act.put])))
          go_upto_region 15 with (first
              | (refine wpList_val (by rfl) (run_shl1 _ _ _ (.tmp 53) (by rfl) s (by omega) (by rfl)) ?_; (simp only [Act.put, List.setIfInBounds_toArray, List.set_cons_zero, List.set_cons_succ]))
              | (refine sv_put hS 0 (by rfl) 3 (.tmp 55) (.tmp 54) (by rfl) g13 23 (by rfl) (.int .i64 ((2 ^ s : Nat) : Int)) (by rfl) _ 75 rfl rfl rfl rfl size3 ?_; clear hS; intro w1 hS; (simp only [List.set_cons_zero, put_doneY] at hS); (simp only [Act.put])))
          have hS1 := hS.nil
          clear hS
          have hS := hS1
          clear hS1
          go_wp2_with (first
              | (refine sv_load hS 2 (by rfl) 75 (.tmp 7) (by rfl) g7 (by rfl) _ 75 rfl _ Tryd.underlying75 rfl size75 ?_; (simp only [Act.put, List.setIfInBounds_toArray, List.set_cons_zero, List.set_cons_succ]))
              | (refine sv_load hS 0 (by rfl) 75 (.tmp 13) (by rfl) g13 (by rfl) _ 75 rfl _ Tryd.underlying75 rfl size75 ?_; (simp only [Act.put, List.setIfInBounds_toArray, List.set_cons_zero, List.set_cons_succ])))
          have hc := sv_join hS 1 0 (dn x (bnat l)) (wv (dn x ((2 ^ s : Nat) : Int)) []) aX none cX 0 rfl rfl NL NY KL.out KY.out
          rw [HJD.out] at hc
          refine hc.mono ?_
          rintro e w1 ⟨aj, cj, rfl, hS1⟩
          clear hc hS
          have hS := hS1
          clear hS1
          go_upto_region 18 with (first
              | (refine sv_alloc hS (by rfl) 75 (by rfl) _ zero75 (by decide) ?_; clear hS; intro g14 w1 hS; (simp only [Act.put, List.setIfInBounds_toArray, List.set_cons_zero, List.set_cons_succ]))
              | (refine sv_store hS 0 (by rfl) 75 (.tmp 14) (.tmp 60) (by rfl) g14 (by rfl) (rcRow (dn x (bnat (l.set s true))) aj (dn x (bnat (l.set s true))).votes.length cj) (by rfl) _ 75 rfl size75 rfl (one_rcRow _ _ _ _) ?_; clear hS; intro w1 hS; (simp only [List.set_cons_zero] at hS); (simp only [Act.put])))
          have hcb := cell_bo (hS.st.row 2 rfl) s (by omega)
          have HBL : Hid (Nat.blt s (boRow l).size = true) := Lib.hid (by rw [boRow_size]; exact Nat.ble_eq_true_of_le (by omega))
          cases hb : l.getD s false
          · rw [hb] at hcb
            have hcc := HCS.out hb
            have hcp : (l.count false : Int) - 1 = ((l.set s true).count false : Int) := by omega
            have hcpos : 1 ≤ l.count false := by omega
            have hc16 : (l.set s true).count false ≤ 16 := by have := List.count_le_length (a := false) (l := l.set s true); simp at this; omega
            have HCC := Lib.hid hcc
            clear hb hcc
            go_upto_region 21 with (first
                | (refine sv_put hS 2 (by rfl) 4 (.tmp 71) (.const (.bool true)) (by rfl) gs s (by rfl) (.bool true) (by rfl) _ 4 rfl HBL.out rfl rfl size4 ?_; clear hS; intro w1 hS; (simp only [List.set_cons_zero, List.set_cons_succ, boRow_set] at hS); (simp only [Act.put])))
            go_upto_region 22 with (first
                | (refine sv_load hS 0 (by rfl) 75 (.tmp 14) (by rfl) g14 (by rfl) _ 75 rfl _ Tryd.underlying75 rfl size75 ?_; (simp only [Act.put, List.setIfInBounds_toArray, List.set_cons_zero, List.set_cons_succ]))
                | (refine sv_store hS 3 (by rfl) 75 (.tmp 7) (.tmp 74) (by rfl) g7 (by rfl) (rcRow (dn x (bnat (l.set s true))) aj (dn x (bnat (l.set s true))).votes.length cj) (by rfl) _ 75 rfl size75 rfl (one_rcRow _ _ _ _) ?_; clear hS; intro w1 hS; (simp only [List.set_cons_zero, List.set_cons_succ] at hS); (simp only [Act.put])))
            go_wp2_with (first
                | (refine sv_load hS 3 (by rfl) 75 (.tmp 7) (by rfl) g7 (by rfl) _ 75 rfl _ Tryd.underlying75 rfl size75 ?_; (simp only [Act.put, List.setIfInBounds_toArray, List.set_cons_zero, List.set_cons_succ])))
            have hc := sv_over hS 0 (dn x (bnat (l.set s true))) aj cj (1 + (q : Int)) rfl NJ
            rw [HOV.out] at hc
            refine hc.mono ?_
            rintro e w1 ⟨rfl, hS1⟩
            clear hc hS
            have hS := hS1
            clear hS1
            have hS1 := hS.keep [(gs, boRow (l.set s true), 4), (g7, rcRow (dn x (bnat (l.set s true))) aj (dn x (bnat (l.set s true))).votes.length cj, 75), (g3, rcRow x bx x.votes.length dx, 71)] [(aj, cj, (dn x (bnat (l.set s true))).votes)] (.cons _ (.cons _ (.refl _))) (fun t ht => by rw [List.mem_singleton.1 ht]; exact List.mem_cons_self)
            have HS := Lib.hid hS1
            clear hS hS1
            clear hcb
            obtain ⟨d, hd⟩ : ∃ d, (((l.set s true).count false : Int) == 0) = d := ⟨_, rfl⟩
            go_wp2_with fail
            go_roundw
            case rel => exact ⟨k + 1, l.set s true, aj, cj, by omega, by go_num, by simp [hll], rfl, HS.out⟩
            case measure => simp [intOf]; omega
          · rw [hb] at hcb
            have hse := HSS.out hb
            have HSE := Lib.hid hse
            clear hb hse
            rw [HSE.out] at HOV NJ
            rw [HSE.out] at hS
            go_upto_region 21 with fail
            go_upto_region 22 with (first
                | (refine sv_load hS 0 (by rfl) 75 (.tmp 14) (by rfl) g14 (by rfl) _ 75 rfl _ Tryd.underlying75 rfl size75 ?_; (simp only [Act.put, List.setIfInBounds_toArray, List.set_cons_zero, List.set_cons_succ]))
                | (refine sv_store hS 3 (by rfl) 75 (.tmp 7) (.tmp 74) (by rfl) g7 (by rfl) (rcRow (dn x (bnat l)) aj (dn x (bnat l)).votes.length cj) (by rfl) _ 75 rfl size75 rfl (one_rcRow _ _ _ _) ?_; clear hS; intro w1 hS; (simp only [List.set_cons_zero, List.set_cons_succ] at hS); (simp only [Act.put])))
            go_wp2_with (first
                | (refine sv_load hS 3 (by rfl) 75 (.tmp 7) (by rfl) g7 (by rfl) _ 75 rfl _ Tryd.underlying75 rfl size75 ?_; (simp only [Act.put, List.setIfInBounds_toArray, List.set_cons_zero, List.set_cons_succ])))
            have hc := sv_over hS 0 (dn x (bnat l)) aj cj (1 + (q : Int)) rfl NJ
            rw [HOV.out] at hc
            refine hc.mono ?_
            rintro e w1 ⟨rfl, hS1⟩
            clear hc hS
            have hS := hS1
            clear hS1
            have hS1 := hS.keep [(gs, boRow l, 4), (g7, rcRow (dn x (bnat l)) aj (dn x (bnat l)).votes.length cj, 75), (g3, rcRow x bx x.votes.length dx, 71)] [(aj, cj, (dn x (bnat l)).votes)] (.cons _ (.cons _ (.refl _))) (fun t ht => by rw [List.mem_singleton.1 ht]; exact List.mem_cons_self)
            have HS := Lib.hid hS1
            clear hS hS1
            clear hcb
            obtain ⟨d, hd⟩ : ∃ d, ((l.count false : Int) == 0) = d := ⟨_, rfl⟩
            go_wp2_with fail
            go_roundw
            case rel => exact ⟨k + 1, l, aj, cj, by omega, by go_num, hll, rfl, HS.out⟩
            case measure => simp [intOf]; omega
        · have e60 : decide ((k : Int) < 60) = false := decide_eq_false (by omega)
          go_wp2_with fail
          have hc := sv_known hS
          refine hc.mono ?_
          rintro e w1 ⟨rfl, hS1⟩
          clear hc hS
          have hS := hS1
          clear hS1
          go_wp2_with fail
          have HB := hS.st.below
          go_ret
          exact ⟨rfl, HB⟩
      · have ekl : decide (k < il.length) = false := decide_eq_false hlt
        go_wp2_with fail
        have hc := sv_known hS
        refine hc.mono ?_
        rintro e w1 ⟨rfl, hS1⟩
        clear hc hS
        have hS := hS1
        clear hS1
        go_wp2_with fail
        have HB := hS.st.below
        go_ret
        exact ⟨rfl, HB⟩
end Go.Proofs.YtniejpfjbifjkaaDoor.lifeEach
