/- LifeVotes walked. -/
import Derived.Test.YtniejpfjbifjkaaDoorLzq
import Derived.Test.YtniejpfjbifjkaaDoorWs
namespace Go.Proofs.YtniejpfjbifjkaaDoor.lifeVotes
open Go.RowKit Fl

set_option maxRecDepth 100000 in
set_option maxHeartbeats 16000000 in
theorem walk (bx : Option Addr) (x : Rc) (dx : Nat) (nodes a b : Int) (w : World) (nx : RcN x) (hvx : Vts w bx x.votes) (hn : -9223372036854775808 ≤ nodes ∧ nodes ≤ 9223372036854775807) (_ : -9223372036854775808 ≤ a ∧ a ≤ 9223372036854775807) (_ : -9223372036854775808 ≤ b ∧ b ≤ 9223372036854775807) (hl : Laid w) (hpos : 0 < w.heap.size) :
    Calls Tryd.prog 20 #[recV x bx x.votes.length dx, .int .i64 nodes, .int .i64 a, .int .i64 b] w fun e w' => e = .returned (.bool true) ∧ Below w.heap.size w w' := by
  have hS := Sv.start hl hpos
  have hcs : rcOk x = false ∨ (rcOk x = true ∧ ((x.gen == 0) = true ∨ ((x.gen == 0) = false ∧ (decide (a < 1) = true ∨ (decide (a < 1) = false ∧ (decide (b ≤ a) = true ∨ (decide (b ≤ a) = false ∧ (decide (1099511627776 < b) = true ∨ decide (1099511627776 < b) = false)))))))) := by
    cases rcOk x <;> cases x.gen == 0 <;> cases decide (a < 1) <;> cases decide (b ≤ a) <;> cases decide (1099511627776 < b) <;> simp
  simp only [recV_row]
  go_enter Tryd.func20, Tryd.ntmps20
  go_upto_region 1 with (first
      | (refine sv_box hS (by rfl) 71 (.tmp 0) (by rfl) _ (by rfl) (by decide) ?_; clear hS; intro g4 w1 hS; (simp only [Act.put, List.setIfInBounds_toArray, List.set_cons_zero, List.set_cons_succ])))
  go_wp2_with (first
      | (refine sv_load hS 0 (by rfl) 71 (.tmp 4) (by rfl) g4 (by rfl) _ 71 rfl _ Tryd.underlying71 rfl size71 ?_; (simp only [Act.put, List.setIfInBounds_toArray, List.set_cons_zero, List.set_cons_succ])))
  have hc := sv_given hS x bx dx hvx
  refine hc.mono ?_
  rintro e w1 ⟨ax, cx, rfl, hS1⟩
  clear hc hS
  have hS := hS1
  clear hS1
  go_upto_region 2 with (first
      | (refine sv_alloc hS (by rfl) 75 (by rfl) _ zero75 (by decide) ?_; clear hS; intro g9 w1 hS; (simp only [Act.put, List.setIfInBounds_toArray, List.set_cons_zero, List.set_cons_succ]))
      | (refine sv_store hS 0 (by rfl) 75 (.tmp 9) (.tmp 19) (by rfl) g9 (by rfl) (rcRow x ax x.votes.length cx) (by rfl) _ 75 rfl size75 rfl (one_rcRow _ _ _ _) ?_; clear hS; intro w1 hS; (simp only [List.set_cons_zero] at hS); (simp only [Act.put])))
  clear hvx
  have q1 := cell_gen (hS.st.row 0 rfl)
  rcases hcs with kx | ⟨kx, kg | ⟨kg, d1 | ⟨d1, d2 | ⟨d2, d3 | d3⟩⟩⟩⟩
  · go_wp2_with (first
        | (refine sv_load hS 0 (by rfl) 75 (.tmp 9) (by rfl) g9 (by rfl) _ 75 rfl _ Tryd.underlying75 rfl size75 ?_; (simp only [Act.put, List.setIfInBounds_toArray, List.set_cons_zero, List.set_cons_succ])))
    have hc := sv_right hS 0 x ax cx rfl nx
    rw [kx] at hc
    refine hc.mono ?_
    rintro e w1 ⟨rfl, hS1⟩
    clear hc hS
    have hS := hS1
    clear hS1
    have q1 := cell_gen (hS.st.row 0 rfl)
    go_wp2_with fail
    have hc := sv_known hS
    refine hc.mono ?_
    rintro e w1 ⟨rfl, hS1⟩
    clear hc hS
    have hS := hS1
    clear hS1
    go_wp2_with fail
    have HB := hS.st.below
    go_ret
    exact ⟨rfl, HB⟩
  · go_wp2_with (first
        | (refine sv_load hS 0 (by rfl) 75 (.tmp 9) (by rfl) g9 (by rfl) _ 75 rfl _ Tryd.underlying75 rfl size75 ?_; (simp only [Act.put, List.setIfInBounds_toArray, List.set_cons_zero, List.set_cons_succ])))
    have hc := sv_right hS 0 x ax cx rfl nx
    rw [kx] at hc
    refine hc.mono ?_
    rintro e w1 ⟨rfl, hS1⟩
    clear hc hS
    have hS := hS1
    clear hS1
    have q1 := cell_gen (hS.st.row 0 rfl)
    go_wp2_with fail
    have hc := sv_known hS
    refine hc.mono ?_
    rintro e w1 ⟨rfl, hS1⟩
    clear hc hS
    have hS := hS1
    clear hS1
    go_wp2_with fail
    have HB := hS.st.below
    go_ret
    exact ⟨rfl, HB⟩
  · go_wp2_with (first
        | (refine sv_load hS 0 (by rfl) 75 (.tmp 9) (by rfl) g9 (by rfl) _ 75 rfl _ Tryd.underlying75 rfl size75 ?_; (simp only [Act.put, List.setIfInBounds_toArray, List.set_cons_zero, List.set_cons_succ])))
    have hc := sv_right hS 0 x ax cx rfl nx
    rw [kx] at hc
    refine hc.mono ?_
    rintro e w1 ⟨rfl, hS1⟩
    clear hc hS
    have hS := hS1
    clear hS1
    have q1 := cell_gen (hS.st.row 0 rfl)
    go_wp2_with fail
    have hc := sv_known hS
    refine hc.mono ?_
    rintro e w1 ⟨rfl, hS1⟩
    clear hc hS
    have hS := hS1
    clear hS1
    go_wp2_with fail
    have HB := hS.st.below
    go_ret
    exact ⟨rfl, HB⟩
  · go_wp2_with (first
        | (refine sv_load hS 0 (by rfl) 75 (.tmp 9) (by rfl) g9 (by rfl) _ 75 rfl _ Tryd.underlying75 rfl size75 ?_; (simp only [Act.put, List.setIfInBounds_toArray, List.set_cons_zero, List.set_cons_succ])))
    have hc := sv_right hS 0 x ax cx rfl nx
    rw [kx] at hc
    refine hc.mono ?_
    rintro e w1 ⟨rfl, hS1⟩
    clear hc hS
    have hS := hS1
    clear hS1
    have q1 := cell_gen (hS.st.row 0 rfl)
    go_wp2_with fail
    have hc := sv_known hS
    refine hc.mono ?_
    rintro e w1 ⟨rfl, hS1⟩
    clear hc hS
    have hS := hS1
    clear hS1
    go_wp2_with fail
    have HB := hS.st.below
    go_ret
    exact ⟨rfl, HB⟩
  · go_wp2_with (first
        | (refine sv_load hS 0 (by rfl) 75 (.tmp 9) (by rfl) g9 (by rfl) _ 75 rfl _ Tryd.underlying75 rfl size75 ?_; (simp only [Act.put, List.setIfInBounds_toArray, List.set_cons_zero, List.set_cons_succ])))
    have hc := sv_right hS 0 x ax cx rfl nx
    rw [kx] at hc
    refine hc.mono ?_
    rintro e w1 ⟨rfl, hS1⟩
    clear hc hS
    have hS := hS1
    clear hS1
    have q1 := cell_gen (hS.st.row 0 rfl)
    go_wp2_with fail
    have hc := sv_known hS
    refine hc.mono ?_
    rintro e w1 ⟨rfl, hS1⟩
    clear hc hS
    have hS := hS1
    clear hS1
    go_wp2_with fail
    have HB := hS.st.below
    go_ret
    exact ⟨rfl, HB⟩
  · go_wp2_with (first
        | (refine sv_load hS 0 (by rfl) 75 (.tmp 9) (by rfl) g9 (by rfl) _ 75 rfl _ Tryd.underlying75 rfl size75 ?_; (simp only [Act.put, List.setIfInBounds_toArray, List.set_cons_zero, List.set_cons_succ])))
    have hc := sv_right hS 0 x ax cx rfl nx
    rw [kx] at hc
    refine hc.mono ?_
    rintro e w1 ⟨rfl, hS1⟩
    clear hc hS
    have hS := hS1
    clear hS1
    have q1 := cell_gen (hS.st.row 0 rfl)
    go_upto_region 4 with fail
    have hg : x.gen ≠ 0 := by intro h; rw [h] at kg; exact absurd kg (by decide)
    have ha0 : 0 < a := by have := of_decide_eq_false d1; omega
    have hab : a < b := by have := of_decide_eq_false d2; omega
    have hbm : b ≤ 1099511627776 := by have := of_decide_eq_false d3; omega
    have Gx := Gd_of nx kx
    obtain ⟨q, hq⟩ : ∃ q : Nat, nodes % 16 = q := ⟨(nodes % 16).toNat, by omega⟩
    have hq15 : q ≤ 15 := by omega
    have hcnt := fun W => countC nodes 16 W hn ⟨by decide, by decide⟩
    rw [hq] at hcnt
    have HX := Lib.hid kx
    have HG := Lib.hid hg
    have HGX := Lib.hid Gx
    clear hq q1 kx hg Gx d1 d2 d3 kg nx
    go_upto_region 5 with (first
        | (go_at_call 31; refine (hcnt _).mono ?_; rintro e w' ⟨rfl, rfl⟩))
    go_upto_region 6 with (first
        | (refine sv_put hS 0 (by rfl) 73 (.tmp 45) (.const (.slice none 0 0)) (by rfl) g9 22 (by rfl) (.slice none 0 0) (by rfl) _ 75 rfl rfl rfl rfl size73 ?_; clear hS; intro w1 hS; (simp only [List.set_cons_zero, put_votes] at hS); (simp only [Act.put])))
    have hS1 := hS.nil.keep [(g9, rcRow x none 0 0, 75), (g4, rcRow x bx x.votes.length dx, 71)] [(none, 0, nVotes 0 b)] (List.Sublist.refl _) (fun y hy => by rw [List.mem_singleton.1 hy]; exact List.mem_cons_self)
    clear hS hcnt
    have hS := hS1
    clear hS1
    go_wp2_with fail
    go_loopw [11] (fun i wr => ∃ (k : Nat) (aV : Option Addr) (cV : Nat), k ≤ q + 1 ∧ i = .int .i64 k ∧ Sv w wr [(g9, rcRow (wv x (nVotes k b)) aV (wv x (nVotes k b)).votes.length cV, 75), (g4, rcRow x bx x.votes.length dx, 71)] [(aV, cV, (wv x (nVotes k b)).votes)]) (fun i _ => q + 1 - (intOf i).toNat)
    case atStart => exact ⟨0, none, 0, Nat.zero_le _, rfl, hS⟩
    case round =>
      clear hS
      obtain ⟨k, axk, cxk, hkq, rfl, hS⟩ := hrel
      have hW := well_n HX.out HG.out (k := k) (n := q + 1) hkq (by omega) (by omega) (b := b) ⟨by omega, hbm⟩
      rw [show ((q + 1 : Nat) : Int) = 1 + (q : Int) by omega] at hW
      have gk := wv_Gd HGX.out (nVotes k b)
      by_cases hlt : k < q + 1
      · have gy := wv_Gd HGX.out (nVotes (k + 1) b)
        have gu := wv_Gd HGX.out (nVotes k b ++ [(a, true)])
        have v1 := vote_later HGX.out k (b := b) (by omega)
        have v2 := vote_earlier HGX.out k ha0 hab
        have v3 := vote_first HGX.out k (b := b) ha0 (by omega)
        have v4 := vote_then HGX.out k ha0 hab
        have o1 := voted_good (v := (b, false)) (nVotes_right HX.out HG.out (k := k) (b := b) (by omega) ⟨by omega, hbm⟩) (show k < 16 by omega) ⟨by show 0 < b; omega, hbm⟩
        have o2 := voted_good (v := (a, true)) (nVotes_right HX.out HG.out (k := k + 1) (b := b) (by omega) ⟨by omega, hbm⟩) (show k < 16 by omega) ⟨ha0, by show a ≤ _; omega⟩
        have o3 := voted_good (v := (a, true)) (nVotes_right HX.out HG.out (k := k) (b := b) (by omega) ⟨by omega, hbm⟩) (show k < 16 by omega) ⟨ha0, by show a ≤ _; omega⟩
        have o4 := voted_good (v := (b, false)) (first_right HX.out HG.out (k := k) (a := a) (b := b) (by omega) ⟨ha0, by omega⟩ ⟨by omega, hbm⟩) (show k < 16 by omega) ⟨by show 0 < b; omega, hbm⟩
        have g1 : (wv x (nVotes k b)).gen ≠ 0 := HG.out
        have g2 : (wv x (nVotes (k + 1) b)).gen ≠ 0 := HG.out
        have g3 : (wv x (nVotes k b ++ [(a, true)])).gen ≠ 0 := HG.out
        have s1 := sameR_of gy gy (RcEq.refl _)
        have NK := gk.N
        have NY := gy.N
        have NU := gu.N
        have HY : Hid (wv x (nVotes (k + 1) b) = wv x (nVotes (k + 1) b)) := Lib.hid rfl
        obtain ⟨y, hy⟩ : ∃ y, wv x (nVotes (k + 1) b) = y := ⟨_, rfl⟩
        rw [hy] at v1 v2 v4 o2 g2 s1 NY
        have HYY := Lib.hid hy
        clear hy HY gy gu gk
        generalize wv x (nVotes k b ++ [(a, true)]) = u at *
        generalize wv x (nVotes k b) = xk at *
        obtain ⟨d, hd⟩ : ∃ d, decide (2 * (k : Int) < 1 + (q : Int)) = d := ⟨_, rfl⟩
        rw [hd] at hW
        have V1 := Lib.hid v1
        have V2 := Lib.hid v2
        have V3 := Lib.hid v3
        have V4 := Lib.hid v4
        have O1 := Lib.hid o1
        have O2 := Lib.hid o2
        have O3 := Lib.hid o3
        have O4 := Lib.hid o4
        have G1 := Lib.hid g1
        have G2 := Lib.hid g2
        have G3 := Lib.hid g3
        have S1 := Lib.hid s1
        have HW := Lib.hid hW
        clear v1 v2 v3 v4 o1 o2 o3 o4 g1 g2 g3 s1 hW
        go_wp2_with (first
            | (refine sv_load hS 0 (by rfl) 75 (.tmp 9) (by rfl) g9 (by rfl) _ 75 rfl _ Tryd.underlying75 rfl size75 ?_; (simp only [Act.put, List.setIfInBounds_toArray, List.set_cons_zero, List.set_cons_succ])))
        have hc := sv_well hS 0 xk axk cxk (1 + (q : Int)) rfl NK
        rw [HW.out] at hc
        refine hc.mono ?_
        rintro e w1 ⟨rfl, hS1⟩
        clear hc hS
        have hS := hS1
        clear hS1
        go_upto_region 11 with fail
        go_wp2_with (first
            | (refine sv_load hS 0 (by rfl) 75 (.tmp 9) (by rfl) g9 (by rfl) _ 75 rfl _ Tryd.underlying75 rfl size75 ?_; (simp only [Act.put, List.setIfInBounds_toArray, List.set_cons_zero, List.set_cons_succ]))
            | (refine st_build (by rfl) 87 #[(0, .tmp 62)] (by rfl) (vtRow (b, false)) (by kernel_rfl) ?_; (simp only [Act.put, List.setIfInBounds_toArray, List.set_cons_zero, List.set_cons_succ])))
        have hc := sv_voted hS 0 xk axk cxk k (b, false) rfl NK O1.out G1.out
        rw [V1.out] at hc
        refine hc.mono ?_
        rintro e w1 ⟨ay, cy, rfl, hS1⟩
        clear hc hS
        have hS := hS1
        clear hS1
        go_upto_region 12 with (first
            | (refine sv_alloc hS (by rfl) 75 (by rfl) _ zero75 (by decide) ?_; clear hS; intro g12 w1 hS; (simp only [Act.put, List.setIfInBounds_toArray, List.set_cons_zero, List.set_cons_succ]))
            | (refine sv_store hS 0 (by rfl) 75 (.tmp 12) (.tmp 65) (by rfl) g12 (by rfl) (rcRow y ay y.votes.length cy) (by rfl) _ 75 rfl size75 rfl (one_rcRow _ _ _ _) ?_; clear hS; intro w1 hS; (simp only [List.set_cons_zero] at hS); (simp only [Act.put])))
        go_wp2_with (first
            | (refine sv_load hS 0 (by rfl) 75 (.tmp 12) (by rfl) g12 (by rfl) _ 75 rfl _ Tryd.underlying75 rfl size75 ?_; (simp only [Act.put, List.setIfInBounds_toArray, List.set_cons_zero, List.set_cons_succ]))
            | (refine st_build (by rfl) 87 #[(0, .tmp 70), (1, .const (.bool true))] (by rfl) (vtRow (a, true)) (by kernel_rfl) ?_; (simp only [Act.put, List.setIfInBounds_toArray, List.set_cons_zero, List.set_cons_succ])))
        have hc := sv_voted hS 0 y ay cy k (a, true) rfl NY O2.out G2.out
        rw [V2.out] at hc
        refine hc.mono ?_
        rintro e w1 ⟨az, cz, rfl, hS1⟩
        clear hc hS
        have hS := hS1
        clear hS1
        go_upto_region 13 with (first
            | (refine sv_alloc hS (by rfl) 75 (by rfl) _ zero75 (by decide) ?_; clear hS; intro g14 w1 hS; (simp only [Act.put, List.setIfInBounds_toArray, List.set_cons_zero, List.set_cons_succ]))
            | (refine sv_store hS 0 (by rfl) 75 (.tmp 14) (.tmp 73) (by rfl) g14 (by rfl) (rcRow y az y.votes.length cz) (by rfl) _ 75 rfl size75 rfl (one_rcRow _ _ _ _) ?_; clear hS; intro w1 hS; (simp only [List.set_cons_zero] at hS); (simp only [Act.put])))
        go_wp2_with (first
            | (refine sv_load hS 1 (by rfl) 75 (.tmp 12) (by rfl) g12 (by rfl) _ 75 rfl _ Tryd.underlying75 rfl size75 ?_; (simp only [Act.put, List.setIfInBounds_toArray, List.set_cons_zero, List.set_cons_succ]))
            | (refine sv_load hS 0 (by rfl) 75 (.tmp 14) (by rfl) g14 (by rfl) _ 75 rfl _ Tryd.underlying75 rfl size75 ?_; (simp only [Act.put, List.setIfInBounds_toArray, List.set_cons_zero, List.set_cons_succ])))
        have hc := sv_same hS 1 0 y y ay az cy cz rfl rfl
        rw [S1.out] at hc
        refine hc.mono ?_
        rintro e w1 ⟨rfl, hS1⟩
        clear hc hS
        have hS := hS1
        clear hS1
        go_upto_region 15 with fail
        go_wp2_with (first
            | (refine sv_load hS 2 (by rfl) 75 (.tmp 9) (by rfl) g9 (by rfl) _ 75 rfl _ Tryd.underlying75 rfl size75 ?_; (simp only [Act.put, List.setIfInBounds_toArray, List.set_cons_zero, List.set_cons_succ]))
            | (refine st_build (by rfl) 87 #[(0, .tmp 90), (1, .const (.bool true))] (by rfl) (vtRow (a, true)) (by kernel_rfl) ?_; (simp only [Act.put, List.setIfInBounds_toArray, List.set_cons_zero, List.set_cons_succ])))
        have hc := sv_voted hS 2 xk axk cxk k (a, true) rfl NK O3.out G1.out
        rw [V3.out] at hc
        refine hc.mono ?_
        rintro e w1 ⟨au, cu, rfl, hS1⟩
        clear hc hS
        have hS := hS1
        clear hS1
        go_upto_region 16 with (first
            | (refine sv_store hS 0 (by rfl) 75 (.tmp 14) (.tmp 93) (by rfl) g14 (by rfl) (rcRow u au u.votes.length cu) (by rfl) _ 75 rfl size75 rfl (one_rcRow _ _ _ _) ?_; clear hS; intro w1 hS; (simp only [List.set_cons_zero] at hS); (simp only [Act.put])))
        go_wp2_with (first
            | (refine sv_load hS 0 (by rfl) 75 (.tmp 14) (by rfl) g14 (by rfl) _ 75 rfl _ Tryd.underlying75 rfl size75 ?_; (simp only [Act.put, List.setIfInBounds_toArray, List.set_cons_zero, List.set_cons_succ]))
            | (refine st_build (by rfl) 87 #[(0, .tmp 98)] (by rfl) (vtRow (b, false)) (by kernel_rfl) ?_; (simp only [Act.put, List.setIfInBounds_toArray, List.set_cons_zero, List.set_cons_succ])))
        have hc := sv_voted hS 0 u au cu k (b, false) rfl NU O4.out G3.out
        rw [V4.out] at hc
        refine hc.mono ?_
        rintro e w1 ⟨av, cv, rfl, hS1⟩
        clear hc hS
        have hS := hS1
        clear hS1
        go_upto_region 17 with (first
            | (refine sv_alloc hS (by rfl) 75 (by rfl) _ zero75 (by decide) ?_; clear hS; intro g16 w1 hS; (simp only [Act.put, List.setIfInBounds_toArray, List.set_cons_zero, List.set_cons_succ]))
            | (refine sv_store hS 0 (by rfl) 75 (.tmp 16) (.tmp 101) (by rfl) g16 (by rfl) (rcRow y av y.votes.length cv) (by rfl) _ 75 rfl size75 rfl (one_rcRow _ _ _ _) ?_; clear hS; intro w1 hS; (simp only [List.set_cons_zero] at hS); (simp only [Act.put])))
        go_wp2_with (first
            | (refine sv_load hS 0 (by rfl) 75 (.tmp 16) (by rfl) g16 (by rfl) _ 75 rfl _ Tryd.underlying75 rfl size75 ?_; (simp only [Act.put, List.setIfInBounds_toArray, List.set_cons_zero, List.set_cons_succ]))
            | (refine sv_load hS 2 (by rfl) 75 (.tmp 12) (by rfl) g12 (by rfl) _ 75 rfl _ Tryd.underlying75 rfl size75 ?_; (simp only [Act.put, List.setIfInBounds_toArray, List.set_cons_zero, List.set_cons_succ])))
        have hc := sv_same hS 0 3 y y av ay cv cy rfl rfl
        rw [S1.out] at hc
        refine hc.mono ?_
        rintro e w1 ⟨rfl, hS1⟩
        clear hc hS
        have hS := hS1
        clear hS1
        go_upto_region 19 with fail
        go_wp2_with (first
            | (refine sv_load hS 2 (by rfl) 75 (.tmp 12) (by rfl) g12 (by rfl) _ 75 rfl _ Tryd.underlying75 rfl size75 ?_; (simp only [Act.put, List.setIfInBounds_toArray, List.set_cons_zero, List.set_cons_succ]))
            | (refine sv_store hS 3 (by rfl) 75 (.tmp 9) (.tmp 115) (by rfl) g9 (by rfl) (rcRow y ay y.votes.length cy) (by rfl) _ 75 rfl size75 rfl (one_rcRow _ _ _ _) ?_; clear hS; intro w1 hS; (simp only [List.set_cons_zero, List.set_cons_succ] at hS); (simp only [Act.put])))
        have hS1 := hS.keep [(g9, rcRow y ay y.votes.length cy, 75), (g4, rcRow x bx x.votes.length dx, 71)] [(ay, cy, y.votes)] (.cons _ (.cons _ (.cons _ (.refl _)))) (fun t ht => by rw [List.mem_singleton.1 ht]; exact List.mem_cons_of_mem _ (List.mem_cons_of_mem _ (List.mem_cons_of_mem _ (List.mem_cons_self))))
        have HS := Lib.hid hS1
        clear hS hS1
        as_aux_lemma =>
          go_roundw
          case rel => exact ⟨k + 1, ay, cy, by omega, by go_num, by rw [HYY.out]; exact HS.out⟩
          case measure => simp [intOf]; omega
      · have hk : k = q + 1 := by omega
        have hWf : wellOk (wv x (nVotes k b)) (1 + (q : Int)) = false := by rw [hW]; exact decide_eq_false (by omega)
        have NK := gk.N
        have HW := Lib.hid hWf
        clear hWf hW gk
        generalize wv x (nVotes k b) = xk at *
        go_wp2_with (first
            | (refine sv_load hS 0 (by rfl) 75 (.tmp 9) (by rfl) g9 (by rfl) _ 75 rfl _ Tryd.underlying75 rfl size75 ?_; (simp only [Act.put, List.setIfInBounds_toArray, List.set_cons_zero, List.set_cons_succ])))
        have hc := sv_well hS 0 xk axk cxk (1 + (q : Int)) rfl NK
        rw [HW.out] at hc
        refine hc.mono ?_
        rintro e w1 ⟨rfl, hS1⟩
        clear hc hS
        have hS := hS1
        clear hS1
        go_wp2_with fail
        have hc := sv_known hS
        refine hc.mono ?_
        rintro e w1 ⟨rfl, hS1⟩
        clear hc hS
        have hS := hS1
        clear hS1
        go_wp2_with fail
        have HB := hS.st.below
        go_ret
        exact ⟨rfl, HB⟩
end Go.Proofs.YtniejpfjbifjkaaDoor.lifeVotes
