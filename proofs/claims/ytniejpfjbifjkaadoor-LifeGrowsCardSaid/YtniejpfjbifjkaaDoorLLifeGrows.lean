/- LifeGrows walked. -/
import Derived.Test.YtniejpfjbifjkaaDoorLze
namespace Go.Proofs.YtniejpfjbifjkaaDoor.lifeGrows
open Go.RowKit Fl

set_option maxRecDepth 100000 in
set_option maxHeartbeats 16000000 in
theorem walk (bx : Option Addr) (x : Rc) (dx : Nat) (by_ : Option Addr) (y : Rc) (dy : Nat) (bz : Option Addr) (z : Rc) (dz : Nat) (w : World) (nx : RcN x) (hvx : Vts w bx x.votes) (ny : RcN y) (hvy : Vts w by_ y.votes) (nz : RcN z) (hvz : Vts w bz z.votes) (hl : Laid w) (hpos : 0 < w.heap.size) :
    Calls Tryd.prog 19 #[recV x bx x.votes.length dx, recV y by_ y.votes.length dy, recV z bz z.votes.length dz] w fun e w' => e = .returned (.bool true) ∧ Below w.heap.size w w' := by
  have hS := Sv.start hl hpos
  have hcs : rcOk x = false ∨ (rcOk x = true ∧ (rcOk y = false ∨ (rcOk y = true ∧ (rcOk z = false ∨ rcOk z = true)))) := by
    cases rcOk x <;> cases rcOk y <;> cases rcOk z <;> simp
  simp only [recV_row]
  go_enter Tryd.func19, Tryd.ntmps19
  go_upto_region 1 with (first
      | (refine sv_box hS (by rfl) 71 (.tmp 0) (by rfl) _ (by rfl) (by decide) ?_; clear hS; intro g3 w1 hS; (simp only [Act.put, List.setIfInBounds_toArray, List.set_cons_zero, List.set_cons_succ]))
      | (refine sv_box hS (by rfl) 71 (.tmp 1) (by rfl) _ (by rfl) (by decide) ?_; clear hS; intro g4 w1 hS; (simp only [Act.put, List.setIfInBounds_toArray, List.set_cons_zero, List.set_cons_succ]))
      | (refine sv_box hS (by rfl) 71 (.tmp 2) (by rfl) _ (by rfl) (by decide) ?_; clear hS; intro g5 w1 hS; (simp only [Act.put, List.setIfInBounds_toArray, List.set_cons_zero, List.set_cons_succ])))
  go_wp2_with (first
      | (refine sv_load hS 2 (by rfl) 71 (.tmp 3) (by rfl) g3 (by rfl) _ 71 rfl _ Tryd.underlying71 rfl size71 ?_; (simp only [Act.put, List.setIfInBounds_toArray, List.set_cons_zero, List.set_cons_succ])))
  have hc := sv_given hS x bx dx hvx
  refine hc.mono ?_
  rintro e w1 ⟨ax, cx, rfl, hS1⟩
  clear hc hS
  have hS := hS1
  clear hS1
  go_upto_region 2 with (first
      | (refine sv_alloc hS (by rfl) 75 (by rfl) _ zero75 (by decide) ?_; clear hS; intro g7 w1 hS; (simp only [Act.put, List.setIfInBounds_toArray, List.set_cons_zero, List.set_cons_succ]))
      | (refine sv_store hS 0 (by rfl) 75 (.tmp 7) (.tmp 23) (by rfl) g7 (by rfl) (rcRow x ax x.votes.length cx) (by rfl) _ 75 rfl size75 rfl (one_rcRow _ _ _ _) ?_; clear hS; intro w1 hS; (simp only [List.set_cons_zero] at hS); (simp only [Act.put])))
  go_wp2_with (first
      | (refine sv_load hS 2 (by rfl) 71 (.tmp 4) (by rfl) g4 (by rfl) _ 71 rfl _ Tryd.underlying71 rfl size71 ?_; (simp only [Act.put, List.setIfInBounds_toArray, List.set_cons_zero, List.set_cons_succ])))
  have hc := sv_given hS y by_ dy hvy
  refine hc.mono ?_
  rintro e w1 ⟨ay, cy, rfl, hS1⟩
  clear hc hS
  have hS := hS1
  clear hS1
  go_upto_region 3 with (first
      | (refine sv_alloc hS (by rfl) 75 (by rfl) _ zero75 (by decide) ?_; clear hS; intro g8 w1 hS; (simp only [Act.put, List.setIfInBounds_toArray, List.set_cons_zero, List.set_cons_succ]))
      | (refine sv_store hS 0 (by rfl) 75 (.tmp 8) (.tmp 25) (by rfl) g8 (by rfl) (rcRow y ay y.votes.length cy) (by rfl) _ 75 rfl size75 rfl (one_rcRow _ _ _ _) ?_; clear hS; intro w1 hS; (simp only [List.set_cons_zero] at hS); (simp only [Act.put])))
  go_wp2_with (first
      | (refine sv_load hS 2 (by rfl) 71 (.tmp 5) (by rfl) g5 (by rfl) _ 71 rfl _ Tryd.underlying71 rfl size71 ?_; (simp only [Act.put, List.setIfInBounds_toArray, List.set_cons_zero, List.set_cons_succ])))
  have hc := sv_given hS z bz dz hvz
  refine hc.mono ?_
  rintro e w1 ⟨az, cz, rfl, hS1⟩
  clear hc hS
  have hS := hS1
  clear hS1
  go_upto_region 4 with (first
      | (refine sv_alloc hS (by rfl) 75 (by rfl) _ zero75 (by decide) ?_; clear hS; intro g9 w1 hS; (simp only [Act.put, List.setIfInBounds_toArray, List.set_cons_zero, List.set_cons_succ]))
      | (refine sv_store hS 0 (by rfl) 75 (.tmp 9) (.tmp 27) (by rfl) g9 (by rfl) (rcRow z az z.votes.length cz) (by rfl) _ 75 rfl size75 rfl (one_rcRow _ _ _ _) ?_; clear hS; intro w1 hS; (simp only [List.set_cons_zero] at hS); (simp only [Act.put])))
  clear hvx hvy hvz
  rcases hcs with kx | ⟨kx, ky | ⟨ky, kz | kz⟩⟩
  · go_wp2_with (first
        | (refine sv_load hS 2 (by rfl) 75 (.tmp 7) (by rfl) g7 (by rfl) _ 75 rfl _ Tryd.underlying75 rfl size75 ?_; (simp only [Act.put, List.setIfInBounds_toArray, List.set_cons_zero, List.set_cons_succ])))
    have hc := sv_right hS 2 x ax cx rfl nx
    rw [kx] at hc
    refine hc.mono ?_
    rintro e w1 ⟨rfl, hS1⟩
    clear hc hS
    have hS := hS1
    clear hS1
    go_wp2_with fail
    have hc := sv_known hS
    refine hc.mono ?_
    rintro e w1 ⟨rfl, hS1⟩
    clear hc hS
    have hS := hS1
    clear hS1
    go_wp2_with fail
    have HB := hS.st.below
    go_ret
    exact ⟨rfl, HB⟩
  · go_wp2_with (first
        | (refine sv_load hS 2 (by rfl) 75 (.tmp 7) (by rfl) g7 (by rfl) _ 75 rfl _ Tryd.underlying75 rfl size75 ?_; (simp only [Act.put, List.setIfInBounds_toArray, List.set_cons_zero, List.set_cons_succ])))
    have hc := sv_right hS 2 x ax cx rfl nx
    rw [kx] at hc
    refine hc.mono ?_
    rintro e w1 ⟨rfl, hS1⟩
    clear hc hS
    have hS := hS1
    clear hS1
    go_wp2_with (first
        | (refine sv_load hS 1 (by rfl) 75 (.tmp 8) (by rfl) g8 (by rfl) _ 75 rfl _ Tryd.underlying75 rfl size75 ?_; (simp only [Act.put, List.setIfInBounds_toArray, List.set_cons_zero, List.set_cons_succ])))
    have hc := sv_right hS 1 y ay cy rfl ny
    rw [ky] at hc
    refine hc.mono ?_
    rintro e w1 ⟨rfl, hS1⟩
    clear hc hS
    have hS := hS1
    clear hS1
    go_wp2_with fail
    have hc := sv_known hS
    refine hc.mono ?_
    rintro e w1 ⟨rfl, hS1⟩
    clear hc hS
    have hS := hS1
    clear hS1
    go_wp2_with fail
    have HB := hS.st.below
    go_ret
    exact ⟨rfl, HB⟩
  · go_wp2_with (first
        | (refine sv_load hS 2 (by rfl) 75 (.tmp 7) (by rfl) g7 (by rfl) _ 75 rfl _ Tryd.underlying75 rfl size75 ?_; (simp only [Act.put, List.setIfInBounds_toArray, List.set_cons_zero, List.set_cons_succ])))
    have hc := sv_right hS 2 x ax cx rfl nx
    rw [kx] at hc
    refine hc.mono ?_
    rintro e w1 ⟨rfl, hS1⟩
    clear hc hS
    have hS := hS1
    clear hS1
    go_wp2_with (first
        | (refine sv_load hS 1 (by rfl) 75 (.tmp 8) (by rfl) g8 (by rfl) _ 75 rfl _ Tryd.underlying75 rfl size75 ?_; (simp only [Act.put, List.setIfInBounds_toArray, List.set_cons_zero, List.set_cons_succ])))
    have hc := sv_right hS 1 y ay cy rfl ny
    rw [ky] at hc
    refine hc.mono ?_
    rintro e w1 ⟨rfl, hS1⟩
    clear hc hS
    have hS := hS1
    clear hS1
    go_wp2_with (first
        | (refine sv_load hS 0 (by rfl) 75 (.tmp 9) (by rfl) g9 (by rfl) _ 75 rfl _ Tryd.underlying75 rfl size75 ?_; (simp only [Act.put, List.setIfInBounds_toArray, List.set_cons_zero, List.set_cons_succ])))
    have hc := sv_right hS 0 z az cz rfl nz
    rw [kz] at hc
    refine hc.mono ?_
    rintro e w1 ⟨rfl, hS1⟩
    clear hc hS
    have hS := hS1
    clear hS1
    go_wp2_with fail
    have hc := sv_known hS
    refine hc.mono ?_
    rintro e w1 ⟨rfl, hS1⟩
    clear hc hS
    have hS := hS1
    clear hS1
    go_wp2_with fail
    have HB := hS.st.below
    go_ret
    exact ⟨rfl, HB⟩
  · go_wp2_with (first
        | (refine sv_load hS 2 (by rfl) 75 (.tmp 7) (by rfl) g7 (by rfl) _ 75 rfl _ Tryd.underlying75 rfl size75 ?_; (simp only [Act.put, List.setIfInBounds_toArray, List.set_cons_zero, List.set_cons_succ])))
    have hc := sv_right hS 2 x ax cx rfl nx
    rw [kx] at hc
    refine hc.mono ?_
    rintro e w1 ⟨rfl, hS1⟩
    clear hc hS
    have hS := hS1
    clear hS1
    go_wp2_with (first
        | (refine sv_load hS 1 (by rfl) 75 (.tmp 8) (by rfl) g8 (by rfl) _ 75 rfl _ Tryd.underlying75 rfl size75 ?_; (simp only [Act.put, List.setIfInBounds_toArray, List.set_cons_zero, List.set_cons_succ])))
    have hc := sv_right hS 1 y ay cy rfl ny
    rw [ky] at hc
    refine hc.mono ?_
    rintro e w1 ⟨rfl, hS1⟩
    clear hc hS
    have hS := hS1
    clear hS1
    go_wp2_with (first
        | (refine sv_load hS 0 (by rfl) 75 (.tmp 9) (by rfl) g9 (by rfl) _ 75 rfl _ Tryd.underlying75 rfl size75 ?_; (simp only [Act.put, List.setIfInBounds_toArray, List.set_cons_zero, List.set_cons_succ])))
    have hc := sv_right hS 0 z az cz rfl nz
    rw [kz] at hc
    refine hc.mono ?_
    rintro e w1 ⟨rfl, hS1⟩
    clear hc hS
    have hS := hS1
    clear hS1
    have Gx := Gd_of nx kx
    have Gy := Gd_of ny ky
    have Gz := Gd_of nz kz
    have Gab := join_Gd Gx Gy
    have Gba := join_Gd Gy Gx
    have Gbc := join_Gd Gy Gz
    have Gl := join_Gd Gab Gz
    have Gr := join_Gd Gx Gbc
    have kab := join_right Gx Gy kx ky
    have kbc := join_right Gy Gz ky kz
    have kl := join_right Gab Gz kab kz
    have s1 := sameR_of Gab Gba (join_comm Gx Gy)
    have s2 := sameR_of Gl Gr (join_assoc Gx Gy Gz)
    have s3 : sameR (joinR x x) x = true := by rw [join_self Gx]; exact sameR_of Gx Gx (RcEq.refl _)
    have v1 : withinR x (joinR x y) = true := by unfold withinR; rw [kx, kab, sameR_of (join_Gd Gx Gab) Gab (join_within1 Gx Gy)]; rfl
    have v2 : withinR y (joinR x y) = true := by unfold withinR; rw [ky, kab, sameR_of (join_Gd Gy Gab) Gab (join_within2 Gx Gy)]; rfl
    obtain ⟨u1, u2⟩ := join_grows Gx Gy
    have NX := Gx.N
    have NY := Gy.N
    have NZ := Gz.N
    have NAB := Gab.N
    have NBC := Gbc.N
    have NL := Gl.N
    have KX := Lib.hid kx
    have KY := Lib.hid ky
    have KZ := Lib.hid kz
    have KAB := Lib.hid kab
    have KBC := Lib.hid kbc
    have KL := Lib.hid kl
    have S1 := Lib.hid s1
    have S2 := Lib.hid s2
    have S3 := Lib.hid s3
    have V1 := Lib.hid v1
    have V2 := Lib.hid v2
    have U1 := Lib.hid u1
    have U2 := Lib.hid u2
    clear kx ky kz kab kbc kl s1 s2 s3 v1 v2 u1 u2 Gx Gy Gz Gab Gba Gbc Gl Gr nx ny nz
    obtain ⟨aa, HJaa⟩ : ∃ aa, Hid (joinR x x = aa) := ⟨_, Lib.hid rfl⟩
    rw [HJaa.out] at S3
    obtain ⟨ab, HJab⟩ : ∃ ab, Hid (joinR x y = ab) := ⟨_, Lib.hid rfl⟩
    obtain ⟨ba, HJba⟩ : ∃ ba, Hid (joinR y x = ba) := ⟨_, Lib.hid rfl⟩
    obtain ⟨bc, HJbc⟩ : ∃ bc, Hid (joinR y z = bc) := ⟨_, Lib.hid rfl⟩
    rw [HJab.out] at S1 S2 V1 V2 U1 U2 NAB KAB NL KL
    rw [HJba.out] at S1
    rw [HJbc.out] at S2 NBC KBC
    obtain ⟨l, HJl⟩ : ∃ l, Hid (joinR ab z = l) := ⟨_, Lib.hid rfl⟩
    obtain ⟨rr, HJrr⟩ : ∃ rr, Hid (joinR x bc = rr) := ⟨_, Lib.hid rfl⟩
    rw [HJl.out] at S2 NL KL
    rw [HJrr.out] at S2
    go_wp2_with (first
        | (refine sv_load hS 2 (by rfl) 75 (.tmp 7) (by rfl) g7 (by rfl) _ 75 rfl _ Tryd.underlying75 rfl size75 ?_; (simp only [Act.put, List.setIfInBounds_toArray, List.set_cons_zero, List.set_cons_succ]))
        | (refine sv_load hS 1 (by rfl) 75 (.tmp 8) (by rfl) g8 (by rfl) _ 75 rfl _ Tryd.underlying75 rfl size75 ?_; (simp only [Act.put, List.setIfInBounds_toArray, List.set_cons_zero, List.set_cons_succ])))
    have hc := sv_join hS 2 1 x y ax ay cx cy rfl rfl NX NY KX.out KY.out
    rw [HJab.out] at hc
    refine hc.mono ?_
    rintro e w1 ⟨aab, cab, rfl, hS1⟩
    clear hc hS
    have hS := hS1
    clear hS1
    go_upto_region 7 with (first
        | (refine sv_alloc hS (by rfl) 75 (by rfl) _ zero75 (by decide) ?_; clear hS; intro g10 w1 hS; (simp only [Act.put, List.setIfInBounds_toArray, List.set_cons_zero, List.set_cons_succ]))
        | (refine sv_store hS 0 (by rfl) 75 (.tmp 10) (.tmp 46) (by rfl) g10 (by rfl) (rcRow ab aab ab.votes.length cab) (by rfl) _ 75 rfl size75 rfl (one_rcRow _ _ _ _) ?_; clear hS; intro w1 hS; (simp only [List.set_cons_zero] at hS); (simp only [Act.put])))
    go_wp2_with (first
        | (refine sv_load hS 2 (by rfl) 75 (.tmp 8) (by rfl) g8 (by rfl) _ 75 rfl _ Tryd.underlying75 rfl size75 ?_; (simp only [Act.put, List.setIfInBounds_toArray, List.set_cons_zero, List.set_cons_succ]))
        | (refine sv_load hS 3 (by rfl) 75 (.tmp 7) (by rfl) g7 (by rfl) _ 75 rfl _ Tryd.underlying75 rfl size75 ?_; (simp only [Act.put, List.setIfInBounds_toArray, List.set_cons_zero, List.set_cons_succ])))
    have hc := sv_join hS 2 3 y x ay ax cy cx rfl rfl NY NX KY.out KX.out
    rw [HJba.out] at hc
    refine hc.mono ?_
    rintro e w1 ⟨aba, cba, rfl, hS1⟩
    clear hc hS
    have hS := hS1
    clear hS1
    go_upto_region 8 with (first
        | (refine sv_alloc hS (by rfl) 75 (by rfl) _ zero75 (by decide) ?_; clear hS; intro g12 w1 hS; (simp only [Act.put, List.setIfInBounds_toArray, List.set_cons_zero, List.set_cons_succ]))
        | (refine sv_store hS 0 (by rfl) 75 (.tmp 12) (.tmp 52) (by rfl) g12 (by rfl) (rcRow ba aba ba.votes.length cba) (by rfl) _ 75 rfl size75 rfl (one_rcRow _ _ _ _) ?_; clear hS; intro w1 hS; (simp only [List.set_cons_zero] at hS); (simp only [Act.put])))
    go_wp2_with (first
        | (refine sv_load hS 3 (by rfl) 75 (.tmp 8) (by rfl) g8 (by rfl) _ 75 rfl _ Tryd.underlying75 rfl size75 ?_; (simp only [Act.put, List.setIfInBounds_toArray, List.set_cons_zero, List.set_cons_succ]))
        | (refine sv_load hS 2 (by rfl) 75 (.tmp 9) (by rfl) g9 (by rfl) _ 75 rfl _ Tryd.underlying75 rfl size75 ?_; (simp only [Act.put, List.setIfInBounds_toArray, List.set_cons_zero, List.set_cons_succ])))
    have hc := sv_join hS 3 2 y z ay az cy cz rfl rfl NY NZ KY.out KZ.out
    rw [HJbc.out] at hc
    refine hc.mono ?_
    rintro e w1 ⟨abc, cbc, rfl, hS1⟩
    clear hc hS
    have hS := hS1
    clear hS1
    go_upto_region 9 with (first
        | (refine sv_alloc hS (by rfl) 75 (by rfl) _ zero75 (by decide) ?_; clear hS; intro g14 w1 hS; (simp only [Act.put, List.setIfInBounds_toArray, List.set_cons_zero, List.set_cons_succ]))
        | (refine sv_store hS 0 (by rfl) 75 (.tmp 14) (.tmp 58) (by rfl) g14 (by rfl) (rcRow bc abc bc.votes.length cbc) (by rfl) _ 75 rfl size75 rfl (one_rcRow _ _ _ _) ?_; clear hS; intro w1 hS; (simp only [List.set_cons_zero] at hS); (simp only [Act.put])))
    go_wp2_with (first
        | (refine sv_load hS 2 (by rfl) 75 (.tmp 10) (by rfl) g10 (by rfl) _ 75 rfl _ Tryd.underlying75 rfl size75 ?_; (simp only [Act.put, List.setIfInBounds_toArray, List.set_cons_zero, List.set_cons_succ]))
        | (refine sv_load hS 3 (by rfl) 75 (.tmp 9) (by rfl) g9 (by rfl) _ 75 rfl _ Tryd.underlying75 rfl size75 ?_; (simp only [Act.put, List.setIfInBounds_toArray, List.set_cons_zero, List.set_cons_succ])))
    have hc := sv_join hS 2 3 ab z aab az cab cz rfl rfl NAB NZ KAB.out KZ.out
    rw [HJl.out] at hc
    refine hc.mono ?_
    rintro e w1 ⟨al, cl, rfl, hS1⟩
    clear hc hS
    have hS := hS1
    clear hS1
    go_upto_region 10 with (first
        | (refine sv_alloc hS (by rfl) 75 (by rfl) _ zero75 (by decide) ?_; clear hS; intro g16 w1 hS; (simp only [Act.put, List.setIfInBounds_toArray, List.set_cons_zero, List.set_cons_succ]))
        | (refine sv_store hS 0 (by rfl) 75 (.tmp 16) (.tmp 64) (by rfl) g16 (by rfl) (rcRow l al l.votes.length cl) (by rfl) _ 75 rfl size75 rfl (one_rcRow _ _ _ _) ?_; clear hS; intro w1 hS; (simp only [List.set_cons_zero] at hS); (simp only [Act.put])))
    go_wp2_with (first
        | (refine sv_load hS 6 (by rfl) 75 (.tmp 7) (by rfl) g7 (by rfl) _ 75 rfl _ Tryd.underlying75 rfl size75 ?_; (simp only [Act.put, List.setIfInBounds_toArray, List.set_cons_zero, List.set_cons_succ]))
        | (refine sv_load hS 1 (by rfl) 75 (.tmp 14) (by rfl) g14 (by rfl) _ 75 rfl _ Tryd.underlying75 rfl size75 ?_; (simp only [Act.put, List.setIfInBounds_toArray, List.set_cons_zero, List.set_cons_succ])))
    have hc := sv_join hS 6 1 x bc ax abc cx cbc rfl rfl NX NBC KX.out KBC.out
    rw [HJrr.out] at hc
    refine hc.mono ?_
    rintro e w1 ⟨arr, crr, rfl, hS1⟩
    clear hc hS
    have hS := hS1
    clear hS1
    go_upto_region 11 with (first
        | (refine sv_alloc hS (by rfl) 75 (by rfl) _ zero75 (by decide) ?_; clear hS; intro g18 w1 hS; (simp only [Act.put, List.setIfInBounds_toArray, List.set_cons_zero, List.set_cons_succ]))
        | (refine sv_store hS 0 (by rfl) 75 (.tmp 18) (.tmp 70) (by rfl) g18 (by rfl) (rcRow rr arr rr.votes.length crr) (by rfl) _ 75 rfl size75 rfl (one_rcRow _ _ _ _) ?_; clear hS; intro w1 hS; (simp only [List.set_cons_zero] at hS); (simp only [Act.put])))
    go_wp2_with (first
        | (refine sv_load hS 7 (by rfl) 75 (.tmp 7) (by rfl) g7 (by rfl) _ 75 rfl _ Tryd.underlying75 rfl size75 ?_; (simp only [Act.put, List.setIfInBounds_toArray, List.set_cons_zero, List.set_cons_succ])))
    have hc := sv_join hS 7 7 x x ax ax cx cx rfl rfl NX NX KX.out KX.out
    rw [HJaa.out] at hc
    refine hc.mono ?_
    rintro e w1 ⟨aaa, caa, rfl, hS1⟩
    clear hc hS
    have hS := hS1
    clear hS1
    go_upto_region 12 with (first
        | (refine sv_alloc hS (by rfl) 75 (by rfl) _ zero75 (by decide) ?_; clear hS; intro g20 w1 hS; (simp only [Act.put, List.setIfInBounds_toArray, List.set_cons_zero, List.set_cons_succ]))
        | (refine sv_store hS 0 (by rfl) 75 (.tmp 20) (.tmp 76) (by rfl) g20 (by rfl) (rcRow aa aaa aa.votes.length caa) (by rfl) _ 75 rfl size75 rfl (one_rcRow _ _ _ _) ?_; clear hS; intro w1 hS; (simp only [List.set_cons_zero] at hS); (simp only [Act.put])))
    go_upto_region 14 with fail
    go_wp2_with (first
        | (refine sv_load hS 5 (by rfl) 75 (.tmp 10) (by rfl) g10 (by rfl) _ 75 rfl _ Tryd.underlying75 rfl size75 ?_; (simp only [Act.put, List.setIfInBounds_toArray, List.set_cons_zero, List.set_cons_succ]))
        | (refine sv_load hS 4 (by rfl) 75 (.tmp 12) (by rfl) g12 (by rfl) _ 75 rfl _ Tryd.underlying75 rfl size75 ?_; (simp only [Act.put, List.setIfInBounds_toArray, List.set_cons_zero, List.set_cons_succ])))
    have hc := sv_same hS 5 4 ab ba aab aba cab cba rfl rfl
    rw [S1.out] at hc
    refine hc.mono ?_
    rintro e w1 ⟨rfl, hS1⟩
    clear hc hS
    have hS := hS1
    clear hS1
    go_wp2_with (first
        | (refine sv_load hS 2 (by rfl) 75 (.tmp 16) (by rfl) g16 (by rfl) _ 75 rfl _ Tryd.underlying75 rfl size75 ?_; (simp only [Act.put, List.setIfInBounds_toArray, List.set_cons_zero, List.set_cons_succ]))
        | (refine sv_load hS 1 (by rfl) 75 (.tmp 18) (by rfl) g18 (by rfl) _ 75 rfl _ Tryd.underlying75 rfl size75 ?_; (simp only [Act.put, List.setIfInBounds_toArray, List.set_cons_zero, List.set_cons_succ])))
    have hc := sv_same hS 2 1 l rr al arr cl crr rfl rfl
    rw [S2.out] at hc
    refine hc.mono ?_
    rintro e w1 ⟨rfl, hS1⟩
    clear hc hS
    have hS := hS1
    clear hS1
    go_wp2_with (first
        | (refine sv_load hS 0 (by rfl) 75 (.tmp 20) (by rfl) g20 (by rfl) _ 75 rfl _ Tryd.underlying75 rfl size75 ?_; (simp only [Act.put, List.setIfInBounds_toArray, List.set_cons_zero, List.set_cons_succ]))
        | (refine sv_load hS 8 (by rfl) 75 (.tmp 7) (by rfl) g7 (by rfl) _ 75 rfl _ Tryd.underlying75 rfl size75 ?_; (simp only [Act.put, List.setIfInBounds_toArray, List.set_cons_zero, List.set_cons_succ])))
    have hc := sv_same hS 0 8 aa x aaa ax caa cx rfl rfl
    rw [S3.out] at hc
    refine hc.mono ?_
    rintro e w1 ⟨rfl, hS1⟩
    clear hc hS
    have hS := hS1
    clear hS1
    go_wp2_with (first
        | (refine sv_load hS 8 (by rfl) 75 (.tmp 7) (by rfl) g7 (by rfl) _ 75 rfl _ Tryd.underlying75 rfl size75 ?_; (simp only [Act.put, List.setIfInBounds_toArray, List.set_cons_zero, List.set_cons_succ]))
        | (refine sv_load hS 5 (by rfl) 75 (.tmp 10) (by rfl) g10 (by rfl) _ 75 rfl _ Tryd.underlying75 rfl size75 ?_; (simp only [Act.put, List.setIfInBounds_toArray, List.set_cons_zero, List.set_cons_succ])))
    have hc := sv_within hS 8 5 x ab ax aab cx cab rfl rfl NX NAB
    rw [V1.out] at hc
    refine hc.mono ?_
    rintro e w1 ⟨rfl, hS1⟩
    clear hc hS
    have hS := hS1
    clear hS1
    go_wp2_with (first
        | (refine sv_load hS 7 (by rfl) 75 (.tmp 8) (by rfl) g8 (by rfl) _ 75 rfl _ Tryd.underlying75 rfl size75 ?_; (simp only [Act.put, List.setIfInBounds_toArray, List.set_cons_zero, List.set_cons_succ]))
        | (refine sv_load hS 5 (by rfl) 75 (.tmp 10) (by rfl) g10 (by rfl) _ 75 rfl _ Tryd.underlying75 rfl size75 ?_; (simp only [Act.put, List.setIfInBounds_toArray, List.set_cons_zero, List.set_cons_succ])))
    have hc := sv_within hS 7 5 y ab ay aab cy cab rfl rfl NY NAB
    rw [V2.out] at hc
    refine hc.mono ?_
    rintro e w1 ⟨rfl, hS1⟩
    clear hc hS
    have hS := hS1
    clear hS1
    go_wp2_with (first
        | (refine sv_load hS 2 (by rfl) 75 (.tmp 16) (by rfl) g16 (by rfl) _ 75 rfl _ Tryd.underlying75 rfl size75 ?_; (simp only [Act.put, List.setIfInBounds_toArray, List.set_cons_zero, List.set_cons_succ])))
    have hc := sv_right hS 2 l al cl rfl NL
    rw [KL.out] at hc
    refine hc.mono ?_
    rintro e w1 ⟨rfl, hS1⟩
    clear hc hS
    have hS := hS1
    clear hS1
    go_upto_region 16 with fail
    have q1 := cell_gen (hS.st.row 5 rfl)
    have q2 := cell_gen (hS.st.row 8 rfl)
    have q3 := cell_life (hS.st.row 5 rfl)
    have q4 := cell_life (hS.st.row 8 rfl)
    have q5 := cell_done (hS.st.row 5 rfl)
    have q6 := cell_done (hS.st.row 8 rfl)
    have e1 : decide (x.gen ≤ ab.gen) = true := decide_eq_true U1.out
    rcases U2.out with u | ⟨u, u3⟩
    · have e2 : decide (x.gen < ab.gen) = true := decide_eq_true u
      clear u
      go_wp2_with fail
      have hc := sv_known hS
      refine hc.mono ?_
      rintro e w1 ⟨rfl, hS1⟩
      clear hc hS
      have hS := hS1
      clear hS1
      go_wp2_with fail
      have HB := hS.st.below
      go_ret
      exact ⟨rfl, HB⟩
    · have e3 : decide (x.life ≤ ab.life) = true := decide_eq_true u
      have e4 : (bits BinOp.and .i64 ab.done x.done == x.done) = true := by rw [u3]; exact beq_self_eq_true _
      clear u u3
      by_cases u : x.gen < ab.gen
      · have e2 : decide (x.gen < ab.gen) = true := decide_eq_true u
        clear u
        go_wp2_with fail
        have hc := sv_known hS
        refine hc.mono ?_
        rintro e w1 ⟨rfl, hS1⟩
        clear hc hS
        have hS := hS1
        clear hS1
        go_wp2_with fail
        have HB := hS.st.below
        go_ret
        exact ⟨rfl, HB⟩
      · have e2 : decide (x.gen < ab.gen) = false := decide_eq_false u
        clear u
        go_wp2_with fail
        have hc := sv_known hS
        refine hc.mono ?_
        rintro e w1 ⟨rfl, hS1⟩
        clear hc hS
        have hS := hS1
        clear hS1
        go_wp2_with fail
        have HB := hS.st.below
        go_ret
        exact ⟨rfl, HB⟩
end Go.Proofs.YtniejpfjbifjkaaDoor.lifeGrows
