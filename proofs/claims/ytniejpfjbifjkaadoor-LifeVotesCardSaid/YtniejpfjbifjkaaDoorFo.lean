/- Records and votes that came in, opened. -/
import Derived.Test.YtniejpfjbifjkaaDoorFr
import Derived.Test.YtniejpfjbifjkaaDoorLzq
import Derived.Deep.SlicePairs
namespace Go.Proofs.YtniejpfjbifjkaaDoor
open Go.ChangeShapes Go.WideShapes Go.ChangeAt Go.RowKit Fl

theorem cells71 : Tryd.prog.cellsOf 71 = 24 := by kernel_rfl
theorem cells68 : Tryd.prog.cellsOf 68 = 20 := by kernel_rfl
theorem cells66 : Tryd.prog.cellsOf 66 = 17 := by kernel_rfl
theorem cells64 : Tryd.prog.cellsOf 64 = 16 := by kernel_rfl
theorem cells69 : Tryd.prog.cellsOf 69 = 1 := by kernel_rfl
theorem cells89 : Tryd.prog.cellsOf 89 = 2 := by kernel_rfl
theorem cells2 : Tryd.prog.cellsOf 2 = 1 := by kernel_rfl
theorem cells4 : Tryd.prog.cellsOf 4 = 1 := by kernel_rfl
theorem cells5 : Tryd.prog.cellsOf 5 = 1 := by kernel_rfl
theorem bytes89 : Tryd.prog.bytesOf 89 = 16 := by kernel_rfl
theorem list24 : ∀ (l : List Value), l.length = 24 → ∃ c0 c1 c2 c3 c4 c5 c6 c7 c8 c9 c10 c11 c12 c13 c14 c15 c16 c17 c18 c19 c20 c21 c22 c23, l = [c0, c1, c2, c3, c4, c5, c6, c7, c8, c9, c10, c11, c12, c13, c14, c15, c16, c17, c18, c19, c20, c21, c22, c23]
  | [c0, c1, c2, c3, c4, c5, c6, c7, c8, c9, c10, c11, c12, c13, c14, c15, c16, c17, c18, c19, c20, c21, c22, c23], _ => ⟨c0, c1, c2, c3, c4, c5, c6, c7, c8, c9, c10, c11, c12, c13, c14, c15, c16, c17, c18, c19, c20, c21, c22, c23, rfl⟩
section
variable {H : Type} {enc : TypeId × Value → H} {W : World}
theorem some_at {α : Type} {l : List α} {n i : Nat} (h : l.length = n) (hi : i < n) : ∃ y, l[i]? = some y := ⟨l[i], by simp⟩
set_option maxRecDepth 100000 in
/-- a slice of votes that came in. -/
theorem open_vts {n : Nat} {c : Value} {x : DataW H × List MemPlace} (hf : DataW.trod enc Tryd.prog W 0 (fun _ => true) true n 69 [c] = some x) (hsz : ∀ k ∈ x.1.weights Tryd.prog 69, k ≤ reachBytes) :
    ∃ a l cap, c = .slice a l.length cap ∧ Vts W a l := by
  rcases Deep.open_slice_pairs (cs := [c]) Tryd.underlying69 Tryd.underlying89 cells89 rfl rfl cells2 cells4 hf with ⟨h1, _⟩ | ⟨a, len, cap, m, n, V0, V1, D0, D1, P0, P1, h1, _, hl, hm, hmm, hx, hcell⟩
  · simp only [List.cons.injEq, and_true] at h1
    subst h1
    exact ⟨none, [], 0, rfl, by simp, fun i hi => by simp at hi⟩
  · simp only [List.cons.injEq, and_true] at h1
    subst h1
    simp only [if_true] at hmm
    subst hmm
    have hV : ∀ i, i < len → ∃ b : Int × Bool, V0 i = .int .i64 b.1 ∧ V1 i = .bool b.2 := by
      intro i hi
      obtain ⟨_, _, ht0, ht1⟩ := hcell i (by omega)
      obtain ⟨b, hb, _, _⟩ := DataW.trod_int Tryd.underlying2 ht0
      obtain ⟨c, hc, _⟩ := DataW.trod_bool Tryd.underlying4 ht1
      simp only [List.cons.injEq, and_true] at hb hc
      exact ⟨(b, c), hb, hc⟩
    obtain ⟨f, hfn⟩ := Deep.choose_lt hV
    have hget : ∀ i, i < len → ((List.range len).map f).getD i vt0 = f i := by
      intro i hi; simp [List.getD, hi]
    have hbound : len * 16 ≤ 140737488351232 := by
      have h2 := hsz ((((List.range len).map fun i => (.agg [D0 i, D1 i] : DataW H)).length + ((List.range (m - len)).map fun j => (.agg [D0 (len + j), D1 (len + j)] : DataW H)).length) * Tryd.prog.bytesOf 89) (by
        rw [hx]; simp [DataW.weights, Tryd.underlying69])
      rw [bytes89] at h2
      simp at h2
      have h3 : reachBytes = 140737488351232 := rfl
      omega
    refine ⟨some a, (List.range len).map f, m, by simp, ?_, ?_⟩
    · simp; omega
    · intro i hi
      simp at hi
      have hc0 := (hcell 0 (by omega)).1
      rw [show a.add (0 * 2) = a from rfl] at hc0
      have hsp : a.spot = none := by
        cases hs : a.spot with
        | none => rfl
        | some _ => simp [World.cell?, hs] at hc0; split at hc0 <;> simp_all
      have hc1 := (hcell i (by omega)).1
      have hc2 := (hcell i (by omega)).2.1
      rw [(hfn i hi).1] at hc1
      rw [(hfn i hi).2] at hc2
      have hadd : ∀ j, a.add j = ⟨a.block, a.off + j, none⟩ := by
        intro j
        cases a with
        | mk b o s =>
          simp only at hsp; subst hsp
          unfold Addr.add; split <;> simp_all
      rw [hadd] at hc1 hc2
      refine ⟨a.block, a.off, by cases a; simp_all, ?_, ?_⟩
      · rw [hget i hi]; exact hc1
      · rw [hget i hi]; exact hc2
theorem wf_u8 {n : Int} (h : (Lit.int .u8 n).wf = true) : 0 ≤ n ∧ n < 256 := by
  simp only [Lit.wf, Bool.and_eq_true, decide_eq_true_eq] at h
  have h1 : IntKind.u8.min = 0 := rfl
  have h2 : IntKind.u8.max = 255 := rfl
  omega
set_option maxRecDepth 100000 in
set_option maxHeartbeats 4000000 in
/-- a record that came in. -/
theorem open_rec {r : Reach} {b0 : Nat} {v : Value} {d : DataW H} {p : List MemPlace} (hv : Value.okWide Tryd.prog W r b0 71 v) (h : DataW.Trod enc Tryd.prog W 0 (fun _ => true) true 71 v d p)
    (hsz : ∀ k ∈ d.weights Tryd.prog 71, k ≤ reachBytes) : ∃ a x c, v = recV x a x.votes.length c ∧ RcN x ∧ Vts W a x.votes := by
  obtain ⟨cs, rfl, hs⟩ := okWide_struct Tryd.underlying71 hv
  obtain ⟨l⟩ := cs
  obtain ⟨c0, c1, c2, c3, c4, c5, c6, c7, c8, c9, c10, c11, c12, c13, c14, c15, c16, c17, c18, c19, c20, c21, c22, c23, rfl⟩ := list24 l (hs.trans cells71)
  obtain ⟨fuel, hf⟩ := h
  obtain ⟨xs, n, _, hx, _, hlen, hg⟩ := DataW.trod_struct Tryd.underlying71 hf
  have g0 : DataW.trod enc Tryd.prog W 0 (fun _ => true) true n 2 (List.take (Tryd.prog.cellsOf 2) (List.drop 0 _)) = xs[0]? := hg 0 _ rfl
  rw [cells2] at g0
  change DataW.trod enc Tryd.prog W 0 (fun _ => true) true n 2 [c0] = _ at g0
  have g1 : DataW.trod enc Tryd.prog W 0 (fun _ => true) true n 3 (List.take (Tryd.prog.cellsOf 3) (List.drop 1 _)) = xs[1]? := hg 1 _ rfl
  rw [cells3] at g1
  change DataW.trod enc Tryd.prog W 0 (fun _ => true) true n 3 [c1] = _ at g1
  have g2 : DataW.trod enc Tryd.prog W 0 (fun _ => true) true n 68 (List.take (Tryd.prog.cellsOf 68) (List.drop 2 _)) = xs[2]? := hg 2 _ rfl
  rw [cells68] at g2
  change DataW.trod enc Tryd.prog W 0 (fun _ => true) true n 68 [c2, c3, c4, c5, c6, c7, c8, c9, c10, c11, c12, c13, c14, c15, c16, c17, c18, c19, c20, c21] = _ at g2
  have g3 : DataW.trod enc Tryd.prog W 0 (fun _ => true) true n 69 (List.take (Tryd.prog.cellsOf 69) (List.drop 22 _)) = xs[3]? := hg 3 _ rfl
  rw [cells69] at g3
  change DataW.trod enc Tryd.prog W 0 (fun _ => true) true n 69 [c22] = _ at g3
  have g4 : DataW.trod enc Tryd.prog W 0 (fun _ => true) true n 3 (List.take (Tryd.prog.cellsOf 3) (List.drop 23 _)) = xs[4]? := hg 4 _ rfl
  rw [cells3] at g4
  change DataW.trod enc Tryd.prog W 0 (fun _ => true) true n 3 [c23] = _ at g4
  obtain ⟨y0, e0⟩ := some_at (i := 0) hlen (by decide)
  obtain ⟨y1, e1⟩ := some_at (i := 1) hlen (by decide)
  obtain ⟨y2, e2⟩ := some_at (i := 2) hlen (by decide)
  obtain ⟨y3, e3⟩ := some_at (i := 3) hlen (by decide)
  obtain ⟨y4, e4⟩ := some_at (i := 4) hlen (by decide)
  rw [e0] at g0
  rw [e1] at g1
  rw [e2] at g2
  rw [e3] at g3
  rw [e4] at g4
  obtain ⟨gen, hgen, _, _⟩ := DataW.trod_int Tryd.underlying2 g0
  obtain ⟨life, hlife, _, _⟩ := DataW.trod_int Tryd.underlying3 g1
  obtain ⟨done, hdone, _, _⟩ := DataW.trod_int Tryd.underlying3 g4
  obtain ⟨a, vl, cap, hvo, hvts⟩ := open_vts (W := W) g3 (fun k hk => by
    refine hsz k ?_
    have hd := (Prod.ext_iff.1 hx).1
    simp only at hd
    rw [hd]
    simp only [DataW.weights, Tryd.underlying71]
    refine DataW.weights_mem_each (j := 3) (t := 69) rfl ?_ k hk
    rw [List.getElem?_map, e3]; rfl)
  obtain ⟨zs, n2, _, _, _, hlen2, hg2⟩ := DataW.trod_struct Tryd.underlying68 g2
  have k0 : DataW.trod enc Tryd.prog W 0 (fun _ => true) true n2 2 (List.take (Tryd.prog.cellsOf 2) (List.drop 0 _)) = zs[0]? := hg2 0 _ rfl
  rw [cells2] at k0
  change DataW.trod enc Tryd.prog W 0 (fun _ => true) true n2 2 [c2] = _ at k0
  have k1 : DataW.trod enc Tryd.prog W 0 (fun _ => true) true n2 3 (List.take (Tryd.prog.cellsOf 3) (List.drop 1 _)) = zs[1]? := hg2 1 _ rfl
  rw [cells3] at k1
  change DataW.trod enc Tryd.prog W 0 (fun _ => true) true n2 3 [c3] = _ at k1
  have k2 : DataW.trod enc Tryd.prog W 0 (fun _ => true) true n2 66 (List.take (Tryd.prog.cellsOf 66) (List.drop 2 _)) = zs[2]? := hg2 2 _ rfl
  rw [cells66] at k2
  change DataW.trod enc Tryd.prog W 0 (fun _ => true) true n2 66 [c4, c5, c6, c7, c8, c9, c10, c11, c12, c13, c14, c15, c16, c17, c18, c19, c20] = _ at k2
  have k3 : DataW.trod enc Tryd.prog W 0 (fun _ => true) true n2 22 (List.take (Tryd.prog.cellsOf 22) (List.drop 19 _)) = zs[3]? := hg2 3 _ rfl
  rw [cells22] at k3
  change DataW.trod enc Tryd.prog W 0 (fun _ => true) true n2 22 [c21] = _ at k3
  obtain ⟨z0, f0⟩ := some_at (i := 0) hlen2 (by decide)
  obtain ⟨z1, f1⟩ := some_at (i := 1) hlen2 (by decide)
  obtain ⟨z2, f2⟩ := some_at (i := 2) hlen2 (by decide)
  obtain ⟨z3, f3⟩ := some_at (i := 3) hlen2 (by decide)
  rw [f0] at k0
  rw [f1] at k1
  rw [f2] at k2
  rw [f3] at k3
  obtain ⟨st, hst, _, _⟩ := DataW.trod_int Tryd.underlying2 k0
  obtain ⟨by_, hby, _, _⟩ := DataW.trod_int Tryd.underlying3 k1
  obtain ⟨wt, hwt, _, hwf⟩ := trod_float Tryd.underlying22 k3
  obtain ⟨us, n3, _, _, _, hlen3, hg3⟩ := DataW.trod_struct Tryd.underlying66 k2
  have m0 : DataW.trod enc Tryd.prog W 0 (fun _ => true) true n3 4 (List.take (Tryd.prog.cellsOf 4) (List.drop 0 _)) = us[0]? := hg3 0 _ rfl
  rw [cells4] at m0
  change DataW.trod enc Tryd.prog W 0 (fun _ => true) true n3 4 [c4] = _ at m0
  have m1 : DataW.trod enc Tryd.prog W 0 (fun _ => true) true n3 64 (List.take (Tryd.prog.cellsOf 64) (List.drop 1 _)) = us[1]? := hg3 1 _ rfl
  rw [cells64] at m1
  change DataW.trod enc Tryd.prog W 0 (fun _ => true) true n3 64 [c5, c6, c7, c8, c9, c10, c11, c12, c13, c14, c15, c16, c17, c18, c19, c20] = _ at m1
  obtain ⟨u0, h0⟩ := some_at (i := 0) hlen3 (by decide)
  obtain ⟨u1, h1⟩ := some_at (i := 1) hlen3 (by decide)
  rw [h0] at m0
  rw [h1] at m1
  obtain ⟨v6, hv6, _⟩ := DataW.trod_bool Tryd.underlying4 m0
  obtain ⟨ws, n4, _, _, _, hlen4, hg4⟩ := DataW.trod_array Tryd.underlying64 m1
  have hb : ∀ i, i < 16 → ∃ b : Int, ([c5, c6, c7, c8, c9, c10, c11, c12, c13, c14, c15, c16, c17, c18, c19, c20] : List Value)[i]? = some (.int .u8 b) ∧ 0 ≤ b ∧ b < 256 := by
    intro i hi
    have := hg4 i hi
    obtain ⟨y, hy⟩ := some_at (i := i) hlen4 hi
    rw [hy, cells5, Nat.mul_one] at this
    obtain ⟨b, hb, _, hw⟩ := DataW.trod_int Tryd.underlying5 this
    refine ⟨b, ?_, wf_u8 hw⟩
    have h3 := congrArg (·[0]?) hb
    simpa [List.getElem?_take, List.getElem?_drop] using h3
  obtain ⟨f, hfb⟩ := Deep.choose_lt hb
  have hF : ∀ i, 0 ≤ (if i < 16 then f i else 0) ∧ (if i < 16 then f i else 0) < 256 := by
    intro i
    split
    · rename_i hi; exact (hfb i hi).2
    · omega
  simp only [List.cons.injEq, and_true] at hgen hlife hdone hst hby hwt hv6
  have q0 := (hfb 0 (by decide)).1
  have q1 := (hfb 1 (by decide)).1
  have q2 := (hfb 2 (by decide)).1
  have q3 := (hfb 3 (by decide)).1
  have q4 := (hfb 4 (by decide)).1
  have q5 := (hfb 5 (by decide)).1
  have q6 := (hfb 6 (by decide)).1
  have q7 := (hfb 7 (by decide)).1
  have q8 := (hfb 8 (by decide)).1
  have q9 := (hfb 9 (by decide)).1
  have q10 := (hfb 10 (by decide)).1
  have q11 := (hfb 11 (by decide)).1
  have q12 := (hfb 12 (by decide)).1
  have q13 := (hfb 13 (by decide)).1
  have q14 := (hfb 14 (by decide)).1
  have q15 := (hfb 15 (by decide)).1
  simp only [List.getElem?_cons_zero, List.getElem?_cons_succ, Option.some.injEq] at q0 q1 q2 q3 q4 q5 q6 q7 q8 q9 q10 q11 q12 q13 q14 q15
  subst hgen hlife hdone hst hby hwt hv6 hvo q0 q1 q2 q3 q4 q5 q6 q7 q8 q9 q10 q11 q12 q13 q14 q15
  exact ⟨a, ⟨gen, life, ⟨st, by_, v6, fun i => if i < 16 then f i else 0, wt⟩, vl, done⟩, cap, rfl, ⟨wf_B64 hwf, hF⟩, hvts⟩
set_option maxRecDepth 100000 in
/-- a vote that came in. -/
theorem open_vote {r : Reach} {b0 : Nat} {v : Value} {d : DataW H} {p : List MemPlace} (hv : Value.okWide Tryd.prog W r b0 89 v) (h : DataW.Trod enc Tryd.prog W 0 (fun _ => true) true 89 v d p) :
    ∃ x : Int × Bool, v = votV x ∧ -9223372036854775808 ≤ x.1 ∧ x.1 ≤ 9223372036854775807 := by
  obtain ⟨cs, rfl, hs⟩ := okWide_struct Tryd.underlying89 hv
  obtain ⟨l⟩ := cs
  obtain ⟨fuel, hf⟩ := h
  match l, hs.trans cells89 with
  | [c0, c1], _ =>
    obtain ⟨xs, n, _, hx, _, hlen, hg⟩ := DataW.trod_struct Tryd.underlying89 hf
    have g0 : DataW.trod enc Tryd.prog W 0 (fun _ => true) true n 2 (List.take (Tryd.prog.cellsOf 2) (List.drop 0 _)) = xs[0]? := hg 0 _ rfl
    rw [cells2] at g0
    change DataW.trod enc Tryd.prog W 0 (fun _ => true) true n 2 [c0] = _ at g0
    have g1 : DataW.trod enc Tryd.prog W 0 (fun _ => true) true n 4 (List.take (Tryd.prog.cellsOf 4) (List.drop 1 _)) = xs[1]? := hg 1 _ rfl
    rw [cells4] at g1
    change DataW.trod enc Tryd.prog W 0 (fun _ => true) true n 4 [c1] = _ at g1
    obtain ⟨y0, e0⟩ := some_at (i := 0) hlen (by decide)
    obtain ⟨y1, e1⟩ := some_at (i := 1) hlen (by decide)
    rw [e0] at g0
    rw [e1] at g1
    obtain ⟨b, hb, _, hw⟩ := DataW.trod_int Tryd.underlying2 g0
    obtain ⟨c, hc, _⟩ := DataW.trod_bool Tryd.underlying4 g1
    simp only [List.cons.injEq, and_true] at hb hc
    subst hb hc
    simp only [Lit.wf, Bool.and_eq_true, decide_eq_true_eq] at hw
    exact ⟨(b, c), rfl, hw⟩
end
end Go.Proofs.YtniejpfjbifjkaaDoor
