/- MaglevScaled walked. -/
import Derived.Test.YtniejpfjbifjkaaDoorMw
import Derived.Test.YtniejpfjbifjkaaDoorLMaglevDull
import Derived.Deep.AppendLies
import Derived.Deep.RegionLaw
namespace Go.Proofs.YtniejpfjbifjkaaDoor
open Go.RowKit Fl

/-- the first k, twice as great. -/
structure Twi (l : List (Int × Nat)) (k : Nat) (m : List (Int × Nat)) : Prop where
  len : m.length = k
  c : cs m = dbl (cs (l.take k))
  ok : ∀ e ∈ cs (l.take k), okc e.2
  bnd : ∀ i, i < k → (m.getD i ent0).2 < B64
theorem Twi.start (l : List (Int × Nat)) : Twi l 0 [] := ⟨rfl, rfl, by simp [cs], fun i hi => by omega⟩
theorem Twi.step {l m : List (Int × Nat)} {k r : Nat} (h : Twi l k m) (hk : k < l.length) (hd : DB (l.getD k ent0).2 r) : Twi l (k + 1) (m ++ [((l.getD k ent0).1, r)]) := by
  have ht := take_succ_ent l k hk
  refine ⟨by simp [h.len], ?_, ?_, ?_⟩
  · rw [ht]
    unfold cs dbl
    rw [List.map_append, List.map_append, List.map_append]
    have := h.c
    unfold cs dbl at this
    rw [this]
    simp only [List.map_cons, List.map_nil]
    rw [hd.2.2]
  · rw [ht]
    intro e he
    unfold cs at he
    rw [List.map_append] at he
    rcases List.mem_append.1 he with h1 | h1
    · exact h.ok e h1
    · simp at h1; rw [h1]; exact hd.2.1
  · intro i hi
    rcases (show i < k ∨ i = k by omega) with h1 | h1
    · have : (m ++ [((l.getD k ent0).1, r)]).getD i ent0 = m.getD i ent0 := by
        simp only [List.getD]
        rw [List.getElem?_append_left (by rw [h.len]; exact h1)]
      rw [this]; exact h.bnd i h1
    · subst h1
      have : (m ++ [((l.getD i ent0).1, r)]).getD i ent0 = ((l.getD i ent0).1, r) := by
        simp only [List.getD]
        rw [List.getElem?_append_right (by rw [h.len]; exact Nat.le_refl _), h.len]
        simp
      rw [this]; exact hd.1

namespace maglevScaled
set_option maxRecDepth 100000 in
set_option maxHeartbeats 4000000 in
theorem walk (a : Option Addr) (l : List (Int × Nat)) (ca : Nat) (slots : Int) (w : World) (hx : Ens w a l) (_ : ∀ x ∈ l, -9223372036854775808 ≤ x.1 ∧ x.1 ≤ 9223372036854775807) (_ : l.length * 16 ≤ 140737488351232)
    (hs : -9223372036854775808 ≤ slots ∧ slots ≤ 9223372036854775807) (hl : Laid w) (hpos : 0 < w.heap.size) :
    Calls Tryd.prog 14 #[.slice a l.length ca, .int .i64 slots] w fun e w' => e = .returned (.bool true) ∧ Below w.heap.size w w' := by
  have hm := hx.1
  have hf := fun W => fewC slots W hs
  obtain ⟨h1, h2, h3⟩ := few_ok slots
  generalize fewN slots = n at *
  have HX := Lib.hid hx
  have HL := Lib.hid hl
  have HN := Lib.hid h1
  clear hx hl hs h1
  go_enter Tryd.func14, Tryd.ntmps14
  go_wp2_with fail
  refine (hf _).mono ?_
  rintro e w1 ⟨rfl, hb1⟩
  have HB1 := Lib.hid hb1
  clear hf hb1
  have HT0 := Lib.hid (Twi.start l)
  go_wp2_with fail
  go_loopw [5, 6] (fun v i wr => ∃ (a5 : Option Addr) (c5 k : Nat) (m : List (Int × Nat)), k ≤ l.length ∧ i = .int .i64 k ∧ v = .slice a5 k c5 ∧ wr.ownsRow w.heap.size 52 2 v k (ents m) ∧ Below w.heap.size w wr ∧ Hid (Twi l k m)) (fun _ i _ => l.length - (intOf i).toNat)
  case atStart => exact ⟨none, 0, 0, [], Nat.zero_le _, rfl, rfl, World.ownsRow_nil _ _ _ _, HB1.out, HT0⟩
  case round =>
    clear HB1 HT0
    obtain ⟨a5, c5, k, m, hk, rfl, rfl, hO, hB, HT⟩ := hrel
    by_cases hlt : k < l.length
    · have he5 := HX.out.below hB
      obtain ⟨b1, o1, rfl, e1, e2⟩ := he5.2.2 k hlt
      have hy := he5.2.1 k hlt
      have hkn := known10C wr (HL.out.below hB hpos) (by have := hB.size; omega)
      have htw := fun r => HT.out.step (r := r) hlt
      have HTW := Lib.hid htw
      have HBB := Lib.hid hB
      clear he5 htw
      generalize (l.getD k ent0).2 = y at *
      generalize (l.getD k ent0).1 = x at *
      by_cases g1 : gtF y 9094988921128908188 = true
      · clear hO hB
        go_wp2_with fail
        refine hkn.mono ?_
        rintro e w6 ⟨rfl, hb6⟩
        go_wp2_with fail
        go_ret
        exact ⟨rfl, below_trans' HBB.out hb6⟩
      have g1' : gtF y 9094988921128908188 = false := by simpa using g1
      by_cases g23 : gtF y 0 = true ∧ ltF y 118622047889322841 = true
      · obtain ⟨g2, g3⟩ := g23
        clear hO hB
        go_wp2_with fail
        refine hkn.mono ?_
        rintro e w6 ⟨rfl, hb6⟩
        go_wp2_with fail
        go_ret
        exact ⟨rfl, below_trans' HBB.out hb6⟩
      have hw2 := twice hy g1' (fun h => by
        cases h4 : ltF y 118622047889322841
        · rfl
        · exact absurd ⟨h, h4⟩ g23)
      have hg : (gtF y 0 = true ∧ ltF y 118622047889322841 = false) ∨ gtF y 0 = false := by
        cases g2 : gtF y 0
        · exact .inr rfl
        · left
          refine ⟨rfl, ?_⟩
          cases h4 : ltF y 118622047889322841
          · rfl
          · exact absurd ⟨g2, h4⟩ g23
      clear g1 g23
      rcases hw2 with ⟨hn, ho⟩ | ⟨r, hr, hd⟩
      · have hmul := fun t (W : World) => run_mul_nan (P := Tryd.prog) hn t W
        have HT2 := Lib.hid (HTW.out _ (DB.nan ho (nan2_nan y wr.drew)))
        clear hn ho
        have hmul2 := fun t => hmul t wr.drew
        clear hmul
        generalize nan2 y wr.drew = r at *
        have hmul := hmul2
        clear hmul2
        rcases hg with ⟨g2, g3⟩ | g2
        · obtain ⟨i0, hi, hz0, hz1, hz2⟩ := info_parts info52
          have hHO := (hO.drew.drew).alloc (.cells #[.int .i64 x, .float .f64 r] 52)
          have hbs := hB.size
          have hbm : Below w.heap.size w (wr.drew.drew.alloc (.cells #[.int .i64 x, .float .f64 r] 52)) := hB.drew.drew.alloc hbs _
          have hnew : ∀ j u, ([.int .i64 x, .float .f64 r] : List Value)[j]? = some u → (wr.drew.drew.alloc (.cells #[.int .i64 x, .float .f64 r] 52)).cell? ((⟨wr.heap.size, 0, none⟩ : Addr).add j) = some u :=
            World.news_of_block (cs := #[.int .i64 x, .float .f64 r]) (heap_alloc_new wr.drew.drew _)
          have hlt2 := fun j hj => (hO.lt j hj).1
          have HLT := Lib.hid hlt2
          have hes := ents_snoc m (x, r)
          have HES := Lib.hid hes
          clear hlt2 hes hkn hy hO
          go_upto_region 9 with fail
          go_region_law (refine step_append_lies _ rfl (.tmp 36) (.tmp 49) 45 rfl w.heap.size 52 i0 _ 2 16 Tryd.underlying45 hi hz0 hz1 hz2 rfl (by decide) (.slice a5 k c5) k _ (by simp [Act.eval]) hHO ⟨wr.heap.size, 0, none⟩ 1 1 [.int .i64 x, .float .f64 r] (by simp [Act.eval]) rfl hnew (by intro u hu; simp at hu; rcases hu with rfl | rfl <;> rfl) (by decide) (by unfold maxLen; omega) (by omega) (by simp; omega) _ rfl ?_; intro g cap w3 h3 hg3 _ _)
          all_goals have hb3 : Below w.heap.size w w3 := hbm.grown hg3 (by simp; omega) HLT.out
          all_goals rw [← HES.out] at h3
          all_goals clear hbm hg3 hHO hB hbs hi hz0 hz1 hz2 hnew e1 e2 hmul
          all_goals go_wp2
          all_goals go_roundw
          all_goals first | exact ⟨some ⟨g, 0, none⟩, cap, k + 1, _, by omega, by go_num, rfl, h3, hb3, HT2⟩ | (simp [intOf]; omega)
        · obtain ⟨i0, hi, hz0, hz1, hz2⟩ := info_parts info52
          have hHO := (hO.drew.drew).alloc (.cells #[.int .i64 x, .float .f64 r] 52)
          have hbs := hB.size
          have hbm : Below w.heap.size w (wr.drew.drew.alloc (.cells #[.int .i64 x, .float .f64 r] 52)) := hB.drew.drew.alloc hbs _
          have hnew : ∀ j u, ([.int .i64 x, .float .f64 r] : List Value)[j]? = some u → (wr.drew.drew.alloc (.cells #[.int .i64 x, .float .f64 r] 52)).cell? ((⟨wr.heap.size, 0, none⟩ : Addr).add j) = some u :=
            World.news_of_block (cs := #[.int .i64 x, .float .f64 r]) (heap_alloc_new wr.drew.drew _)
          have hlt2 := fun j hj => (hO.lt j hj).1
          have HLT := Lib.hid hlt2
          have hes := ents_snoc m (x, r)
          have HES := Lib.hid hes
          clear hlt2 hes hkn hy hO
          go_upto_region 9 with fail
          go_region_law (refine step_append_lies _ rfl (.tmp 36) (.tmp 49) 45 rfl w.heap.size 52 i0 _ 2 16 Tryd.underlying45 hi hz0 hz1 hz2 rfl (by decide) (.slice a5 k c5) k _ (by simp [Act.eval]) hHO ⟨wr.heap.size, 0, none⟩ 1 1 [.int .i64 x, .float .f64 r] (by simp [Act.eval]) rfl hnew (by intro u hu; simp at hu; rcases hu with rfl | rfl <;> rfl) (by decide) (by unfold maxLen; omega) (by omega) (by simp; omega) _ rfl ?_; intro g cap w3 h3 hg3 _ _)
          all_goals have hb3 : Below w.heap.size w w3 := hbm.grown hg3 (by simp; omega) HLT.out
          all_goals rw [← HES.out] at h3
          all_goals clear hbm hg3 hHO hB hbs hi hz0 hz1 hz2 hnew e1 e2 hmul
          all_goals go_wp2
          all_goals go_roundw
          all_goals first | exact ⟨some ⟨g, 0, none⟩, cap, k + 1, _, by omega, by go_num, rfl, h3, hb3, HT2⟩ | (simp [intOf]; omega)
      · have hmul := fun t (W : World) => run_mul_some (P := Tryd.prog) hr t W
        have HT2 := Lib.hid (HTW.out r hd)
        clear hr hd
        rcases hg with ⟨g2, g3⟩ | g2
        · obtain ⟨i0, hi, hz0, hz1, hz2⟩ := info_parts info52
          have hHO := (hO.drew).alloc (.cells #[.int .i64 x, .float .f64 r] 52)
          have hbs := hB.size
          have hbm : Below w.heap.size w (wr.drew.alloc (.cells #[.int .i64 x, .float .f64 r] 52)) := hB.drew.alloc hbs _
          have hnew : ∀ j u, ([.int .i64 x, .float .f64 r] : List Value)[j]? = some u → (wr.drew.alloc (.cells #[.int .i64 x, .float .f64 r] 52)).cell? ((⟨wr.heap.size, 0, none⟩ : Addr).add j) = some u :=
            World.news_of_block (cs := #[.int .i64 x, .float .f64 r]) (heap_alloc_new wr.drew _)
          have hlt2 := fun j hj => (hO.lt j hj).1
          have HLT := Lib.hid hlt2
          have hes := ents_snoc m (x, r)
          have HES := Lib.hid hes
          clear hlt2 hes hkn hy hO
          go_upto_region 9 with fail
          go_region_law (refine step_append_lies _ rfl (.tmp 36) (.tmp 49) 45 rfl w.heap.size 52 i0 _ 2 16 Tryd.underlying45 hi hz0 hz1 hz2 rfl (by decide) (.slice a5 k c5) k _ (by simp [Act.eval]) hHO ⟨wr.heap.size, 0, none⟩ 1 1 [.int .i64 x, .float .f64 r] (by simp [Act.eval]) rfl hnew (by intro u hu; simp at hu; rcases hu with rfl | rfl <;> rfl) (by decide) (by unfold maxLen; omega) (by omega) (by simp; omega) _ rfl ?_; intro g cap w3 h3 hg3 _ _)
          all_goals have hb3 : Below w.heap.size w w3 := hbm.grown hg3 (by simp; omega) HLT.out
          all_goals rw [← HES.out] at h3
          all_goals clear hbm hg3 hHO hB hbs hi hz0 hz1 hz2 hnew e1 e2 hmul
          all_goals go_wp2
          all_goals go_roundw
          all_goals first | exact ⟨some ⟨g, 0, none⟩, cap, k + 1, _, by omega, by go_num, rfl, h3, hb3, HT2⟩ | (simp [intOf]; omega)
        · obtain ⟨i0, hi, hz0, hz1, hz2⟩ := info_parts info52
          have hHO := (hO.drew).alloc (.cells #[.int .i64 x, .float .f64 r] 52)
          have hbs := hB.size
          have hbm : Below w.heap.size w (wr.drew.alloc (.cells #[.int .i64 x, .float .f64 r] 52)) := hB.drew.alloc hbs _
          have hnew : ∀ j u, ([.int .i64 x, .float .f64 r] : List Value)[j]? = some u → (wr.drew.alloc (.cells #[.int .i64 x, .float .f64 r] 52)).cell? ((⟨wr.heap.size, 0, none⟩ : Addr).add j) = some u :=
            World.news_of_block (cs := #[.int .i64 x, .float .f64 r]) (heap_alloc_new wr.drew _)
          have hlt2 := fun j hj => (hO.lt j hj).1
          have HLT := Lib.hid hlt2
          have hes := ents_snoc m (x, r)
          have HES := Lib.hid hes
          clear hlt2 hes hkn hy hO
          go_upto_region 9 with fail
          go_region_law (refine step_append_lies _ rfl (.tmp 36) (.tmp 49) 45 rfl w.heap.size 52 i0 _ 2 16 Tryd.underlying45 hi hz0 hz1 hz2 rfl (by decide) (.slice a5 k c5) k _ (by simp [Act.eval]) hHO ⟨wr.heap.size, 0, none⟩ 1 1 [.int .i64 x, .float .f64 r] (by simp [Act.eval]) rfl hnew (by intro u hu; simp at hu; rcases hu with rfl | rfl <;> rfl) (by decide) (by unfold maxLen; omega) (by omega) (by simp; omega) _ rfl ?_; intro g cap w3 h3 hg3 _ _)
          all_goals have hb3 : Below w.heap.size w w3 := hbm.grown hg3 (by simp; omega) HLT.out
          all_goals rw [← HES.out] at h3
          all_goals clear hbm hg3 hHO hB hbs hi hz0 hz1 hz2 hnew e1 e2 hmul
          all_goals go_wp2
          all_goals go_roundw
          all_goals first | exact ⟨some ⟨g, 0, none⟩, cap, k + 1, _, by omega, by go_num, rfl, h3, hb3, HT2⟩ | (simp [intOf]; omega)
    · have hk' : k = l.length := by omega
      have ht := HT.out
      subst hk'
      have hsc := scaled (k := m) HN.out (by have := ht.c; rw [List.take_length] at this; exact this) (by have := ht.ok; rw [List.take_length] at this; exact this)
      have hml := ht.len
      have hmb := ht.bnd
      have hO' : wr.ownsRow w.heap.size 52 2 (.slice a5 m.length c5) m.length (ents m) := by rw [hml]; exact hO
      obtain ⟨a8, c8, he8, hes⟩ := Ens.owned hO' (by omega) (fun i hi => hmb i (by omega))
      cases he8
      have he5 := HX.out.below hB
      have HBB := Lib.hid hB
      have HSC := Lib.hid hsc
      have hgl := givenE l a ca wr he5
      have hgm := fun W he => givenE m a5 c5 W he
      have hbm := fun W a c he hl hp => buildI m a c n W he ⟨by omega, by omega⟩ hl hp
      rw [hml] at hgm hbm
      rw [hsc.1, hsc.2] at hbm
      clear hO hO' hB hsc ht hmb he5 hml
      generalize hbt : bTab l n = tb at *
      generalize hbe : bErr l n = er at *
      have HBT := Lib.hid hbt
      have HBE := Lib.hid hbe
      clear hbt hbe
      go_wp2_with fail
      refine hgl.mono ?_
      rintro e w6 ⟨a9, c9, rfl, he6, hb6⟩
      have hes6 := hes.below hb6
      have hB6 := below_trans' HBB.out hb6
      have hbl := buildI l a9 c9 n w6 he6 ⟨by omega, by omega⟩ (HL.out.below hB6 hpos) (by have := hB6.size; omega)
      rw [HBT.out, HBE.out] at hbl
      clear hgl hes hb6 he6
      go_wp2_with fail
      refine hbl.mono ?_
      rintro e w7 ⟨a10, c10, rfl, hi7, hb7⟩
      have hes7 := hes6.below hb7
      have hB7 := below_trans' hB6 hb7
      clear hbl hes6 hB6 hb7
      go_wp2_with fail
      refine (hgm w7 hes7).mono ?_
      rintro e w8 ⟨a11, c11, rfl, hes8, hb8⟩
      have hi8 := hi7.below hb8
      have hB8 := below_trans' hB7 hb8
      clear hgm hes7 hi7 hB7 hb8
      have hbm2 := hbm w8 a11 c11 hes8 (HL.out.below hB8 hpos) (by have := hB8.size; omega)
      clear hbm
      go_wp2_with fail
      refine hbm2.mono ?_
      rintro e w9 ⟨a12, c12, rfl, hi9, hb9⟩
      have hi89 := hi8.below hb9
      have hB9 := below_trans' hB8 hb9
      clear hbm2 hes8 hi8 hB8 hb9
      go_wp2_with fail
      refine (rsame43C _ _ _ _ _ _ _ hi89 hi9).mono ?_
      rintro e w10 ⟨rfl, q, rfl⟩
      rw [decide_eq_true rfl]
      have hB10 := below_drewN hB9 q
      clear hi89 hi9 hB9
      generalize w9.drewN q = w10 at *
      go_wp2_with fail
      refine (known10C w10 (HL.out.below hB10 hpos) (by have := hB10.size; omega)).mono ?_
      rintro e w11 ⟨rfl, hb11⟩
      have hB11 := below_trans' hB10 hb11
      clear hB10 hb11
      go_wp2_with fail
      go_ret
      exact ⟨rfl, hB11⟩
end maglevScaled
end Go.Proofs.YtniejpfjbifjkaaDoor
