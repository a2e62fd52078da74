/- MaglevDull walked. -/
import Derived.Test.YtniejpfjbifjkaaDoorMv
import Derived.Test.YtniejpfjbifjkaaDoorLMaglevBuilds
namespace Go.Proofs.YtniejpfjbifjkaaDoor
open Go.RowKit Fl

theorem info52 : (Tryd.prog.info? 52).map (fun i => (i.zero, i.size, i.bytes)) = some (some (.agg #[.int .i64 0, .float .f64 0]), 2, 16) := by kernel_rfl
theorem take_succ_ent (l : List (Int × Nat)) (k : Nat) (h : k < l.length) : l.take (k + 1) = l.take k ++ [l.getD k ent0] := by
  rw [List.take_succ_eq_append_getElem h]; simp [List.getD, h]
theorem some_take_pos {l : List (Int × Nat)} {k : Nat} (h : k < l.length) (hc : 0 < cl (l.getD k ent0).2) : some' (l.take (k + 1)) = some' (l.take k) ++ [l.getD k ent0] := by
  unfold some'
  rw [take_succ_ent l k h, List.filter_append, List.filter_cons_of_pos (by simpa using hc)]; rfl
theorem some_take_neg {l : List (Int × Nat)} {k : Nat} (h : k < l.length) (hc : ¬ 0 < cl (l.getD k ent0).2) : some' (l.take (k + 1)) = some' (l.take k) := by
  unfold some'
  rw [take_succ_ent l k h, List.filter_append, List.filter_cons_of_neg (by simpa using hc)]; simp
theorem some_len (l : List (Int × Nat)) (k : Nat) : (some' (l.take k)).length ≤ k :=
  Nat.le_trans (List.length_filter_le _ _) (List.length_take_le _ _)
theorem ents_snoc (l : List (Int × Nat)) (e : Int × Nat) : ents (l ++ [e]) = ents l ++ [.int .i64 e.1, .float .f64 e.2] := by
  unfold ents; rw [List.flatMap_append]; rfl
theorem some_bnd {w : World} {a : Option Addr} {l : List (Int × Nat)} (hx : Ens w a l) : ∀ i, i < (some' l).length → ((some' l).getD i ent0).2 < B64 := by
  intro i hi
  have hm : (some' l)[i] ∈ l := (List.mem_filter.1 (List.getElem_mem hi)).1
  have h1 : ((some' l).getD i ent0) = (some' l)[i] := by simp [List.getD, hi]
  rw [h1]
  obtain ⟨j, hj, e⟩ := List.getElem_of_mem hm
  have := hx.2.1 j hj
  rw [← e]
  simpa [List.getD, hj] using this

namespace maglevDull
set_option maxRecDepth 100000 in
set_option maxHeartbeats 4000000 in
theorem walk (a : Option Addr) (l : List (Int × Nat)) (ca : Nat) (slots : Int) (w : World) (hx : Ens w a l) (_ : ∀ x ∈ l, -9223372036854775808 ≤ x.1 ∧ x.1 ≤ 9223372036854775807) (_ : l.length * 16 ≤ 140737488351232)
    (hs : -9223372036854775808 ≤ slots ∧ slots ≤ 9223372036854775807) (hl : Laid w) (hpos : 0 < w.heap.size) :
    Calls Tryd.prog 13 #[.slice a l.length ca, .int .i64 slots] w fun e w' => e = .returned (.bool true) ∧ Below w.heap.size w w' := by
  have hm := hx.1
  have hf := fun W => fewC slots W hs
  obtain ⟨h1, h2, h3⟩ := few_ok slots
  generalize fewN slots = n at *
  have HX := Lib.hid hx
  have HL := Lib.hid hl
  clear hx hl hs
  cases hR : rightOk l
  case false =>
    have hE : bErr l n = 1 := by
      rcases build_cases l h1 with ⟨_, h, _⟩ | ⟨⟨h, _⟩ | ⟨_, h, _⟩, _⟩
      · rw [hR] at h; cases h
      · exact h
      · rw [hR] at h; cases h
    go_enter Tryd.func13, Tryd.ntmps13
    go_wp2_with fail
    refine (hf _).mono ?_
    rintro e w1 ⟨rfl, hb1⟩
    have he1 := HX.out.below hb1
    clear hf
    go_wp2_with fail
    refine (givenE l a ca w1 he1).mono ?_
    rintro e w2 ⟨ag, cg, rfl, hg2, hb2⟩
    have hB2 := below_trans' hb1 hb2
    have hl2 := HL.out.below hB2 hpos
    have hp2 : 0 < w2.heap.size := by have := hB2.size; omega
    have hbd := buildI l ag cg n w2 hg2 ⟨by omega, by omega⟩ hl2 hp2
    clear he1 hb1 hb2 hl2 hp2 hg2
    rw [hE] at hbd
    clear hE h1
    go_wp2_with fail
    refine hbd.mono ?_
    rintro e w3 ⟨at2, ct2, rfl, hi3, hb3⟩
    have hB3 := below_trans' hB2 hb3
    have he3 := HX.out.below hB3
    have hrr := rrightC l a ca w3 he3
    rw [hR] at hrr
    clear hbd hB2 hb3 hi3 he3 hR
    go_wp2_with fail
    refine hrr.mono ?_
    rintro e w4 ⟨rfl, q, rfl⟩
    have hB4 := below_drewN hB3 q
    clear hrr hB3
    generalize w3.drewN q = w4 at *
    go_wp2_with fail
    refine (known10C w4 (HL.out.below hB4 hpos) (by have := hB4.size; omega)).mono ?_
    rintro e w5 ⟨rfl, hb5⟩
    have hB5 := below_trans' hB4 hb5
    clear hB4 hb5
    go_wp2_with fail
    go_ret
    exact ⟨rfl, hB5⟩
  have hd := dull h1 hR
  have HDT := Lib.hid hd.1
  have HDE := Lib.hid hd.2
  have hsb := some_bnd HX.out
  have HSB := Lib.hid hsb
  clear hd hsb h1
  go_enter Tryd.func13, Tryd.ntmps13
  go_wp2_with fail
  refine (hf _).mono ?_
  rintro e w1 ⟨rfl, hb1⟩
  have he1 := HX.out.below hb1
  clear hf
  go_wp2_with fail
  refine (givenE l a ca w1 he1).mono ?_
  rintro e w2 ⟨ag, cg, rfl, hg2, hb2⟩
  have hB2 := below_trans' hb1 hb2
  have hl2 := HL.out.below hB2 hpos
  have hp2 : 0 < w2.heap.size := by have := hB2.size; omega
  have hbd := buildI l ag cg n w2 hg2 ⟨by omega, by omega⟩ hl2 hp2
  clear he1 hb1 hb2 hl2 hp2 hg2
  go_wp2_with fail
  refine hbd.mono ?_
  rintro e w3 ⟨at2, ct2, rfl, hi3, hb3⟩
  have hB3 := below_trans' hB2 hb3
  have he3 := HX.out.below hB3
  have hrr := rrightC l a ca w3 he3
  rw [hR] at hrr
  clear hbd hB2 hb3 hR
  go_wp2_with fail
  refine hrr.mono ?_
  rintro e w4 ⟨rfl, q, rfl⟩
  have hB4 := below_drewN hB3 q
  have he4 := he3.below (drewN_below w3 q)
  have hi4 := hi3.below (drewN_below w3 q)
  clear hrr hB3 he3 hi3
  generalize w3.drewN q = w4 at *
  have HB4 := Lib.hid hB4
  have HI4 := Lib.hid hi4
  clear hB4 hi4
  generalize hbt : bTab l n = tb at *
  generalize hbe : bErr l n = er at *
  clear hbt hbe
  go_wp2_with fail
  go_loopw [7, 8] (fun v i wr => ∃ (a7 : Option Addr) (c7 k : Nat), k ≤ l.length ∧ i = .int .i64 k ∧ v = .slice a7 (some' (l.take k)).length c7 ∧ wr.ownsRow w4.heap.size 52 2 v (some' (l.take k)).length (ents (some' (l.take k))) ∧ Below w4.heap.size w4 wr) (fun _ i _ => l.length - (intOf i).toNat)
  case atStart => exact ⟨none, 0, 0, Nat.zero_le _, rfl, rfl, World.ownsRow_nil _ _ _ _, Below.refl _ _⟩
  case round =>
    obtain ⟨a7, c7, k, hk, rfl, rfl, hO, hB⟩ := hrel
    by_cases hlt : k < l.length
    · have he5 := he4.below hB
      obtain ⟨b1, o1, rfl, c1, c2⟩ := he5.2.2 k hlt
      have hy := he5.2.1 k hlt
      have hcl := rcleanC (l.getD k ent0).2 wr hy
      have hgt : gtF (cl (l.getD k ent0).2) 0 = decide (0 < cl (l.getD k ent0).2) := gtF_pos (cl_le_INF _) (Nat.zero_le _)
      have hsl := some_len l k
      by_cases hc : 0 < cl (l.getD k ent0).2
      · have hsn := some_take_pos hlt hc
        rw [decide_eq_true hc] at hgt
        have hes : ents (some' (l.take (k + 1))) = ents (some' (l.take k)) ++ [.int .i64 (l.getD k ent0).1, .float .f64 (l.getD k ent0).2] := by rw [hsn, ents_snoc]
        have hln : (some' (l.take (k + 1))).length = (some' (l.take k)).length + 1 := by rw [hsn, List.length_append]; rfl
        have HES := Lib.hid hes
        have HLN := Lib.hid hln
        clear hes hln hsn he5 he4 hc
        generalize (some' (l.take k)).length = L at *
        generalize (l.getD k ent0).2 = y at *
        generalize (l.getD k ent0).1 = x at *
        generalize cl y = cy at *
        obtain ⟨i0, hi, hz0, hz1, hz2⟩ := info_parts info52
        have hHO := hO.alloc (.cells #[.int .i64 x, .float .f64 y] 52)
        have hbs := hB.size
        as_aux_lemma =>
          go_wp2_with fail
          refine hcl.mono ?_
          rintro e w6 ⟨rfl, rfl⟩
          go_wp2_with (at_builtin; refine wpList_append_own _ rfl _ _ 45 rfl w4.heap.size 52 i0 _ 2 16 Tryd.underlying45 hi hz0 hz1 hz2 rfl (by decide) _ _ _ rfl hHO ⟨wr.heap.size, 0, none⟩ 1 1 [.int .i64 x, .float .f64 y] rfl rfl (World.news_of_block (cs := #[.int .i64 x, .float .f64 y]) (heap_alloc_new wr _)) (by intro u hu; simp at hu; rcases hu with rfl | rfl <;> rfl) (by unfold maxLen; omega) (by omega) (by simp; omega) ?_; intro v' w7 h7 hg7 _)
          have hbm : Below w4.heap.size w4 (wr.alloc (.cells #[.int .i64 x, .float .f64 y] 52)) := hB.alloc hbs _
          have hb7 : Below w4.heap.size w4 w7 := hbm.grown hg7 (by simp; omega) (fun j hj => (hO.lt j hj).1)
          rw [← HES.out] at h7
          obtain ⟨a8, c8, rfl⟩ : ∃ a c, v' = .slice a (L + 1) c := by
            rcases h7.2 with ⟨h, h'⟩ | ⟨g, cc, cur, h, _⟩
            · omega
            · exact ⟨_, _, h⟩
          clear hbm hg7 hHO hO hB hbs hi hz0 hz1 hz2
          go_wp2
          go_roundw
          case rel => exact ⟨a8, c8, k + 1, by omega, by go_num, by rw [HLN.out], by rw [HLN.out]; exact h7, hb7⟩
          case measure => simp [intOf]; omega
      · have hsn := some_take_neg hlt hc
        rw [decide_eq_false hc] at hgt
        have HSN := Lib.hid hsn
        have HO := Lib.hid hO
        have HBB := Lib.hid hB
        clear hsn he5 he4 hc hO hB
        generalize hLL : (some' (l.take k)).length = L at *
        have HLL := Lib.hid hLL
        clear hLL
        generalize (l.getD k ent0).2 = y at *
        generalize cl y = cy at *
        as_aux_lemma =>
          go_wp2_with fail
          refine hcl.mono ?_
          rintro e w6 ⟨rfl, rfl⟩
          go_wp2_with fail
          go_roundw
          case rel => exact ⟨a7, c7, k + 1, by omega, by go_num, by rw [HSN.out, HLL.out], by rw [HSN.out, HLL.out]; exact HO.out, HBB.out⟩
          case measure => simp [intOf]; omega
    · have hk' : k = l.length := by omega
      rw [hk', List.take_length] at hO ⊢
      have hle : (some' l).length ≤ l.length := List.length_filter_le _ _
      obtain ⟨a8, c8, he8, hes⟩ := Ens.owned hO (by omega) HSB.out
      cases he8
      have hB5 := below_trans' HB4.out hB
      have hi5 := HI4.out.below hB
      have HB5 := Lib.hid hB5
      clear hk' he4 hO hB hB5
      go_wp2_with fail
      refine (givenE (some' l) a7 c7 wr hes).mono ?_
      rintro e w6 ⟨a9, c9, rfl, hes6, hb6⟩
      have hi6 := hi5.below hb6
      have hB6 := below_trans' HB5.out hb6
      have hbd := buildI (some' l) a9 c9 n w6 hes6 ⟨by omega, by omega⟩ (HL.out.below hB6 hpos) (by have := hB6.size; omega)
      rw [HDT.out, HDE.out] at hbd
      clear hes hi5 hb6 hes6
      go_wp2_with fail
      refine hbd.mono ?_
      rintro e w7 ⟨a10, c10, rfl, hi7, hb7⟩
      have hi67 := hi6.below hb7
      have hB7 := below_trans' hB6 hb7
      clear hbd hi6 hB6 hb7
      go_wp2_with fail
      refine (rsame43C _ _ _ _ _ _ _ hi67 hi7).mono ?_
      rintro e w8 ⟨rfl, q, rfl⟩
      rw [decide_eq_true rfl]
      have hB8 := below_drewN hB7 q
      clear hi67 hi7 hB7
      generalize w7.drewN q = w8 at *
      go_wp2_with fail
      refine (known10C w8 (HL.out.below hB8 hpos) (by have := hB8.size; omega)).mono ?_
      rintro e w9 ⟨rfl, hb9⟩
      have hB9 := below_trans' hB8 hb9
      clear hB8 hb9
      go_wp2_with fail
      go_ret
      exact ⟨rfl, hB9⟩
end maglevDull
end Go.Proofs.YtniejpfjbifjkaaDoor
