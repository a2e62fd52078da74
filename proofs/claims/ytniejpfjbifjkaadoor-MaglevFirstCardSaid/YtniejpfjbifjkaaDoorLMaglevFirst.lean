/- MaglevFirst walked. -/
import Derived.Test.YtniejpfjbifjkaaDoorMu
import Derived.Test.YtniejpfjbifjkaaDoorLMaglevBuilds
import Derived.Test.YtniejpfjbifjkaaDoorLWeightFirst
namespace Go.Proofs.YtniejpfjbifjkaaDoor
open Go.RowKit Fl

/-- the first turn alone. -/
theorem turns_one {l : List Nat} {n : Nat} (h : turns l n ≠ []) : turns l 1 = [(turns l n).getD 0 0] := by
  by_cases hno : noTurns l n
  · exact absurd (by unfold turns; rw [if_pos hno]) h
  · have h' := hno
    unfold noTurns at h'
    have h4 : best l ≠ 0 := by omega
    have e1 : turns l 1 = turnsN l 1 := by unfold turns; rw [if_neg (by unfold noTurns; omega)]; rfl
    have e2 : turns l n = turnsN l n := by unfold turns; rw [if_neg hno]; simp
    have l1 := turnsN_length l n h4
    rw [e1, e2, turns_take l 1 n h4 (by omega), take_succ_getD _ 0 (by omega)]
    rfl

namespace maglevFirst
set_option maxRecDepth 100000 in
set_option maxHeartbeats 4000000 in
theorem walk (a : Option Addr) (l : List (Int × Nat)) (ca : Nat) (slots : Int) (w : World) (hx : Ens w a l) (_ : ∀ x ∈ l, -9223372036854775808 ≤ x.1 ∧ x.1 ≤ 9223372036854775807) (_ : l.length * 16 ≤ 140737488351232)
    (hs : -9223372036854775808 ≤ slots ∧ slots ≤ 9223372036854775807) (hl : Laid w) (hpos : 0 < w.heap.size) :
    Calls Tryd.prog 15 #[.slice a l.length ca, .int .i64 slots] w fun e w' => e = .returned (.bool true) ∧ Below w.heap.size w w' := by
  have hm := hx.1
  have hf := fun W => fewC slots W hs
  obtain ⟨h1, h2, h3⟩ := few_ok slots
  generalize fewN slots = n at *
  have HX := Lib.hid hx
  have HL := Lib.hid hl
  clear hx hl hs
  rcases build_cases l h1 with ⟨hE, hR, hT, hB⟩ | ⟨hE, hB⟩
  case inr =>
    have hE' : (bErr l n != 0) = true := by rcases hE with ⟨h, _⟩ | ⟨h, _⟩ <;> rw [h] <;> rfl
    go_enter Tryd.func15, Tryd.ntmps15
    go_wp2_with fail
    refine (hf _).mono ?_
    rintro e w1 ⟨rfl, hb1⟩
    have he1 := HX.out.below hb1
    clear hf
    go_wp2_with fail
    refine (givenE l a ca w1 he1).mono ?_
    rintro e w2 ⟨ag, cg, rfl, hg2, hb2⟩
    have hB2 := below_trans' hb1 hb2
    have hl2 := HL.out.below hB2 hpos
    have hp2 : 0 < w2.heap.size := by have := hB2.size; omega
    have hbd := buildI l ag cg n w2 hg2 ⟨by omega, by omega⟩ hl2 hp2
    clear he1 hb1 hb2 hl2 hp2 hg2
    
    rw [hB] at hbd
    clear hE hB h1
    go_wp2_with fail
    refine hbd.mono ?_
    rintro e w3 ⟨at2, ct2, rfl, hi3, hb3⟩
    have hB3 := below_trans' hB2 hb3
    clear hbd hB2 hb3 hi3
    go_wp2_with fail
    refine (known10C w3 (HL.out.below hB3 hpos) (by have := hB3.size; omega)).mono ?_
    rintro e w4 ⟨rfl, hb4⟩
    have hB4 := below_trans' hB3 hb4
    clear hB3 hb4
    go_wp2_with fail
    go_ret
    exact ⟨rfl, hB4⟩
  have hp := slotsOk_pr h1
  obtain ⟨hlen, hmem⟩ := turns_facts hT
  rw [Int.toNat_natCast] at hlen
  rw [wts_length] at hmem
  have hi0 := hmem _ (getD_mem' (turns (wts l) n) 0 (by omega))
  have hone := turns_one hT
  have hfs := first_slot hp hR (turns (wts l) n) (by omega) hmem (n - 1) (by omega)
  rw [show n - 1 + 1 = (turns (wts l) n).length by omega, List.take_length] at hfs
  have hoo := ordOk_at h1 hR hi0
  generalize (turns (wts l) n).getD 0 0 = i0 at *
  have hE0 : ordE (idAt l i0) n = 0 := by unfold ordE; rw [hoo]; rfl
  have hRL : ordR (idAt l i0) n = ordL (idAt l i0) n := by unfold ordR; rw [hoo]; rfl
  have hLn : (ordL (idAt l i0) n).length = n := by unfold ordL; rw [walkL_length, Int.toNat_natCast]
  have hL0 : (ordL (idAt l i0) n).getD 0 0 = slotAt l n i0 0 := by unfold ordL; rw [Int.toNat_natCast, walkL_getD (by omega)]; unfold slotAt; rfl
  have hsx := slotAt_lt (l := l) (n := n) (i := i0) (k := 0) (by omega)
  have hwb := bnd_wts HX.out
  have HWB := Lib.hid hwb
  have HONE := Lib.hid hone
  have HFS := Lib.hid hfs
  have HE0 := Lib.hid hE0
  have HRL := Lib.hid hRL
  have HLN := Lib.hid hLn
  have HL0 := Lib.hid hL0
  clear hwb hone hfs hE0 hRL hLn hL0 hoo hT hmem hlen hp h1 hR
  go_enter Tryd.func15, Tryd.ntmps15
  go_wp2_with fail
  refine (hf _).mono ?_
  rintro e w1 ⟨rfl, hb1⟩
  have he1 := HX.out.below hb1
  clear hf
  go_wp2_with fail
  refine (givenE l a ca w1 he1).mono ?_
  rintro e w2 ⟨ag, cg, rfl, hg2, hb2⟩
  have hB2 := below_trans' hb1 hb2
  have hl2 := HL.out.below hB2 hpos
  have hp2 : 0 < w2.heap.size := by have := hB2.size; omega
  have hbd := buildI l ag cg n w2 hg2 ⟨by omega, by omega⟩ hl2 hp2
  clear he1 hb1 hb2 hl2 hp2 hg2
  
  rw [hE, hB, tableOf_length] at hbd
  have HTB := Lib.hid hB
  clear hE hB
  go_wp2_with fail
  refine hbd.mono ?_
  rintro e w3 ⟨at2, ct2, rfl, hi3, hb3⟩
  have hB3 := below_trans' hB2 hb3
  have he3 := HX.out.below hB3
  clear hbd hB2 hb3
  go_wp2_with fail
  refine (rweightsC l a ca w3 he3).mono ?_
  rintro e w4 ⟨v4, rfl, ho4, hb4⟩
  obtain ⟨aw, cw, rfl, hfw⟩ := Fls.owned (wts_length l).symm HWB.out ho4
  have hi4 := hi3.below hb4
  have hB4 := below_trans' hB3 hb4
  have he4 := he3.below hb4
  have hrt := rturnsC (wts l) 1 aw cw w4 hfw
  rw [wts_length, HONE.out] at hrt
  clear hi3 hB3 he3 hb4 ho4 hfw
  go_wp2_with fail
  refine hrt.mono ?_
  rintro e w5 ⟨v5, rfl, ho5, hb5⟩
  obtain ⟨x5, c5, rfl, hi5⟩ := Ils.up ho5
  have hi45 := hi4.below hb5
  have hB5 := below_trans' hB4 hb5
  have he5 := he4.below hb5
  obtain ⟨b5, o5, rfl, hc5⟩ := hi5.2 0 (by simp [up])
  have hc5' : w5.cell? ⟨b5, o5, none⟩ = some (.int .i64 (i0 : Nat)) := hc5
  have hu : (up [i0]).length = 1 := rfl
  rw [hu]
  obtain ⟨b1, o1, rfl, c1, _⟩ := he5.2.2 i0 hi0
  have hidx : (l.getD i0 ent0).1 = idAt l i0 := rfl
  rw [hidx] at c1
  have hord := orderC (idAt l i0) n w5 ⟨by omega, by omega⟩
  rw [HE0.out, HRL.out] at hord
  clear hrt ho5 hi4 hB4 he4 hb5 hi5 hc5 hu hidx he5
  go_wp2_with fail
  refine hord.mono ?_
  rintro e w6 ⟨v6, rfl, ho6, hb6⟩
  obtain ⟨x6, c6, rfl, hi6⟩ := Ils.up ho6
  have hi36 := hi45.below hb6
  have hB6 := below_trans' hB5 hb6
  obtain ⟨b6, o6, rfl, hc6⟩ := hi6.2 0 (by rw [up_length, HLN.out]; omega)
  rw [up_getD, HL0.out] at hc6
  have hc6' : w6.cell? ⟨b6, o6, none⟩ = some (.int .i64 (slotAt l n i0 0 : Nat)) := hc6
  rw [up_length, HLN.out]
  obtain ⟨b7, o7, rfl, hc7⟩ := hi36.2 (slotAt l n i0 0) (by rw [tableOf_length]; exact hsx)
  rw [HFS.out] at hc7
  clear hc6 hord ho6 hi6 hi36 hb6 hB5 hi45
  generalize slotAt l n i0 0 = sx at *
  generalize idAt l i0 = id at *
  as_aux_lemma =>
    go_wp2_with fail
    refine (known10C w6 (HL.out.below hB6 hpos) (by have := hB6.size; omega)).mono ?_
    rintro e w8 ⟨rfl, hb8⟩
    have hB8 := below_trans' hB6 hb8
    clear hB6 hb8
    go_wp2_with fail
    go_ret
    exact ⟨rfl, hB8⟩
end maglevFirst
end Go.Proofs.YtniejpfjbifjkaaDoor
