/- MaglevHolds walked. -/
import Derived.Test.YtniejpfjbifjkaaDoorMu
import Derived.Test.YtniejpfjbifjkaaDoorLMaglevBuilds
namespace Go.Proofs.YtniejpfjbifjkaaDoor
open Go.RowKit Fl

theorem sum_take_succ (l : List Nat) (k : Nat) (h : k < l.length) : (l.take (k + 1)).sum = (l.take k).sum + l.getD k 0 := by
  rw [take_succ_getD l k h, List.sum_append]; simp
theorem share_eq {l : List Nat} {n : Nat} (h : turns l n ≠ []) : share l n = cnt l.length (turns l n) := by
  unfold share
  rw [if_neg]
  intro hno
  exact h (by unfold turns; rw [if_pos hno])
theorem zero_count {l : List Nat} {n : Nat} (h : turns l n ≠ []) {i : Nat} (hi : i < l.length) (hz : cl (l.getD i 0) = 0) : (turns l n).count i = 0 := by
  by_cases hno : noTurns l n
  · exact absurd (by unfold turns; rw [if_pos hno]) h
  · have h' := hno
    unfold noTurns at h'
    have e2 : turns l n = turnsN l n := by unfold turns; rw [if_neg hno]; simp
    rw [e2]
    exact fair_zero l n i (by omega) hi hz
theorem wts_getD (l : List (Int × Nat)) (i : Nat) (hi : i < l.length) : (wts l).getD i 0 = (l.getD i ent0).2 := by
  simp [wts, List.getD, hi]

namespace maglevHolds
set_option maxRecDepth 100000 in
set_option maxHeartbeats 4000000 in
theorem walk (a : Option Addr) (l : List (Int × Nat)) (ca : Nat) (slots : Int) (w : World) (hx : Ens w a l) (_ : ∀ x ∈ l, -9223372036854775808 ≤ x.1 ∧ x.1 ≤ 9223372036854775807) (_ : l.length * 16 ≤ 140737488351232)
    (hs : -9223372036854775808 ≤ slots ∧ slots ≤ 9223372036854775807) (hl : Laid w) (hpos : 0 < w.heap.size) :
    Calls Tryd.prog 12 #[.slice a l.length ca, .int .i64 slots] w fun e w' => e = .returned (.bool true) ∧ Below w.heap.size w w' := by
  have hm := hx.1
  have hf := fun W => fewC slots W hs
  obtain ⟨h1, h2, h3⟩ := few_ok slots
  generalize fewN slots = n at *
  have HX := Lib.hid hx
  have HL := Lib.hid hl
  clear hx hl hs
  rcases build_cases l h1 with ⟨hE, hR, hT, hB⟩ | ⟨hE, hB⟩
  case inr =>
    have hE' : (bErr l n != 0) = true := by rcases hE with ⟨h, _⟩ | ⟨h, _⟩ <;> rw [h] <;> rfl
    go_enter Tryd.func12, Tryd.ntmps12
    go_wp2_with fail
    refine (hf _).mono ?_
    rintro e w1 ⟨rfl, hb1⟩
    have he1 := HX.out.below hb1
    clear hf
    go_wp2_with fail
    refine (givenE l a ca w1 he1).mono ?_
    rintro e w2 ⟨ag, cg, rfl, hg2, hb2⟩
    have hB2 := below_trans' hb1 hb2
    have hl2 := HL.out.below hB2 hpos
    have hp2 : 0 < w2.heap.size := by have := hB2.size; omega
    have hbd := buildI l ag cg n w2 hg2 ⟨by omega, by omega⟩ hl2 hp2
    clear he1 hb1 hb2 hl2 hp2 hg2
    rw [hB] at hbd
    clear hE hB h1
    go_wp2_with fail
    refine hbd.mono ?_
    rintro e w3 ⟨at2, ct2, rfl, hi3, hb3⟩
    have hB3 := below_trans' hB2 hb3
    clear hbd hB2 hb3 hi3
    go_wp2_with fail
    refine (known10C w3 (HL.out.below hB3 hpos) (by have := hB3.size; omega)).mono ?_
    rintro e w4 ⟨rfl, hb4⟩
    have hB4 := below_trans' hB3 hb4
    clear hB3 hb4
    go_wp2_with fail
    go_ret
    exact ⟨rfl, hB4⟩
  have hp := slotsOk_pr h1
  obtain ⟨hlen, hmem⟩ := turns_facts hT
  rw [Int.toNat_natCast] at hlen
  rw [wts_length] at hmem
  have hcnt := fun i (hi : i < l.length) => held_count hp hR (turns (wts l) n) (by omega) hmem hi (turns (wts l) n).length (Nat.le_refl _)
  rw [List.take_length] at hcnt
  have hsh := share_eq hT
  rw [wts_length] at hsh
  have hzero := fun i (hi : i < l.length) (hz : cl (l.getD i ent0).2 = 0) => zero_count hT (i := i) (by rw [wts_length]; exact hi) (by rw [wts_getD l i hi]; exact hz)
  have htot := count_sum l.length (turns (wts l) n) hmem
  have hwb := bnd_wts HX.out
  have HWB := Lib.hid hwb
  have HC := Lib.hid hcnt
  have HZ := Lib.hid hzero
  have HSH := Lib.hid hsh
  have HTOT := Lib.hid htot
  have hlenC := cnt_length l.length (turns (wts l) n)
  clear hwb hcnt hzero hsh htot hp h1 hR hmem hT
  go_enter Tryd.func12, Tryd.ntmps12
  go_wp2_with fail
  refine (hf _).mono ?_
  rintro e w1 ⟨rfl, hb1⟩
  have he1 := HX.out.below hb1
  clear hf
  go_wp2_with fail
  refine (givenE l a ca w1 he1).mono ?_
  rintro e w2 ⟨ag, cg, rfl, hg2, hb2⟩
  have hB2 := below_trans' hb1 hb2
  have hl2 := HL.out.below hB2 hpos
  have hp2 : 0 < w2.heap.size := by have := hB2.size; omega
  have hbd := buildI l ag cg n w2 hg2 ⟨by omega, by omega⟩ hl2 hp2
  clear he1 hb1 hb2 hl2 hp2 hg2
  rw [hE, hB, tableOf_length] at hbd
  have HTB := Lib.hid hB
  clear hE hB
  go_wp2_with fail
  refine hbd.mono ?_
  rintro e w3 ⟨at2, ct2, rfl, hi3, hb3⟩
  have hB3 := below_trans' hB2 hb3
  have he3 := HX.out.below hB3
  clear hbd hB2 hb3
  go_wp2_with fail
  refine (rweightsC l a ca w3 he3).mono ?_
  rintro e w4 ⟨v4, rfl, ho4, hb4⟩
  obtain ⟨aw, cw, rfl, hfw⟩ := Fls.owned (wts_length l).symm HWB.out ho4
  have hi4 := hi3.below hb4
  have hB4 := below_trans' hB3 hb4
  have he4 := he3.below hb4
  have hrs := rshareC (wts l) n aw cw w4 hfw
  rw [wts_length, HSH.out] at hrs
  clear hi3 hB3 he3 hb4 ho4 hfw
  go_wp2_with fail
  refine hrs.mono ?_
  rintro e w5 ⟨v5, rfl, ho5, hb5⟩
  obtain ⟨x5, c5, rfl, hi5⟩ := Ils.up ho5
  rw [up_length, hlenC]
  have hi45 := hi4.below hb5
  have hB5 := below_trans' hB4 hb5
  have he5 := he4.below hb5
  clear hrs ho5 hi4 hB4 he4 hb5
  have HB5 := Lib.hid hB5
  clear hB5
  go_wp2_with fail
  have hst : ∀ k, k ≤ l.length → ((cnt l.length (turns (wts l) n)).take k).sum ≤ n := fun k hk => by
    have := sum_take_le (cnt l.length (turns (wts l) n)) k
    rw [HTOT.out] at this
    omega
  have HST := Lib.hid hst
  clear hst
  go_loopw [8, 9] (fun s i wr => wr = w5 ∧ ∃ k : Nat, k ≤ l.length ∧ i = .int .i64 k ∧ s = .int .i64 ((cnt l.length (turns (wts l) n)).take k).sum) (fun _ i _ => l.length - (intOf i).toNat)
  case atStart => exact ⟨rfl, 0, Nat.zero_le _, rfl, by simp⟩
  case round =>
    obtain ⟨rfl, k, hk, rfl, rfl⟩ := hrel
    by_cases hlt : k < l.length
    · obtain ⟨b1, o1, rfl, c1, c2⟩ := he5.2.2 k hlt
      have hy := he5.2.1 k hlt
      have hidx : (l.getD k ent0).1 = idAt l k := rfl
      rw [hidx] at c1
      have hh := heldC (tableOf l n (turns (wts l) n)) at2 ct2 (idAt l k) wr hi45
      rw [tableOf_length, HC.out k hlt] at hh
      obtain ⟨b5, o5, rfl, c5'⟩ := hi5.2 k (by rw [up_length, hlenC]; exact hlt)
      rw [up_getD, cnt_getD _ _ _ hlt] at c5'
      have hsum := sum_take_succ (cnt l.length (turns (wts l) n)) k (by rw [hlenC]; exact hlt)
      rw [cnt_getD _ _ _ hlt] at hsum
      have hle := HST.out (k + 1) (by omega)
      have hcl := rcleanC (l.getD k ent0).2 wr hy
      have hz := HZ.out k hlt
      have d0 : decide (l.length ≤ k) = false := decide_eq_false (by omega)
      have d1 : decide ((l.length : Int) ≤ (k : Int)) = false := decide_eq_false (by omega)
      have heq : eqF (cl (l.getD k ent0).2) 0 = decide (cl (l.getD k ent0).2 = 0) := eqF_pos (cl_le_INF _) (Nat.zero_le _)
      have hle' : ((cnt l.length (turns (wts l) n)).take k).sum + (turns (wts l) n).count k ≤ n := by rw [← hsum]; exact hle
      have HSUM := Lib.hid hsum
      clear hsum hle he5 hi5 hi45 hidx hlenC hlen
      generalize (turns (wts l) n).count k = c at *
      generalize ((cnt l.length (turns (wts l) n)).take k).sum = s0 at *
      generalize (l.getD k ent0).2 = y at *
      generalize idAt l k = id at *
      generalize cl y = q at *
      by_cases hq : q = 0
      · have hc0 : ((c : Int) != 0) = false := by rw [hz hq]; rfl
        rw [decide_eq_true hq] at heq
        clear hz hq
        as_aux_lemma =>
          go_wp2_with fail
          refine hh.mono ?_
          rintro e w6 ⟨rfl, rfl⟩
          go_wp2_with fail
          refine hcl.mono ?_
          rintro e w6 ⟨rfl, rfl⟩
          go_wp2_with fail
          go_roundw
          case rel => exact ⟨by first | trivial | rfl, k + 1, by omega, by go_num, by rw [HSUM.out]; go_num⟩
          case measure => simp [intOf]; omega
      · rw [decide_eq_false hq] at heq
        clear hz hq
        as_aux_lemma =>
          go_wp2_with fail
          refine hh.mono ?_
          rintro e w6 ⟨rfl, rfl⟩
          go_wp2_with fail
          refine hcl.mono ?_
          rintro e w6 ⟨rfl, rfl⟩
          go_wp2_with fail
          go_roundw
          case rel => exact ⟨by first | trivial | rfl, k + 1, by omega, by go_num, by rw [HSUM.out]; go_num⟩
          case measure => simp [intOf]; omega
    · have hsum : ((cnt l.length (turns (wts l) n)).take k).sum = n := by
        rw [List.take_of_length_le (by rw [hlenC]; omega), HTOT.out, hlen]
      rw [hsum]
      have hp5 : 0 < wr.heap.size := by have := HB5.out.size; omega
      clear hsum he5 hi5 hi45 hlenC hlen
      as_aux_lemma =>
        go_wp2_with fail
        refine (known10C wr (HL.out.below HB5.out hpos) hp5).mono ?_
        rintro e w8 ⟨rfl, hb8⟩
        have hB8 := below_trans' HB5.out hb8
        clear hb8
        go_wp2_with fail
        go_ret
        exact ⟨rfl, hB8⟩
end maglevHolds
end Go.Proofs.YtniejpfjbifjkaaDoor
