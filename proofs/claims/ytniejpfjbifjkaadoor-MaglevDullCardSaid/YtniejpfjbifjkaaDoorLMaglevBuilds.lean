/- MaglevBuilds walked. -/
import Derived.Test.YtniejpfjbifjkaaDoorMt
namespace Go.Proofs.YtniejpfjbifjkaaDoor
open Go.RowKit Fl

theorem Ens.keep {w w' : World} {a : Option Addr} {l : List (Int × Nat)} (h : Ens w a l) (hb : Below w.heap.size w w') : Ens w' a l := h.below hb
/-- the law's own given: entries copied, in memory of their own. -/
theorem givenE (l : List (Int × Nat)) (a : Option Addr) (ca : Nat) (w : World) (hx : Ens w a l) :
    Calls Tryd.prog 48 #[.slice a l.length ca] w fun e w' => ∃ a' c', e = .returned (.slice a' l.length c') ∧ Ens w' a' l ∧ Below w.heap.size w w' := by
  refine (givenC l a ca w hx).mono ?_
  rintro e w' ⟨v, rfl, ho, hb⟩
  obtain ⟨a', c', rfl, he⟩ := Ens.owned ho hx.1 hx.2.1
  exact ⟨a', c', rfl, he, hb⟩
/-- Build, its table read. -/
theorem buildI (l : List (Int × Nat)) (a : Option Addr) (ca : Nat) (slots : Int) (w : World) (hx : Ens w a l) (hs : -9223372036854775808 ≤ slots ∧ slots ≤ 9223372036854775807) (hl : Laid w) (hpos : 0 < w.heap.size) :
    Calls Tryd.prog 49 #[.slice a l.length ca, .int .i64 slots] w fun e w' => ∃ a' c', e = .returned (.tuple #[.slice a' (bTab l slots).length c', .int .i64 (bErr l slots)]) ∧
      Ils w' a' (bTab l slots) ∧ Below w.heap.size w w' := by
  refine (buildC l a ca slots w hx hs hl hpos).mono ?_
  rintro e w' ⟨v, rfl, ho, hb⟩
  obtain ⟨a', c', rfl, he⟩ := Ils.owned ho
  exact ⟨a', c', rfl, he, hb⟩
theorem rbuildI (l : List (Int × Nat)) (a : Option Addr) (ca : Nat) (slots : Int) (w : World) (hx : Ens w a l) (hs : -9223372036854775808 ≤ slots ∧ slots ≤ 9223372036854775807) :
    Calls Tryd.prog 50 #[.slice a l.length ca, .int .i64 slots] w fun e w' => ∃ a' c', e = .returned (.tuple #[.slice a' (bTab l slots).length c', .int .i64 (bErr l slots)]) ∧
      Ils w' a' (bTab l slots) ∧ Below w.heap.size w w' := by
  refine (rbuildC l a ca slots w hx hs).mono ?_
  rintro e w' ⟨v, rfl, ho, hb⟩
  obtain ⟨a', c', rfl, he⟩ := Ils.owned ho
  exact ⟨a', c', rfl, he, hb⟩
theorem drewN_below (w : World) (n : Nat) : Below w.heap.size w (w.drewN n) := below_drewN (Below.refl _ _) n

namespace maglevBuilds
/-- behind the number of slots. -/
def slots' (s : Int) : Int := if 131 < s ∧ slotsOk s = true then 131 else s

set_option maxRecDepth 100000 in
set_option maxHeartbeats 4000000 in
theorem walk (a : Option Addr) (l : List (Int × Nat)) (ca : Nat) (slots : Int) (w : World) (hx : Ens w a l) (_ : ∀ x ∈ l, -9223372036854775808 ≤ x.1 ∧ x.1 ≤ 9223372036854775807) (_ : l.length * 16 ≤ 140737488351232)
    (hs : -9223372036854775808 ≤ slots ∧ slots ≤ 9223372036854775807) (hl : Laid w) (hpos : 0 < w.heap.size) :
    Calls Tryd.prog 11 #[.slice a l.length ca, .int .i64 slots] w fun e w' => e = .returned (.bool true) ∧ Below w.heap.size w w' := by
  have hm := hx.1
  have hs0 := fun W => rslotsC slots W hs
  have key : ∃ s' : Int, s' = slots' slots ∧ -9223372036854775808 ≤ s' ∧ s' ≤ 9223372036854775807 := ⟨_, rfl, by unfold slots'; split <;> omega, by unfold slots'; split <;> omega⟩
  obtain ⟨s', hs1, hs2⟩ := key
  have HX := Lib.hid hx
  have HL := Lib.hid hl
  have HS := Lib.hid hs1
  clear hx hl hs1 hs
  have three : (131 < slots ∧ slotsOk slots = true) ∨ (131 < slots ∧ slotsOk slots = false) ∨ slots ≤ 131 := by
    rcases Int.lt_or_le 131 slots with h | h
    · cases hk : slotsOk slots
      · exact .inr (.inl ⟨h, rfl⟩)
      · exact .inl ⟨h, rfl⟩
    · exact .inr (.inr h)
  rcases three with ⟨c1, c2⟩ | ⟨c1, c2⟩ | c1
  · have hs3 : s' = 131 := by rw [HS.out]; unfold slots'; rw [if_pos ⟨c1, c2⟩]
    have HS3 := Lib.hid hs3
    rw [c2] at hs0
    clear hs3 c2
    go_enter Tryd.func11, Tryd.ntmps11
    go_upto_region 3 with (go_at_call 47; refine (hs0 _).mono ?_; rintro e w' ⟨rfl, rfl⟩)
    rw [← HS3.out]
    clear hs0 c1
    go_wp2_with fail
    refine (givenE l a ca w HX.out).mono ?_
    rintro e w1 ⟨ag, cg, rfl, hg1, hb1⟩
    have he1 := HX.out.below hb1
    have hl1 := HL.out.below hb1 hpos
    have hp1 : 0 < w1.heap.size := by have := hb1.size; omega
    go_wp2_with fail
    refine (buildI l ag cg s' w1 hg1 hs2 hl1 hp1).mono ?_
    rintro e w2 ⟨at2, ct2, rfl, hi2, hb2⟩
    have hg2 := hg1.below hb2
    have he2 := he1.below hb2
    have hB2 := below_trans' hb1 hb2
    clear hg1 he1 hl1 hp1 hb1 hb2
    go_wp2_with fail
    refine (rbuildI l a ca s' w2 he2 hs2).mono ?_
    rintro e w3 ⟨au, cu, rfl, hi3, hb3⟩
    have hg3 := hg2.below hb3
    have he3 := he2.below hb3
    have hi23 := hi2.below hb3
    have hB3 := below_trans' hB2 hb3
    clear hg2 he2 hi2 hB2 hb3
    go_wp2_with fail
    refine (rsame43C _ _ _ _ _ _ _ hi23 hi3).mono ?_
    rintro e w3' ⟨rfl, q, rfl⟩
    rw [decide_eq_true rfl]
    have hg4 := hg3.below (drewN_below w3 q)
    have he4 := he3.below (drewN_below w3 q)
    have hB4 := below_drewN hB3 q
    clear hg3 he3 hi23 hi3 hB3
    generalize w3.drewN q = w4 at *
    generalize bTab l s' = tb at *
    generalize bErr l s' = er at *
    have HB4 := Lib.hid hB4
    clear hB4
    go_wp2_with fail
    go_loopw [10] (fun i wr => ∃ k : Nat, k ≤ l.length ∧ i = .int .i64 k ∧ ∃ m, wr = w4.drewN m) (fun i _ => l.length - (intOf i).toNat)
    case atStart => exact ⟨0, Nat.zero_le _, rfl, 0, rfl⟩
    case round =>
      obtain ⟨k, hk, rfl, m, rfl⟩ := hrel
      by_cases hlt : k < l.length
      · have he5 := he4.below (drewN_below w4 m)
        have hg5 := hg4.below (drewN_below w4 m)
        generalize hW : w4.drewN m = w5 at *
        have HW := Lib.hid hW
        clear hW
        obtain ⟨b1, o1, rfl, c1, c2⟩ := he5.2.2 k hlt
        obtain ⟨b2, o2, rfl, c3, c4⟩ := hg5.2.2 k hlt
        have hy := he5.2.1 k hlt
        have hsame := same_self hy
        clear he4 hg4 he5 hg5
        generalize (l.getD k ent0).2 = y at *
        generalize (l.getD k ent0).1 = x at *
        have dx : (x != x) = false := by simp
        go_upto_region 11 with fail
        go_quiet ((go_at_call 24; exact quiet_eq (rsameC _ _ _ hy hy)))
        go_wp2
        go_roundw
        case rel => exact ⟨k + 1, by omega, by go_num, m + _, by rw [← HW.out, drewN_drewN]⟩
        case measure => simp [intOf]; omega
      · clear he4 hg4
        go_wp2_with fail
        refine (known10C (w4.drewN m) (HL.out.below (below_drewN HB4.out m) hpos) (by have := HB4.out.size; simp [World.drewN]; omega)).mono ?_
        rintro e w6 ⟨rfl, hb6⟩
        have hb7 := below_trans' (below_drewN HB4.out m) hb6
        clear hb6
        go_wp2_with fail
        go_ret
        exact ⟨rfl, hb7⟩
  · have hs3 : s' = slots := by rw [HS.out]; unfold slots'; rw [if_neg (fun h => by rw [c2] at h; cases h.2)]
    subst hs3
    rw [c2] at hs0
    clear c2
    go_enter Tryd.func11, Tryd.ntmps11
    go_upto_region 3 with (go_at_call 47; refine (hs0 _).mono ?_; rintro e w' ⟨rfl, rfl⟩)
    clear hs0 c1
    go_wp2_with fail
    refine (givenE l a ca w HX.out).mono ?_
    rintro e w1 ⟨ag, cg, rfl, hg1, hb1⟩
    have he1 := HX.out.below hb1
    have hl1 := HL.out.below hb1 hpos
    have hp1 : 0 < w1.heap.size := by have := hb1.size; omega
    go_wp2_with fail
    refine (buildI l ag cg s' w1 hg1 hs2 hl1 hp1).mono ?_
    rintro e w2 ⟨at2, ct2, rfl, hi2, hb2⟩
    have hg2 := hg1.below hb2
    have he2 := he1.below hb2
    have hB2 := below_trans' hb1 hb2
    clear hg1 he1 hl1 hp1 hb1 hb2
    go_wp2_with fail
    refine (rbuildI l a ca s' w2 he2 hs2).mono ?_
    rintro e w3 ⟨au, cu, rfl, hi3, hb3⟩
    have hg3 := hg2.below hb3
    have he3 := he2.below hb3
    have hi23 := hi2.below hb3
    have hB3 := below_trans' hB2 hb3
    clear hg2 he2 hi2 hB2 hb3
    go_wp2_with fail
    refine (rsame43C _ _ _ _ _ _ _ hi23 hi3).mono ?_
    rintro e w3' ⟨rfl, q, rfl⟩
    rw [decide_eq_true rfl]
    have hg4 := hg3.below (drewN_below w3 q)
    have he4 := he3.below (drewN_below w3 q)
    have hB4 := below_drewN hB3 q
    clear hg3 he3 hi23 hi3 hB3
    generalize w3.drewN q = w4 at *
    generalize bTab l s' = tb at *
    generalize bErr l s' = er at *
    have HB4 := Lib.hid hB4
    clear hB4
    go_wp2_with fail
    go_loopw [10] (fun i wr => ∃ k : Nat, k ≤ l.length ∧ i = .int .i64 k ∧ ∃ m, wr = w4.drewN m) (fun i _ => l.length - (intOf i).toNat)
    case atStart => exact ⟨0, Nat.zero_le _, rfl, 0, rfl⟩
    case round =>
      obtain ⟨k, hk, rfl, m, rfl⟩ := hrel
      by_cases hlt : k < l.length
      · have he5 := he4.below (drewN_below w4 m)
        have hg5 := hg4.below (drewN_below w4 m)
        generalize hW : w4.drewN m = w5 at *
        have HW := Lib.hid hW
        clear hW
        obtain ⟨b1, o1, rfl, c1, c2⟩ := he5.2.2 k hlt
        obtain ⟨b2, o2, rfl, c3, c4⟩ := hg5.2.2 k hlt
        have hy := he5.2.1 k hlt
        have hsame := same_self hy
        clear he4 hg4 he5 hg5
        generalize (l.getD k ent0).2 = y at *
        generalize (l.getD k ent0).1 = x at *
        have dx : (x != x) = false := by simp
        go_upto_region 11 with fail
        go_quiet ((go_at_call 24; exact quiet_eq (rsameC _ _ _ hy hy)))
        go_wp2
        go_roundw
        case rel => exact ⟨k + 1, by omega, by go_num, m + _, by rw [← HW.out, drewN_drewN]⟩
        case measure => simp [intOf]; omega
      · clear he4 hg4
        go_wp2_with fail
        refine (known10C (w4.drewN m) (HL.out.below (below_drewN HB4.out m) hpos) (by have := HB4.out.size; simp [World.drewN]; omega)).mono ?_
        rintro e w6 ⟨rfl, hb6⟩
        have hb7 := below_trans' (below_drewN HB4.out m) hb6
        clear hb6
        go_wp2_with fail
        go_ret
        exact ⟨rfl, hb7⟩
  · have hs3 : s' = slots := by rw [HS.out]; unfold slots'; rw [if_neg (fun h => by omega)]
    subst hs3
    go_enter Tryd.func11, Tryd.ntmps11
    go_upto_region 3 with fail
    clear hs0 c1
    go_wp2_with fail
    refine (givenE l a ca w HX.out).mono ?_
    rintro e w1 ⟨ag, cg, rfl, hg1, hb1⟩
    have he1 := HX.out.below hb1
    have hl1 := HL.out.below hb1 hpos
    have hp1 : 0 < w1.heap.size := by have := hb1.size; omega
    go_wp2_with fail
    refine (buildI l ag cg s' w1 hg1 hs2 hl1 hp1).mono ?_
    rintro e w2 ⟨at2, ct2, rfl, hi2, hb2⟩
    have hg2 := hg1.below hb2
    have he2 := he1.below hb2
    have hB2 := below_trans' hb1 hb2
    clear hg1 he1 hl1 hp1 hb1 hb2
    go_wp2_with fail
    refine (rbuildI l a ca s' w2 he2 hs2).mono ?_
    rintro e w3 ⟨au, cu, rfl, hi3, hb3⟩
    have hg3 := hg2.below hb3
    have he3 := he2.below hb3
    have hi23 := hi2.below hb3
    have hB3 := below_trans' hB2 hb3
    clear hg2 he2 hi2 hB2 hb3
    go_wp2_with fail
    refine (rsame43C _ _ _ _ _ _ _ hi23 hi3).mono ?_
    rintro e w3' ⟨rfl, q, rfl⟩
    rw [decide_eq_true rfl]
    have hg4 := hg3.below (drewN_below w3 q)
    have he4 := he3.below (drewN_below w3 q)
    have hB4 := below_drewN hB3 q
    clear hg3 he3 hi23 hi3 hB3
    generalize w3.drewN q = w4 at *
    generalize bTab l s' = tb at *
    generalize bErr l s' = er at *
    have HB4 := Lib.hid hB4
    clear hB4
    go_wp2_with fail
    go_loopw [10] (fun i wr => ∃ k : Nat, k ≤ l.length ∧ i = .int .i64 k ∧ ∃ m, wr = w4.drewN m) (fun i _ => l.length - (intOf i).toNat)
    case atStart => exact ⟨0, Nat.zero_le _, rfl, 0, rfl⟩
    case round =>
      obtain ⟨k, hk, rfl, m, rfl⟩ := hrel
      by_cases hlt : k < l.length
      · have he5 := he4.below (drewN_below w4 m)
        have hg5 := hg4.below (drewN_below w4 m)
        generalize hW : w4.drewN m = w5 at *
        have HW := Lib.hid hW
        clear hW
        obtain ⟨b1, o1, rfl, c1, c2⟩ := he5.2.2 k hlt
        obtain ⟨b2, o2, rfl, c3, c4⟩ := hg5.2.2 k hlt
        have hy := he5.2.1 k hlt
        have hsame := same_self hy
        clear he4 hg4 he5 hg5
        generalize (l.getD k ent0).2 = y at *
        generalize (l.getD k ent0).1 = x at *
        have dx : (x != x) = false := by simp
        go_upto_region 11 with fail
        go_quiet ((go_at_call 24; exact quiet_eq (rsameC _ _ _ hy hy)))
        go_wp2
        go_roundw
        case rel => exact ⟨k + 1, by omega, by go_num, m + _, by rw [← HW.out, drewN_drewN]⟩
        case measure => simp [intOf]; omega
      · clear he4 hg4
        go_wp2_with fail
        refine (known10C (w4.drewN m) (HL.out.below (below_drewN HB4.out m) hpos) (by have := HB4.out.size; simp [World.drewN]; omega)).mono ?_
        rintro e w6 ⟨rfl, hb6⟩
        have hb7 := below_trans' (below_drewN HB4.out m) hb6
        clear hb6
        go_wp2_with fail
        go_ret
        exact ⟨rfl, hb7⟩
end maglevBuilds
end Go.Proofs.YtniejpfjbifjkaaDoor
