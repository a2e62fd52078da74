/- Moved, Same: of two tables. -/
import Derived.Test.YtniejpfjbifjkaaDoorMf
namespace Go.Proofs.YtniejpfjbifjkaaDoor
open Go.RowKit

/-- in how many of the first k places they differ. -/
def mv (xs ys : List Int) (k : Nat) : Nat := (List.range k).countP fun i => xs.getD i 0 != ys.getD i 0
theorem mv_zero (xs ys : List Int) : mv xs ys 0 = 0 := rfl
theorem mv_succ (xs ys : List Int) (k : Nat) : mv xs ys (k + 1) = mv xs ys k + (if xs.getD k 0 = ys.getD k 0 then 0 else 1) := by
  unfold mv
  rw [List.range_succ, List.countP_append]
  congr 1
  by_cases h : xs.getD k 0 = ys.getD k 0
  · rw [if_pos h]; simpa using h
  · rw [if_neg h]; simpa using h
theorem mv_le (xs ys : List Int) (k : Nat) : mv xs ys k ≤ k := by
  unfold mv
  have := List.countP_le_length (p := fun i => xs.getD i 0 != ys.getD i 0) (l := List.range k)
  simpa using this
def movedN (xs ys : List Int) : Int := if xs.length = ys.length then (mv xs ys xs.length : Nat) else 0
def movedE (xs ys : List Int) : Int := if xs.length = ys.length then 0 else 1

theorem movedC (xs ys : List Int) (a b : Option Addr) (ca cb : Nat) (w : World) (hx : Ils w a xs) (hy : Ils w b ys) :
    Calls Tryd.prog 57 #[.slice a xs.length ca, .slice b ys.length cb] w fun e w' => e = .returned (.tuple #[.int .i64 (movedN xs ys), .int .i64 (movedE xs ys)]) ∧ ∃ n, w' = w.drewN n := by
  obtain ⟨hm, hc⟩ := hx
  obtain ⟨hm', hc'⟩ := hy
  by_cases hlen : xs.length = ys.length
  · have hb : ((xs.length : Int) != (ys.length : Int)) = false := by simp [hlen]
    have HN : Hid (movedN xs ys = (mv xs ys xs.length : Nat)) := Lib.hid (by unfold movedN; rw [if_pos hlen])
    have HE : Hid (movedE xs ys = 0) := Lib.hid (by unfold movedE; rw [if_pos hlen])
    have HL := Lib.hid hlen
    clear hlen
    go_enter Tryd.func57, Tryd.ntmps57
    go_wp2
    go_loopw [6, 15] (fun c i wr => ∃ k : Nat, k ≤ xs.length ∧ i = .int .i64 k ∧ c = .int .i64 (mv xs ys k : Nat) ∧ ∃ m, wr = w.drewN m) (fun _ i _ => xs.length - (intOf i).toNat)
    case atStart => exact ⟨0, Nat.zero_le _, rfl, rfl, 0, rfl⟩
    case round =>
      obtain ⟨k, hk, rfl, rfl, m, rfl⟩ := hrel
      by_cases hlt : k < xs.length
      · obtain ⟨b1, o1, rfl, h1⟩ := hc k hlt
        have hlt' : k < ys.length := by rw [← HL.out]; exact hlt
        obtain ⟨b2, o2, rfl, h2⟩ := hc' k hlt'
        have hst := mv_succ xs ys k
        have hle := mv_le xs ys k
        clear hc hc'
        by_cases he : xs.getD k 0 = ys.getD k 0
        · have hb2 : (xs.getD k 0 != ys.getD k 0) = false := by simpa using he
          rw [if_pos he] at hst
          have HS := Lib.hid hst
          clear he hst
          generalize xs.getD k 0 = x at *
          generalize ys.getD k 0 = y at *
          generalize mv xs ys k = c at *
          go_upto_region 7 with fail
          go_quiet (fail)
          go_wp2
          go_roundw
          case rel => exact ⟨k + 1, by omega, by go_num, by rw [HS.out]; rfl, _, rfl⟩
          case measure => simp [intOf]; omega
        · have hb2 : (xs.getD k 0 != ys.getD k 0) = true := by simpa using he
          rw [if_neg he] at hst
          have HS := Lib.hid hst
          clear he hst
          generalize xs.getD k 0 = x at *
          generalize ys.getD k 0 = y at *
          generalize mv xs ys k = c at *
          go_upto_region 7 with fail
          go_quiet (fail)
          go_wp2
          go_roundw
          case rel => exact ⟨k + 1, by omega, by go_num, by rw [HS.out]; go_num, _, rfl⟩
          case measure => simp [intOf]; omega
      · have hk' : k = xs.length := by omega
        have HK := Lib.hid hk'
        clear hk' hc hc'
        go_wp2
        go_ret2
        exact ⟨by rw [HN.out, HE.out, ← HK.out]; rfl, _, rfl⟩
  · have hb : ((xs.length : Int) != (ys.length : Int)) = true := by simp; omega
    have HN : Hid (movedN xs ys = 0) := Lib.hid (by unfold movedN; rw [if_neg hlen])
    have HE : Hid (movedE xs ys = 1) := Lib.hid (by unfold movedE; rw [if_neg hlen])
    clear hlen
    go_enter Tryd.func57, Tryd.ntmps57
    go_wp2
    go_ret2
    exact ⟨by rw [HN.out, HE.out]; rfl, 0, rfl⟩

theorem rmovedC (xs ys : List Int) (a b : Option Addr) (ca cb : Nat) (w : World) (hx : Ils w a xs) (hy : Ils w b ys) :
    Calls Tryd.prog 58 #[.slice a xs.length ca, .slice b ys.length cb] w fun e w' => e = .returned (.tuple #[.int .i64 (movedN xs ys), .int .i64 (movedE xs ys)]) ∧ ∃ n, w' = w.drewN n := by
  obtain ⟨hm, hc⟩ := hx
  obtain ⟨hm', hc'⟩ := hy
  by_cases hlen : xs.length = ys.length
  · have hb : ((xs.length : Int) != (ys.length : Int)) = false := by simp [hlen]
    have HN : Hid (movedN xs ys = (mv xs ys xs.length : Nat)) := Lib.hid (by unfold movedN; rw [if_pos hlen])
    have HE : Hid (movedE xs ys = 0) := Lib.hid (by unfold movedE; rw [if_pos hlen])
    have HL := Lib.hid hlen
    clear hlen
    go_enter Tryd.func58, Tryd.ntmps58
    go_wp2
    go_loopw [6, 7] (fun c i wr => ∃ k : Nat, k ≤ xs.length ∧ i = .int .i64 k ∧ c = .int .i64 (mv xs ys k : Nat) ∧ ∃ m, wr = w.drewN m) (fun _ i _ => xs.length - (intOf i).toNat)
    case atStart => exact ⟨0, Nat.zero_le _, rfl, rfl, 0, rfl⟩
    case round =>
      obtain ⟨k, hk, rfl, rfl, m, rfl⟩ := hrel
      by_cases hlt : k < xs.length
      · obtain ⟨b1, o1, rfl, h1⟩ := hc k hlt
        have hlt' : k < ys.length := by rw [← HL.out]; exact hlt
        obtain ⟨b2, o2, rfl, h2⟩ := hc' k hlt'
        have hst := mv_succ xs ys k
        have hle := mv_le xs ys k
        clear hc hc'
        by_cases he : xs.getD k 0 = ys.getD k 0
        · have hb2 : (xs.getD k 0 != ys.getD k 0) = false := by simpa using he
          rw [if_pos he] at hst
          have HS := Lib.hid hst
          clear he hst
          generalize xs.getD k 0 = x at *
          generalize ys.getD k 0 = y at *
          generalize mv xs ys k = c at *
          go_upto_region 7 with fail
          go_quiet (fail)
          go_wp2
          go_roundw
          case rel => exact ⟨k + 1, by omega, by go_num, by rw [HS.out]; rfl, _, rfl⟩
          case measure => simp [intOf]; omega
        · have hb2 : (xs.getD k 0 != ys.getD k 0) = true := by simpa using he
          rw [if_neg he] at hst
          have HS := Lib.hid hst
          clear he hst
          generalize xs.getD k 0 = x at *
          generalize ys.getD k 0 = y at *
          generalize mv xs ys k = c at *
          go_upto_region 7 with fail
          go_quiet (fail)
          go_wp2
          go_roundw
          case rel => exact ⟨k + 1, by omega, by go_num, by rw [HS.out]; go_num, _, rfl⟩
          case measure => simp [intOf]; omega
      · have hk' : k = xs.length := by omega
        have HK := Lib.hid hk'
        clear hk' hc hc'
        go_wp2
        go_ret2
        exact ⟨by rw [HN.out, HE.out, ← HK.out]; rfl, _, rfl⟩
  · have hb : ((xs.length : Int) != (ys.length : Int)) = true := by simp; omega
    have HN : Hid (movedN xs ys = 0) := Lib.hid (by unfold movedN; rw [if_neg hlen])
    have HE : Hid (movedE xs ys = 1) := Lib.hid (by unfold movedE; rw [if_neg hlen])
    clear hlen
    go_enter Tryd.func58, Tryd.ntmps58
    go_wp2
    go_ret2
    exact ⟨by rw [HN.out, HE.out]; rfl, 0, rfl⟩

theorem mv_eq_zero (xs ys : List Int) (k : Nat) : mv xs ys k = 0 ↔ ∀ i, i < k → xs.getD i 0 = ys.getD i 0 := by
  unfold mv
  rw [List.countP_eq_zero]
  simp
theorem moved_same (xs ys : List Int) : (movedN xs ys = 0 ∧ movedE xs ys = 0) ↔ xs = ys := by
  unfold movedN movedE
  constructor
  · rintro ⟨h1, h2⟩
    by_cases hlen : xs.length = ys.length
    · rw [if_pos hlen] at h1
      exact eq_of_getD hlen ((mv_eq_zero xs ys _).1 (by omega))
    · rw [if_neg hlen] at h2; cases h2
  · rintro rfl
    rw [if_pos rfl, if_pos rfl]
    refine ⟨?_, rfl⟩
    have := (mv_eq_zero xs xs xs.length).2 (fun _ _ => rfl)
    omega
theorem rsame43C (xs ys : List Int) (a b : Option Addr) (ca cb : Nat) (w : World) (hx : Ils w a xs) (hy : Ils w b ys) :
    Calls Tryd.prog 43 #[.slice a xs.length ca, .slice b ys.length cb] w fun e w' => e = .returned (.bool (decide (xs = ys))) ∧ ∃ n, w' = w.drewN n := by
  have hms := moved_same xs ys
  have hc := rmovedC xs ys a b ca cb w hx hy
  by_cases h0 : movedN xs ys = 0
  · by_cases h1 : movedE xs ys = 0
    · have HD : Hid (decide (xs = ys) = true) := Lib.hid (decide_eq_true (hms.1 ⟨h0, h1⟩))
      rw [h0, h1] at hc
      clear hms h0 h1 hx hy
      go_enter Tryd.func43, Tryd.ntmps43
      go_wp2_with (first | (go_at_call 58; refine hc.mono ?_; rintro e w2 ⟨rfl, n, rfl⟩))
      go_ret
      exact ⟨by rw [HD.out]; rfl, n, rfl⟩
    · have hb : (movedE xs ys == 0) = false := by rw [beq_eq_false_iff_ne]; exact h1
      have HD : Hid (decide (xs = ys) = false) := Lib.hid (decide_eq_false (fun h => h1 (hms.2 h).2))
      rw [h0] at hc
      clear hms h0 h1 hx hy
      go_enter Tryd.func43, Tryd.ntmps43
      go_wp2_with (first | (go_at_call 58; refine hc.mono ?_; rintro e w2 ⟨rfl, n, rfl⟩))
      go_ret
      exact ⟨by rw [HD.out]; rfl, n, rfl⟩
  · have hb : (movedN xs ys == 0) = false := by rw [beq_eq_false_iff_ne]; exact h0
    have HD : Hid (decide (xs = ys) = false) := Lib.hid (decide_eq_false (fun h => h0 (hms.2 h).1))
    clear hms h0 hx hy
    go_enter Tryd.func43, Tryd.ntmps43
    go_wp2_with (first | (go_at_call 58; refine hc.mono ?_; rintro e w2 ⟨rfl, n, rfl⟩))
    go_ret
    exact ⟨by rw [HD.out]; rfl, n, rfl⟩
end Go.Proofs.YtniejpfjbifjkaaDoor
