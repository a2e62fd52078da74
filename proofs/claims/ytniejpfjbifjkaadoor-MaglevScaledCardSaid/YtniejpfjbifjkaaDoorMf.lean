/- Held, Find, Moved, Same: of tables. -/
import Derived.Test.YtniejpfjbifjkaaDoorMe
namespace Go.Proofs.YtniejpfjbifjkaaDoor
open Go.RowKit

theorem take_succ_int (l : List Int) (k : Nat) (h : k < l.length) : l.take (k + 1) = l.take k ++ [l.getD k 0] := by
  rw [List.take_succ_eq_append_getElem h]; simp [List.getD, h]
theorem count_step (l : List Int) (k : Nat) (x : Int) (h : k < l.length) : (l.take (k + 1)).count x = (l.take k).count x + (if l.getD k 0 = x then 1 else 0) := by
  rw [take_succ_int l k h, List.count_append]
  congr 1
  by_cases e : l.getD k 0 = x
  · rw [if_pos e, e]; simp
  · rw [if_neg e]; rw [List.count_eq_zero]; simp; exact fun h => e h.symm

theorem heldC (xs : List Int) (a : Option Addr) (ca : Nat) (x : Int) (w : World) (hx : Ils w a xs) :
    Calls Tryd.prog 53 #[.slice a xs.length ca, .int .i64 x] w fun e w' => e = .returned (.int .i64 (xs.count x : Nat)) ∧ w = w' := by
  obtain ⟨hm, hc⟩ := hx
  go_enter Tryd.func53, Tryd.ntmps53
  go_wp2
  go_loopw [5, 10] (fun n i wr => wr = w ∧ ∃ k : Nat, k ≤ xs.length ∧ i = .int .i64 k ∧ n = .int .i64 ((xs.take k).count x : Nat)) (fun _ i _ => xs.length - (intOf i).toNat)
  case atStart => exact ⟨rfl, 0, Nat.zero_le _, rfl, by simp⟩
  case round =>
    obtain ⟨rfl, k, hk, rfl, rfl⟩ := hrel
    by_cases hlt : k < xs.length
    · obtain ⟨b1, o1, rfl, h1⟩ := hc k hlt
      have hst := count_step xs k x hlt
      have hle : (xs.take k).count x ≤ k := Nat.le_trans List.count_le_length (by simp; omega)
      clear hc
      by_cases he : xs.getD k 0 = x
      · have hb : (xs.getD k 0 == x) = true := by simpa using he
        rw [if_pos he] at hst
        have HS := Lib.hid hst
        clear hst he
        generalize xs.getD k 0 = y at *
        generalize (xs.take k).count x = c at *
        go_wp2
        go_roundw
        case rel => exact ⟨by first | trivial | rfl, k + 1, by omega, by go_num, by rw [HS.out]; go_num⟩
        case measure => simp [intOf]; omega
      · have hb : (xs.getD k 0 == x) = false := by simpa using he
        rw [if_neg he] at hst
        have HS := Lib.hid hst
        clear hst he
        generalize xs.getD k 0 = y at *
        generalize (xs.take k).count x = c at *
        go_wp2
        go_roundw
        case rel => exact ⟨by first | trivial | rfl, k + 1, by omega, by go_num, by rw [HS.out]; rfl⟩
        case measure => simp [intOf]; omega
    · have hk' : k = xs.length := by omega
      have HK : Hid ((xs.take k).count x = xs.count x) := Lib.hid (by rw [hk', List.take_length])
      clear hc hk'
      go_wp2
      go_ret
      exact ⟨by rw [← HK.out]; rfl, rfl⟩
theorem rheldC (xs : List Int) (a : Option Addr) (ca : Nat) (x : Int) (w : World) (hx : Ils w a xs) :
    Calls Tryd.prog 59 #[.slice a xs.length ca, .int .i64 x] w fun e w' => e = .returned (.int .i64 (xs.count x : Nat)) ∧ w = w' := by
  obtain ⟨hm, hc⟩ := hx
  go_enter Tryd.func59, Tryd.ntmps59
  go_wp2
  go_loopw [5, 6] (fun n i wr => wr = w ∧ ∃ k : Nat, k ≤ xs.length ∧ i = .int .i64 k ∧ n = .int .i64 ((xs.take k).count x : Nat)) (fun _ i _ => xs.length - (intOf i).toNat)
  case atStart => exact ⟨rfl, 0, Nat.zero_le _, rfl, by simp⟩
  case round =>
    obtain ⟨rfl, k, hk, rfl, rfl⟩ := hrel
    by_cases hlt : k < xs.length
    · obtain ⟨b1, o1, rfl, h1⟩ := hc k hlt
      have hst := count_step xs k x hlt
      have hle : (xs.take k).count x ≤ k := Nat.le_trans List.count_le_length (by simp; omega)
      clear hc
      by_cases he : xs.getD k 0 = x
      · have hb : (xs.getD k 0 == x) = true := by simpa using he
        rw [if_pos he] at hst
        have HS := Lib.hid hst
        clear hst he
        generalize xs.getD k 0 = y at *
        generalize (xs.take k).count x = c at *
        go_wp2
        go_roundw
        case rel => exact ⟨by first | trivial | rfl, k + 1, by omega, by go_num, by rw [HS.out]; go_num⟩
        case measure => simp [intOf]; omega
      · have hb : (xs.getD k 0 == x) = false := by simpa using he
        rw [if_neg he] at hst
        have HS := Lib.hid hst
        clear hst he
        generalize xs.getD k 0 = y at *
        generalize (xs.take k).count x = c at *
        go_wp2
        go_roundw
        case rel => exact ⟨by first | trivial | rfl, k + 1, by omega, by go_num, by rw [HS.out]; rfl⟩
        case measure => simp [intOf]; omega
    · have hk' : k = xs.length := by omega
      have HK : Hid ((xs.take k).count x = xs.count x) := Lib.hid (by rw [hk', List.take_length])
      clear hc hk'
      go_wp2
      go_ret
      exact ⟨by rw [← HK.out]; rfl, rfl⟩

/-- whose slot a number is, and the code. -/
def findV (xs : List Int) (h : Nat) : Int := if xs.length = 0 then 0 else xs.getD (h % xs.length) 0
def findE (xs : List Int) : Int := if xs.length = 0 then 20 else 0
theorem findC (xs : List Int) (a : Option Addr) (ca : Nat) (h : Nat) (w : World) (hx : Ils w a xs) :
    Calls Tryd.prog 55 #[.slice a xs.length ca, .int .u64 h] w fun e w' => e = .returned (.tuple #[.int .i64 (findV xs h), .int .i64 (findE xs)]) ∧ w = w' := by
  obtain ⟨hm, hc⟩ := hx
  by_cases h0 : xs.length = 0
  · have HV : Hid (findV xs h = 0) := Lib.hid (by unfold findV; rw [if_pos h0])
    have HE : Hid (findE xs = 20) := Lib.hid (by unfold findE; rw [if_pos h0])
    have hb : ((xs.length : Int) == 0) = true := by rw [h0]; rfl
    clear hc h0
    go_enter Tryd.func55, Tryd.ntmps55
    go_wp2
    go_ret2
    exact ⟨by rw [HV.out, HE.out]; rfl, rfl⟩
  · have hlt : h % xs.length < xs.length := Nat.mod_lt _ (by omega)
    have HV : Hid (findV xs h = xs.getD (h % xs.length) 0) := Lib.hid (by unfold findV; rw [if_neg h0])
    have HE : Hid (findE xs = 0) := Lib.hid (by unfold findE; rw [if_neg h0])
    have hb : ((xs.length : Int) == 0) = false := by rw [beq_eq_false_iff_ne]; omega
    obtain ⟨b1, o1, rfl, h1⟩ := hc _ hlt
    have ht := tmod_nat h xs.length
    have ht2 : (h : Int) % (xs.length : Int) = ((h % xs.length : Nat) : Int) := rfl
    have hw1 : IntKind.u64.wrap (xs.length : Int) = xs.length := by rw [IntKind.wrap_u64]; exact Int.emod_eq_of_lt (by omega) (by omega)
    have hn0 : (xs.length : Int) ≠ 0 := by omega
    clear hc h0
    generalize xs.getD (h % xs.length) 0 = y at *
    generalize h % xs.length = r at *
    go_enter Tryd.func55, Tryd.ntmps55
    go_wp2
    go_ret2
    exact ⟨by rw [HV.out, HE.out]; rfl, rfl⟩
theorem rfindC (xs : List Int) (a : Option Addr) (ca : Nat) (h : Nat) (w : World) (hx : Ils w a xs) :
    Calls Tryd.prog 56 #[.slice a xs.length ca, .int .u64 h] w fun e w' => e = .returned (.tuple #[.int .i64 (findV xs h), .int .i64 (findE xs)]) ∧ w = w' := by
  obtain ⟨hm, hc⟩ := hx
  by_cases h0 : xs.length = 0
  · have HV : Hid (findV xs h = 0) := Lib.hid (by unfold findV; rw [if_pos h0])
    have HE : Hid (findE xs = 20) := Lib.hid (by unfold findE; rw [if_pos h0])
    have hb : ((xs.length : Int) == 0) = true := by rw [h0]; rfl
    clear hc h0
    go_enter Tryd.func56, Tryd.ntmps56
    go_wp2
    go_ret2
    exact ⟨by rw [HV.out, HE.out]; rfl, rfl⟩
  · have hlt : h % xs.length < xs.length := Nat.mod_lt _ (by omega)
    have HV : Hid (findV xs h = xs.getD (h % xs.length) 0) := Lib.hid (by unfold findV; rw [if_neg h0])
    have HE : Hid (findE xs = 0) := Lib.hid (by unfold findE; rw [if_neg h0])
    have hb : ((xs.length : Int) == 0) = false := by rw [beq_eq_false_iff_ne]; omega
    obtain ⟨b1, o1, rfl, h1⟩ := hc _ hlt
    have ht := tmod_nat h xs.length
    have ht2 : (h : Int) % (xs.length : Int) = ((h % xs.length : Nat) : Int) := rfl
    have hw1 : IntKind.u64.wrap (xs.length : Int) = xs.length := by rw [IntKind.wrap_u64]; exact Int.emod_eq_of_lt (by omega) (by omega)
    have hn0 : (xs.length : Int) ≠ 0 := by omega
    clear hc h0
    generalize xs.getD (h % xs.length) 0 = y at *
    generalize h % xs.length = r at *
    go_enter Tryd.func56, Tryd.ntmps56
    go_wp2
    go_ret2
    exact ⟨by rw [HV.out, HE.out]; rfl, rfl⟩
end Go.Proofs.YtniejpfjbifjkaaDoor
