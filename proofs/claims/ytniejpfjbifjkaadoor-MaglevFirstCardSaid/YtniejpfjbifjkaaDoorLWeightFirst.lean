/- WeightFirst walked. -/
import Derived.Test.YtniejpfjbifjkaaDoorTv
import Derived.Test.YtniejpfjbifjkaaDoorLWeightTurns
namespace Go.Proofs.YtniejpfjbifjkaaDoor
open Go.RowKit Fl

theorem Ils.take {w : World} {a : Option Addr} {l : List Int} (h : Ils w a l) (k : Nat) : Ils w a (l.take k) := by
  refine ⟨by have := h.1; simp; omega, fun i hi => ?_⟩
  rw [List.length_take] at hi
  obtain ⟨b, off, he, hc⟩ := h.2 i (by omega)
  refine ⟨b, off, he, ?_⟩
  rw [hc]
  congr 2
  simp [List.getD, show i < k by omega]
theorem same33' (xs ys : List Int) (nx ny : Nat) (a b : Option Addr) (ca cb : Nat) (w : World) (hnx : nx = xs.length) (hny : ny = ys.length) (hx : Ils w a xs) (hy : Ils w b ys) :
    Calls Tryd.prog 33 #[.slice a nx ca, .slice b ny cb] w fun e w' => e = .returned (.bool (decide (xs = ys))) ∧ ∃ n, w' = w.drewN n := by
  subst hnx; subst hny; exact same33 xs ys a b ca cb w hx hy
/-- fewer turns are the first ones of more. -/
theorem turns_take (l : List Nat) (n m : Nat) (h : best l ≠ 0) (hnm : n ≤ m) : turnsN l n = (turnsN l m).take n := by
  obtain ⟨k, hk⟩ := turnsN_step l n h
  obtain ⟨k', hk'⟩ := turnsN_step l m h
  have l1 := turnsN_length l n h
  have l2 := turnsN_length l m h
  rcases Nat.le_total k k' with h1 | h1
  · obtain ⟨d, rfl⟩ : ∃ d, k' = k + d := ⟨k' - k, by omega⟩
    have hp := runT_prefix (parts l) k d
    rw [hk, hk'] at hp
    have := List.prefix_iff_eq_take.1 hp
    rw [l1] at this; exact this
  · obtain ⟨d, rfl⟩ : ∃ d, k = k' + d := ⟨k - k', by omega⟩
    have hp := runT_prefix (parts l) k' d
    rw [hk, hk'] at hp
    have hle := hp.length_le
    have : n = m := by omega
    subst this
    rw [List.take_of_length_le (by omega)]

namespace weightFirst
/-- what the two come to. -/
theorem comes (l : List Nat) (n m : Int) (hn : 0 ≤ n) (hn2 : n ≤ 4096) (hm : n ≤ m) (hm2 : m ≤ 4096) :
    (turns l n = [] ∧ (n < 1 ∨ turns l m = [])) ∨ (turns l n ≠ [] ∧ 1 ≤ n ∧ ((turns l m).length : Int) = m ∧ turns l n = (turns l m).take n.toNat) := by
  by_cases h : noTurns l n
  · left
    refine ⟨by unfold turns; rw [if_pos h], ?_⟩
    unfold noTurns at h
    by_cases h1 : n < 1
    · exact .inl h1
    · right; unfold turns; rw [if_pos (by unfold noTurns; omega)]
  · right
    have h' := h
    unfold noTurns at h'
    have h4 : best l ≠ 0 := by omega
    have e1 : turns l n = turnsN l n.toNat := by unfold turns; rw [if_neg h]
    have e2 : turns l m = turnsN l m.toNat := by unfold turns; rw [if_neg (by unfold noTurns; omega)]
    have l1 := turnsN_length l n.toNat h4
    refine ⟨?_, by omega, ?_, ?_⟩
    · rw [e1]; intro e; rw [e] at l1; simp at l1; omega
    · rw [e2, turnsN_length l _ h4]; omega
    · rw [e1, e2]; exact turns_take l _ _ h4 (by omega)

set_option maxHeartbeats 2000000 in
theorem walk (a : Option Addr) (l : List Nat) (cap : Nat) (n m : Int) (w : World) (hf : Fls w a l) (_ : a = none → cap = 0) (_ : l.length * 8 ≤ 140737488351232) (hn : -9223372036854775808 ≤ n ∧ n ≤ 9223372036854775807) (hm : -9223372036854775808 ≤ m ∧ m ≤ 9223372036854775807) (hl : Laid w) (hpos : 0 < w.heap.size) :
    Calls Tryd.prog 6 #[.slice a l.length cap, .int .i64 n, .int .i64 m] w fun e w' => e = .returned (.bool true) ∧ Below w.heap.size w w' := by
  go_enter Tryd.func6, Tryd.ntmps6
  go_wp2_with fail
  refine (countC n 200 _ hn (by omega)).mono ?_
  rintro e w' ⟨rfl, rfl⟩
  have n1 := Int.emod_nonneg n (show (200 : Int) ≠ 0 by omega)
  have n2 := Int.emod_lt_of_pos n (show (0 : Int) < 200 by omega)
  generalize n % 200 = N at *
  go_wp2_with fail
  refine (countC m 200 _ hm (by omega)).mono ?_
  rintro e w' ⟨rfl, rfl⟩
  have m1 := Int.emod_nonneg m (show (200 : Int) ≠ 0 by omega)
  have m2 := Int.emod_lt_of_pos m (show (0 : Int) < 200 by omega)
  generalize m % 200 = M0 at *
  clear hn hm
  go_wp2_with fail
  refine (turnsC l N a cap _ hl hf hpos).mono ?_
  rintro e w1 ⟨v1, rfl, ho1, hb1, _, _⟩
  obtain ⟨a1, k1, rfl, hi1⟩ := Ils.up ho1
  have hf1 := hf.below hb1
  have hl1 := hl.below hb1 hpos
  have hp1 : 0 < w1.heap.size := by have := hb1.size; omega
  clear ho1
  go_wp2_with fail
  have hpl := comes l N (N + M0) n1 (by omega) (by omega) (by omega)
  generalize hM : N + M0 = M at *
  have hM1 : N ≤ M := by omega
  have hM2 : M ≤ 398 := by omega
  clear hM
  refine (turnsC l M a cap _ hl1 hf1 hp1).mono ?_
  rintro e w2 ⟨v2, rfl, ho2, hb2, _, _⟩
  obtain ⟨a2, k2, rfl, hi2⟩ := Ils.up ho2
  have hcapm : (turns l M).length ≤ k2 ∧ k2 ≤ 9223372036854775807 := by
    rcases ho2.2 with ⟨h, h0⟩ | ⟨g, cc, cur, h, _, _, hc1, hc2, _⟩
    · simp only [Value.slice.injEq] at h; exact ⟨by omega, by omega⟩
    · simp only [Value.slice.injEq] at h; unfold maxLen at hc2; exact ⟨by omega, by omega⟩
  have hi12 := hi1.below hb2
  have hB2 := below_trans' hb1 hb2
  have hl2 := hl.below hB2 hpos
  have hp2 : 0 < w2.heap.size := by have := hB2.size; omega
  clear ho2 hi1 hf1 hl1 hp1 hb1 hb2 hf hl hpos
  rw [up_length (turns l N), up_length (turns l M)]
  rcases hpl with ⟨e0, h0⟩ | ⟨hne, hN1, hlen, htake⟩
  · have hb0 : (((turns l N).length : Int) == 0) = true := by rw [e0]; rfl
    clear hi12 hi2 hcapm
    by_cases hN : N < 1
    · clear e0 h0
      go_wp2_with (first | (go_at_call 27; refine (knownC _ (by assumption) (by assumption)).mono ?_; rintro e w7 ⟨rfl, hb7⟩))
      go_ret
      exact ⟨rfl, below_trans' hB2 (by assumption)⟩
    · have e1 : turns l M = [] := by rcases h0 with h | h; exact absurd h hN; exact h
      have hb1 : (((turns l M).length : Int) == 0) = true := by rw [e1]; rfl
      clear e0 h0 e1
      go_wp2_with (first | (go_at_call 27; refine (knownC _ (by assumption) (by assumption)).mono ?_; rintro e w7 ⟨rfl, hb7⟩))
      go_ret
      exact ⟨rfl, below_trans' hB2 (by assumption)⟩
  · have hb0 : (((turns l N).length : Int) == 0) = false := by
      rw [beq_eq_false_iff_ne]; have := List.length_pos_iff.2 hne; omega
    have hb1 : (((turns l M).length : Int) == M) = true := by rw [hlen]; simp
    obtain ⟨g2, hg2⟩ : ∃ b, a2 = some b := by
      obtain ⟨b, off, h, _⟩ := hi2.2 0 (by rw [up_length]; omega)
      exact ⟨_, h⟩
    subst hg2
    obtain ⟨Nn, rfl⟩ : ∃ Nn : Nat, N = (Nn : Int) := ⟨N.toNat, by omega⟩
    have hNk : Nn ≤ k2 := by omega
    have hi22 := hi2.take Nn
    have hte : (up (turns l M)).take Nn = up (turns l Nn) := by rw [htake]; simp [up, List.map_take]
    rw [hte] at hi22
    have hlN : (turns l (Nn : Int)).length = Nn := by rw [htake]; simp; omega
    have HL := Lib.hid hlN
    clear hne htake hte hi2 hlN hlen
    go_wp2_with fail
    refine (same33' _ _ _ _ _ _ _ _ _ (up_length _).symm (by rw [up_length]; exact HL.out.symm) hi12 hi22).mono ?_
    rintro e w3' ⟨rfl, q, rfl⟩
    rw [show decide (up (turns l (Nn : Int)) = up (turns l (Nn : Int))) = true from decide_eq_true rfl]
    have hB3 := below_drewN hB2 q
    have hl3 : Laid (w2.drewN q) := fun i hi => hl2 i hi
    have hp3 : 0 < (w2.drewN q).heap.size := hp2
    clear hi12 hi22 HL hB2 hl2 hp2
    generalize w2.drewN q = w3 at *
    go_wp2_with (first | (go_at_call 27; refine (knownC _ (by assumption) (by assumption)).mono ?_; rintro e w7 ⟨rfl, hb7⟩))
    go_ret
    exact ⟨rfl, below_trans' hB3 (by assumption)⟩
end weightFirst
end Go.Proofs.YtniejpfjbifjkaaDoor
