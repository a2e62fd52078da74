/- WeightTurns walked. -/
import Derived.Test.YtniejpfjbifjkaaDoorWs
import Derived.Test.YtniejpfjbifjkaaDoorWk
namespace Go.Proofs.YtniejpfjbifjkaaDoor
open Go.RowKit Fl

def up (l : List Nat) : List Int := l.map fun (n : Nat) => (n : Int)
theorem up_length (l : List Nat) : (up l).length = l.length := by simp [up]
theorem up_getD (l : List Nat) (i : Nat) : (up l).getD i 0 = (l.getD i 0 : Nat) := by
  by_cases h : i < l.length
  · simp [up, List.getD, h]
  · simp [up, List.getD, Nat.not_lt.1 h]
/-- an owned row of natural numbers, read. -/
theorem Ils.up {w : World} {base e : Nat} {v : Value} {l : List Nat} (h : w.ownsRow base e 1 v l.length (ints l)) :
    ∃ a cap, v = .slice a (up l).length cap ∧ Ils w a (up l) := by
  rw [ints_cast] at h
  have := Ils.owned (l := YtniejpfjbifjkaaDoor.up l) (by rw [up_length]; exact h)
  exact this
theorem below_trans' {w w1 w2 : World} (h : Below w.heap.size w w1) (k : Below w1.heap.size w1 w2) : Below w.heap.size w w2 := h.trans (k.mono h.size)

theorem count_cons_sum (x : Nat) (t : List Nat) (m : Nat) : (cnt m (x :: t)).sum = (cnt m t).sum + if x < m then 1 else 0 := by
  unfold cnt
  induction m with
  | zero => simp
  | succ m ih =>
    rw [List.range_succ, List.map_append, List.map_append, List.sum_append, List.sum_append, ih]
    simp only [List.map_cons, List.map_nil, List.sum_cons, List.sum_nil, List.count_cons]
    by_cases h : x = m
    · subst h; simp [Nat.add_assoc]
    · have h1 : (x == m) = false := by simpa using h
      rw [h1]
      by_cases h2 : x < m
      · rw [if_pos h2, if_pos (show x < m + 1 by omega)]; simp; omega
      · rw [if_neg h2, if_neg (show ¬ x < m + 1 by omega)]; simp
theorem count_sum (m : Nat) (t : List Nat) (h : ∀ x ∈ t, x < m) : (cnt m t).sum = t.length := by
  induction t with
  | nil => rw [cnt_nil]; simp
  | cons x t ih =>
    rw [count_cons_sum, ih (fun y hy => h y (List.mem_cons_of_mem _ hy)), if_pos (h x (List.mem_cons_self ..))]; simp
theorem sum_take_le (l : List Nat) (k : Nat) : (l.take k).sum ≤ l.sum := by
  conv => rhs; rw [← List.take_append_drop k l, List.sum_append]
  omega
/-- all of a share together are as many as are asked for. -/
theorem share_sum (l : List Nat) (n : Int) : share l n = [] ∨ ((share l n).sum : Int) = n := by
  by_cases h : noTurns l n
  · left; unfold share; rw [if_pos h]
  · right
    have h' := h
    unfold noTurns at h'
    have h4 : best l ≠ 0 := by omega
    have ht : turns l n = turnsN l n.toNat := by unfold turns; rw [if_neg h]
    unfold share
    rw [if_neg h, ht, count_sum _ _ (turnsN_mem l _ h4), turnsN_length l _ h4]
    omega
theorem share_sum_le (l : List Nat) (n : Int) : (share l n).sum ≤ 4096 := by
  by_cases h : noTurns l n
  · unfold share; rw [if_pos h]; simp
  · have h' := h
    unfold noTurns at h'
    rcases share_sum l n with e | e
    · rw [e]; simp
    · omega

namespace weightTurns
set_option maxHeartbeats 2000000 in
theorem walk (a : Option Addr) (l : List Nat) (cap : Nat) (n : Int) (w : World) (hf : Fls w a l) (_ : a = none → cap = 0) (_ : l.length * 8 ≤ 140737488351232) (hn : -9223372036854775808 ≤ n ∧ n ≤ 9223372036854775807) (hl : Laid w) (hpos : 0 < w.heap.size) :
    Calls Tryd.prog 8 #[.slice a l.length cap, .int .i64 n] w fun e w' => e = .returned (.bool true) ∧ Below w.heap.size w w' := by
  obtain ⟨hn1, hn2⟩ := hn
  have key : ∃ n' : Int, (if 600 < n ∧ n ≤ 4096 then (600 : Int) else n) = n' ∧ -9223372036854775808 ≤ n' ∧ n' ≤ 9223372036854775807 := ⟨_, rfl, by split <;> omega, by split <;> omega⟩
  obtain ⟨n', hn', hn1', hn2'⟩ := key
  by_cases c1 : 600 < n
  · by_cases c2 : n ≤ 4096
    · rw [if_pos ⟨c1, c2⟩] at hn'
      go_enter Tryd.func8, Tryd.ntmps8
      go_upto_region 3 with fail
      rw [hn']
      clear c1 c2 hn1 hn2 hn'
      go_wp2_with fail
      refine (turnsC l n' a cap _ hl hf hpos).mono ?_
      rintro e w1 ⟨v1, rfl, ho1, hb1, _, _⟩
      obtain ⟨a1, k1, rfl, hi1⟩ := Ils.up ho1
      have hf1 := hf.below hb1
      have hl1 := hl.below hb1 hpos
      have hp1 : 0 < w1.heap.size := by have := hb1.size; omega
      clear ho1
      go_wp2_with fail
      refine (shareC l n' a cap _ hl1 hf1 hp1).mono ?_
      rintro e w2 ⟨v2, rfl, ho2, hb2⟩
      obtain ⟨a2, k2, rfl, hi2⟩ := Ils.up ho2
      have hi12 := hi1.below hb2
      have hf2 := hf1.below hb2
      have hl2 := hl1.below hb2 hp1
      have hB2 := below_trans' hb1 hb2
      clear ho2 hi1 hf1 hl1 hp1 hb1 hb2
      go_wp2_with fail
      refine (rturnsC l n' a cap _ hf2).mono ?_
      rintro e w3 ⟨v3, rfl, ho3, hb3⟩
      obtain ⟨a3, k3, rfl, hi3⟩ := Ils.up ho3
      have hi13 := hi12.below hb3
      have hi23 := hi2.below hb3
      have hf3 := hf2.below hb3
      have hB3 := below_trans' hB2 hb3
      clear ho3 hi12 hi2 hf2 hl2 hb3 hB2
      go_wp2_with fail
      refine (same33 _ _ _ _ _ _ _ hi13 hi3).mono ?_
      rintro e w3' ⟨rfl, q, rfl⟩
      rw [show decide (up (turns l n') = up (turns l n')) = true from decide_eq_true rfl]
      have hi24 := hi23.below (below_drewN (Below.refl _ _) q)
      have hf4 := hf3.below (below_drewN (Below.refl _ _) q)
      have hB4 := below_drewN hB3 q
      clear hi13 hi3 hi23 hf3 hB3
      generalize w3.drewN q = w4 at hi24 hf4 hB4 ⊢
      go_wp2_with fail
      refine (rshareC l n' a cap _ hf4).mono ?_
      rintro e w5 ⟨v5, rfl, ho5, hb5⟩
      obtain ⟨a5, k5, rfl, hi5⟩ := Ils.up ho5
      have hi25 := hi24.below hb5
      have hB5 := below_trans' hB4 hb5
      clear ho5 hi24 hf4 hB4 hb5
      go_wp2_with fail
      refine (same33 _ _ _ _ _ _ _ hi25 hi5).mono ?_
      rintro e w5' ⟨rfl, q5, rfl⟩
      rw [show decide (up (share l n') = up (share l n')) = true from decide_eq_true rfl]
      have hi26 := hi25.below (below_drewN (Below.refl _ _) q5)
      have hB6 := below_drewN hB5 q5
      clear hi25 hi5 hB5
      generalize w5.drewN q5 = w6 at hi26 hB6 ⊢
      have hl6 := hl.below hB6 hpos
      have hp6 : 0 < w6.heap.size := by have := hB6.size; omega
      have hsum := share_sum l n'
      have hsle := share_sum_le l n'
      rw [up_length (share l n')]
      have hcell := hi26.2
      rw [up_length] at hcell
      have hlen9 := hi26.1
      rw [up_length] at hlen9
      clear hi26 hf hl hpos
      generalize share l n' = s at *
      have HS := Lib.hid hsum
      clear hsum
      go_wp2_with fail
      go_loop [7, 8] (fun t i => ∃ k : Nat, k ≤ s.length ∧ i = .int .i64 k ∧ t = .int .i64 ((s.take k).sum : Nat)) (fun _ i => s.length - (intOf i).toNat)
      case atStart => exact ⟨0, Nat.zero_le _, rfl, rfl⟩
      case round =>
        obtain ⟨k, hk, rfl, rfl⟩ := hrel
        by_cases hlt : k < s.length
        · obtain ⟨b, off, rfl, hc⟩ := hcell k hlt
          rw [up_getD] at hc
          have hst : (s.take (k + 1)).sum = (s.take k).sum + s.getD k 0 := by rw [take_succ_getD s k hlt, List.sum_append]; simp
          have hst2 := sum_take_le s (k + 1)
          have HT := Lib.hid hst
          have hbd : (s.take k).sum + s.getD k 0 ≤ 4096 := by omega
          clear hst hst2 hcell
          generalize s.getD k 0 = x at *
          generalize (s.take k).sum = y at *
          go_wp2_with fail
          go_round
          case rel => exact ⟨k + 1, by omega, by go_num, by rw [HT.out]; go_num⟩
          case measure => simp [intOf]; omega
        · have hke : k = s.length := by omega
          subst hke
          rw [List.take_length]
          clear hcell
          rcases HS.out with h0 | h0
          · have hl0 : ((s.length : Int) == 0) = true := by rw [h0]; rfl
            clear h0
            go_wp2_with (first | (go_at_call 27; refine (knownC _ (by assumption) (by assumption)).mono ?_; rintro e w7 ⟨rfl, hb7⟩))
            go_ret
            exact ⟨rfl, below_trans' hB6 (by assumption)⟩
          · have hs0 : ((s.sum : Int) == n') = true := by rw [h0]; simp
            clear h0
            by_cases hz : s.length = 0
            · have hl0 : ((s.length : Int) == 0) = true := by rw [hz]; rfl
              go_wp2_with (first | (go_at_call 27; refine (knownC _ (by assumption) (by assumption)).mono ?_; rintro e w7 ⟨rfl, hb7⟩))
              go_ret
              exact ⟨rfl, below_trans' hB6 (by assumption)⟩
            · have hl0 : ((s.length : Int) == 0) = false := by rw [beq_eq_false_iff_ne]; omega
              go_wp2_with (first | (go_at_call 27; refine (knownC _ (by assumption) (by assumption)).mono ?_; rintro e w7 ⟨rfl, hb7⟩))
              go_ret
              exact ⟨rfl, below_trans' hB6 (by assumption)⟩
    · rw [if_neg (by omega)] at hn'
      subst hn'
      go_enter Tryd.func8, Tryd.ntmps8
      go_upto_region 3 with fail
      clear c1 c2 hn1 hn2
      go_wp2_with fail
      refine (turnsC l n a cap _ hl hf hpos).mono ?_
      rintro e w1 ⟨v1, rfl, ho1, hb1, _, _⟩
      obtain ⟨a1, k1, rfl, hi1⟩ := Ils.up ho1
      have hf1 := hf.below hb1
      have hl1 := hl.below hb1 hpos
      have hp1 : 0 < w1.heap.size := by have := hb1.size; omega
      clear ho1
      go_wp2_with fail
      refine (shareC l n a cap _ hl1 hf1 hp1).mono ?_
      rintro e w2 ⟨v2, rfl, ho2, hb2⟩
      obtain ⟨a2, k2, rfl, hi2⟩ := Ils.up ho2
      have hi12 := hi1.below hb2
      have hf2 := hf1.below hb2
      have hl2 := hl1.below hb2 hp1
      have hB2 := below_trans' hb1 hb2
      clear ho2 hi1 hf1 hl1 hp1 hb1 hb2
      go_wp2_with fail
      refine (rturnsC l n a cap _ hf2).mono ?_
      rintro e w3 ⟨v3, rfl, ho3, hb3⟩
      obtain ⟨a3, k3, rfl, hi3⟩ := Ils.up ho3
      have hi13 := hi12.below hb3
      have hi23 := hi2.below hb3
      have hf3 := hf2.below hb3
      have hB3 := below_trans' hB2 hb3
      clear ho3 hi12 hi2 hf2 hl2 hb3 hB2
      go_wp2_with fail
      refine (same33 _ _ _ _ _ _ _ hi13 hi3).mono ?_
      rintro e w3' ⟨rfl, q, rfl⟩
      rw [show decide (up (turns l n) = up (turns l n)) = true from decide_eq_true rfl]
      have hi24 := hi23.below (below_drewN (Below.refl _ _) q)
      have hf4 := hf3.below (below_drewN (Below.refl _ _) q)
      have hB4 := below_drewN hB3 q
      clear hi13 hi3 hi23 hf3 hB3
      generalize w3.drewN q = w4 at hi24 hf4 hB4 ⊢
      go_wp2_with fail
      refine (rshareC l n a cap _ hf4).mono ?_
      rintro e w5 ⟨v5, rfl, ho5, hb5⟩
      obtain ⟨a5, k5, rfl, hi5⟩ := Ils.up ho5
      have hi25 := hi24.below hb5
      have hB5 := below_trans' hB4 hb5
      clear ho5 hi24 hf4 hB4 hb5
      go_wp2_with fail
      refine (same33 _ _ _ _ _ _ _ hi25 hi5).mono ?_
      rintro e w5' ⟨rfl, q5, rfl⟩
      rw [show decide (up (share l n) = up (share l n)) = true from decide_eq_true rfl]
      have hi26 := hi25.below (below_drewN (Below.refl _ _) q5)
      have hB6 := below_drewN hB5 q5
      clear hi25 hi5 hB5
      generalize w5.drewN q5 = w6 at hi26 hB6 ⊢
      have hl6 := hl.below hB6 hpos
      have hp6 : 0 < w6.heap.size := by have := hB6.size; omega
      have hsum := share_sum l n
      have hsle := share_sum_le l n
      rw [up_length (share l n)]
      have hcell := hi26.2
      rw [up_length] at hcell
      have hlen9 := hi26.1
      rw [up_length] at hlen9
      clear hi26 hf hl hpos
      generalize share l n = s at *
      have HS := Lib.hid hsum
      clear hsum
      go_wp2_with fail
      go_loop [7, 8] (fun t i => ∃ k : Nat, k ≤ s.length ∧ i = .int .i64 k ∧ t = .int .i64 ((s.take k).sum : Nat)) (fun _ i => s.length - (intOf i).toNat)
      case atStart => exact ⟨0, Nat.zero_le _, rfl, rfl⟩
      case round =>
        obtain ⟨k, hk, rfl, rfl⟩ := hrel
        by_cases hlt : k < s.length
        · obtain ⟨b, off, rfl, hc⟩ := hcell k hlt
          rw [up_getD] at hc
          have hst : (s.take (k + 1)).sum = (s.take k).sum + s.getD k 0 := by rw [take_succ_getD s k hlt, List.sum_append]; simp
          have hst2 := sum_take_le s (k + 1)
          have HT := Lib.hid hst
          have hbd : (s.take k).sum + s.getD k 0 ≤ 4096 := by omega
          clear hst hst2 hcell
          generalize s.getD k 0 = x at *
          generalize (s.take k).sum = y at *
          go_wp2_with fail
          go_round
          case rel => exact ⟨k + 1, by omega, by go_num, by rw [HT.out]; go_num⟩
          case measure => simp [intOf]; omega
        · have hke : k = s.length := by omega
          subst hke
          rw [List.take_length]
          clear hcell
          rcases HS.out with h0 | h0
          · have hl0 : ((s.length : Int) == 0) = true := by rw [h0]; rfl
            clear h0
            go_wp2_with (first | (go_at_call 27; refine (knownC _ (by assumption) (by assumption)).mono ?_; rintro e w7 ⟨rfl, hb7⟩))
            go_ret
            exact ⟨rfl, below_trans' hB6 (by assumption)⟩
          · have hs0 : ((s.sum : Int) == n) = true := by rw [h0]; simp
            clear h0
            by_cases hz : s.length = 0
            · have hl0 : ((s.length : Int) == 0) = true := by rw [hz]; rfl
              go_wp2_with (first | (go_at_call 27; refine (knownC _ (by assumption) (by assumption)).mono ?_; rintro e w7 ⟨rfl, hb7⟩))
              go_ret
              exact ⟨rfl, below_trans' hB6 (by assumption)⟩
            · have hl0 : ((s.length : Int) == 0) = false := by rw [beq_eq_false_iff_ne]; omega
              go_wp2_with (first | (go_at_call 27; refine (knownC _ (by assumption) (by assumption)).mono ?_; rintro e w7 ⟨rfl, hb7⟩))
              go_ret
              exact ⟨rfl, below_trans' hB6 (by assumption)⟩
  · rw [if_neg (by omega)] at hn'
    subst hn'
    go_enter Tryd.func8, Tryd.ntmps8
    go_upto_region 3 with fail
    clear c1 hn1 hn2
    go_wp2_with fail
    refine (turnsC l n a cap _ hl hf hpos).mono ?_
    rintro e w1 ⟨v1, rfl, ho1, hb1, _, _⟩
    obtain ⟨a1, k1, rfl, hi1⟩ := Ils.up ho1
    have hf1 := hf.below hb1
    have hl1 := hl.below hb1 hpos
    have hp1 : 0 < w1.heap.size := by have := hb1.size; omega
    clear ho1
    go_wp2_with fail
    refine (shareC l n a cap _ hl1 hf1 hp1).mono ?_
    rintro e w2 ⟨v2, rfl, ho2, hb2⟩
    obtain ⟨a2, k2, rfl, hi2⟩ := Ils.up ho2
    have hi12 := hi1.below hb2
    have hf2 := hf1.below hb2
    have hl2 := hl1.below hb2 hp1
    have hB2 := below_trans' hb1 hb2
    clear ho2 hi1 hf1 hl1 hp1 hb1 hb2
    go_wp2_with fail
    refine (rturnsC l n a cap _ hf2).mono ?_
    rintro e w3 ⟨v3, rfl, ho3, hb3⟩
    obtain ⟨a3, k3, rfl, hi3⟩ := Ils.up ho3
    have hi13 := hi12.below hb3
    have hi23 := hi2.below hb3
    have hf3 := hf2.below hb3
    have hB3 := below_trans' hB2 hb3
    clear ho3 hi12 hi2 hf2 hl2 hb3 hB2
    go_wp2_with fail
    refine (same33 _ _ _ _ _ _ _ hi13 hi3).mono ?_
    rintro e w3' ⟨rfl, q, rfl⟩
    rw [show decide (up (turns l n) = up (turns l n)) = true from decide_eq_true rfl]
    have hi24 := hi23.below (below_drewN (Below.refl _ _) q)
    have hf4 := hf3.below (below_drewN (Below.refl _ _) q)
    have hB4 := below_drewN hB3 q
    clear hi13 hi3 hi23 hf3 hB3
    generalize w3.drewN q = w4 at hi24 hf4 hB4 ⊢
    go_wp2_with fail
    refine (rshareC l n a cap _ hf4).mono ?_
    rintro e w5 ⟨v5, rfl, ho5, hb5⟩
    obtain ⟨a5, k5, rfl, hi5⟩ := Ils.up ho5
    have hi25 := hi24.below hb5
    have hB5 := below_trans' hB4 hb5
    clear ho5 hi24 hf4 hB4 hb5
    go_wp2_with fail
    refine (same33 _ _ _ _ _ _ _ hi25 hi5).mono ?_
    rintro e w5' ⟨rfl, q5, rfl⟩
    rw [show decide (up (share l n) = up (share l n)) = true from decide_eq_true rfl]
    have hi26 := hi25.below (below_drewN (Below.refl _ _) q5)
    have hB6 := below_drewN hB5 q5
    clear hi25 hi5 hB5
    generalize w5.drewN q5 = w6 at hi26 hB6 ⊢
    have hl6 := hl.below hB6 hpos
    have hp6 : 0 < w6.heap.size := by have := hB6.size; omega
    have hsum := share_sum l n
    have hsle := share_sum_le l n
    rw [up_length (share l n)]
    have hcell := hi26.2
    rw [up_length] at hcell
    have hlen9 := hi26.1
    rw [up_length] at hlen9
    clear hi26 hf hl hpos
    generalize share l n = s at *
    have HS := Lib.hid hsum
    clear hsum
    go_wp2_with fail
    go_loop [7, 8] (fun t i => ∃ k : Nat, k ≤ s.length ∧ i = .int .i64 k ∧ t = .int .i64 ((s.take k).sum : Nat)) (fun _ i => s.length - (intOf i).toNat)
    case atStart => exact ⟨0, Nat.zero_le _, rfl, rfl⟩
    case round =>
      obtain ⟨k, hk, rfl, rfl⟩ := hrel
      by_cases hlt : k < s.length
      · obtain ⟨b, off, rfl, hc⟩ := hcell k hlt
        rw [up_getD] at hc
        have hst : (s.take (k + 1)).sum = (s.take k).sum + s.getD k 0 := by rw [take_succ_getD s k hlt, List.sum_append]; simp
        have hst2 := sum_take_le s (k + 1)
        have HT := Lib.hid hst
        have hbd : (s.take k).sum + s.getD k 0 ≤ 4096 := by omega
        clear hst hst2 hcell
        generalize s.getD k 0 = x at *
        generalize (s.take k).sum = y at *
        go_wp2_with fail
        go_round
        case rel => exact ⟨k + 1, by omega, by go_num, by rw [HT.out]; go_num⟩
        case measure => simp [intOf]; omega
      · have hke : k = s.length := by omega
        subst hke
        rw [List.take_length]
        clear hcell
        rcases HS.out with h0 | h0
        · have hl0 : ((s.length : Int) == 0) = true := by rw [h0]; rfl
          clear h0
          go_wp2_with (first | (go_at_call 27; refine (knownC _ (by assumption) (by assumption)).mono ?_; rintro e w7 ⟨rfl, hb7⟩))
          go_ret
          exact ⟨rfl, below_trans' hB6 (by assumption)⟩
        · have hs0 : ((s.sum : Int) == n) = true := by rw [h0]; simp
          clear h0
          by_cases hz : s.length = 0
          · have hl0 : ((s.length : Int) == 0) = true := by rw [hz]; rfl
            go_wp2_with (first | (go_at_call 27; refine (knownC _ (by assumption) (by assumption)).mono ?_; rintro e w7 ⟨rfl, hb7⟩))
            go_ret
            exact ⟨rfl, below_trans' hB6 (by assumption)⟩
          · have hl0 : ((s.length : Int) == 0) = false := by rw [beq_eq_false_iff_ne]; omega
            go_wp2_with (first | (go_at_call 27; refine (knownC _ (by assumption) (by assumption)).mono ?_; rintro e w7 ⟨rfl, hb7⟩))
            go_ret
            exact ⟨rfl, below_trans' hB6 (by assumption)⟩
end weightTurns
end Go.Proofs.YtniejpfjbifjkaaDoor
