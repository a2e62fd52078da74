/- Prime, slotted, named, Slots. -/
import Derived.Test.YtniejpfjbifjkaaDoorMa
namespace Go.Proofs.YtniejpfjbifjkaaDoor
open Go.RowKit

/-- a number that none below it divides. -/
def Pr (n : Nat) : Prop := 2 ≤ n ∧ ∀ k, 2 ≤ k → k < n → n % k ≠ 0
instance (n : Nat) : Decidable (Pr n) :=
  decidable_of_iff (2 ≤ n ∧ ∀ k, k < n → 2 ≤ k → n % k ≠ 0) ⟨fun h => ⟨h.1, fun k h1 h2 => h.2 k h2 h1⟩, fun h => ⟨h.1, fun k h1 h2 => h.2 k h2 h1⟩⟩
def prm (n : Int) : Bool := decide (Pr n.toNat)
/-- none below k divides it, and k is past the root. -/
theorem pr_of_root {n k : Nat} (h2 : 2 ≤ n) (hk : n < k * k) (h : ∀ j, 2 ≤ j → j < k → n % j ≠ 0) : Pr n := by
  refine ⟨h2, fun j hj1 hj2 hd => ?_⟩
  rcases Nat.lt_or_ge j k with hlt | hge
  · exact h j hj1 hlt hd
  · obtain ⟨c, hc⟩ := Nat.dvd_of_mod_eq_zero hd
    have hc0 : 2 ≤ c := by
      rcases Nat.lt_or_ge c 2 with h' | h'
      · rcases (show c = 0 ∨ c = 1 by omega) with rfl | rfl <;> simp at hc <;> omega
      · exact h'
    have hck : c < k := by
      rcases Nat.lt_or_ge c k with h' | h'
      · exact h'
      · have := Nat.mul_le_mul hge h'
        omega
    exact h c hc0 hck (by rw [hc]; exact Nat.mul_mod_left j c)
theorem prm_false {n : Nat} {k : Nat} (h1 : 2 ≤ k) (h2 : k < n) (h : n % k = 0) : prm (n : Int) = false :=
  decide_eq_false (fun hp => hp.2 k h1 h2 h)
theorem root_lt {n k : Nat} (hk0 : 0 < k) (h : k ≤ n / k) : k * k ≤ n := (Nat.le_div_iff_mul_le hk0).1 h
theorem root_ge {n k : Nat} (hk0 : 0 < k) (h : ¬ k ≤ n / k) : n < k * k := Nat.lt_of_not_le fun h' => h ((Nat.le_div_iff_mul_le hk0).2 h')
theorem sq_bound {k n : Nat} (h : k * k ≤ n) (hn : n ≤ 9223372036854775807) : k ≤ 3037000500 := by
  rcases Nat.lt_or_ge 3037000500 k with h' | h'
  · have := Nat.mul_le_mul h' h'
    omega
  · exact h'
theorem tdiv_nat (n k : Nat) : (n : Int).tdiv (k : Int) = ((n / k : Nat) : Int) := rfl
theorem tmod_nat (n k : Nat) : (n : Int).tmod (k : Int) = ((n % k : Nat) : Int) := rfl

theorem rprimeC (n : Int) (w : World) (hn : -9223372036854775808 ≤ n ∧ n ≤ 9223372036854775807) :
    Calls Tryd.prog 45 #[.int .i64 n] w fun e w' => e = .returned (.bool (prm n)) ∧ w = w' := by
  by_cases h2 : n < 2
  · have hp : prm n = false := decide_eq_false (fun h => by have := h.1; omega)
    have HP := Lib.hid hp
    clear hp
    go_enter Tryd.func45, Tryd.ntmps45
    go_wp2
    go_ret
    exact ⟨by rw [HP.out]; rfl, rfl⟩
  · obtain ⟨m, rfl⟩ : ∃ m : Nat, n = (m : Int) := ⟨n.toNat, by omega⟩
    have hm2 : 2 ≤ m := by omega
    have hmx : m ≤ 9223372036854775807 := by omega
    clear hn
    go_enter Tryd.func45, Tryd.ntmps45
    go_wp2
    go_loopw [3] (fun i wr => wr = w ∧ ∃ k : Nat, 2 ≤ k ∧ k ≤ 3037000501 ∧ i = .int .i64 k ∧ Hid (∀ j, 2 ≤ j → j < k → m % j ≠ 0)) (fun i _ => 3037000501 - (intOf i).toNat)
    case atStart => exact ⟨rfl, 2, by omega, by omega, rfl, Lib.hid (fun j h1 h2 => by omega)⟩
    case round =>
      obtain ⟨rfl, k, hk2, hkb, rfl, hI⟩ := hrel
      have hq := tdiv_nat m k
      have hqb : m / k ≤ 9223372036854775807 := Nat.le_trans (Nat.div_le_self m k) hmx
      have hr := tmod_nat m k
      by_cases hle : k ≤ m / k
      · have hsq := root_lt (by omega) hle
        have hkb' := sq_bound hsq hmx
        have hkm : k < m := by
          have := Nat.mul_le_mul_right k hk2
          omega
        by_cases hd : m % k = 0
        · have HP := Lib.hid (prm_false hk2 hkm hd)
          have hb : (((m % k : Nat) : Int) == 0) = true := by rw [hd]; rfl
          clear hd hsq
          generalize m / k = q at *
          generalize m % k = r at *
          go_wp2
          go_ret
          exact ⟨by rw [HP.out]; rfl, rfl⟩
        · have HD := Lib.hid hd
          have hb : (((m % k : Nat) : Int) == 0) = false := by rw [beq_eq_false_iff_ne]; omega
          have HN : Hid (∀ j, 2 ≤ j → j < k + 1 → m % j ≠ 0) := Lib.hid (fun j h1 h2 => by
            rcases Nat.lt_or_ge j k with h | h
            · exact hI.out j h1 h
            · have : j = k := by omega
              subst this; exact hd)
          clear hd hsq hI HD
          generalize m / k = q at *
          generalize m % k = r at *
          go_wp2
          go_roundw
          case rel => exact ⟨by first | trivial | rfl, k + 1, by omega, by omega, by go_num, HN⟩
          case measure => simp [intOf]; omega
      · have HP : Hid (prm (m : Int) = true) := Lib.hid (decide_eq_true (pr_of_root hm2 (root_ge (by omega) hle) hI.out))
        clear hI
        generalize m / k = q at *
        go_wp2
        go_ret
        exact ⟨by rw [HP.out]; rfl, rfl⟩
theorem prm_small (n : Int) (h : n < 4) : prm n = (n == 2 || n == 3) := by
  by_cases h1 : n < 2
  · have : prm n = false := decide_eq_false (fun h => by have := h.1; omega)
    rw [this]
    have e2 : (n == 2) = false := by rw [beq_eq_false_iff_ne]; omega
    have e3 : (n == 3) = false := by rw [beq_eq_false_iff_ne]; omega
    rw [e2, e3]; rfl
  · rcases (show n = 2 ∨ n = 3 by omega) with rfl | rfl <;> decide
theorem primeC (n : Int) (w : World) (hn : -9223372036854775808 ≤ n ∧ n ≤ 9223372036854775807) :
    Calls Tryd.prog 44 #[.int .i64 n] w fun e w' => e = .returned (.bool (prm n)) ∧ w = w' := by
  by_cases h4 : n < 4
  · have HP := Lib.hid (prm_small n h4)
    by_cases e2 : n = 2
    · subst e2
      go_enter Tryd.func44, Tryd.ntmps44
      go_wp2
      go_ret
      exact ⟨by rw [HP.out]; rfl, rfl⟩
    · have b2 : (n == 2) = false := by rw [beq_eq_false_iff_ne]; exact e2
      clear e2
      go_enter Tryd.func44, Tryd.ntmps44
      go_wp2
      go_ret
      exact ⟨by rw [HP.out, b2]; rfl, rfl⟩
  · obtain ⟨m, rfl⟩ : ∃ m : Nat, n = (m : Int) := ⟨n.toNat, by omega⟩
    have hm2 : 4 ≤ m := by omega
    have hmx : m ≤ 9223372036854775807 := by omega
    have hr2 : (m : Int).tmod 2 = ((m % 2 : Nat) : Int) := tmod_nat m 2
    by_cases hev : m % 2 = 0
    · have HP := Lib.hid (prm_false (n := m) (k := 2) (by omega) (by omega) hev)
      have hb : (((m % 2 : Nat) : Int) == 0) = true := by rw [hev]; rfl
      clear hev hn
      generalize m % 2 = r2 at *
      go_enter Tryd.func44, Tryd.ntmps44
      go_wp2
      go_ret
      exact ⟨by rw [HP.out]; rfl, rfl⟩
    have HEV := Lib.hid hev
    have hb : (((m % 2 : Nat) : Int) == 0) = false := by rw [beq_eq_false_iff_ne]; omega
    clear hn hev
    generalize hg : m % 2 = r2 at hr2 hb
    have HG := Lib.hid hg
    clear hg
    go_enter Tryd.func44, Tryd.ntmps44
    go_wp2
    go_loopw [3] (fun i wr => wr = w ∧ ∃ k : Nat, 3 ≤ k ∧ k ≤ 3037000502 ∧ i = .int .i64 k ∧ Hid (k % 2 = 1) ∧ Hid (∀ j, 2 ≤ j → j < k → m % j ≠ 0)) (fun i _ => 3037000503 - (intOf i).toNat)
    case atStart => exact ⟨rfl, 3, by omega, by omega, rfl, Lib.hid rfl, Lib.hid (fun j h1 h2 => by
      have : j = 2 := by omega
      subst this; exact HEV.out)⟩
    case round =>
      obtain ⟨rfl, k, hk2, hkb, rfl, hodd, hI⟩ := hrel
      have hq := tdiv_nat m k
      have hqb : m / k ≤ 9223372036854775807 := Nat.le_trans (Nat.div_le_self m k) hmx
      have hr := tmod_nat m k
      by_cases hle : k ≤ m / k
      · have hsq := root_lt (by omega) hle
        have hkb' := sq_bound hsq hmx
        have hkm : k < m := by
          have := Nat.mul_le_mul_right k hk2
          omega
        by_cases hd : m % k = 0
        · have HP := Lib.hid (prm_false (by omega) hkm hd)
          have hb : (((m % k : Nat) : Int) == 0) = true := by rw [hd]; rfl
          clear hd hsq
          generalize m / k = q at *
          generalize m % k = r at *
          go_wp2
          go_ret
          exact ⟨by rw [HP.out]; rfl, rfl⟩
        · have hb : (((m % k : Nat) : Int) == 0) = false := by rw [beq_eq_false_iff_ne]; omega
          have HN : Hid (∀ j, 2 ≤ j → j < k + 2 → m % j ≠ 0) := Lib.hid (fun j h1 h2 => by
            rcases Nat.lt_or_ge j k with h | h
            · exact hI.out j h1 h
            · rcases (show j = k ∨ j = k + 1 by omega) with rfl | rfl
              · exact hd
              · intro h0
                have h3 := Nat.dvd_of_mod_eq_zero h0
                have h4 : 2 ∣ k + 1 := Nat.dvd_of_mod_eq_zero (by have := hodd.out; omega)
                exact HEV.out (Nat.mod_eq_zero_of_dvd (Nat.dvd_trans h4 h3)))
          have HO : Hid ((k + 2) % 2 = 1) := Lib.hid (by have := hodd.out; omega)
          clear hd hsq hI hodd
          generalize m / k = q at *
          generalize m % k = r at *
          go_wp2
          go_roundw
          case rel => exact ⟨by first | trivial | rfl, k + 2, by omega, by omega, by go_num, HO, HN⟩
          case measure => simp [intOf]; omega
      · have HP : Hid (prm (m : Int) = true) := Lib.hid (decide_eq_true (pr_of_root (by omega) (root_ge (by omega) hle) hI.out))
        clear hI hodd
        generalize m / k = q at *
        go_wp2
        go_ret
        exact ⟨by rw [HP.out]; rfl, rfl⟩

/-- how many slots there can be. -/
def slotsOk (n : Int) : Bool := decide (n ≤ 1021) && prm n
theorem prm_two {n : Int} (h : n < 2) : prm n = false := decide_eq_false (fun h => by have := h.1; omega)
theorem slottedC (n : Int) (w : World) (hn : -9223372036854775808 ≤ n ∧ n ≤ 9223372036854775807) :
    Calls Tryd.prog 82 #[.int .i64 n] w fun e w' => e = .returned (.bool (slotsOk n)) ∧ w = w' := by
  by_cases h : n ≤ 1021
  · have HS : Hid (slotsOk n = prm n) := Lib.hid (by unfold slotsOk; rw [decide_eq_true h]; rfl)
    go_enter Tryd.func82, Tryd.ntmps82
    go_wp2_with (first | (go_at_call 44; refine (primeC _ _ hn).mono ?_; rintro e w' ⟨rfl, rfl⟩))
    go_ret
    exact ⟨by rw [HS.out]; rfl, rfl⟩
  · have HS : Hid (slotsOk n = false) := Lib.hid (by unfold slotsOk; rw [decide_eq_false h]; rfl)
    go_enter Tryd.func82, Tryd.ntmps82
    go_wp2
    go_ret
    exact ⟨by rw [HS.out]; rfl, rfl⟩
theorem rslotsC (n : Int) (w : World) (hn : -9223372036854775808 ≤ n ∧ n ≤ 9223372036854775807) :
    Calls Tryd.prog 47 #[.int .i64 n] w fun e w' => e = .returned (.bool (slotsOk n)) ∧ w = w' := by
  by_cases h0 : n < 2
  · have HS : Hid (slotsOk n = false) := Lib.hid (by unfold slotsOk; rw [prm_two h0]; simp)
    go_enter Tryd.func47, Tryd.ntmps47
    go_wp2
    go_ret
    exact ⟨by rw [HS.out]; rfl, rfl⟩
  by_cases h : n ≤ 1021
  · have HS : Hid (slotsOk n = prm n) := Lib.hid (by unfold slotsOk; rw [decide_eq_true h]; rfl)
    go_enter Tryd.func47, Tryd.ntmps47
    go_wp2_with (first | (go_at_call 45; refine (rprimeC _ _ hn).mono ?_; rintro e w' ⟨rfl, rfl⟩))
    go_ret
    exact ⟨by rw [HS.out]; rfl, rfl⟩
  · have HS : Hid (slotsOk n = false) := Lib.hid (by unfold slotsOk; rw [decide_eq_false h]; rfl)
    go_enter Tryd.func47, Tryd.ntmps47
    go_wp2
    go_ret
    exact ⟨by rw [HS.out]; rfl, rfl⟩
def namedOk (id : Int) : Bool := decide (0 ≤ id) && decide (id < 32)
theorem namedC (n : Int) (w : World) :
    Calls Tryd.prog 83 #[.int .i64 n] w fun e w' => e = .returned (.bool (namedOk n)) ∧ w = w' := by
  by_cases h0 : 0 ≤ n
  · have HS : Hid (namedOk n = decide (n < 32)) := Lib.hid (by unfold namedOk; rw [decide_eq_true h0]; rfl)
    go_enter Tryd.func83, Tryd.ntmps83
    go_wp2
    go_ret
    exact ⟨by rw [HS.out]; rfl, rfl⟩
  · have HS : Hid (namedOk n = false) := Lib.hid (by unfold namedOk; rw [decide_eq_false h0]; rfl)
    go_enter Tryd.func83, Tryd.ntmps83
    go_wp2
    go_ret
    exact ⟨by rw [HS.out]; rfl, rfl⟩
end Go.Proofs.YtniejpfjbifjkaaDoor
