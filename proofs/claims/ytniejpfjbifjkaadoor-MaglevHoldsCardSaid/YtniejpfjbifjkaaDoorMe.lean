/- The reference's Order. -/
import Derived.Test.YtniejpfjbifjkaaDoorMd
namespace Go.Proofs.YtniejpfjbifjkaaDoor
open Go.RowKit

set_option maxHeartbeats 1000000 in
theorem rorderC (id slots : Int) (w : World) (hs : -9223372036854775808 ≤ slots ∧ slots ≤ 9223372036854775807) :
    Calls Tryd.prog 42 #[.int .i64 id, .int .i64 slots] w fun e w' => ∃ v, e = .returned (.tuple #[v, .int .i64 (ordE id slots)]) ∧
      w'.ownsRow w.heap.size 3 1 v (ordR id slots).length (ints (ordR id slots)) ∧ Below w.heap.size w w' := by
  by_cases h1 : slotsOk slots = true
  case neg =>
    have h1' : slotsOk slots = false := by simpa using h1
    have HO : Hid (ordOk id slots = false) := Lib.hid (by unfold ordOk; rw [h1']; rfl)
    go_enter Tryd.func42, Tryd.ntmps42
    go_wp2_with (first | (go_at_call 47; refine (rslotsC _ _ hs).mono ?_; rw [h1']; rintro e w' ⟨rfl, rfl⟩))
    go_ret2
    refine ⟨.slice none 0 0, by unfold ordE; rw [HO.out]; rfl, ?_, Below.refl _ _⟩
    unfold ordR; rw [HO.out]; exact World.ownsRow_nil _ _ _ _
  by_cases h2 : 0 ≤ id
  case neg =>
    have HO : Hid (ordOk id slots = false) := Lib.hid (by unfold ordOk namedOk; rw [decide_eq_false h2]; simp)
    go_enter Tryd.func42, Tryd.ntmps42
    go_wp2_with (first | (go_at_call 47; refine (rslotsC _ _ hs).mono ?_; rw [h1]; rintro e w' ⟨rfl, rfl⟩))
    go_ret2
    refine ⟨.slice none 0 0, by unfold ordE; rw [HO.out]; rfl, ?_, Below.refl _ _⟩
    unfold ordR; rw [HO.out]; exact World.ownsRow_nil _ _ _ _
  by_cases h3 : id < 32
  case neg =>
    have HO : Hid (ordOk id slots = false) := Lib.hid (by unfold ordOk namedOk; rw [decide_eq_false h3]; simp)
    go_enter Tryd.func42, Tryd.ntmps42
    go_wp2_with (first | (go_at_call 47; refine (rslotsC _ _ hs).mono ?_; rw [h1]; rintro e w' ⟨rfl, rfl⟩))
    go_ret2
    refine ⟨.slice none 0 0, by unfold ordE; rw [HO.out]; rfl, ?_, Below.refl _ _⟩
    unfold ordR; rw [HO.out]; exact World.ownsRow_nil _ _ _ _
  have HO : ordOk id slots = true := by unfold ordOk namedOk; rw [h1, decide_eq_true h2, decide_eq_true h3]; rfl
  have hr := slotsOk_range h1
  have hE : ordE id slots = 0 := by unfold ordE; rw [HO]; rfl
  have hR : ordR id slots = ordL id slots := by unfold ordR; rw [HO]; rfl
  rw [hE, hR]
  clear hE hR HO
  have hu : U64 id := ⟨by omega, by omega⟩
  obtain ⟨n, rfl⟩ : ∃ n : Nat, slots = (n : Int) := ⟨slots.toNat, by omega⟩
  have ha := stAt_lt (id := id) hr.1
  have hst := (stStep_lt (id := id) hr.1).1
  obtain ⟨hr1, hr2⟩ := hr
  have e1 := Int.emod_nonneg (pair 1 0 id) (show (n : Int) ≠ 0 by omega)
  have e3 := Int.emod_nonneg (pair 2 0 id) (show (n : Int) - 1 ≠ 0 by omega)
  have ht1 : (pair 1 0 id).tmod n = (stAt id n : Int) := by unfold stAt; rw [Int.tmod_eq_emod_of_nonneg (pair_range _ _ _).1]; omega
  have ht2 : (pair 2 0 id).tmod ((n : Int) - 1) = (stStep id n : Int) - 1 := by unfold stStep; rw [Int.tmod_eq_emod_of_nonneg (pair_range _ _ _).1]; omega
  have hstp := (stStep_lt (id := id) (slots := n) (by omega)).2
  have hw1 : IntKind.u64.wrap n = n := by rw [IntKind.wrap_u64]; exact Int.emod_eq_of_lt (by omega) (by omega)
  have hw2 : IntKind.u64.wrap ((n : Int) - 1) = n - 1 := by rw [IntKind.wrap_u64]; exact Int.emod_eq_of_lt (by omega) (by omega)
  have hs0 : (n : Int) ≠ 0 := by omega
  have hs1 : (n : Int) - 1 ≠ 0 := by omega
  unfold ordL
  rw [Int.toNat_natCast] at ha hst ⊢
  rw [walkL_length]
  clear e1 e3
  generalize stAt id n = a at *
  generalize stStep id n = s at *
  have h1s : (1 : Int) + ((s : Int) - 1) = s := by omega
  have hA0 := pos_zero (s := s) ha
  go_enter Tryd.func42, Tryd.ntmps42
  go_wp2_with (first | (go_at_call 47; refine (rslotsC _ _ hs).mono ?_; rw [h1]; rintro e w' ⟨rfl, rfl⟩) | (go_at_call 86; refine (rpairC _ _ _ _ ⟨by decide, by decide⟩).mono ?_; rintro e w' ⟨rfl, rfl⟩))
  clear ht1 ht2 h1s hw1 hw2 hs0 hs1 h1 h2 h3 hu
  go_loopw [6, 8, 9] (fun x v i wr => ∃ (a7 : Option Addr) (c7 k : Nat), k ≤ n ∧ i = .int .i64 k ∧ v = .slice a7 k c7 ∧ x = .int .i64 (pos a s n k : Nat) ∧ wr.ownsRow w.heap.size 3 1 v k (ints (walkL a s n k)) ∧ Below w.heap.size w wr) (fun _ _ i _ => n - (intOf i).toNat)
  case atStart => exact ⟨none, 0, 0, Nat.zero_le _, rfl, rfl, by rw [hA0], World.ownsRow_nil _ _ _ _, Below.refl _ _⟩
  case round =>
    obtain ⟨a7, c7, k, hk, rfl, rfl, rfl, hI, hB⟩ := hrel
    by_cases hlt : k < n
    · have hp := pos_lt a s n k (by omega)
      have hx : ((pos a s n k : Nat) + (s : Int)) % n = (pos a s n (k + 1) : Nat) := by
        rw [pos_succ]; rfl
      have HX := Lib.hid hx
      clear hx
      have hp' := pos_lt a s n (k + 1) (by omega)
      have hwl : Hid (ints (walkL a s n (k + 1)) = ints (walkL a s n k) ++ [.int .i64 (pos a s n k : Nat)]) := Lib.hid (by rw [walkL_succ, ints_snoc])
      have hn0 : (n : Int) ≠ 0 := by omega
      generalize pos a s n k = p at *
      generalize hg : pos a s n (k + 1) = p' at *
      have HG := Lib.hid hg
      clear hg
      obtain ⟨i0, hi, hz0, hz1, hz2⟩ := info_parts info3
      have hHO := hI.alloc (.cells #[.int .i64 (p : Nat)] 3)
      have hbs := hB.size
      go_wp2_with (at_builtin; refine wpList_append_own _ rfl _ _ 31 rfl w.heap.size 3 i0 (.int .i64 0) 1 8 Tryd.underlying31 hi hz0 hz1 hz2 rfl (by decide) _ _ _ rfl hHO ⟨wr.heap.size, 0, none⟩ 1 1 [.int .i64 (p : Nat)] rfl rfl (cell_one_new _ _ _) (by intro u hu; simp at hu; subst hu; rfl) (by unfold maxLen; omega) (by omega) (by simp; omega) ?_; intro v' w3 h3 hg3 _)
      have hbm : Below w.heap.size w (wr.alloc (.cells #[.int .i64 (p : Nat)] 3)) := hB.alloc hbs _
      have hb3 : Below w.heap.size w w3 := hbm.grown hg3 (by simp; omega) (fun j hj => (hI.lt j hj).1)
      rw [← hwl.out] at h3
      obtain ⟨a8, c8, rfl⟩ := own_slice h3
      clear hbm hg3 hHO hI hB hbs hi hz0 hz1 hz2 hwl
      go_roundw
      case rel => exact ⟨a8, c8, k + 1, by omega, by go_num, rfl, by rw [HX.out, HG.out], h3, hb3⟩
      case measure => simp [intOf]; omega
    · have hk' : k = n := by omega
      have HK := Lib.hid hk'
      clear hk'
      go_wp2
      go_ret2
      rw [HK.out] at hI ⊢
      exact ⟨_, rfl, hI, hB⟩
end Go.Proofs.YtniejpfjbifjkaaDoor
