/- MaglevFinds walked. -/
import Derived.Test.YtniejpfjbifjkaaDoorMt
namespace Go.Proofs.YtniejpfjbifjkaaDoor
open Go.RowKit Fl

theorem ints'_oneCell (l : List Int) : ∀ u ∈ ints' l, u.oneCell' = true := by
  intro u hu; simp [ints'] at hu; obtain ⟨x, _, rfl⟩ := hu; rfl
theorem Ils.news {w : World} {ad : Addr} {l : List Int} (h : Ils w (some ad) l) : ∀ (j : Nat) (u : Value), (ints' l)[j]? = some u → w.cell? (ad.add j) = some u := by
  intro j u hu
  have hj : j < l.length := by
    by_cases c : j < l.length
    · exact c
    · simp [ints', Nat.not_lt.1 c] at hu
  obtain ⟨b, off, he, hc⟩ := h.2 j hj
  rw [ints'_getD l j hj] at hu
  cases hu
  cases he
  rw [← hc]
  congr 1
  unfold Addr.add; split <;> simp_all

namespace maglevFinds
set_option maxRecDepth 100000 in
set_option maxHeartbeats 2000000 in
theorem walk (a0 : Option Addr) (l0 : List Int) (cap0 : Nat) (a1 : Option Addr) (l1 : List Int) (cap1 : Nat) (h : Int) (id : Int) (w : World)
    (f0 : Ils w a0 l0) (z0 : a0 = none → cap0 = 0) (_ : ∀ x ∈ l0, -9223372036854775808 ≤ x ∧ x ≤ 9223372036854775807) (s0 : l0.length * 8 ≤ 140737488351232)
    (f1 : Ils w a1 l1) (_ : a1 = none → cap1 = 0) (_ : ∀ x ∈ l1, -9223372036854775808 ≤ x ∧ x ≤ 9223372036854775807) (_ : l1.length * 8 ≤ 140737488351232)
    (hh : 0 ≤ h ∧ h ≤ 18446744073709551615) (_ : -9223372036854775808 ≤ id ∧ id ≤ 9223372036854775807) (hl : Laid w) (hpos : 0 < w.heap.size) :
    Calls Tryd.prog 16 #[.slice a0 l0.length cap0, .slice a1 l1.length cap1, .int .u64 h, .int .i64 id] w fun e w' => e = .returned (.bool true) ∧ Below w.heap.size w w' := by
  obtain ⟨h, rfl⟩ : ∃ m : Nat, h = (m : Int) := ⟨h.toNat, by omega⟩
  obtain ⟨i0, hi, hz0, hz1, hz2⟩ := info_parts info3
  have hm := f0.1
  go_enter Tryd.func16, Tryd.ntmps16
  go_upto_region 2 with fail
  go_cut [9] (fun s9 wx => ∃ a' cap', s9 = .slice a' l0.length cap' ∧ Ils wx a' l0 ∧ Below w.heap.size w wx)
  case first =>
    cases a0 with
    | none =>
      have hl0 : l0 = [] := by
        cases l0 with
        | nil => rfl
        | cons x l => obtain ⟨b, off, h, _⟩ := f0.2 0 (by simp); cases h
      subst hl0
      have hc0 := z0 rfl
      subst hc0
      have hrun := fun ty (W : World) => run_append_owned_none (P := Tryd.prog) W 0 31 ty 3 i0 1 Tryd.underlying31 hi (.slice none 0 0) 0 [] (World.ownsRow_nil W 0 3 1)
      go_wp2_with fail
      go_meet
      exact ⟨none, 0, rfl, f0, Below.refl _ _⟩
    | some ad =>
      have hn := f0.news
      go_wp2_with (at_builtin; refine wpList_append_own _ rfl _ _ 31 rfl w.heap.size 3 i0 (.int .i64 0) 1 8 Tryd.underlying31 hi hz0 hz1 hz2 rfl (by decide) _ _ _ rfl (World.ownsRow_nil w w.heap.size 3 1) ad l0.length cap0 (ints' l0) rfl (by simp [ints']) hn (ints'_oneCell l0) (by unfold maxLen; omega) (by omega) (Nat.le_refl _) ?_; intro v' w1 hown hgrow _)
      rw [Nat.zero_add, List.nil_append] at hown
      obtain ⟨a', cap', rfl, hf'⟩ := Ils.owned hown
      go_meet
      exact ⟨a', cap', rfl, hf', (Below.refl _ _).grown hgrow (Nat.le_refl _) (fun k h => by cases h)⟩
  case rest =>
    obtain ⟨a', cap', rfl, hf', hbel⟩ := hcut
    have F0 := Lib.hid (f0.below hbel)
    have F1 := Lib.hid (f1.below hbel)
    have FO := Lib.hid hf'
    have HL := Lib.hid (hl.below hbel hpos)
    have hpw : 0 < wc.heap.size := by have := hbel.size; omega
    have HB := Lib.hid hbel
    clear f0 f1 hf' hl hbel z0 hm hi hz0 hz1 hz2 hpos
    have bel : ∀ n, Below wc.heap.size wc (wc.drewN n) := fun n => below_drewN (Below.refl _ _) n
    have BL := Lib.hid bel
    have hd : ∀ n m (w : World), (w.drewN n).drewN m = w.drewN (n + m) := fun n m w => drewN_drewN w n m
    have HD := Lib.hid hd
    clear bel hd
    go_wp2_with fail
    refine (findC l0 a' cap' h wc FO.out).mono ?_
    rintro e w1 ⟨rfl, rfl⟩
    go_wp2_with fail
    refine (rfindC l0 a0 cap0 h _ F0.out).mono ?_
    rintro e w1 ⟨rfl, rfl⟩
    go_wp2_with fail
    refine (movedC l0 l1 a' a1 cap' cap1 _ FO.out F1.out).mono ?_
    rintro e w1 ⟨rfl, n1, rfl⟩
    go_wp2_with fail
    refine (rmovedC l0 l1 a0 a1 cap0 cap1 _ (F0.out.below (BL.out _)) (F1.out.below (BL.out _))).mono ?_
    rintro e w1 ⟨rfl, n2, rfl⟩
    rw [HD.out]
    go_wp2_with fail
    refine (heldC l0 a' cap' id (wc.drewN _) (FO.out.below (BL.out _))).mono ?_
    rintro e w1 ⟨rfl, rfl⟩
    go_wp2_with fail
    refine (rheldC l0 a0 cap0 id (wc.drewN _) (F0.out.below (BL.out _))).mono ?_
    rintro e w1 ⟨rfl, rfl⟩
    go_wp2_with fail
    refine (rsame43C l0 l0 a' a0 cap' cap0 _ (FO.out.below (BL.out _)) (F0.out.below (BL.out _))).mono ?_
    rintro e w1 ⟨rfl, n3, rfl⟩
    rw [HD.out, decide_eq_true rfl]
    go_wp2_with fail
    refine (known10C (wc.drewN _) (fun i hi => HL.out i hi) hpw).mono ?_
    rintro e w1 ⟨rfl, hb1⟩
    go_wp2_with fail
    go_ret
    exact ⟨rfl, below_trans' HB.out ((BL.out _).trans hb1)⟩
end maglevFinds
end Go.Proofs.YtniejpfjbifjkaaDoor
