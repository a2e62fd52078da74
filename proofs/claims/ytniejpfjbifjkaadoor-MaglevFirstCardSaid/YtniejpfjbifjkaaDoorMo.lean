/- The reference's Build, all ways. -/
import Derived.Test.YtniejpfjbifjkaaDoorMn
namespace Go.Proofs.YtniejpfjbifjkaaDoor
open Go.RowKit Fl

theorem bnd_wts {w : World} {a : Option Addr} {l : List (Int × Nat)} (hx : Ens w a l) : ∀ x ∈ wts l, x < B64 := by
  intro x hx'
  obtain ⟨e, he, rfl⟩ := List.mem_map.1 hx'
  obtain ⟨i, hi, rfl⟩ := List.getElem_of_mem he
  have := hx.2.1 i hi
  simpa [List.getD, hi] using this
theorem slotsOk_pr {n : Nat} (h1 : slotsOk n = true) : Pr n := by
  unfold slotsOk prm at h1
  simp only [Bool.and_eq_true, decide_eq_true_eq, Int.toNat_natCast] at h1
  exact h1.2
theorem tableOf_length (l : List (Int × Nat)) (n : Nat) (ts : List Nat) : (tableOf l n ts).length = n := by
  have : ∀ (ts : List Nat) (t : List Int), t.length = n → (ts.foldl (bstep l n) t).length = n := by
    intro ts
    induction ts with
    | nil => intro t h; exact h
    | cons x ts ih => intro t h; rw [List.foldl_cons]; exact ih _ (by rw [bstep_length]; exact h)
  exact this ts _ (by simp)
theorem bOk_parts {l : List (Int × Nat)} {slots : Int} : bOk l slots = true ↔ slotsOk slots = true ∧ rightOk l = true := by
  unfold bOk; rw [Bool.and_eq_true]

theorem rbuildC (l : List (Int × Nat)) (a : Option Addr) (ca : Nat) (slots : Int) (w : World) (hx : Ens w a l) (hs : -9223372036854775808 ≤ slots ∧ slots ≤ 9223372036854775807) :
    Calls Tryd.prog 50 #[.slice a l.length ca, .int .i64 slots] w fun e w' => ∃ v, e = .returned (.tuple #[v, .int .i64 (bErr l slots)]) ∧
      w'.ownsRow w.heap.size 3 1 v (bTab l slots).length (ints' (bTab l slots)) ∧ Below w.heap.size w w' := by
  by_cases h1 : slotsOk slots = true
  case neg =>
    have h1' : slotsOk slots = false := by simpa using h1
    have hB : ¬ bOk l slots = true := fun h => h1 (bOk_parts.1 h).1
    have HE : Hid (bErr l slots = 1) := Lib.hid (by unfold bErr; rw [if_neg hB])
    have HT : Hid (bTab l slots = []) := Lib.hid (by unfold bTab; rw [if_neg (fun h => hB h.1)])
    clear hB h1 hx
    go_enter Tryd.func50, Tryd.ntmps50
    go_wp2_with (go_at_call 47; refine (rslotsC _ _ hs).mono ?_; rw [h1']; rintro e w' ⟨rfl, rfl⟩)
    go_ret2
    refine ⟨.slice none 0 0, by rw [HE.out]; rfl, ?_, Below.refl _ _⟩
    rw [HT.out]; exact World.ownsRow_nil _ _ _ _
  by_cases h2 : rightOk l = true
  case neg =>
    have h2' : rightOk l = false := by simpa using h2
    have hB : ¬ bOk l slots = true := fun h => h2 (bOk_parts.1 h).2
    have HE : Hid (bErr l slots = 1) := Lib.hid (by unfold bErr; rw [if_neg hB])
    have HT : Hid (bTab l slots = []) := Lib.hid (by unfold bTab; rw [if_neg (fun h => hB h.1)])
    have HX := Lib.hid hx
    clear hB h2 hx
    go_enter Tryd.func50, Tryd.ntmps50
    go_wp2_with (first | (go_at_call 47; refine (rslotsC _ _ hs).mono ?_; rw [h1]; rintro e w' ⟨rfl, rfl⟩) | (go_at_call 54; refine (rrightC l _ _ _ HX.out).mono ?_; rw [h2']; rintro e w' ⟨rfl, nn, rfl⟩))
    go_ret2
    refine ⟨.slice none 0 0, by rw [HE.out]; rfl, ?_, below_drewN (Below.refl _ _) _⟩
    rw [HT.out]; exact World.ownsRow_nil _ _ _ _
  have hr := slotsOk_range h1
  obtain ⟨n, rfl⟩ : ∃ n : Nat, slots = (n : Int) := ⟨slots.toNat, by omega⟩
  have hB : bOk l n = true := bOk_parts.2 ⟨h1, h2⟩
  by_cases h3 : turns (wts l) n = []
  case neg =>
    have hE : bErr l n = 0 := by unfold bErr bTurns; rw [if_pos hB, if_neg h3]
    have hT : bTab l n = tableOf l n (turns (wts l) n) := by unfold bTab bTurns; rw [if_pos ⟨hB, h3⟩, Int.toNat_natCast]
    rw [hE, hT, tableOf_length]
    exact (rbuild_some l a ca n w hx h1 h2 h3).mono fun e w' ⟨g, he, ho, hb⟩ => ⟨_, he, ho, hb⟩
  have HE : Hid (bErr l n = 20) := Lib.hid (by unfold bErr bTurns; rw [if_pos hB, if_pos h3])
  have HT : Hid (bTab l n = []) := Lib.hid (by unfold bTab bTurns; rw [if_neg (fun h => h.2 h3)])
  have hbnd := bnd_wts hx
  have HX := Lib.hid hx
  have HB := Lib.hid hbnd
  obtain ⟨hr1, hr2⟩ := hr
  clear hx hbnd hB hs
  go_enter Tryd.func50, Tryd.ntmps50
  go_wp2_with (first | (go_at_call 47; refine (rslotsC _ _ ⟨by omega, by omega⟩).mono ?_; rw [h1]; rintro e w' ⟨rfl, rfl⟩) | (go_at_call 54; refine (rrightC l _ _ _ HX.out).mono ?_; rw [h2]; rintro e w' ⟨rfl, nn, rfl⟩))
  refine (rweightsC l a ca _ (HX.out.below (below_drewN (Below.refl _ _) nn))).mono ?_
  rintro e w1 ⟨v, rfl, ho1, hb1⟩
  have hb1' : Below w.heap.size w w1 := (below_drewN (Below.refl _ _) nn).trans hb1
  obtain ⟨aw, cw, rfl, hfw⟩ := Fls.owned (wts_length l).symm HB.out ho1
  have hrt := rturnsC (wts l) n aw cw w1 hfw
  rw [wts_length, h3] at hrt
  clear ho1 hb1 hfw h3
  go_wp2_with fail
  refine hrt.mono ?_
  rintro e w2 ⟨vt, rfl, ho2, hb2⟩
  clear hrt
  have hb2' := below_trans' hb1' hb2
  obtain ⟨gt, ct, rfl⟩ := own_slice ho2
  clear ho2 hb2 hb1'
  go_wp2_with fail
  go_ret2
  refine ⟨.slice none 0 0, by rw [HE.out]; rfl, ?_, hb2'⟩
  rw [HT.out]; exact World.ownsRow_nil _ _ _ _
end Go.Proofs.YtniejpfjbifjkaaDoor
