/- maglev's right; few. -/
import Derived.Test.YtniejpfjbifjkaaDoorMi
namespace Go.Proofs.YtniejpfjbifjkaaDoor
open Go.RowKit Fl

def lastOf (l : List (Int × Nat)) (k : Nat) : Int := if k = 0 then -1 else idAt l (k - 1)
theorem good_last {l : List (Int × Nat)} {k : Nat} (h0 : 0 ≤ idAt l k) : (k = 0 ∨ idAt l (k - 1) < idAt l k) ↔ lastOf l k < idAt l k := by
  unfold lastOf
  by_cases hk : k = 0
  · rw [if_pos hk]; constructor
    · intro _; omega
    · intro _; exact .inl hk
  · rw [if_neg hk]; constructor
    · rintro (h | h)
      · exact absurd h hk
      · exact h
    · exact .inr

set_option maxHeartbeats 1000000 in
theorem rightC (l : List (Int × Nat)) (a : Option Addr) (ca : Nat) (w : World) (hx : Ens w a l) :
    Calls Tryd.prog 87 #[.slice a l.length ca] w fun e w' => e = .returned (.bool (rightOk l)) ∧ Below w.heap.size w w' := by
  obtain ⟨hm, _, hc⟩ := hx
  by_cases h32 : l.length ≤ 32
  case neg =>
    have HR : Hid (rightOk l = false) := Lib.hid (decide_eq_false (fun hh => h32 hh.1))
    clear hc
    go_enter Tryd.func87, Tryd.ntmps87
    go_wp2
    go_ret
    exact ⟨by rw [HR.out]; rfl, Below.refl _ _⟩
  go_enter Tryd.func87, Tryd.ntmps87
  go_wp2
  go_loopw [3, 11] (fun v i wr => ∃ k : Nat, k ≤ l.length ∧ i = .int .i64 k ∧ v = .int .i64 (lastOf l k) ∧ Below w.heap.size w wr ∧ Hid (∀ i, i < k → goodAt l i)) (fun _ i _ => l.length - (intOf i).toNat)
  case atStart => exact ⟨0, Nat.zero_le _, rfl, rfl, Below.refl _ _, Lib.hid (fun i hi => by omega)⟩
  case round =>
    obtain ⟨k, hk, rfl, rfl, hB, hI⟩ := hrel
    by_cases hlt : k < l.length
    case neg =>
      have hk' : k = l.length := by omega
      have HR : Hid (rightOk l = true) := Lib.hid (decide_eq_true ⟨h32, by rw [← hk']; exact hI.out⟩)
      clear hk' hI hc
      go_wp2
      go_ret
      exact ⟨by rw [HR.out]; rfl, hB⟩
    obtain ⟨b1, o1, rfl, h1, h2⟩ := hc k hlt
    have h1' : wr.cell? ⟨b1, o1 + k * 2, none⟩ = some (.int .i64 (idAt l k)) := (hB.cell (p := ⟨b1, o1 + k * 2, none⟩) (World.block_lt_of_cell? w _ h1)).trans h1
    have h2' : wr.cell? ⟨b1, o1 + k * 2 + 1, none⟩ = some (.float .f64 (l.getD k ent0).2) := (hB.cell (p := ⟨b1, o1 + k * 2 + 1, none⟩) (World.block_lt_of_cell? w _ h2)).trans h2
    have hbs := hB.size
    have hB2 := fun (o : Obj) => hB.alloc hbs o
    have hlast : lastOf l (k + 1) = idAt l k := by unfold lastOf; rw [if_neg (by omega)]; rfl
    clear h1 h2 hc
    generalize (l.getD k ent0).2 = y at *
    by_cases c0 : namedOk (idAt l k) = true
    case neg =>
      have c0' : namedOk (idAt l k) = false := by simpa using c0
      have HR := Lib.hid (rightOk_false hlt (fun h => c0 (by unfold namedOk; rw [decide_eq_true h.1, decide_eq_true h.2.1]; rfl)))
      clear hI c0 hlast
      generalize idAt l k = x at *
      go_wp2_with (first | (go_at_call 83; refine (namedC _ _).mono ?_; rw [c0']; rintro e w' ⟨rfl, rfl⟩))
      go_ret
      exact ⟨by rw [HR.out]; rfl, hB2 _⟩
    have hn := namedOk_range c0
    have hgl := good_last (l := l) (k := k) hn.1
    by_cases c2 : lastOf l k < idAt l k
    · have d3 : decide (idAt l k ≤ lastOf l k) = false := decide_eq_false (by omega)
      have HN : Hid (∀ i, i < k + 1 → goodAt l i) := Lib.hid (good_step hI.out ⟨hn.1, hn.2, hgl.2 c2⟩)
      have HL := Lib.hid hlast
      clear hI hgl hlast
      generalize idAt l k = x at *
      generalize lastOf l k = y' at *
      go_wp2_with (first | (go_at_call 83; refine (namedC _ _).mono ?_; rw [c0]; rintro e w' ⟨rfl, rfl⟩))
      go_roundw
      case rel => exact ⟨k + 1, by omega, by go_num, by rw [HL.out], hB2 _, HN⟩
      case measure => simp [intOf]; omega
    · have d3 : decide (idAt l k ≤ lastOf l k) = true := decide_eq_true (by omega)
      have HR := Lib.hid (rightOk_false hlt (fun h => c2 (hgl.1 h.2.2)))
      clear hI hgl hlast
      generalize idAt l k = x at *
      generalize lastOf l k = y' at *
      go_wp2_with (first | (go_at_call 83; refine (namedC _ _).mono ?_; rw [c0]; rintro e w' ⟨rfl, rfl⟩))
      go_ret
      exact ⟨by rw [HR.out]; rfl, hB2 _⟩

/-- the small primes. -/
def fewL : List Nat := [2, 3, 5, 7, 11, 13, 31, 61]
def fewN (n : Int) : Nat := fewL.getD (n % 8).toNat 0
theorem fewC (n : Int) (w : World) (hn : -9223372036854775808 ≤ n ∧ n ≤ 9223372036854775807) :
    Calls Tryd.prog 51 #[.int .i64 n] w fun e w' => e = .returned (.int .i64 (fewN n : Nat)) ∧ Below w.heap.size w w' := by
  have h1 := Int.emod_nonneg n (show (8 : Int) ≠ 0 by omega)
  have h2 := Int.emod_lt_of_pos n (show (0 : Int) < 8 by omega)
  have HF : Hid (fewN n = fewL.getD (n % 8).toNat 0) := Lib.hid rfl
  have hcnt := fun (w : World) => countC n 8 w hn (by omega)
  generalize n % 8 = r at *
  go_enter Tryd.func51, Tryd.ntmps51
  go_wp2_with (first | (go_at_call 31; refine (hcnt _).mono ?_; rintro e w' ⟨rfl, rfl⟩; rcases (show r = 0 ∨ r = 1 ∨ r = 2 ∨ r = 3 ∨ r = 4 ∨ r = 5 ∨ r = 6 ∨ r = 7 by omega) with rfl | rfl | rfl | rfl | rfl | rfl | rfl | rfl))
  all_goals go_wp2_with fail
  all_goals go_ret
  all_goals exact ⟨by rw [HF.out]; rfl, (Below.refl _ _).alloc (Nat.le_refl _) _⟩
end Go.Proofs.YtniejpfjbifjkaaDoor
