/- right, Right: whether entries can be. -/
import Derived.Test.YtniejpfjbifjkaaDoorMh
namespace Go.Proofs.YtniejpfjbifjkaaDoor
open Go.RowKit Fl

def idAt (l : List (Int × Nat)) (i : Nat) : Int := (l.getD i ent0).1
/-- entry i can be there. -/
def goodAt (l : List (Int × Nat)) (i : Nat) : Prop := 0 ≤ idAt l i ∧ idAt l i < 32 ∧ (i = 0 ∨ idAt l (i - 1) < idAt l i)
instance (l : List (Int × Nat)) (i : Nat) : Decidable (goodAt l i) := by unfold goodAt; infer_instance
def rightOk (l : List (Int × Nat)) : Bool := decide (l.length ≤ 32 ∧ ∀ i, i < l.length → goodAt l i)
theorem rightOk_false {l : List (Int × Nat)} {k : Nat} (hk : k < l.length) (h : ¬ goodAt l k) : rightOk l = false :=
  decide_eq_false (fun hh => h (hh.2 k hk))
theorem good_step {l : List (Int × Nat)} {k : Nat} (h : ∀ i, i < k → goodAt l i) (hk : goodAt l k) : ∀ i, i < k + 1 → goodAt l i := by
  intro i hi
  rcases Nat.lt_or_ge i k with h' | h'
  · exact h i h'
  · have : i = k := by omega
    rw [this]; exact hk

set_option maxHeartbeats 1000000 in
theorem rrightC (l : List (Int × Nat)) (a : Option Addr) (ca : Nat) (w : World) (hx : Ens w a l) :
    Calls Tryd.prog 54 #[.slice a l.length ca] w fun e w' => e = .returned (.bool (rightOk l)) ∧ ∃ n, w' = w.drewN n := by
  obtain ⟨hm, _, hc⟩ := hx
  by_cases h32 : l.length ≤ 32
  case neg =>
    have HR : Hid (rightOk l = false) := Lib.hid (decide_eq_false (fun hh => h32 hh.1))
    clear hc
    go_enter Tryd.func54, Tryd.ntmps54
    go_wp2
    go_ret
    exact ⟨by rw [HR.out]; rfl, 0, rfl⟩
  go_enter Tryd.func54, Tryd.ntmps54
  go_wp2
  go_loopw [3] (fun i wr => ∃ k : Nat, k ≤ l.length ∧ i = .int .i64 k ∧ (∃ m, wr = w.drewN m) ∧ Hid (∀ i, i < k → goodAt l i)) (fun i _ => l.length - (intOf i).toNat)
  case atStart => exact ⟨0, Nat.zero_le _, rfl, ⟨0, rfl⟩, Lib.hid (fun i hi => by omega)⟩
  case round =>
    obtain ⟨k, hk, rfl, ⟨m, rfl⟩, hI⟩ := hrel
    by_cases hlt : k < l.length
    case neg =>
      have hk' : k = l.length := by omega
      have HR : Hid (rightOk l = true) := Lib.hid (decide_eq_true ⟨h32, by rw [← hk']; exact hI.out⟩)
      clear hk' hI hc
      go_wp2
      go_ret
      exact ⟨by rw [HR.out]; rfl, _, rfl⟩
    obtain ⟨b1, o1, rfl, h1, _⟩ := hc k hlt
    by_cases c0 : 0 ≤ idAt l k
    case neg =>
      have HR := Lib.hid (rightOk_false hlt (fun h => c0 h.1))
      have c0' : idAt l k < 0 := by omega
      have d0 : decide (idAt l k < 0) = true := decide_eq_true c0'
      unfold idAt at *
      clear hI hc
      generalize (l.getD k ent0).1 = x at *
      go_upto_region 6 with fail
      go_quiet (fail)
      go_wp2
      go_ret
      exact ⟨by rw [HR.out]; rfl, _, rfl⟩
    have d0 : decide (idAt l k < 0) = false := decide_eq_false (by omega)
    by_cases c1 : idAt l k < 32
    case neg =>
      have HR := Lib.hid (rightOk_false hlt (fun h => c1 h.2.1))
      have d1 : decide ((32 : Int) ≤ idAt l k) = true := decide_eq_true (by omega)
      unfold idAt at *
      clear hI hc
      generalize (l.getD k ent0).1 = x at *
      go_upto_region 6 with fail
      go_quiet (fail)
      go_wp2
      go_ret
      exact ⟨by rw [HR.out]; rfl, _, rfl⟩
    have d1 : decide ((32 : Int) ≤ idAt l k) = false := decide_eq_false (by omega)
    by_cases cz : k = 0
    · have d2 : decide (0 < k) = false := decide_eq_false (by omega)
      have HN : Hid (∀ i, i < k + 1 → goodAt l i) := Lib.hid (good_step hI.out ⟨c0, c1, .inl cz⟩)
      unfold idAt at *
      clear hI hc cz
      generalize (l.getD k ent0).1 = x at *
      go_upto_region 6 with fail
      go_quiet (fail)
      go_wp2
      go_roundw
      case rel => exact ⟨k + 1, by omega, by go_num, ⟨_, rfl⟩, HN⟩
      case measure => simp [intOf]; omega
    · obtain ⟨j, rfl⟩ : ∃ j, k = j + 1 := ⟨k - 1, by omega⟩
      obtain ⟨b2, o2, e2, h2, _⟩ := hc j (by omega)
      cases e2
      have d2 : decide ((0 : Int) < ((j + 1 : Nat) : Int)) = true := decide_eq_true (by omega)
      have es : ((j + 1 : Nat) : Int) - 1 = (j : Int) := by omega
      by_cases c2 : idAt l j < idAt l (j + 1)
      · have d3 : decide (idAt l (j + 1) ≤ idAt l j) = false := decide_eq_false (by omega)
        have HN : Hid (∀ i, i < j + 1 + 1 → goodAt l i) := Lib.hid (good_step hI.out ⟨c0, c1, .inr c2⟩)
        unfold idAt at *
        clear hI hc
        generalize (l.getD (j + 1) ent0).1 = x at *
        generalize (l.getD j ent0).1 = y at *
        go_upto_region 6 with fail
        go_quiet (fail)
        go_wp2
        go_roundw
        case rel => exact ⟨j + 1 + 1, by omega, by go_num, ⟨_, rfl⟩, HN⟩
        case measure => simp [intOf]; omega
      · have d3 : decide (idAt l (j + 1) ≤ idAt l j) = true := decide_eq_true (by omega)
        have HR := Lib.hid (rightOk_false hlt (fun h => by rcases h.2.2 with h | h; omega; exact c2 h))
        unfold idAt at *
        clear hI hc
        generalize (l.getD (j + 1) ent0).1 = x at *
        generalize (l.getD j ent0).1 = y at *
        go_upto_region 6 with fail
        go_quiet (fail)
        go_wp2
        go_ret
        exact ⟨by rw [HR.out]; rfl, _, rfl⟩
end Go.Proofs.YtniejpfjbifjkaaDoor
