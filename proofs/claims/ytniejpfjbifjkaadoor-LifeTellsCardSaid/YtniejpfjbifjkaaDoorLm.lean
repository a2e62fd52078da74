/- slices.Equal of votes (101). -/
import Derived.Test.YtniejpfjbifjkaaDoorLl
namespace Go.Proofs.YtniejpfjbifjkaaDoor
open Go.RowKit Fl

theorem votes_ext {l m : List (Int × Bool)} (hn : l.length = m.length) (h : ∀ j, j < l.length → l.getD j vt0 = m.getD j vt0) : l = m := by
  apply List.ext_getElem hn
  intro i h1 h2
  have := h i h1
  simpa [List.getD, h1, h2] using this
set_option maxRecDepth 100000 in
set_option maxHeartbeats 1000000 in
theorem equalC (l m : List (Int × Bool)) (a b : Option Addr) (c d : Nat) (w : World) (hl : Vts w a l) (hm : Vts w b m) :
    Calls Tryd.prog 101 #[.slice a l.length c, .slice b m.length d] w fun e w' => e = .returned (.bool (decide (l = m))) ∧ ∃ q, w' = w.drewN q := by
  have h1 := hl.1
  have h2 := hm.1
  by_cases hn : l.length = m.length
  · have e1 : decide ((l.length : Int) = m.length) = true := decide_eq_true (by omega)
    have HL := Lib.hid hl.2
    have HM := Lib.hid hm.2
    have he : ∀ (v u : Int × Bool) (W : World), (Op.equalIn 10000 87 (.agg #[.int .i64 v.1, .bool v.2]) (.agg #[.int .i64 u.1, .bool u.2])).run Tryd.prog W = .ok (decide (v = u)) W := fun v u W => by
      have : decide (v = u) = (v.1 == u.1 && v.2 == u.2) := by
        rw [Bool.eq_iff_iff]; simp [Prod.ext_iff]
      rw [this]; exact eq87 9998 v u W
    clear hl hm
    have HN := Lib.hid hn
    rw [← hn] at h2 e1 ⊢
    clear hn
    go_enter Tryd.func101, Tryd.ntmps101
    go_wp2
    go_loopw [13] (fun i wr => ∃ k : Nat, k ≤ l.length ∧ i = .int .i64 k ∧ (∃ q, wr = w.drewN q) ∧ Hid (∀ j, j < k → l.getD j vt0 = m.getD j vt0)) (fun i _ => l.length - (intOf i).toNat)
    case atStart => exact ⟨0, Nat.zero_le _, rfl, ⟨0, rfl⟩, Lib.hid (fun j hj => by omega)⟩
    case round =>
      obtain ⟨k, hk, rfl, ⟨q, rfl⟩, hI⟩ := hrel
      by_cases hlt : k < l.length
      · obtain ⟨b1, o1, rfl, p1, p2⟩ := HL.out k hlt
        obtain ⟨b2, o2, rfl, p3, p4⟩ := HM.out k (by have := HN.out; omega)
        have hev := he (l.getD k vt0) (m.getD k vt0)
        by_cases heq : l.getD k vt0 = m.getD k vt0
        · have HI : Hid (∀ j, j < k + 1 → l.getD j vt0 = m.getD j vt0) := Lib.hid (fun j hj => by
            rcases Nat.lt_or_ge j k with h | h
            · exact hI.out j h
            · have : j = k := by omega
              subst this; exact heq)
          rw [decide_eq_true heq] at hev
          clear heq he hI
          generalize l.getD k vt0 = v at *
          generalize m.getD k vt0 = u at *
          go_wp2_with fail
          go_quiet (fail)
          go_wp2_with fail
          go_roundw
          case rel => exact ⟨k + 1, by omega, by go_num, ⟨q + nq, by simp [World.drewN]⟩, HI⟩
          case measure => simp [intOf]; omega
        · have HF : Hid (decide (l = m) = false) := Lib.hid (decide_eq_false (fun h => heq (by rw [h])))
          rw [decide_eq_false heq] at hev
          clear heq he hI
          generalize l.getD k vt0 = v at *
          generalize m.getD k vt0 = u at *
          go_wp2_with fail
          go_quiet (fail)
          go_wp2_with fail
          go_ret
          exact ⟨by rw [HF.out]; rfl, ⟨q + nq, by simp [World.drewN, Nat.add_assoc]⟩⟩
      · have hkl : k = l.length := by omega
        subst hkl
        have HF : Hid (decide (l = m) = true) := Lib.hid (decide_eq_true (votes_ext HN.out hI.out))
        clear hI HL HM he
        go_wp2_with fail
        go_ret
        exact ⟨by rw [HF.out]; rfl, ⟨q, rfl⟩⟩
  · have e1 : ((l.length : Int) != m.length) = true := by simp; omega
    have HF : Hid (decide (l = m) = false) := Lib.hid (decide_eq_false (fun h => hn (by rw [h])))
    clear hl hm hn
    go_enter Tryd.func101, Tryd.ntmps101
    go_wp2
    go_ret
    exact ⟨by rw [HF.out]; rfl, ⟨0, rfl⟩⟩
end Go.Proofs.YtniejpfjbifjkaaDoor
