/- The law's own helpers: same, nan, minus; then what known() comes to. -/
import Derived.Test.YtniejpfjbifjkaaDoorWe
namespace Go.Proofs.YtniejpfjbifjkaaDoor
open Go.RowKit Fl

/-- cells that a slice of whole numbers reads as. -/
def Ils (w : World) (a : Option Addr) (l : List Int) : Prop :=
  l.length ≤ 9223372036854775807 ∧ ∀ i, i < l.length → ∃ b off, a = some ⟨b, off, none⟩ ∧ w.cell? ⟨b, off + i, none⟩ = some (.int .i64 (l.getD i 0))
theorem Ils.below {w w' : World} {a : Option Addr} {l : List Int} (h : Ils w a l) (hb : Below w.heap.size w w') : Ils w' a l := by
  refine ⟨h.1, fun i hi => ?_⟩
  obtain ⟨b, off, he, hc⟩ := h.2 i hi
  exact ⟨b, off, he, (hb.cell (p := ⟨b, off + i, none⟩) (World.block_lt_of_cell? w _ hc)).trans hc⟩
def ints' (l : List Int) : List Value := l.map (Value.int .i64)
theorem ints_cast (l : List Nat) : ints l = ints' (l.map fun (n : Nat) => (n : Int)) := by
  unfold ints ints'; rw [List.map_map]; rfl
theorem ints'_getD (l : List Int) (i : Nat) (hi : i < l.length) : (ints' l)[i]? = some (.int .i64 (l.getD i 0)) := by
  simp [ints', List.getD, hi]
/-- what is owned reads so. -/
theorem Ils.owned {w : World} {base e : Nat} {v : Value} {l : List Int} (h : w.ownsRow base e 1 v l.length (ints' l)) :
    ∃ a cap, v = .slice a l.length cap ∧ Ils w a l := by
  rcases h.2 with ⟨rfl, hn⟩ | ⟨g, cap, cur, rfl, hb, hg, hc, hm, _⟩
  · refine ⟨none, 0, by rw [hn], ⟨by omega, fun i hi => by omega⟩⟩
  · refine ⟨some ⟨g, 0, none⟩, cap, rfl, ⟨by unfold maxLen at hm; omega, fun i hi => ⟨g, 0, rfl, ?_⟩⟩⟩
    rw [Nat.zero_add, h.cellAt i (by omega), ints'_getD l i hi]
theorem sizeIls {w : World} {a : Option Addr} {l : List Int} (h : Ils w a l) : l.length ≤ 9223372036854775807 := h.1

theorem drewN_drewN (w : World) (a b : Nat) : (w.drewN a).drewN b = w.drewN (a + b) := by simp [World.drewN, Nat.add_assoc]
theorem getD_ne {xs ys : List Int} (k : Nat) (h : xs.getD k 0 ≠ ys.getD k 0) : xs ≠ ys := by
  intro e; rw [e] at h; exact h rfl
theorem eq_of_getD {xs ys : List Int} (hlen : xs.length = ys.length) (h : ∀ k, k < xs.length → xs.getD k 0 = ys.getD k 0) : xs = ys := by
  apply List.ext_getElem hlen
  intro i h1 h2
  have := h i h1
  simpa [List.getD, h1, h2] using this

theorem same33 (xs ys : List Int) (a b : Option Addr) (ca cb : Nat) (w : World) (hx : Ils w a xs) (hy : Ils w b ys) :
    Calls Tryd.prog 33 #[.slice a xs.length ca, .slice b ys.length cb] w fun e w' => e = .returned (.bool (decide (xs = ys))) ∧ ∃ n, w' = w.drewN n := by
  obtain ⟨hm, hc⟩ := hx
  obtain ⟨hm', hc'⟩ := hy
  by_cases hlen : xs.length = ys.length
  · have hb : ((xs.length : Int) != (ys.length : Int)) = false := by simp [hlen]
    have hlt : ∀ k, k < xs.length → k < ys.length := fun k h => by omega
    have HL := Lib.hid hlen
    clear hlen
    go_enter Tryd.func33, Tryd.ntmps33
    go_wp2
    go_loopw [5] (fun i wr => ∃ k : Nat, k ≤ xs.length ∧ i = .int .i64 k ∧ (∃ m, wr = w.drewN m) ∧ Hid (∀ j, j < k → xs.getD j 0 = ys.getD j 0)) (fun i _ => xs.length - (intOf i).toNat)
    case atStart => exact ⟨0, Nat.zero_le _, rfl, ⟨0, rfl⟩, Lib.hid (fun j hj => by omega)⟩
    case round =>
      obtain ⟨k, hk, rfl, ⟨m, rfl⟩, heq⟩ := hrel
      by_cases hlt : k < xs.length
      · obtain ⟨b1, o1, rfl, h1⟩ := hc k hlt
        have hlt' : k < ys.length := by rw [← HL.out]; exact hlt
        obtain ⟨b2, o2, rfl, h2⟩ := hc' k hlt'
        clear hc hc'
        by_cases he : xs.getD k 0 = ys.getD k 0
        · have hb2 : (xs.getD k 0 != ys.getD k 0) = false := by simpa using he
          have HE := Lib.hid he
          clear he
          generalize hgx : xs.getD k 0 = x at *
          generalize hgy : ys.getD k 0 = y at *
          have HX := Lib.hid hgx
          have HY := Lib.hid hgy
          clear hgx hgy
          go_upto_region 6 with fail
          go_quiet (fail)
          go_wp2
          go_roundw
          case rel => exact ⟨k + 1, by omega, by go_num, ⟨_, rfl⟩, Lib.hid (fun j hj => by
              rcases Nat.lt_or_ge j k with h | h
              · exact heq.out j h
              · have : j = k := by omega
                subst this; rw [HX.out, HY.out, HE.out])⟩
          case measure => simp [intOf]; omega
        · have hb2 : (xs.getD k 0 != ys.getD k 0) = true := by simpa using he
          have HN : Hid (decide (xs = ys) = false) := Lib.hid (decide_eq_false (getD_ne k he))
          clear he
          generalize xs.getD k 0 = x at *
          generalize ys.getD k 0 = y at *
          go_upto_region 6 with fail
          go_quiet (fail)
          go_wp2
          go_ret
          exact ⟨by rw [HN.out]; rfl, _, drewN_drewN _ _ _⟩
      · have hk' : k = xs.length := by omega
        have HN : Hid (decide (xs = ys) = true) := Lib.hid (decide_eq_true (eq_of_getD HL.out (by rw [← hk']; exact heq.out)))
        clear hk' hc hc'
        go_wp2
        go_ret
        exact ⟨by rw [HN.out]; rfl, _, rfl⟩
  · have hb : ((xs.length : Int) != (ys.length : Int)) = true := by simp; omega
    have HN : Hid (decide (xs = ys) = false) := Lib.hid (by rw [decide_eq_false_iff_not]; intro e; exact hlen (by rw [e]))
    clear hlen
    go_enter Tryd.func33, Tryd.ntmps33
    go_wp2
    go_ret
    exact ⟨by rw [HN.out]; rfl, 0, rfl⟩

/-- no number, whichever. -/
def nanOf (w : World) : Nat := Question.cut (.nanBits .f64 0 0) (w.tape w.drawn (.nanBits .f64 0 0))
theorem nanOf_nan (w : World) : isN (nanOf w) ∧ nanOf w < B64 := by
  unfold nanOf Question.cut isN INF B64
  simp only
  generalize w.tape w.drawn (.nanBits .f64 0 0) = t
  simp only [show (2 : Nat) ^ 63 = 9223372036854775808 from rfl, show (2 : Nat) ^ 52 - 1 = 4503599627370495 from rfl]
  rcases (show t % 2 = 0 ∨ t % 2 = 1 by omega) with h | h <;> rw [h] <;> omega
theorem zero_by_zero : Ieee.double.div 0 0 = none := by decide +kernel
theorem run_nan {P : Program} (t : TypeId) (w : World) : (binOp .quo t (.float .f64 0) (.float .f64 0)).run P w = .ok (.float .f64 (nanOf w)) w.drew := by
  have h : FloatKind.f64.format.div 0 0 = none := zero_by_zero
  simp [binOp, Op.floatArith, h, nanOf]
  intro hf
  cases hf
theorem nanC (w : World) : Calls Tryd.prog 77 #[] w fun e w' => ∃ x, e = .returned (.float .f64 x) ∧ isN x ∧ x < B64 ∧ w' = w.drew := by
  have h := fun t (w : World) => run_nan (P := Tryd.prog) t w
  go_enter Tryd.func77, Tryd.ntmps77
  go_wp2
  go_ret
  exact ⟨_, rfl, (nanOf_nan w).1, (nanOf_nan w).2, rfl⟩
theorem neg_zero : Op.negFloat .f64 0 = 9223372036854775808 := by decide
theorem run_neg0 {P : Program} (w : World) : (Op.unary .neg (.float .f64 0)).run P w = .ok (.float .f64 9223372036854775808) w := by
  simp [Op.unary, neg_zero]
theorem minusC (w : World) : Calls Tryd.prog 78 #[] w fun e w' => e = .returned (.float .f64 9223372036854775808) ∧ w = w' := by
  have h := fun (w : World) => run_neg0 (P := Tryd.prog) w
  go_enter Tryd.func78, Tryd.ntmps78
  go_wp2
  go_ret
  exact ⟨rfl, rfl⟩
end Go.Proofs.YtniejpfjbifjkaaDoor
