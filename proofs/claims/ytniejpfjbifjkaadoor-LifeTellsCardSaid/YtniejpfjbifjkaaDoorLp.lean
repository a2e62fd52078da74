/- The reference's Cmp of addresses (133). -/
import Derived.Test.YtniejpfjbifjkaaDoorLo
namespace Go.Proofs.YtniejpfjbifjkaaDoor
open Go.RowKit Fl

/-- the first difference. -/
def lexD (b c : Nat → Int) : Int := match (List.range 16).find? fun i => b i != c i with
  | some i => b i - c i
  | none => 0
def cmpD (v : Bool) (b : Nat → Int) (u : Bool) (c : Nat → Int) : Int := if v = u then lexD b c else if v then 1 else -1
theorem lexD_at {b c : Nat → Int} {k : Nat} (hk : k < 16) (he : ∀ j, j < k → b j = c j) (hn : b k ≠ c k) : lexD b c = b k - c k := by
  have : (List.range 16).find? (fun i => b i != c i) = some k := by
    rw [List.find?_range_eq_some]
    refine ⟨by simpa using hn, by simpa using hk, fun j hj => by simp [he j hj]⟩
  unfold lexD; rw [this]
theorem lexD_same {b c : Nat → Int} (he : ∀ j, j < 16 → b j = c j) : lexD b c = 0 := by
  have : (List.range 16).find? (fun i => b i != c i) = none := by
    rw [List.find?_eq_none]
    intro j hj; simp [he j (by simpa using hj)]
  unfold lexD; rw [this]
set_option maxRecDepth 100000 in
set_option maxHeartbeats 1000000 in
theorem rcmpC (v : Bool) (b : Nat → Int) (u : Bool) (c : Nat → Int) (w : World) (hb : ∀ i, 0 ≤ b i ∧ b i < 256) (hc : ∀ i, 0 ≤ c i ∧ c i < 256) :
    Calls Tryd.prog 133 #[adrV v b, adrV u c] w fun e w' => e = .returned (.int .i64 (cmpD v b u c)) ∧ Below w.heap.size w w' := by
  unfold adrV
  by_cases hvu : v = u
  · subst hvu
    have hR : cmpD v b v c = lexD b c := by unfold cmpD; rw [if_pos rfl]
    rw [hR]
    have hB0 : Below w.heap.size w ((w.alloc (.cells #[.bool v, .int .u8 (b 0), .int .u8 (b 1), .int .u8 (b 2), .int .u8 (b 3), .int .u8 (b 4), .int .u8 (b 5), .int .u8 (b 6), .int .u8 (b 7), .int .u8 (b 8), .int .u8 (b 9), .int .u8 (b 10), .int .u8 (b 11), .int .u8 (b 12), .int .u8 (b 13), .int .u8 (b 14), .int .u8 (b 15)] 66)).alloc (.cells #[.bool v, .int .u8 (c 0), .int .u8 (c 1), .int .u8 (c 2), .int .u8 (c 3), .int .u8 (c 4), .int .u8 (c 5), .int .u8 (c 6), .int .u8 (c 7), .int .u8 (c 8), .int .u8 (c 9), .int .u8 (c 10), .int .u8 (c 11), .int .u8 (c 12), .int .u8 (c 13), .int .u8 (c 14), .int .u8 (c 15)] 66)) := ((Below.refl _ _).alloc (Nat.le_refl _) _).alloc (by simp) _
    have r1 : ((w.alloc (.cells #[.bool v, .int .u8 (b 0), .int .u8 (b 1), .int .u8 (b 2), .int .u8 (b 3), .int .u8 (b 4), .int .u8 (b 5), .int .u8 (b 6), .int .u8 (b 7), .int .u8 (b 8), .int .u8 (b 9), .int .u8 (b 10), .int .u8 (b 11), .int .u8 (b 12), .int .u8 (b 13), .int .u8 (b 14), .int .u8 (b 15)] 66)).alloc (.cells #[.bool v, .int .u8 (c 0), .int .u8 (c 1), .int .u8 (c 2), .int .u8 (c 3), .int .u8 (c 4), .int .u8 (c 5), .int .u8 (c 6), .int .u8 (c 7), .int .u8 (c 8), .int .u8 (c 9), .int .u8 (c 10), .int .u8 (c 11), .int .u8 (c 12), .int .u8 (c 13), .int .u8 (c 14), .int .u8 (c 15)] 66)).heap[w.heap.size]? = some (.cells #[.bool v, .int .u8 (b 0), .int .u8 (b 1), .int .u8 (b 2), .int .u8 (b 3), .int .u8 (b 4), .int .u8 (b 5), .int .u8 (b 6), .int .u8 (b 7), .int .u8 (b 8), .int .u8 (b 9), .int .u8 (b 10), .int .u8 (b 11), .int .u8 (b 12), .int .u8 (b 13), .int .u8 (b 14), .int .u8 (b 15)] 66) := by
      rw [heap_alloc_old _ _ (by simp), heap_alloc_new]
    have r2 : ((w.alloc (.cells #[.bool v, .int .u8 (b 0), .int .u8 (b 1), .int .u8 (b 2), .int .u8 (b 3), .int .u8 (b 4), .int .u8 (b 5), .int .u8 (b 6), .int .u8 (b 7), .int .u8 (b 8), .int .u8 (b 9), .int .u8 (b 10), .int .u8 (b 11), .int .u8 (b 12), .int .u8 (b 13), .int .u8 (b 14), .int .u8 (b 15)] 66)).alloc (.cells #[.bool v, .int .u8 (c 0), .int .u8 (c 1), .int .u8 (c 2), .int .u8 (c 3), .int .u8 (c 4), .int .u8 (c 5), .int .u8 (c 6), .int .u8 (c 7), .int .u8 (c 8), .int .u8 (c 9), .int .u8 (c 10), .int .u8 (c 11), .int .u8 (c 12), .int .u8 (c 13), .int .u8 (c 14), .int .u8 (c 15)] 66)).heap[w.heap.size + 1]? = some (.cells #[.bool v, .int .u8 (c 0), .int .u8 (c 1), .int .u8 (c 2), .int .u8 (c 3), .int .u8 (c 4), .int .u8 (c 5), .int .u8 (c 6), .int .u8 (c 7), .int .u8 (c 8), .int .u8 (c 9), .int .u8 (c 10), .int .u8 (c 11), .int .u8 (c 12), .int .u8 (c 13), .int .u8 (c 14), .int .u8 (c 15)] 66) := heap_new2 _ _ _
    have c1 := Lib.hid (block_from' r1 1 (fun i => .int .u8 (b i)) 16 (lit16 v b))
    have c2 := Lib.hid (block_from' r2 1 (fun i => .int .u8 (c i)) 16 (lit16 v c))
    have HB0 := Lib.hid hB0
    have HX := Lib.hid hb
    have HY := Lib.hid hc
    have ev : (v == v) = true := by simp
    clear r1 r2 hB0 hR hb hc
    go_enter Tryd.func133, Tryd.ntmps133
    go_wp2_with fail
    generalize ((w.alloc (.cells #[.bool v, .int .u8 (b 0), .int .u8 (b 1), .int .u8 (b 2), .int .u8 (b 3), .int .u8 (b 4), .int .u8 (b 5), .int .u8 (b 6), .int .u8 (b 7), .int .u8 (b 8), .int .u8 (b 9), .int .u8 (b 10), .int .u8 (b 11), .int .u8 (b 12), .int .u8 (b 13), .int .u8 (b 14), .int .u8 (b 15)] 66)).alloc (.cells #[.bool v, .int .u8 (c 0), .int .u8 (c 1), .int .u8 (c 2), .int .u8 (c 3), .int .u8 (c 4), .int .u8 (c 5), .int .u8 (c 6), .int .u8 (c 7), .int .u8 (c 8), .int .u8 (c 9), .int .u8 (c 10), .int .u8 (c 11), .int .u8 (c 12), .int .u8 (c 13), .int .u8 (c 14), .int .u8 (c 15)] 66)) = w1 at *
    go_loopw [5] (fun i wr => ∃ k : Nat, k ≤ 16 ∧ i = .int .i64 k ∧ (∃ q, wr = w1.drewN q) ∧ Hid (∀ j, j < k → b j = c j)) (fun i _ => 16 - (intOf i).toNat)
    case atStart => exact ⟨0, Nat.zero_le _, rfl, ⟨0, rfl⟩, Lib.hid (fun j hj => by omega)⟩
    case round =>
      obtain ⟨k, hk, rfl, ⟨q, rfl⟩, hI⟩ := hrel
      by_cases hlt : k < 16
      · have p1 := c1.out k hlt
        have p2 := c2.out k hlt
        have e16 : decide ((k : Int) < 16) = true := decide_eq_true (by omega)
        have hx := HX.out k
        have hy := HY.out k
        by_cases heq : b k = c k
        · have HI : Hid (∀ j, j < k + 1 → b j = c j) := Lib.hid (fun j hj => by
            rcases Nat.lt_or_ge j k with h | h
            · exact hI.out j h
            · have : j = k := by omega
              subst this; exact heq)
          have hne : (b k != c k) = false := by rw [heq]; simp
          clear heq hI
          generalize b k = x at *
          generalize c k = y at *
          go_wp2_with fail
          go_quiet (fail)
          go_wp2_with fail
          go_roundw
          case rel => exact ⟨k + 1, by omega, by go_num, ⟨q + nq, by simp [World.drewN]⟩, HI⟩
          case measure => simp [intOf]; omega
        · have HD := Lib.hid (lexD_at hlt hI.out heq)
          have hne : (b k != c k) = true := by simpa using heq
          clear heq hI
          generalize b k = x at *
          generalize c k = y at *
          go_wp2_with fail
          go_quiet (fail)
          go_wp2_with fail
          go_quiet (fail)
          go_wp2_with fail
          go_ret
          exact ⟨by rw [HD.out]; rfl, below_drewN (below_drewN (below_drewN HB0.out _) _) _⟩
      · have hkl : k = 16 := by omega
        subst hkl
        have HD := Lib.hid (lexD_same hI.out)
        clear hI c1 c2
        go_wp2_with fail
        go_ret
        exact ⟨by rw [HD.out]; rfl, below_drewN HB0.out _⟩
  · have hR : cmpD v b u c = if v then 1 else -1 := by unfold cmpD; rw [if_neg hvu]
    have HR := Lib.hid hR
    clear hR hb hc
    cases v <;> cases u <;> first | exact absurd rfl hvu | skip
    all_goals
      clear hvu
      go_enter Tryd.func133, Tryd.ntmps133
      go_wp2
      go_ret
      exact ⟨by rw [HR.out]; rfl, ((Below.refl _ _).alloc (Nat.le_refl _) _).alloc (by simp) _⟩
end Go.Proofs.YtniejpfjbifjkaaDoor
