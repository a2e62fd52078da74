/- Share and the reference's Share: how often each one is among the turns; Count. -/
import Derived.Test.YtniejpfjbifjkaaDoorWr
import Derived.Lib.SliceRun
namespace Go.Proofs.YtniejpfjbifjkaaDoor
open Go.RowKit Fl

theorem rturnsC (l : List Nat) (n : Int) (a : Option Addr) (cap : Nat) (w : World) (hf : Fls w a l) :
    Calls Tryd.prog 39 #[.slice a l.length cap, .int .i64 n] w fun e w' => ∃ v, e = .returned v ∧
      w'.ownsRow w.heap.size 3 1 v (turns l n).length (ints (turns l n)) ∧ Below w.heap.size w w' := by
  by_cases h : noTurns l n
  · have ht : turns l n = [] := by unfold turns; rw [if_pos h]
    rw [ht]
    refine (rturns_none l n a cap w hf h).mono ?_
    rintro e w' ⟨rfl, rfl⟩
    exact ⟨_, rfl, World.ownsRow_nil _ _ _ _, Below.refl _ _⟩
  · have h' := h
    unfold noTurns at h'
    obtain ⟨m, rfl⟩ : ∃ m : Nat, n = (m : Int) := ⟨n.toNat, by omega⟩
    have h4 : best l ≠ 0 := by omega
    have ht : turns l (m : Int) = turnsN l m := by unfold turns; rw [if_neg h]; simp
    have hlen := turnsN_length l m h4
    rw [ht, hlen]
    exact rturns_some l m a cap w hf (by omega) (by omega) (by omega) h4

/-- how often each one is there. -/
def cnt (m : Nat) (t : List Nat) : List Nat := (List.range m).map fun i => t.count i
theorem cnt_length (m : Nat) (t : List Nat) : (cnt m t).length = m := by simp [cnt]
theorem cnt_getD (m : Nat) (t : List Nat) (i : Nat) (hi : i < m) : (cnt m t).getD i 0 = t.count i := by simp [cnt, List.getD, hi]
theorem cnt_nil (m : Nat) : cnt m [] = List.replicate m 0 := by
  unfold cnt
  apply List.ext_getElem?
  intro i
  by_cases hi : i < m <;> simp [hi]
theorem cnt_snoc (m : Nat) (t : List Nat) (x : Nat) (hx : x < m) : (cnt m t).set x ((cnt m t).getD x 0 + 1) = cnt m (t ++ [x]) := by
  rw [cnt_getD m t x hx]
  unfold cnt
  apply List.ext_getElem?
  intro i
  by_cases hi : i < m
  · by_cases he : i = x
    · subst he; simp [hi]
    · rw [List.getElem?_set_ne (by omega)]
      simp [hi, List.count_cons, Ne.symm he]
  · rw [List.getElem?_eq_none (by simp; omega), List.getElem?_eq_none (by simp; omega)]
theorem turnsN_mem (l : List Nat) (n : Nat) (h : best l ≠ 0) : ∀ x ∈ turnsN l n, x < l.length := by
  intro x hx
  have h0 : parts l ≠ [] := by
    obtain ⟨j, hj, _⟩ := parts_one l h
    intro e; rw [e] at hj; simp at hj
  have := runT_mem (parts l) h0 (n * l.length) x (List.mem_of_mem_take hx)
  rwa [parts_length] at this
def share (l : List Nat) (n : Int) : List Nat := if noTurns l n then [] else cnt l.length (turns l n)
theorem run_mk3 {w : World} (n : Nat) (hn : n ≤ 32) : (Instr.makeSlice 31 (.int .i64 (n : Int)) (.int .i64 (n : Int))).run Tryd.prog w = .ok (.slice (some ⟨w.heap.size, 0, none⟩) n n) (w.alloc (.cells (madeCells #[.int .i64 0] n) 3)) := by
  obtain ⟨i0, hi, hz0, hz1, hz2⟩ := info_parts info3
  have := run_make (P := Tryd.prog) w 31 3 i0 (.int .i64 0) Tryd.underlying31 hi hz0 .i64 .i64 (n : Int) (n : Int) (by omega) (Int.le_refl _) (by rw [hz2]; omega) (by omega)
  rw [hz1, Nat.mul_one] at this
  exact this
theorem owns_made3 {w : World} (n : Nat) (hn : n ≤ 32) : (w.alloc (.cells (madeCells #[.int .i64 0] n) 3)).ownsRow w.heap.size 3 1 (.slice (some ⟨w.heap.size, 0, none⟩) n n) n (ints (List.replicate n 0)) := by
  have := World.ownsRow_lit (e := 3) (size := 1) (base := w.heap.size) w (madeCells #[.int .i64 0] n) n (Nat.le_refl _) (by unfold maxLen; omega) (by rw [size_madeCells, Nat.mul_one])
  rw [toList_madeCells_one] at this
  simpa [ints] using this
theorem ints_getD (l : List Nat) (i : Nat) (hi : i < l.length) : (ints l)[i]? = some (.int .i64 (l.getD i 0 : Nat)) := by
  simp [ints, List.getD, hi]
theorem ints_set (l : List Nat) (k x : Nat) : (ints l).set k (.int .i64 (x : Nat)) = ints (l.set k x) := by simp [ints, List.map_set]

theorem run_is_nil (w : World) (a : Option Addr) (n c : Nat) : (binOp .eql 31 (.slice a n c) (.slice none 0 0)).run Tryd.prog w = .ok (.bool a.isNone) w := by
  simp [binOp, run_equal_slice_nil w 31 3 a n c Tryd.underlying31]

/-- the loop's memory: the turns stay, the counts grow. -/
structure SInv (B : Nat) (w : World) (t : List Nat) (m gt go : Nat) (wr : World) (k : Nat) : Prop where
  turns : wr.ownsRow B 3 1 (.slice (some ⟨gt, 0, none⟩) t.length t.length) t.length (ints t)
  out : wr.ownsRow B 3 1 (.slice (some ⟨go, 0, none⟩) m m) m (ints (cnt m (t.take k)))
  below : Below B w wr
theorem SInv.step {B : Nat} {w : World} {t : List Nat} {m gt go : Nat} {wr : World} {k : Nat} (h : SInv B w t m gt go wr k) (hk : k < t.length) (hx : t.getD k 0 < m) (hne : gt ≠ go) :
    SInv B w t m gt go (wr.setCell ⟨go, t.getD k 0, none⟩ (.int .i64 ((t.take k).count (t.getD k 0) + 1 : Nat))) (k + 1) := by
  obtain ⟨ho, hg⟩ := h.out.stored (t.getD k 0) (.int .i64 ((t.take k).count (t.getD k 0) + 1 : Nat))
  refine ⟨h.turns.kept hg (.inr (by simp [Value.ownBlock]; omega)), ?_, h.below.setCell (h.out.lt go rfl).1 _⟩
  rw [ints_set] at ho
  have := cnt_snoc m (t.take k) (t.getD k 0) hx
  rw [cnt_getD _ _ _ hx] at this
  rw [this, ← take_succ_getD t k hk] at ho
  exact ho

set_option maxHeartbeats 1000000 in
theorem shareC (l : List Nat) (n : Int) (a : Option Addr) (cap : Nat) (w : World) (hl : Laid w) (hf : Fls w a l) (hpos : 0 < w.heap.size) :
    Calls Tryd.prog 38 #[.slice a l.length cap, .int .i64 n] w fun e w' => ∃ v, e = .returned v ∧
      w'.ownsRow w.heap.size 3 1 v (share l n).length (ints (share l n)) ∧ Below w.heap.size w w' := by
  have hm := hf.1
  by_cases hno : noTurns l n
  · have hs : share l n = [] := by unfold share; rw [if_pos hno]
    have ht : turns l n = [] := by unfold turns; rw [if_pos hno]
    rw [hs]
    clear hs hno
    have hnil := run_is_nil
    go_enter Tryd.func38, Tryd.ntmps38
    go_wp2_with fail
    refine (turnsC l n a cap w hl hf hpos).mono ?_
    rintro e w1 ⟨v, rfl, hown, hbel, hv1, hv2⟩
    rw [hv1.2 ht]
    clear hown hv1 hv2 ht
    go_wp2_with fail
    go_ret
    exact ⟨_, rfl, World.ownsRow_nil _ _ _ _, hbel⟩
  · have hno' := hno
    unfold noTurns at hno'
    have h4 : best l ≠ 0 := by omega
    have hs : share l n = cnt l.length (turns l n) := by unfold share; rw [if_neg hno]
    have htn : turns l n = turnsN l n.toNat := by unfold turns; rw [if_neg hno]
    have hlen : (turns l n).length = n.toNat := by rw [htn]; exact turnsN_length l _ h4
    have hmem : ∀ x ∈ turns l n, x < l.length := by rw [htn]; exact turnsN_mem l _ h4
    have hne : turns l n ≠ [] := by intro e; rw [e] at hlen; simp at hlen; omega
    have h32 : l.length ≤ 32 := by omega
    have hN : (turns l n).length ≤ 4096 := by omega
    rw [hs, cnt_length]
    have hnil := run_is_nil
    have hmk := fun (W : World) => run_mk3 (w := W) l.length h32
    clear hs htn hlen hno' hno h4
    go_enter Tryd.func38, Tryd.ntmps38
    go_wp2_with fail
    refine (turnsC l n a cap w hl hf hpos).mono ?_
    rintro e w1 ⟨v, rfl, hown, hbel, hv1, hv2⟩
    obtain ⟨gt, rfl⟩ := hv2 hne
    clear hv1 hv2 hne hl hf hpos
    generalize hT : turns l n = t at *
    have HT := Lib.hid hT
    clear hT
    go_wp2_with fail
    obtain ⟨go, hgo⟩ : ∃ go, go = w1.heap.size := ⟨_, rfl⟩
    have hgt := hown.lt gt rfl
    have hgne : gt ≠ go := by omega
    have I0 : SInv w.heap.size w t l.length gt go (w1.alloc (.cells (madeCells #[.int .i64 0] l.length) 3)) 0 := by
      refine ⟨hown.alloc _, ?_, hbel.alloc hbel.size _⟩
      rw [List.take_zero, cnt_nil, hgo]
      exact owns_base (owns_made3 l.length h32) hbel.size
    rw [← hgo]
    clear hgo hgt hbel hown hmk
    go_loopw [19] (fun i wr => ∃ k : Nat, k ≤ t.length ∧ i = .int .i64 k ∧ SInv w.heap.size w t l.length gt go wr k) (fun i _ => t.length - (intOf i).toNat)
    case atStart => exact ⟨0, Nat.zero_le _, rfl, I0⟩
    case round =>
      clear I0
      obtain ⟨k, hk, rfl, hI⟩ := hrel
      by_cases hlt : k < t.length
      · have hx := hmem _ (getD_mem' t k hlt)
        have hc1 := hI.turns.cellAt k (by omega)
        rw [ints_getD t k hlt] at hc1
        have hc2 := hI.out.cellAt (t.getD k 0) (by omega)
        rw [ints_getD _ _ (by rw [cnt_length]; exact hx), cnt_getD _ _ _ hx] at hc2
        have hfz := hI.out.frozenAt (t.getD k 0)
        have hcb : (t.take k).count (t.getD k 0) ≤ 4096 := Nat.le_trans List.count_le_length (by simp; omega)
        have HS := Lib.hid (hI.step hlt hx hgne)
        clear hI hmem
        generalize hx0 : t.getD k 0 = x at *
        clear hx0
        generalize (t.take k).count x = c at *
        go_wp2_with fail
        go_roundw
        case rel => exact ⟨k + 1, by omega, by go_num, HS.out⟩
        case measure => simp [intOf]; omega
      · have hke : k = t.length := by omega
        subst hke
        have HI := Lib.hid hI
        clear hI hmem
        go_wp2_with fail
        go_ret
        refine ⟨_, rfl, ?_, HI.out.below⟩
        have := HI.out.out
        rw [List.take_length] at this
        rw [HT.out]
        exact this

structure RSInv (B : Nat) (t : List Nat) (ct m gt go : Nat) (w wr : World) (k : Nat) : Prop where
  turns : wr.ownsRow B 3 1 (.slice (some ⟨gt, 0, none⟩) t.length ct) t.length (ints t)
  out : wr.ownsRow B 3 1 (.slice (some ⟨go, 0, none⟩) m m) m (ints (cnt m (t.take k)))
  below : Below B w wr
theorem RSInv.step {B : Nat} {w : World} {t : List Nat} {ct m gt go : Nat} {wr : World} {k : Nat} (h : RSInv B t ct m gt go w wr k) (hk : k < t.length) (hx : t.getD k 0 < m) (hne : gt ≠ go) :
    RSInv B t ct m gt go w (wr.setCell ⟨go, t.getD k 0, none⟩ (.int .i64 ((t.take k).count (t.getD k 0) + 1 : Nat))) (k + 1) := by
  obtain ⟨ho, hg⟩ := h.out.stored (t.getD k 0) (.int .i64 ((t.take k).count (t.getD k 0) + 1 : Nat))
  refine ⟨h.turns.kept hg (.inr (by simp [Value.ownBlock]; omega)), ?_, h.below.setCell (h.out.lt go rfl).1 _⟩
  rw [ints_set] at ho
  have := cnt_snoc m (t.take k) (t.getD k 0) hx
  rw [cnt_getD _ _ _ hx] at this
  rw [this, ← take_succ_getD t k hk] at ho
  exact ho

set_option maxHeartbeats 1000000 in
theorem rshareC (l : List Nat) (n : Int) (a : Option Addr) (cap : Nat) (w : World) (hf : Fls w a l) :
    Calls Tryd.prog 40 #[.slice a l.length cap, .int .i64 n] w fun e w' => ∃ v, e = .returned v ∧
      w'.ownsRow w.heap.size 3 1 v (share l n).length (ints (share l n)) ∧ Below w.heap.size w w' := by
  have hm := hf.1
  by_cases hno : noTurns l n
  · have hs : share l n = [] := by unfold share; rw [if_pos hno]
    have ht : turns l n = [] := by unfold turns; rw [if_pos hno]
    rw [hs]
    clear hs hno
    go_enter Tryd.func40, Tryd.ntmps40
    go_wp2_with fail
    refine (rturnsC l n a cap w hf).mono ?_
    rintro e w1 ⟨v, rfl, hown, hbel⟩
    obtain ⟨a1, c1, rfl⟩ : ∃ a1 c1, v = .slice a1 0 c1 := by
      rw [ht] at hown
      rcases hown.2 with ⟨h, _⟩ | ⟨g, cc, cur, h, _⟩
      · exact ⟨none, 0, h⟩
      · exact ⟨_, _, h⟩
    clear hown ht
    go_wp2_with fail
    go_ret
    exact ⟨_, rfl, World.ownsRow_nil _ _ _ _, hbel⟩
  · have hno' := hno
    unfold noTurns at hno'
    have h4 : best l ≠ 0 := by omega
    have hs : share l n = cnt l.length (turns l n) := by unfold share; rw [if_neg hno]
    have htn : turns l n = turnsN l n.toNat := by unfold turns; rw [if_neg hno]
    have hlen : (turns l n).length = n.toNat := by rw [htn]; exact turnsN_length l _ h4
    have hmem : ∀ x ∈ turns l n, x < l.length := by rw [htn]; exact turnsN_mem l _ h4
    have hne : turns l n ≠ [] := by intro e; rw [e] at hlen; simp at hlen; omega
    have h32 : l.length ≤ 32 := by omega
    have hN : (turns l n).length ≤ 4096 := by omega
    rw [hs, cnt_length]
    have hmk := fun (W : World) => run_mk3 (w := W) l.length h32
    clear hs htn hlen hno' hno h4
    go_enter Tryd.func40, Tryd.ntmps40
    go_wp2_with fail
    refine (rturnsC l n a cap w hf).mono ?_
    rintro e w1 ⟨v, rfl, hown, hbel⟩
    obtain ⟨gt, ct, rfl⟩ : ∃ gt ct, v = .slice (some ⟨gt, 0, none⟩) (turns l n).length ct := by
      rcases hown.2 with ⟨h, h0⟩ | ⟨g, cc, cur, h, _⟩
      · exact absurd (List.eq_nil_of_length_eq_zero h0) hne
      · exact ⟨_, _, h⟩
    have hlne : ((turns l n).length : Int) ≠ 0 := by have := List.length_pos_iff.2 hne; omega
    have hlb : (((turns l n).length : Int) == 0) = false := by rw [beq_eq_false_iff_ne]; exact hlne
    clear hne hf hlne
    generalize hT : turns l n = t at *
    have HT := Lib.hid hT
    clear hT
    go_wp2_with fail
    obtain ⟨go, hgo⟩ : ∃ go, go = w1.heap.size := ⟨_, rfl⟩
    have hgt := hown.lt gt rfl
    have hgne : gt ≠ go := by omega
    have I0 : RSInv w.heap.size t ct l.length gt go w (w1.alloc (.cells (madeCells #[.int .i64 0] l.length) 3)) 0 := by
      refine ⟨hown.alloc _, ?_, hbel.alloc hbel.size _⟩
      rw [List.take_zero, cnt_nil, hgo]
      exact owns_base (owns_made3 l.length h32) hbel.size
    rw [← hgo]
    clear hgo hgt hbel hown hmk
    go_loopw [7] (fun i wr => ∃ k : Nat, k ≤ t.length ∧ i = .int .i64 k ∧ RSInv w.heap.size t ct l.length gt go w wr k) (fun i _ => t.length - (intOf i).toNat)
    case atStart => exact ⟨0, Nat.zero_le _, rfl, I0⟩
    case round =>
      clear I0
      obtain ⟨k, hk, rfl, hI⟩ := hrel
      by_cases hlt : k < t.length
      · have hx := hmem _ (getD_mem' t k hlt)
        have hc1 := hI.turns.cellAt k (by omega)
        rw [ints_getD t k hlt] at hc1
        have hc2 := hI.out.cellAt (t.getD k 0) (by omega)
        rw [ints_getD _ _ (by rw [cnt_length]; exact hx), cnt_getD _ _ _ hx] at hc2
        have hfz := hI.out.frozenAt (t.getD k 0)
        have hcb : (t.take k).count (t.getD k 0) ≤ 4096 := Nat.le_trans List.count_le_length (by simp; omega)
        have HS := Lib.hid (hI.step hlt hx hgne)
        clear hI hmem
        generalize hx0 : t.getD k 0 = x at *
        clear hx0
        generalize (t.take k).count x = c at *
        go_wp2_with fail
        go_roundw
        case rel => exact ⟨k + 1, by omega, by go_num, HS.out⟩
        case measure => simp [intOf]; omega
      · have hke : k = t.length := by omega
        subst hke
        have HI := Lib.hid hI
        clear hI hmem
        go_wp2_with fail
        go_ret
        refine ⟨_, rfl, ?_, HI.out.below⟩
        have := HI.out.out
        rw [List.take_length] at this
        rw [HT.out]
        exact this

theorem tmod_cases (k n : Int) (hn : 1 ≤ n) : (0 ≤ k.tmod n ∧ k.tmod n = k % n) ∨ (k.tmod n < 0 ∧ k.tmod n + n = k % n) := by
  have h1 := Int.emod_nonneg k (show n ≠ 0 by omega)
  have h2 := Int.emod_lt_of_pos k (show 0 < n by omega)
  have h := Int.tmod_eq_emod (a := k) (b := n)
  rw [h]
  split
  · left; omega
  · right; omega
/-- a number from 0 to one below n, made of any one. -/
theorem countC (k n : Int) (w : World) (hk : -9223372036854775808 ≤ k ∧ k ≤ 9223372036854775807) (hn : 1 ≤ n ∧ n ≤ 9223372036854775807) :
    Calls Tryd.prog 31 #[.int .i64 k, .int .i64 n] w fun e w' => e = .returned (.int .i64 (k % n)) ∧ w = w' := by
  obtain ⟨hk1, hk2⟩ := hk
  obtain ⟨hn1, hn2⟩ := hn
  have h1 := Int.emod_nonneg k (show n ≠ 0 by omega)
  have h2 := Int.emod_lt_of_pos k (show 0 < n by omega)
  rcases tmod_cases k n hn1 with ⟨c, e⟩ | ⟨c, e⟩
  · have hlt : k.tmod n < n := by omega
    have E := Lib.hid e
    clear e h1 h2
    go_enter Tryd.func31, Tryd.ntmps31
    go_wp2
    go_ret
    exact ⟨by rw [← E.out]; rfl, rfl⟩
  · have hlt : -n ≤ k.tmod n := by omega
    have E := Lib.hid e
    clear e h1 h2
    go_enter Tryd.func31, Tryd.ntmps31
    go_wp2
    go_ret
    exact ⟨by rw [← E.out]; rfl, rfl⟩
theorem countZ (k n : Int) (w : World) (hn : n < 1) : Calls Tryd.prog 31 #[.int .i64 k, .int .i64 n] w fun e w' => e = .returned (.int .i64 0) ∧ w = w' := by
  go_enter Tryd.func31, Tryd.ntmps31
  go_wp2
  go_ret
  exact ⟨rfl, rfl⟩
end Go.Proofs.YtniejpfjbifjkaaDoor
