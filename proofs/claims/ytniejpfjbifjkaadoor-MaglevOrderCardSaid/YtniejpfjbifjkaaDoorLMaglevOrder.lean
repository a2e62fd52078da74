/- MaglevOrder walked. -/
import Derived.Test.YtniejpfjbifjkaaDoorMt
namespace Go.Proofs.YtniejpfjbifjkaaDoor
open Go.RowKit Fl

theorem info4 : (Tryd.prog.info? 4).map (fun i => (i.zero, i.size, i.bytes)) = some (some (.bool false), 1, 1) := by kernel_rfl
def bools (l : List Bool) : List Value := l.map Value.bool
theorem bools_getD (l : List Bool) (i : Nat) (hi : i < l.length) : (bools l)[i]? = some (.bool (l.getD i false)) := by simp [bools, List.getD, hi]
theorem bools_set (l : List Bool) (k : Nat) (x : Bool) : (bools l).set k (.bool x) = bools (l.set k x) := by simp [bools, List.map_set]
theorem run_mkB {w : World} (n : Nat) (hn : n ≤ 1021) : (Instr.makeSlice 43 (.int .i64 (n : Int)) (.int .i64 (n : Int))).run Tryd.prog w = .ok (.slice (some ⟨w.heap.size, 0, none⟩) n n) (w.alloc (.cells (madeCells #[.bool false] n) 4)) := by
  obtain ⟨i0, hi, hz0, hz1, hz2⟩ := info_parts info4
  have := run_make (P := Tryd.prog) w 43 4 i0 (.bool false) Tryd.underlying43 hi hz0 .i64 .i64 (n : Int) (n : Int) (by omega) (Int.le_refl _) (by rw [hz2]; omega) (by omega)
  rw [hz1, Nat.mul_one] at this
  exact this
theorem owns_madeB {w : World} (n : Nat) (hn : n ≤ 1021) : (w.alloc (.cells (madeCells #[.bool false] n) 4)).ownsRow w.heap.size 4 1 (.slice (some ⟨w.heap.size, 0, none⟩) n n) n (bools (List.replicate n false)) := by
  have := World.ownsRow_lit (e := 4) (size := 1) (base := w.heap.size) w (madeCells #[.bool false] n) n (Nat.le_refl _) (by unfold maxLen; omega) (by rw [size_madeCells, Nat.mul_one])
  rw [toList_madeCells_one] at this
  simpa [bools] using this
/-- which slots the first k of an order come to. -/
def seenL (o : List Nat) (n k : Nat) : List Bool := (List.range n).map fun x => decide (x ∈ o.take k)
theorem seenL_length (o : List Nat) (n k : Nat) : (seenL o n k).length = n := by simp [seenL]
theorem seenL_zero (o : List Nat) (n : Nat) : seenL o n 0 = List.replicate n false := by
  unfold seenL
  apply List.ext_getElem (by simp)
  intro i h1 h2
  simp
theorem seenL_getD (o : List Nat) (n k x : Nat) (hx : x < n) : (seenL o n k).getD x false = decide (x ∈ o.take k) := by
  simp [seenL, List.getD, hx]
theorem seenL_set (o : List Nat) (n k : Nat) (hk : k < o.length) : (seenL o n k).set (o.getD k 0) true = seenL o n (k + 1) := by
  apply List.ext_getElem (by simp [seenL])
  intro i h1 h2
  have hi : i < n := by simpa [seenL] using h2
  have h3 : (seenL o n (k + 1))[i] = decide (i ∈ o.take (k + 1)) := by simp [seenL]
  have h4 : (seenL o n k)[i]'(by simpa [seenL] using hi) = decide (i ∈ o.take k) := by simp [seenL]
  rw [List.getElem_set, h3, h4, take_succ_getD o k hk]
  by_cases e : o.getD k 0 = i
  · rw [if_pos e, e]; simp
  · rw [if_neg e]
    rw [Bool.eq_iff_iff]
    simp only [decide_eq_true_eq, List.mem_append, List.mem_singleton]
    constructor
    · exact .inl
    · rintro (h | h)
      · exact h
      · exact absurd h.symm e
theorem not_seen {o : List Nat} (hn : o.Nodup) (k : Nat) (hk : k < o.length) : o.getD k 0 ∉ o.take k := by
  have h1 : o.take (k + 1) = o.take k ++ [o.getD k 0] := take_succ_getD o k hk
  have h2 : (o.take (k + 1)).Nodup := hn.sublist (List.take_sublist _ _)
  rw [h1, List.nodup_append] at h2
  intro h
  exact h2.2.2 _ h _ (List.mem_singleton.2 rfl) rfl

namespace maglevOrder
set_option maxRecDepth 100000 in
set_option maxHeartbeats 2000000 in
theorem walk (id slots n : Int) (w : World) (_ : -9223372036854775808 ≤ id ∧ id ≤ 9223372036854775807) (hs : -9223372036854775808 ≤ slots ∧ slots ≤ 9223372036854775807)
    (hn : -9223372036854775808 ≤ n ∧ n ≤ 9223372036854775807) (hl : Laid w) (hpos : 0 < w.heap.size) :
    Calls Tryd.prog 10 #[.int .i64 id, .int .i64 slots, .int .i64 n] w fun e w' => e = .returned (.bool true) ∧ Below w.heap.size w w' := by
  have hp1 := fun W => primeC n W hn
  have hp2 := fun W => rprimeC n W hn
  by_cases hok : ordOk id slots = true
  case neg =>
    have hE : ordE id slots = 1 := by unfold ordE; rw [if_neg hok]
    have hR : ordR id slots = [] := by unfold ordR; rw [if_neg hok]
    have o1 := orderC id slots w hs
    have o2 := fun W => rorderC id slots W hs
    rw [hE, hR] at o1 o2
    clear hok hE hR hs hn
    have HL := Lib.hid hl
    clear hl
    by_cases hlt : n < 100000
    · go_enter Tryd.func10, Tryd.ntmps10
      go_wp2_with fail
      refine o1.mono ?_
      rintro e w1 ⟨v1, rfl, ho1, hb1⟩
      obtain ⟨x1, c1, rfl, hi1⟩ := Ils.up ho1
      clear ho1
      go_wp2_with fail
      refine (o2 _).mono ?_
      rintro e w2 ⟨v2, rfl, ho2, hb2⟩
      obtain ⟨x2, c2, rfl, hi2⟩ := Ils.up ho2
      have hi1' := hi1.below hb2
      have hb := below_trans' hb1 hb2
      clear ho2 hi1 hb1 hb2
      go_wp2_with fail
      refine (rsame43C _ _ _ _ _ _ _ hi1' hi2).mono ?_
      rintro e w3 ⟨rfl, q, rfl⟩
      rw [show decide (up [] = up []) = true from decide_eq_true rfl]
      have hb' := below_drewN hb q
      generalize w2.drewN q = w4 at *
      clear hi1' hi2 hb
      go_wp2_with fail
      refine (hp1 _).mono ?_
      rintro e w5 ⟨rfl, rfl⟩
      go_wp2_with fail
      refine (hp2 _).mono ?_
      rintro e w5 ⟨rfl, rfl⟩
      go_wp2_with fail
      refine (known10C _ (HL.out.below hb' hpos) (by have := hb'.size; omega)).mono ?_
      rintro e w5 ⟨rfl, hb5⟩
      have hb6 := below_trans' hb' hb5
      clear hb' hb5
      go_wp2_with fail
      go_ret
      exact ⟨rfl, hb6⟩
    · go_enter Tryd.func10, Tryd.ntmps10
      go_wp2_with fail
      refine o1.mono ?_
      rintro e w1 ⟨v1, rfl, ho1, hb1⟩
      obtain ⟨x1, c1, rfl, hi1⟩ := Ils.up ho1
      clear ho1
      go_wp2_with fail
      refine (o2 _).mono ?_
      rintro e w2 ⟨v2, rfl, ho2, hb2⟩
      obtain ⟨x2, c2, rfl, hi2⟩ := Ils.up ho2
      have hi1' := hi1.below hb2
      have hb := below_trans' hb1 hb2
      clear ho2 hi1 hb1 hb2
      go_wp2_with fail
      refine (rsame43C _ _ _ _ _ _ _ hi1' hi2).mono ?_
      rintro e w3 ⟨rfl, q, rfl⟩
      rw [show decide (up [] = up []) = true from decide_eq_true rfl]
      have hb' := below_drewN hb q
      generalize w2.drewN q = w4 at *
      clear hi1' hi2 hb
      go_wp2_with fail
      refine (known10C _ (HL.out.below hb' hpos) (by have := hb'.size; omega)).mono ?_
      rintro e w5 ⟨rfl, hb5⟩
      have hb6 := below_trans' hb' hb5
      clear hb' hb5
      go_wp2_with fail
      go_ret
      exact ⟨rfl, hb6⟩
  have hE : ordE id slots = 0 := by unfold ordE; rw [if_pos hok]
  have hR : ordR id slots = ordL id slots := by unfold ordR; rw [if_pos hok]
  have h1 : slotsOk slots = true := by unfold ordOk at hok; rw [Bool.and_eq_true] at hok; exact hok.1
  have hr := slotsOk_range h1
  obtain ⟨m, rfl⟩ : ∃ m : Nat, slots = (m : Int) := ⟨slots.toNat, by omega⟩
  have hp := slotsOk_pr h1
  have hst := stStep_lt (id := id) hr.1
  rw [Int.toNat_natCast] at hst
  have o1 := orderC id m w hs
  have o2 := fun W => rorderC id m W hs
  rw [hE, hR] at o1 o2
  have hnd : (ordL id m).Nodup := by unfold ordL; rw [Int.toNat_natCast]; exact walkL_nodup hp hst.2 hst.1
  have hlt : ∀ x ∈ ordL id m, x < m := by
    intro x hx
    unfold ordL at hx
    rw [Int.toNat_natCast] at hx
    unfold walkL at hx
    obtain ⟨k, _, rfl⟩ := List.mem_map.1 hx
    exact pos_lt _ _ _ _ (by omega)
  have hlen : (ordL id m).length = m := by unfold ordL; rw [walkL_length, Int.toNat_natCast]
  have hmk := fun (W : World) => run_mkB (w := W) m (by omega)
  obtain ⟨hr1, hr2⟩ := hr
  have HL := Lib.hid hl
  clear hl hok hE hR h1 hs hn hp hst
  generalize ordL id m = o at *
  by_cases hltn : n < 100000
  all_goals
    go_enter Tryd.func10, Tryd.ntmps10
    go_wp2_with fail
    refine o1.mono ?_
    rintro e w1 ⟨v1, rfl, ho1, hb1⟩
    obtain ⟨x1, c1, rfl, hi1⟩ := Ils.up ho1
    clear ho1
    go_wp2_with fail
    refine (o2 _).mono ?_
    rintro e w2 ⟨v2, rfl, ho2, hb2⟩
    obtain ⟨x2, c2, rfl, hi2⟩ := Ils.up ho2
    have hi1' := hi1.below hb2
    have hb := below_trans' hb1 hb2
    clear ho2 hi1 hb1 hb2
    go_wp2_with fail
    refine (rsame43C _ _ _ _ _ _ _ hi1' hi2).mono ?_
    rintro e w3 ⟨rfl, q, rfl⟩
    rw [decide_eq_true rfl]
    have hb' := below_drewN hb q
    have hi3 := hi1'.below (below_drewN (Below.refl _ _) q)
    generalize w2.drewN q = w4 at *
    rw [up_length, hlen]
    clear hi1' hi2 hb
    go_wp2_with (first | (go_at_call 44; refine (hp1 _).mono ?_; rintro e w5 ⟨rfl, rfl⟩) | (go_at_call 45; refine (hp2 _).mono ?_; rintro e w5 ⟨rfl, rfl⟩))
    obtain ⟨gs, hgs⟩ : ∃ gs, gs = w4.heap.size := ⟨_, rfl⟩
    have hbz := hb'.size
    have I0 : (w4.alloc (.cells (madeCells #[.bool false] m) 4)).ownsRow w.heap.size 4 1 (.slice (some ⟨gs, 0, none⟩) m m) m (bools (seenL o m 0)) := by
      rw [hgs, seenL_zero]; exact owns_base (owns_madeB m (by omega)) hbz
    have I1 : Below gs w4 (w4.alloc (.cells (madeCells #[.bool false] m) 4)) := by rw [hgs]; exact (Below.refl _ _).alloc (Nat.le_refl _) _
    rw [← hgs]
    have hgsz : w.heap.size ≤ gs := by omega
    have hpz : 0 < gs := by omega
    have HGS := Lib.hid hgs
    have HB4 := Lib.hid hb'
    have HI3 := Lib.hid hi3
    clear hgs hb' hi3 hbz hmk o1 o2
    go_loopw [12] (fun i wr => ∃ k : Nat, k ≤ m ∧ i = .int .i64 k ∧ wr.ownsRow w.heap.size 4 1 (.slice (some ⟨gs, 0, none⟩) m m) m (bools (seenL o m k)) ∧ Below gs w4 wr) (fun i _ => m - (intOf i).toNat)
    case atStart => exact ⟨0, Nat.zero_le _, rfl, I0, I1⟩
    case round =>
      clear I0 I1
      obtain ⟨k, hk, rfl, hO, hB⟩ := hrel
      have hI : Ils wr x1 (up o) := HI3.out.below (by rw [← HGS.out]; exact hB)
      by_cases hlk : k < m
      · obtain ⟨b1, o1, rfl, hc⟩ := hI.2 k (by rw [up_length]; omega)
        rw [up_getD] at hc
        have hx := hlt _ (getD_mem' o k (by omega))
        have hsc := hO.cellAt (o.getD k 0) (by omega)
        rw [bools_getD _ _ (by rw [seenL_length]; exact hx), seenL_getD _ _ _ _ hx, decide_eq_false (not_seen hnd k (by omega))] at hsc
        have hsf := hO.frozenAt (o.getD k 0)
        obtain ⟨ho, hg⟩ := hO.stored (o.getD k 0) (.bool true)
        rw [bools_set, seenL_set _ _ _ (by omega)] at ho
        have hB' := hB.setCell (p := ⟨gs, o.getD k 0, none⟩) (Nat.le_refl _) (.bool true)
        have HO := Lib.hid ho
        have HBB := Lib.hid hB'
        have d0 : decide (((o.getD k 0 : Nat) : Int) < 0) = false := decide_eq_false (by omega)
        have d1 : decide (m ≤ o.getD k 0) = false := decide_eq_false (by omega)
        have d2 : decide ((m : Int) ≤ ((o.getD k 0 : Nat) : Int)) = false := decide_eq_false (by omega)
        clear ho hB' hO hB hI hg hlt hnd hlen
        generalize o.getD k 0 = x at *
        go_wp2
        go_roundw
        case rel => exact ⟨k + 1, by omega, by go_num, HO.out, HBB.out⟩
        case measure => simp [intOf]; omega
      · have hz := hB.size
        have hB5 : Below w.heap.size w wr := HB4.out.trans (hB.mono hgsz)
        have HB5 := Lib.hid hB5
        clear hB5 hI hO hB hlt hnd hlen
        go_wp2_with fail
        refine (known10C _ (HL.out.below HB5.out hpos) (by have := HGS.out; omega)).mono ?_
        rintro e w6 ⟨rfl, hb6⟩
        have hb7 := below_trans' HB5.out hb6
        clear hb6
        go_wp2_with fail
        go_ret
        exact ⟨rfl, hb7⟩
end maglevOrder
end Go.Proofs.YtniejpfjbifjkaaDoor
