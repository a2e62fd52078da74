/- The reference's Build. -/
import Derived.Test.YtniejpfjbifjkaaDoorMm
import Derived.Test.YtniejpfjbifjkaaDoorLWeightLists
import Derived.Test.YtniejpfjbifjkaaDoorLWeightTurns
namespace Go.Proofs.YtniejpfjbifjkaaDoor
open Go.RowKit Fl

def bOk (l : List (Int × Nat)) (slots : Int) : Bool := slotsOk slots && rightOk l
def bTurns (l : List (Int × Nat)) (slots : Int) : List Nat := turns (wts l) slots
def bTab (l : List (Int × Nat)) (slots : Int) : List Int := if bOk l slots = true ∧ bTurns l slots ≠ [] then tableOf l slots.toNat (bTurns l slots) else []
def bErr (l : List (Int × Nat)) (slots : Int) : Int := if bOk l slots = true then (if bTurns l slots = [] then 20 else 0) else 1
theorem wts_length (l : List (Int × Nat)) : (wts l).length = l.length := by simp [wts]
theorem turns_facts {l : List Nat} {n : Int} (h : turns l n ≠ []) : (turns l n).length = n.toNat ∧ ∀ i ∈ turns l n, i < l.length := by
  by_cases hno : noTurns l n
  · exact absurd (by unfold turns; rw [if_pos hno]) h
  · have h' := hno
    unfold noTurns at h'
    have h4 : best l ≠ 0 := by omega
    have ht : turns l n = turnsN l n.toNat := by unfold turns; rw [if_neg hno]
    rw [ht]
    exact ⟨turnsN_length l _ h4, turnsN_mem l _ h4⟩
theorem run_mkN {w : World} (n : Nat) (hn : n ≤ 1021) : (Instr.makeSlice 31 (.int .i64 (n : Int)) (.int .i64 (n : Int))).run Tryd.prog w = .ok (.slice (some ⟨w.heap.size, 0, none⟩) n n) (w.alloc (.cells (madeCells #[.int .i64 0] n) 3)) := by
  obtain ⟨i0, hi, hz0, hz1, hz2⟩ := info_parts info3
  have := run_make (P := Tryd.prog) w 31 3 i0 (.int .i64 0) Tryd.underlying31 hi hz0 .i64 .i64 (n : Int) (n : Int) (by omega) (Int.le_refl _) (by rw [hz2]; omega) (by omega)
  rw [hz1, Nat.mul_one] at this
  exact this
theorem owns_madeN {w : World} (n : Nat) (hn : n ≤ 1021) : (w.alloc (.cells (madeCells #[.int .i64 0] n) 3)).ownsRow w.heap.size 3 1 (.slice (some ⟨w.heap.size, 0, none⟩) n n) n (ints' (List.replicate n 0)) := by
  have := World.ownsRow_lit (e := 3) (size := 1) (base := w.heap.size) w (madeCells #[.int .i64 0] n) n (Nat.le_refl _) (by unfold maxLen; omega) (by rw [size_madeCells, Nat.mul_one])
  rw [toList_madeCells_one] at this
  simpa [ints'] using this
theorem ints'_set (l : List Int) (k : Nat) (x : Int) : (ints' l).set k (.int .i64 x) = ints' (l.set k x) := by simp [ints', List.map_set]
/-- the first k slots are free, the others not yet. -/
def clearing (n k : Nat) : List Int := List.replicate k (-1) ++ List.replicate (n - k) 0
theorem clearing_length {n k : Nat} (h : k ≤ n) : (clearing n k).length = n := by simp [clearing]; omega
theorem clearing_set {n k : Nat} (h : k < n) : (clearing n k).set k (-1) = clearing n (k + 1) := by
  unfold clearing
  apply List.ext_getElem?
  intro i
  rcases Nat.lt_trichotomy i k with h1 | h1 | h1
  · rw [List.getElem?_set_ne (by omega), List.getElem?_append_left (by simp; omega), List.getElem?_append_left (by simp; omega)]
    simp [h1, show i < k + 1 by omega]
  · subst h1
    rw [List.getElem?_set_self (by simp; omega), List.getElem?_append_left (by simp)]
    simp
  · rw [List.getElem?_set_ne (by omega), List.getElem?_append_right (by simp; omega), List.getElem?_append_right (by simp; omega)]
    simp only [List.length_replicate, List.getElem?_replicate]
    congr 1
    exact propext (by omega)
theorem walkL_getD {a s n k m : Nat} (h : k < m) : (walkL a s n m).getD k 0 = pos a s n k := by simp [walkL, List.getD, h]

/-- the memory behind j turns. -/
structure RB (l : List (Int × Nat)) (n : Nat) (ts : List Nat) (w : World) (gt ct gb : Nat) (wr : World) (j : Nat) : Prop where
  turns : wr.ownsRow w.heap.size 3 1 (.slice (some ⟨gt, 0, none⟩) ts.length ct) ts.length (ints ts)
  tab : wr.ownsRow w.heap.size 3 1 (.slice (some ⟨gb, 0, none⟩) n n) n (ints' (tableOf l n (ts.take j)))
  below : Below w.heap.size w wr
theorem RB.lift {l : List (Int × Nat)} {n : Nat} {ts : List Nat} {w : World} {gt ct gb : Nat} {wr w2 : World} {j : Nat} (h : RB l n ts w gt ct gb wr j) (hb : Below wr.heap.size wr w2) : RB l n ts w gt ct gb w2 j :=
  ⟨owns_below h.turns hb (fun g hg => (h.turns.lt g hg).2), owns_below h.tab hb (fun g hg => (h.tab.lt g hg).2), below_trans' h.below hb⟩
theorem RB.step {l : List (Int × Nat)} {n : Nat} {ts : List Nat} {w : World} {gt ct gb : Nat} {wr : World} {j : Nat} (h : RB l n ts w gt ct gb wr j) (hj : j < ts.length) (hne : gt ≠ gb) (x : Nat) (hx : x = slotAt l n (ts.getD j 0) (ff (tableOf l n (ts.take j)) (slotAt l n (ts.getD j 0)) n)) :
    RB l n ts w gt ct gb (wr.setCell ⟨gb, x, none⟩ (.int .i64 (idAt l (ts.getD j 0)))) (j + 1) := by
  obtain ⟨ho, hg⟩ := h.tab.stored x (.int .i64 (idAt l (ts.getD j 0)))
  refine ⟨h.turns.kept hg (.inr (by simp [Value.ownBlock]; omega)), ?_, h.below.setCell (h.tab.lt gb rfl).1 _⟩
  rw [take_succ_getD ts j hj, tableOf_snoc]
  rw [ints'_set, hx] at ho
  rw [hx]
  exact ho
theorem nonneg_of {y : Int} (h1 : -1 ≤ y ∧ y < 32) (h2 : y ≠ -1) : 0 ≤ y := by omega
theorem neg_of {y : Int} (h : y = -1) : y < 0 ∧ decide ((0 : Int) ≤ y) = false := by subst h; decide
theorem ordOk_at {l : List (Int × Nat)} {n : Nat} {i : Nat} (h1 : slotsOk n = true) (h2 : rightOk l = true) (hi : i < l.length) : ordOk (idAt l i) n = true := by
  have hg := (of_decide_eq_true h2).2 i hi
  unfold ordOk namedOk
  rw [h1, decide_eq_true hg.1, decide_eq_true hg.2.1]; rfl

set_option maxRecDepth 100000 in
set_option maxHeartbeats 4000000 in
theorem rbuild_some (l : List (Int × Nat)) (a : Option Addr) (ca : Nat) (n : Nat) (w : World) (hx : Ens w a l) (h1 : slotsOk n = true) (h2 : rightOk l = true) (h3 : turns (wts l) n ≠ []) :
    Calls Tryd.prog 50 #[.slice a l.length ca, .int .i64 n] w fun e w' => ∃ g, e = .returned (.tuple #[.slice (some ⟨g, 0, none⟩) n n, .int .i64 0]) ∧
      w'.ownsRow w.heap.size 3 1 (.slice (some ⟨g, 0, none⟩) n n) n (ints' (tableOf l n (turns (wts l) n))) ∧ Below w.heap.size w w' := by
  have hr := slotsOk_range h1
  have hp : Pr n := by
    unfold slotsOk prm at h1
    simp only [Bool.and_eq_true, decide_eq_true_eq, Int.toNat_natCast] at h1
    exact h1.2
  obtain ⟨hlen, hmem⟩ := turns_facts h3
  rw [Int.toNat_natCast] at hlen
  rw [wts_length] at hmem
  have hmk := fun (W : World) => run_mkN (w := W) n (by omega)
  have hbnd : ∀ x ∈ wts l, x < B64 := by
    intro x hx'
    obtain ⟨e, he, rfl⟩ := List.mem_map.1 hx'
    obtain ⟨i, hi, rfl⟩ := List.getElem_of_mem he
    have := hx.2.1 i hi
    simpa [List.getD, hi] using this
  have htab := tabOk_of hp h2 (turns (wts l) n) (by omega) hmem
  have hord := fun (i : Nat) (hi : i < l.length) => ordOk_at (n := n) h1 h2 hi
  have hids := (of_decide_eq_true h2).2
  have hw := hx
  obtain ⟨hm, _, hc⟩ := hw
  obtain ⟨hr1, hr2⟩ := hr
  have HX := Lib.hid hx
  have HB := Lib.hid hbnd
  clear hx hbnd
  go_enter Tryd.func50, Tryd.ntmps50
  go_wp2_with (first | (go_at_call 47; refine (rslotsC _ _ ⟨by omega, by omega⟩).mono ?_; rw [h1]; rintro e w' ⟨rfl, rfl⟩) | (go_at_call 54; refine (rrightC l _ _ _ HX.out).mono ?_; rw [h2]; rintro e w' ⟨rfl, nn, rfl⟩))
  refine (rweightsC l a ca _ (HX.out.below (below_drewN (Below.refl _ _) nn))).mono ?_
  rintro e w1 ⟨v, rfl, ho1, hb1⟩
  have hb1' : Below w.heap.size w w1 := (below_drewN (Below.refl _ _) nn).trans hb1
  obtain ⟨aw, cw, rfl, hfw⟩ := Fls.owned (wts_length l).symm HB.out ho1
  have hrt := rturnsC (wts l) n aw cw w1 hfw
  rw [wts_length] at hrt
  clear ho1 hb1 hfw
  go_wp2_with fail
  refine hrt.mono ?_
  rintro e w2 ⟨vt, rfl, ho2, hb2⟩
  clear hrt
  generalize hT : turns (wts l) n = ts at *
  have HT := Lib.hid hT
  clear hT
  obtain ⟨gt, ct, rfl, hgt1, hgt2⟩ := ho2.form (by omega)
  have hb2' := below_trans' hb1' hb2
  have ho2' := owns_base ho2 hb1'.size
  clear ho2 hb2 hb1' h3 hgt1
  have hbz : ((ts.length : Int) == 0) = false := by rw [beq_eq_false_iff_ne]; omega
  have hbn : ((n : Int) == 0) = false := by rw [beq_eq_false_iff_ne]; omega
  go_wp2_with fail
  obtain ⟨gb, hgb⟩ : ∃ gb, gb = w2.heap.size := ⟨_, rfl⟩
  have hne : gt ≠ gb := by omega
  have I0t := ho2'.alloc (.cells (madeCells #[.int .i64 0] n) 3)
  have I0b : (w2.alloc (.cells (madeCells #[.int .i64 0] n) 3)).ownsRow w.heap.size 3 1 (.slice (some ⟨gb, 0, none⟩) n n) n (ints' (clearing n 0)) := by
    rw [hgb]; exact owns_base (owns_madeN n (by omega)) hb2'.size
  have I0B : Below w.heap.size w (w2.alloc (.cells (madeCells #[.int .i64 0] n) 3)) := hb2'.alloc hb2'.size _
  rw [← hgb]
  clear hgb hgt2 ho2' hb2' hmk
  go_loopw [8] (fun i wr => ∃ k : Nat, k ≤ n ∧ i = .int .i64 k ∧ wr.ownsRow w.heap.size 3 1 (.slice (some ⟨gt, 0, none⟩) ts.length ct) ts.length (ints ts) ∧ wr.ownsRow w.heap.size 3 1 (.slice (some ⟨gb, 0, none⟩) n n) n (ints' (clearing n k)) ∧ Below w.heap.size w wr) (fun i _ => n - (intOf i).toNat)
  case atStart => exact ⟨0, Nat.zero_le _, rfl, I0t, I0b, I0B⟩
  case round =>
    clear I0t I0b I0B
    obtain ⟨k, hk, rfl, ht, hb, hB⟩ := hrel
    by_cases hlt : k < n
    · have hcell := hb.cellAt k (by omega)
      rw [ints'_getD _ k (by rw [clearing_length (by omega)]; exact hlt)] at hcell
      have hfz := hb.frozenAt k
      obtain ⟨ho, hg⟩ := hb.stored k (.int .i64 (-1))
      rw [ints'_set, clearing_set hlt] at ho
      have ht' := ht.kept hg (.inr (by simp [Value.ownBlock]; omega))
      have hB' := hB.setCell (hb.lt gb rfl).1 (p := ⟨gb, k, none⟩) (.int .i64 (-1))
      clear hb ht hB hg
      go_wp2
      go_roundw
      case rel => exact ⟨k + 1, by omega, by go_num, ht', ho, hB'⟩
      case measure => simp [intOf]; omega
    · have hk' : k = n := by omega
      have I1 : RB l n ts w gt ct gb wr 0 := by
        refine ⟨ht, ?_, hB⟩
        rw [hk'] at hb
        have : clearing n n = tableOf l n (ts.take 0) := by simp [clearing, tableOf]
        rw [← this]; exact hb
      clear ht hb hB hk'
      go_wp2_with fail
      go_loopw [9] (fun i wr => ∃ j : Nat, j ≤ n ∧ i = .int .i64 j ∧ RB l n ts w gt ct gb wr j) (fun i _ => n - (intOf i).toNat)
      case atStart => exact ⟨0, Nat.zero_le _, rfl, I1⟩
      case round =>
        clear I1
        obtain ⟨j, hj, rfl, hI⟩ := hrel
        by_cases hjl : j < n
        · have hjt : j < ts.length := by omega
          have hi := hmem _ (getD_mem' ts j hjt)
          have hct := hI.turns.cellAt j (by omega)
          rw [ints_getD ts j hjt] at hct
          obtain ⟨b1, o1, rfl, hid, _⟩ := hc _ hi
          have hid' := (hI.below.cell (p := ⟨b1, o1 + ts.getD j 0 * 2, none⟩) (World.block_lt_of_cell? w _ hid)).trans hid
          have hro := rorderC (idAt l (ts.getD j 0)) n wr ⟨by omega, by omega⟩
          have hoo := hord _ hi
          have hE : ordE (idAt l (ts.getD j 0)) n = 0 := by unfold ordE; rw [hoo]; rfl
          have hR : ordR (idAt l (ts.getD j 0)) n = ordL (idAt l (ts.getD j 0)) n := by unfold ordR; rw [hoo]; rfl
          rw [hE, hR] at hro
          have hT := htab j (by omega)
          have hff := ff_spec (hT.free_slot (l := l) (i := ts.getD j 0) hp hjl)
          have hst := fun x hx => hI.step hjt hne x hx
          have hidx : (l.getD (ts.getD j 0) ent0).1 = idAt l (ts.getD j 0) := rfl
          rw [hidx] at hid'
          clear hid hoo hE hR hidx hst
          have HH := Lib.hid (And.intro hjt hi)
          have HI := Lib.hid hI
          clear hI hjt
          generalize hgi : ts.getD j 0 = i at *
          have HG := Lib.hid hgi
          clear hgi
          go_wp2_with fail
          refine hro.mono ?_
          rintro e w4 ⟨vo, rfl, ho4, hb4⟩
          have R4 := HI.out.lift hb4
          have hLn : (ordL (idAt l i) n).length = n := by unfold ordL; rw [walkL_length, Int.toNat_natCast]
          have hget : ∀ k, k < n → (ordL (idAt l i) n).getD k 0 = slotAt l n i k := by
            intro k hk; unfold ordL; rw [Int.toNat_natCast, walkL_getD hk]; unfold slotAt; rfl
          rw [hLn] at ho4
          obtain ⟨go, co, rfl, hgo1, hgo2⟩ := ho4.form (by omega)
          have hcell : ∀ k, k < n → w4.cell? ⟨go, k, none⟩ = some (.int .i64 (slotAt l n i k : Nat)) := by
            intro k hk
            rw [ho4.cellAt k (by omega), ints_getD _ k (by rw [hLn]; exact hk), hget k hk]
          have htc : ∀ k, k < n → w4.cell? ⟨gb, slotAt l n i k, none⟩ = some (.int .i64 ((tableOf l n (ts.take j)).getD (slotAt l n i k) 0)) := by
            intro k hk
            have := slotAt_lt (l := l) (i := i) (k := k) (show 0 < n by omega)
            rw [R4.tab.cellAt _ (by omega), ints'_getD _ _ (by rw [hT.len]; exact this)]
          have hsl : ∀ k, slotAt l n i k < n := fun k => slotAt_lt (by omega)
          have hids' := hT.ids
          have hstep := R4.step HH.out.1 hne
          rw [HG.out] at hstep
          obtain ⟨f1, f2, f3⟩ := hff
          have hfz := fun x => R4.tab.frozenAt x
          have HR4 := Lib.hid R4
          clear ho4 hLn hget hgo1 hgo2 R4 hb4 hct hid' hro hT htab hmem hids hc hord
          generalize hTB : tableOf l n (ts.take j) = tb at *
          generalize hFF : ff tb (slotAt l n i) n = fk at *
          clear hTB hFF
          generalize slotAt l n i = sl at *
          go_wp2_with fail
          have hstep' := hstep _ rfl
          clear hstep
          go_loopw [13] (fun v wr' => wr' = w4 ∧ ∃ k : Nat, k ≤ fk ∧ v = .int .i64 k) (fun v _ => fk - (intOf v).toNat)
          case atStart => exact ⟨rfl, 0, Nat.zero_le _, rfl⟩
          case round =>
            obtain ⟨rfl, k, hk3, rfl⟩ := hrel
            have hkn : k < n := by omega
            have c1 := hcell k hkn
            have c2 := htc k hkn
            have c3 := hsl k
            have c4 := hids' _ c3
            have c5 := hfz (sl k)
            by_cases hkf : k < fk
            · have c6 := f3 k hkf
              have c7 : (0 : Int) ≤ tb.getD (sl k) 0 := nonneg_of c4 c6
              have d1 : decide ((0 : Int) ≤ tb.getD (sl k) 0) = true := decide_eq_true c7
              clear hcell htc hsl hids' hfz f3 c6 c4 hstep' f2 HR4 c5 hp h1 h2 hlen hk hlt hi HX HB HT HG HH HI hbz hbn hne
              generalize tb.getD (sl k) 0 = y at *
              generalize sl k = x at *
              as_aux_lemma =>
                go_wp2
                go_roundw
                case rel => exact ⟨by first | trivial | rfl, k + 1, by omega, by go_num⟩
                case measure => simp [intOf]; omega
            · have hkf' : k = fk := by omega
              subst hkf'
              have d1 := (neg_of f2).2
              have c7 := (neg_of f2).1
              have HS' := Lib.hid hstep'
              clear hcell htc hsl hids' hfz f3 c4 f2 hstep' HR4 hp h1 h2 hlen hk hlt hi HX HB HT HG HH HI hbz hbn hne
              generalize tb.getD (sl k) 0 = y at *
              generalize sl k = x at *
              as_aux_lemma =>
                go_wp2
                go_roundw
                case rel => exact ⟨j + 1, by omega, by go_num, HS'.out⟩
                case measure => simp [intOf]; omega
        · have hj' : j = ts.length := by omega
          have HJ := Lib.hid hj'
          have HI := Lib.hid hI
          clear hI hj'
          go_wp2
          go_ret2
          have hI := HI.out.tab
          rw [HJ.out, List.take_length] at hI
          exact ⟨gb, rfl, by rw [HT.out]; exact hI, HI.out.below⟩
end Go.Proofs.YtniejpfjbifjkaaDoor
