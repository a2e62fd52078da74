/- The walk of Turns: it returns the turns of the plain machine, in new memory. -/
import Derived.Test.YtniejpfjbifjkaaDoorTu
import Derived.Deep.RegionWith
import Derived.Deep.DeepCutAuto
import Derived.RegionTactic
namespace Go.Proofs.YtniejpfjbifjkaaDoor
open Go.RowKit Fl

/-- what can be read stays behind whatever writes nothing old. -/
theorem Fls.below {w w' : World} {a : Option Addr} {l : List Nat} (h : Fls w a l) (hb : Below w.heap.size w w') : Fls w' a l := by
  refine ⟨h.1, h.2.1, fun i hi => ?_⟩
  obtain ⟨b, off, he, hc⟩ := h.2.2 i hi
  exact ⟨b, off, he, (hb.cell (p := ⟨b, off + i, none⟩) (World.block_lt_of_cell? w _ hc)).trans hc⟩

def ints (l : List Nat) : List Value := l.map fun (n : Nat) => Value.int .i64 (n : Int)
theorem owns_below {w w' : World} {base e size n B : Nat} {v : Value} {xs : List Value} (h : w.ownsRow base e size v n xs) (hb : Below B w w') (hv : ∀ g, v.ownBlock = some g → g < B) : w'.ownsRow base e size v n xs := by
  refine ⟨h.1, ?_⟩
  rcases h.2 with hn | ⟨g, cap, cur, rfl, hg, hh, rest⟩
  · exact .inl hn
  · exact .inr ⟨g, cap, cur, rfl, hg, by rw [hb.block g (hv g rfl)]; exact hh, rest⟩
theorem owns_base {w : World} {base base' e size n : Nat} {v : Value} {xs : List Value} (h : w.ownsRow base e size v n xs) (hb : base' ≤ base) : w.ownsRow base' e size v n xs := by
  refine ⟨h.1, ?_⟩
  rcases h.2 with hn | ⟨g, cap, cur, rfl, hg, rest⟩
  · exact .inl hn
  · exact .inr ⟨g, cap, cur, rfl, by omega, rest⟩
theorem run_mk {w : World} (n : Nat) (hn : n ≤ 32) : (Instr.makeSlice 29 (.int .i64 (n : Int)) (.int .i64 (n : Int))).run Tryd.prog w = .ok (.slice (some ⟨w.heap.size, 0, none⟩) n n) (w.alloc (.cells (madeCells #[.float .f64 0] n) 22)) := by
  obtain ⟨i0, hi, hz0, hz1, hz2⟩ := info_parts info22
  have := run_make (P := Tryd.prog) w 29 22 i0 (.float .f64 0) Tryd.underlying29 hi hz0 .i64 .i64 (n : Int) (n : Int) (by omega) (Int.le_refl _) (by rw [hz2]; omega) (by omega)
  rw [hz1, Nat.mul_one] at this
  exact this
theorem owns_made {w : World} (n : Nat) (hn : n ≤ 32) : (w.alloc (.cells (madeCells #[.float .f64 0] n) 22)).ownsRow w.heap.size 22 1 (.slice (some ⟨w.heap.size, 0, none⟩) n n) n (flts (List.replicate n 0)) := by
  have := World.ownsRow_lit (e := 22) (size := 1) (base := w.heap.size) w (madeCells #[.float .f64 0] n) n (Nat.le_refl _) (by unfold maxLen; omega) (by rw [size_madeCells, Nat.mul_one])
  rw [toList_madeCells_one] at this
  simpa [flts] using this


theorem turns_none (l : List Nat) (n : Int) (a : Option Addr) (cap : Nat) (w : World) (hl : Laid w) (hf : Fls w a l) (h : noTurns l n) :
    Calls Tryd.prog 32 #[.slice a l.length cap, .int .i64 n] w fun e w' => e = .returned (.slice none 0 0) ∧ w = w' := by
  have hm := hf.1
  have he := eqF_pos (best_le_INF l) (show (0 : Nat) ≤ INF by decide)
  unfold noTurns at h
  by_cases h1 : n < 1
  · clear h he
    go_enter Tryd.func32, Tryd.ntmps32
    go_wp2_with (first | (go_at_call 34; refine (bestC _ _ _ _ (by assumption) (by assumption)).mono ?_; rintro e w' ⟨rfl, rfl⟩))
    go_ret
    exact ⟨rfl, rfl⟩
  by_cases h2 : 4096 < n
  · clear h he
    go_enter Tryd.func32, Tryd.ntmps32
    go_wp2_with (first | (go_at_call 34; refine (bestC _ _ _ _ (by assumption) (by assumption)).mono ?_; rintro e w' ⟨rfl, rfl⟩))
    go_ret
    exact ⟨rfl, rfl⟩
  by_cases h3 : 32 < l.length
  · clear h he
    go_enter Tryd.func32, Tryd.ntmps32
    go_wp2_with (first | (go_at_call 34; refine (bestC _ _ _ _ (by assumption) (by assumption)).mono ?_; rintro e w' ⟨rfl, rfl⟩))
    go_ret
    exact ⟨rfl, rfl⟩
  · have h4 : best l = 0 := by omega
    have hbt : eqF (best l) 0 = true := by rw [he]; simpa using h4
    clear h h4 he
    go_enter Tryd.func32, Tryd.ntmps32
    go_wp2_with (first | (go_at_call 34; refine (bestC _ _ _ _ (by assumption) (by assumption)).mono ?_; rintro e w' ⟨rfl, rfl⟩))
    go_ret
    exact ⟨rfl, rfl⟩

theorem run_mk2 {w : World} (n : Nat) (hn : n ≤ 4096) : (Instr.makeSlice 31 (.int .i64 0) (.int .i64 (n : Int))).run Tryd.prog w = .ok (.slice (some ⟨w.heap.size, 0, none⟩) 0 n) (w.alloc (.cells (madeCells #[.int .i64 0] n) 3)) := by
  obtain ⟨i0, hi, hz0, hz1, hz2⟩ := info_parts info3
  have := run_make (P := Tryd.prog) w 31 3 i0 (.int .i64 0) Tryd.underlying31 hi hz0 .i64 .i64 0 (n : Int) (by omega) (by omega) (by rw [hz2]; omega) (by omega)
  rw [hz1, Nat.mul_one] at this
  exact this

/-- the memory of the machine behind k steps. -/
structure TInv (l : List Nat) (w : World) (gp gd go n : Nat) (wr : World) (k : Nat) : Prop where
  lt : (runT (parts l) k).2.length < n
  out : wr.ownsRow w.heap.size 3 1 (.slice (some ⟨go, 0, none⟩) (runT (parts l) k).2.length n) (runT (parts l) k).2.length (ints (runT (parts l) k).2)
  debt : wr.ownsRow w.heap.size 22 1 (.slice (some ⟨gd, 0, none⟩) l.length l.length) l.length (flts (runT (parts l) k).1)
  part : wr.ownsRow w.heap.size 22 1 (.slice (some ⟨gp, 0, none⟩) l.length l.length) l.length (flts (parts l))
  below : Below w.heap.size w wr
theorem flts_getD (l : List Nat) (i : Nat) (hi : i < l.length) : (flts l)[i]? = some (.float .f64 (l.getD i 0)) := by
  simp [flts, List.getD, hi]
/-- a step on which nobody comes. -/
theorem TInv.stay {l : List Nat} {w wr : World} {gp gd go n k i : Nat} (h : TInv l w gp gd go n wr k) (hi : k % l.length = i) (hpd : gp ≠ gd) (hgo : go ≠ gd)
    (hx : newDebt (parts l) (runT (parts l) k).1 i < ONE) :
    (runT (parts l) (k + 1)).2 = (runT (parts l) k).2 ∧ TInv l w gp gd go n (wr.setCell ⟨gd, i, none⟩ (.float .f64 (newDebt (parts l) (runT (parts l) k).1 i))) (k + 1) := by
  have hs : runT (parts l) (k + 1) = ((runT (parts l) k).1.set i (newDebt (parts l) (runT (parts l) k).1 i), (runT (parts l) k).2) := by
    rw [runT, parts_length, hi]; unfold stp; rw [if_pos hx]
  obtain ⟨ho, hg⟩ := h.debt.stored i (.float .f64 (newDebt (parts l) (runT (parts l) k).1 i))
  have hb := (h.debt.lt gd rfl).1
  refine ⟨by rw [hs], by rw [hs]; exact h.lt, ?_, ?_, ?_, h.below.setCell hb _⟩
  · rw [hs]; exact h.out.kept hg (.inr (by simp [Value.ownBlock]; omega))
  · rw [hs]; rw [flts_set] at ho; exact ho
  · exact h.part.kept hg (.inr (by simp [Value.ownBlock]; omega))
theorem TInv.drew {l : List Nat} {w wr : World} {gp gd go n k : Nat} (h : TInv l w gp gd go n wr k) : TInv l w gp gd go n wr.drew k :=
  ⟨h.lt, h.out.drew, h.debt.drew, h.part.drew, h.below.drew⟩
/-- a step on which one comes: the memory ahead of the append, and behind it. -/
structure TMid (l : List Nat) (w : World) (gp gd go n : Nat) (wq : World) (k i : Nat) : Prop where
  out : wq.ownsRow w.heap.size 3 1 (.slice (some ⟨go, 0, none⟩) (runT (parts l) k).2.length n) (runT (parts l) k).2.length (ints (runT (parts l) k).2)
  debt : wq.ownsRow w.heap.size 22 1 (.slice (some ⟨gd, 0, none⟩) l.length l.length) l.length (flts (runT (parts l) (k + 1)).1)
  part : wq.ownsRow w.heap.size 22 1 (.slice (some ⟨gp, 0, none⟩) l.length l.length) l.length (flts (parts l))
  below : Below w.heap.size w wq
  next : (runT (parts l) (k + 1)).2 = (runT (parts l) k).2 ++ [i]
theorem TInv.mid {l : List Nat} {w wr : World} {gp gd go n k i : Nat} (h : TInv l w gp gd go n wr k) (hi : k % l.length = i) (hpd : gp ≠ gd) (hgo : go ≠ gd)
    (hx : ¬ newDebt (parts l) (runT (parts l) k).1 i < ONE) :
    TMid l w gp gd go n ((wr.setCell ⟨gd, i, none⟩ (.float .f64 (newDebt (parts l) (runT (parts l) k).1 i))).setCell ⟨gd, i, none⟩ (.float .f64 (subF (newDebt (parts l) (runT (parts l) k).1 i) ONE))).drew k i := by
  have hs : runT (parts l) (k + 1) = ((runT (parts l) k).1.set i (subF (newDebt (parts l) (runT (parts l) k).1 i) ONE), (runT (parts l) k).2 ++ [i]) := by
    rw [runT, parts_length, hi]; unfold stp; rw [if_neg hx]
  obtain ⟨ho, hg⟩ := h.debt.stored i (.float .f64 (newDebt (parts l) (runT (parts l) k).1 i))
  obtain ⟨ho', hg'⟩ := ho.stored i (.float .f64 (subF (newDebt (parts l) (runT (parts l) k).1 i) ONE))
  have hb := (h.debt.lt gd rfl).1
  have hp1 := (h.part.kept hg (.inr (by simp [Value.ownBlock]; omega))).kept hg' (.inr (by simp [Value.ownBlock]; omega))
  have ho1 := (h.out.kept hg (.inr (by simp [Value.ownBlock]; omega))).kept hg' (.inr (by simp [Value.ownBlock]; omega))
  refine ⟨ho1.drew, ?_, hp1.drew, ((h.below.setCell hb _).setCell hb _).drew, by rw [hs]⟩
  rw [hs]
  rw [List.set_set, flts_set] at ho'
  exact ho'.drew
theorem TMid.done {l : List Nat} {w wq w3 : World} {gp gd go n k i : Nat} (h : TMid l w gp gd go n wq k i) (hgo : go ≠ gd) (hgp : go ≠ gp) (o : Obj)
    (h3 : w3.ownsRow w.heap.size 3 1 (.slice (some ⟨go, 0, none⟩) ((runT (parts l) k).2.length + 1) n) ((runT (parts l) k).2.length + 1) (ints (runT (parts l) k).2 ++ [.int .i64 (i : Int)]))
    (hg3 : (wq.alloc o).grownBy w3 (some go)) :
    Below w.heap.size w w3 ∧ (runT (parts l) (k + 1)).2.length = (runT (parts l) k).2.length + 1 ∧
      w3.ownsRow w.heap.size 3 1 (.slice (some ⟨go, 0, none⟩) ((runT (parts l) k).2.length + 1) n) ((runT (parts l) k).2.length + 1) (ints (runT (parts l) (k + 1)).2) ∧
      ((runT (parts l) k).2.length + 1 < n → TInv l w gp gd go n w3 (k + 1)) := by
  have hbo := (h.out.lt go rfl).1
  have hbm : Below w.heap.size w (wq.alloc o) := h.below.alloc h.below.size _
  have hb3 : Below w.heap.size w w3 := hbm.grown hg3 (hbm.size) (fun j hj => by cases hj; exact hbo)
  have e1 : ints (runT (parts l) (k + 1)).2 = ints (runT (parts l) k).2 ++ [.int .i64 (i : Int)] := by rw [h.next]; simp [ints]
  have e2 : (runT (parts l) (k + 1)).2.length = (runT (parts l) k).2.length + 1 := by rw [h.next]; simp
  refine ⟨hb3, e2, by rw [e1]; exact h3, fun hne => ⟨by omega, ?_, ?_, ?_, hb3⟩⟩
  · rw [e1, e2]; exact h3
  · exact (h.debt.alloc _).kept hg3 (.inr (by simp [Value.ownBlock]; omega))
  · exact (h.part.alloc _).kept hg3 (.inr (by simp [Value.ownBlock]; omega))
def lenOf : Value → Nat | .slice _ k _ => k | _ => 0

set_option maxHeartbeats 1000000 in
theorem turns_some (l : List Nat) (n : Nat) (a : Option Addr) (cap : Nat) (w : World) (hl : Laid w) (hf : Fls w a l) (hpos : 0 < w.heap.size)
    (h1 : 1 ≤ n) (h2 : n ≤ 4096) (h3 : l.length ≤ 32) (h4 : best l ≠ 0) :
    Calls Tryd.prog 32 #[.slice a l.length cap, .int .i64 (n : Int)] w fun e w' => ∃ g, e = .returned (.slice (some ⟨g, 0, none⟩) n n) ∧
      w'.ownsRow w.heap.size 3 1 (.slice (some ⟨g, 0, none⟩) n n) n (ints (turnsN l n)) ∧ Below w.heap.size w w' := by
  have hm := hf.1
  have he := eqF_pos (best_le_INF l) (show (0 : Nat) ≤ INF by decide)
  have hbt : eqF (best l) 0 = false := by rw [he]; simpa using h4
  have H4 := Lib.hid h4
  clear he h4
  go_enter Tryd.func32, Tryd.ntmps32
  go_upto_region 3 with (first | (go_at_call 34; refine (bestC _ _ _ _ (by assumption) (by assumption)).mono ?_; rintro e w' ⟨rfl, rfl⟩))
  go_cut [5, 6] (fun s5 s6 wx => ∃ gp gd : Nat, s5 = .slice (some ⟨gp, 0, none⟩) l.length l.length ∧ s6 = .slice (some ⟨gd, 0, none⟩) l.length l.length ∧
    wx.ownsRow w.heap.size 22 1 (.slice (some ⟨gp, 0, none⟩) l.length l.length) l.length (flts (parts l)) ∧
    wx.ownsRow w.heap.size 22 1 (.slice (some ⟨gd, 0, none⟩) l.length l.length) l.length (flts (List.replicate l.length 0)) ∧ gp ≠ gd ∧ Below w.heap.size w wx)
  case first =>
    have hmk := fun (W : World) => run_mk (w := W) l.length h3
    have b0 : Below w.heap.size w w.drew := (Below.refl _ _).drew
    have b1 : Below w.heap.size w (w.alloc (.cells (madeCells #[.float .f64 0] l.length) 22)).drew := ((Below.refl _ _).alloc (Nat.le_refl _) _).drew
    go_region_with (go_at_call 81; refine (partsC l a cap _ ?_ ?_ ?_ ?_).mono ?_; (first | exact hl.below b0 hpos | exact hl.below b1 hpos); (first | exact hf.below b0 | exact hf.below b1); (clear b0 b1; omega); (first | exact hpos | (simp)); rintro e w2 ⟨gp, rfl, hown2, hbel2⟩)
    all_goals go_wp2_with fail
    all_goals go_meet
    · have hs2 := hbel2.size
      have hg2 := hown2.lt gp rfl
      simp only [World.size_drew] at hs2 hg2
      refine ⟨gp, w2.heap.size, rfl, rfl, (owns_base hown2 (by simp)).alloc _, owns_base (owns_made l.length h3) (by omega), by omega, (b0.trans (hbel2.mono (by simp))).alloc (by omega) _⟩
    · have hs2 := hbel2.size
      have hg2 := hown2.lt gp rfl
      simp only [World.size_drew, World.size_alloc] at hs2 hg2
      refine ⟨gp, w.heap.size, rfl, rfl, owns_base hown2 (by simp), owns_below (owns_made l.length h3).drew hbel2 ?_, by omega, b1.trans (hbel2.mono (by simp))⟩
      intro g hg
      simp [Value.ownBlock] at hg
      simp [← hg]
  case rest =>
    obtain ⟨gp, gd, rfl, rfl, hop, hod, hne, hbel⟩ := hcut
    have hmk := fun (W : World) => run_mk2 (w := W) n h2
    clear hl hf hpos hbt hm
    go_wp2
    obtain ⟨go, hgo⟩ : ∃ go, go = wc.heap.size := ⟨_, rfl⟩
    have hlp := hop.lt gp rfl
    have hld := hod.lt gd rfl
    have hgp : go ≠ gp := by omega
    have hgd : go ≠ gd := by omega
    have I0 : TInv l w gp gd go n (wc.alloc (.cells (madeCells #[.int .i64 0] n) 3)) (0 * l.length) := by
      rw [Nat.zero_mul, hgo]
      refine ⟨by simp [runT]; omega, ?_, ?_, hop.alloc _, hbel.alloc hbel.size _⟩
      · exact World.ownsRow_made wc _ n hbel.size (by unfold maxLen; omega) (by rw [size_madeCells, Nat.mul_one])
      · rw [runT, parts_length]; exact hod.alloc _
    rw [← hgo]
    go_loopw [7] (fun v wr => ∃ r : Nat, v = .slice (some ⟨go, 0, none⟩) (runT (parts l) (r * l.length)).2.length n ∧ TInv l w gp gd go n wr (r * l.length)) (fun v _ => n - lenOf v)
    case atStart => exact ⟨0, by simp [runT], I0⟩
    case round =>
      obtain ⟨r, rfl, hI⟩ := hrel
      obtain ⟨wo, rfl⟩ : ∃ wo : World, wo = wr := ⟨_, rfl⟩
      clear I0 hop hod hlp hld hbel hgo hmk
      go_wp2
      go_loopw [7, 34] (fun v i wr => ∃ j : Nat, j ≤ l.length ∧ i = .int .i64 j ∧ v = .slice (some ⟨go, 0, none⟩) (runT (parts l) (r * l.length + j)).2.length n ∧ TInv l w gp gd go n wr (r * l.length + j)) (fun _ i _ => l.length - (intOf i).toNat)
      case atStart => exact ⟨0, Nat.zero_le _, rfl, rfl, hI⟩
      case round =>
        clear hI
        obtain ⟨j, hj, rfl, rfl, hI⟩ := hrel
        by_cases hlt : j < l.length
        · have hmod : (r * l.length + j) % l.length = j := by rw [Nat.add_comm, Nat.add_mul_mod_self_right]; exact Nat.mod_eq_of_lt hlt
          have hstay := fun h => hI.stay hmod hne hgd h
          have hcome := fun h => hI.mid hmod hne hgd h
          have hd := hI.debt.cellAt j (by omega)
          rw [flts_getD _ _ (by rw [runT_length, parts_length]; exact hlt)] at hd
          have hp := hI.part.cellAt j (by omega)
          rw [flts_getD _ _ (by rw [parts_length]; exact hlt)] at hp
          have hfz := hI.debt.frozenAt j
          have hdg := (runT_good (parts_good l) (r * l.length + j)).getD j
          have hpg := (parts_good l).getD j
          have hadd := fun (w : World) => run_float_arith (P := Tryd.prog) w .add 22 .f64 _ _ _ (add_ok hdg hpg)
          have hnx : addF ((runT (parts l) (r * l.length + j)).1.getD j 0) ((parts l).getD j 0) = newDebt (parts l) (runT (parts l) (r * l.length + j)).1 j := rfl
          rw [hnx] at hadd
          have hx := newDebt_le (parts_good l) (runT_good (parts_good l) (r * l.length + j)) j
          have hltF := ltF_pos hx (show 4607182418800017408 ≤ INF by decide)
          have hL := hI.lt
          have HI := Lib.hid hI
          clear hI hnx hdg hpg
          by_cases hone : newDebt (parts l) (runT (parts l) (r * l.length + j)).1 j < ONE
          · have hb1 : ltF (newDebt (parts l) (runT (parts l) (r * l.length + j)).1 j) 4607182418800017408 = true := by rw [hltF]; exact decide_eq_true hone
            have HS := Lib.hid (hstay hone)
            clear hstay hcome hltF hone hx
            generalize (runT (parts l) (r * l.length + j)).1.getD j 0 = dj at *
            generalize (parts l).getD j 0 = pj at *
            go_upto_region 8 with fail
            go_region
            go_wp2
            go_roundw
            case rel => exact ⟨j + 1, by omega, by go_num, by rw [← Nat.add_assoc, HS.out.1], HS.out.2.drew⟩
            case measure => simp [intOf]; omega
          · have hb1 : ltF (newDebt (parts l) (runT (parts l) (r * l.length + j)).1 j) 4607182418800017408 = false := by rw [hltF]; exact decide_eq_false hone
            have hsub := fun (w : World) => run_float_arith (P := Tryd.prog) w .sub 22 .f64 _ _ _ (sub_ok hx (show 4607182418800017408 ≤ newDebt (parts l) (runT (parts l) (r * l.length + j)).1 j by unfold ONE at hone; omega) (by decide))
            have HS := Lib.hid (hcome hone)
            clear hstay hcome hltF hone hx
            generalize (runT (parts l) (r * l.length + j)).1.getD j 0 = dj at *
            generalize (parts l).getD j 0 = pj at *
            go_upto_region 8 with fail
            go_region
            go_upto_region 11 with fail
            have HM := HS.out
            rw [ONE_val] at HM
            clear HS
            generalize ((wr.setCell ⟨gd, j, none⟩ (.float .f64 (newDebt (parts l) (runT (parts l) (r * l.length + j)).1 j))).setCell ⟨gd, j, none⟩ (.float .f64 (subF (newDebt (parts l) (runT (parts l) (r * l.length + j)).1 j) 4607182418800017408))).drew = wq at HM ⊢
            clear hd hp hfz hadd hb1 hsub
            obtain ⟨i0, hi, hz0, hz1, hz2⟩ := info_parts info3
            have hHO := HM.out.alloc (.cells #[.int .i64 (j : Int)] 3)
            by_cases hfin : (runT (parts l) (r * l.length + j)).2.length + 1 = n
            · have hbt : (((runT (parts l) (r * l.length + j)).2.length : Int) + 1 == (n : Int)) = true := by rw [beq_iff_eq]; omega
              have hfr := turns_reached l n (r * l.length + j + 1) H4.out (by rw [HM.next]; simp; omega)
              rw [HM.next] at hfr
              have HF := Lib.hid hfr
              have HN := Lib.hid hfin
              clear hfr hfin
              go_wp2_with (at_builtin; refine wpList_append_fits _ rfl _ _ 31 rfl w.heap.size 3 i0 1 Tryd.underlying31 hi hz1 go _ n _ rfl hHO ⟨wq.heap.size, 0, none⟩ 1 1 [.int .i64 (j : Int)] rfl rfl (cell_one_new _ _ _) (by intro u hu; simp at hu; subst hu; rfl) (by omega) ?_; intro w3 h3 hg3)
              go_ret
              have D := HM.done hgd hgp _ h3 hg3
              refine ⟨go, ?_, ?_, D.1⟩
              · show Ending.returned (.slice (some ⟨go, 0, none⟩) ((runT (parts l) (r * l.length + j)).2.length + 1) n) = _
                rw [HN.out]
              · have := D.2.2.1
                rw [HN.out, HM.next, HF.out] at this
                exact this
            · have hbt : (((runT (parts l) (r * l.length + j)).2.length : Int) + 1 == (n : Int)) = false := by rw [beq_eq_false_iff_ne]; omega
              go_wp2_with (at_builtin; refine wpList_append_fits _ rfl _ _ 31 rfl w.heap.size 3 i0 1 Tryd.underlying31 hi hz1 go _ n _ rfl hHO ⟨wq.heap.size, 0, none⟩ 1 1 [.int .i64 (j : Int)] rfl rfl (cell_one_new _ _ _) (by intro u hu; simp at hu; subst hu; rfl) (by omega) ?_; intro w3 h3 hg3)
              have D := HM.done hgd hgp _ h3 hg3
              go_roundw
              case rel => exact ⟨j + 1, by omega, by go_num, by rw [← Nat.add_assoc, D.2.1], D.2.2.2 (by omega)⟩
              case measure => simp [intOf]; omega
        · have hjl : j = l.length := by omega
          have e : r * l.length + j = (r + 1) * l.length := by rw [hjl, Nat.add_mul]; omega
          rw [e] at hI ⊢
          obtain ⟨b, hb, hb1⟩ := parts_one l H4.out
          have hbr := round_brings (parts l) b hb hb1 r
          rw [parts_length] at hbr
          have HB := Lib.hid hbr
          have HI := Lib.hid hI
          have hL := hI.lt
          clear e hbr hb hb1 hI
          go_wp2
          go_roundw
          case rel => exact ⟨r + 1, rfl, HI.out⟩
          case measure => have := HB.out; simp [lenOf]; omega

theorem turnsC (l : List Nat) (n : Int) (a : Option Addr) (cap : Nat) (w : World) (hl : Laid w) (hf : Fls w a l) (hpos : 0 < w.heap.size) :
    Calls Tryd.prog 32 #[.slice a l.length cap, .int .i64 n] w fun e w' => ∃ v, e = .returned v ∧
      w'.ownsRow w.heap.size 3 1 v (turns l n).length (ints (turns l n)) ∧ Below w.heap.size w w' ∧ (v = .slice none 0 0 ↔ turns l n = []) ∧
      (turns l n ≠ [] → ∃ g, v = .slice (some ⟨g, 0, none⟩) (turns l n).length (turns l n).length) := by
  by_cases h : noTurns l n
  · have ht : turns l n = [] := by unfold turns; rw [if_pos h]
    rw [ht]
    refine (turns_none l n a cap w hl hf h).mono ?_
    rintro e w' ⟨rfl, rfl⟩
    exact ⟨_, rfl, World.ownsRow_nil _ _ _ _, Below.refl _ _, by simp, fun h => absurd rfl h⟩
  · have h' := h
    unfold noTurns at h'
    obtain ⟨m, rfl⟩ : ∃ m : Nat, n = (m : Int) := ⟨n.toNat, by omega⟩
    have h4 : best l ≠ 0 := by omega
    have ht : turns l (m : Int) = turnsN l m := by unfold turns; rw [if_neg h]; simp
    have hlen := turnsN_length l m h4
    rw [ht, hlen]
    refine (turns_some l m a cap w hl hf hpos (by omega) (by omega) (by omega) h4).mono ?_
    rintro e w' ⟨g, rfl, ho, hb⟩
    have hne : turnsN l m ≠ [] := by intro h0; rw [h0] at hlen; simp at hlen; omega
    exact ⟨_, rfl, ho, hb, by simp [hne], fun _ => ⟨g, rfl⟩⟩
end Go.Proofs.YtniejpfjbifjkaaDoor
