/- The walk of the reference's Turns: the same turns. -/
import Derived.Test.YtniejpfjbifjkaaDoorWf
namespace Go.Proofs.YtniejpfjbifjkaaDoor
open Go.RowKit Fl

theorem rturns_none (l : List Nat) (n : Int) (a : Option Addr) (cap : Nat) (w : World) (hf : Fls w a l) (h : noTurns l n) :
    Calls Tryd.prog 39 #[.slice a l.length cap, .int .i64 n] w fun e w' => e = .returned (.slice none 0 0) ∧ w = w' := by
  have hm := hf.1
  have he := eqF_pos (best_le_INF l) (show (0 : Nat) ≤ INF by decide)
  unfold noTurns at h
  by_cases h1 : n < 1
  · clear h he
    go_enter Tryd.func39, Tryd.ntmps39
    go_wp2_with (first | (go_at_call 36; refine (rbestC _ _ _ _ (by assumption)).mono ?_; rintro e w' ⟨rfl, rfl⟩))
    go_ret
    exact ⟨rfl, rfl⟩
  by_cases h2 : 4096 < n
  · clear h he
    go_enter Tryd.func39, Tryd.ntmps39
    go_wp2_with (first | (go_at_call 36; refine (rbestC _ _ _ _ (by assumption)).mono ?_; rintro e w' ⟨rfl, rfl⟩))
    go_ret
    exact ⟨rfl, rfl⟩
  by_cases h3 : 32 < l.length
  · clear h he
    go_enter Tryd.func39, Tryd.ntmps39
    go_wp2_with (first | (go_at_call 36; refine (rbestC _ _ _ _ (by assumption)).mono ?_; rintro e w' ⟨rfl, rfl⟩))
    go_ret
    exact ⟨rfl, rfl⟩
  · have h4 : best l = 0 := by omega
    have hbt : eqF (best l) 0 = true := by rw [he]; simpa using h4
    clear h h4 he
    go_enter Tryd.func39, Tryd.ntmps39
    go_wp2_with (first | (go_at_call 36; refine (rbestC _ _ _ _ (by assumption)).mono ?_; rintro e w' ⟨rfl, rfl⟩))
    go_ret
    exact ⟨rfl, rfl⟩

/-- the memory of the reference's machine behind k steps: 'out' may lie anywhere above the debts. -/
structure RInv (l : List Nat) (w : World) (gd : Nat) (v : Value) (n : Nat) (wr : World) (k : Nat) : Prop where
  le : (runT (parts l) k).2.length ≤ n
  out : wr.ownsRow (gd + 1) 3 1 v (runT (parts l) k).2.length (ints (runT (parts l) k).2)
  debt : wr.ownsRow w.heap.size 22 1 (.slice (some ⟨gd, 0, none⟩) l.length l.length) l.length (flts (runT (parts l) k).1)
  below : Below w.heap.size w wr
theorem RInv.stay {l : List Nat} {w wr : World} {gd n k i : Nat} {v : Value} (h : RInv l w gd v n wr k) (hi : k % l.length = i)
    (hx : newDebt (parts l) (runT (parts l) k).1 i < ONE) :
    (runT (parts l) (k + 1)).2 = (runT (parts l) k).2 ∧ RInv l w gd v n (wr.setCell ⟨gd, i, none⟩ (.float .f64 (newDebt (parts l) (runT (parts l) k).1 i))).drew (k + 1) := by
  have hs : runT (parts l) (k + 1) = ((runT (parts l) k).1.set i (newDebt (parts l) (runT (parts l) k).1 i), (runT (parts l) k).2) := by
    rw [runT, parts_length, hi]; unfold stp; rw [if_pos hx]
  obtain ⟨ho, hg⟩ := h.debt.stored i (.float .f64 (newDebt (parts l) (runT (parts l) k).1 i))
  have hb := (h.debt.lt gd rfl).1
  have hne : v.ownBlock ≠ some gd := fun e => by have := (h.out.lt gd e).1; omega
  refine ⟨by rw [hs], by rw [hs]; exact h.le, ?_, ?_, (h.below.setCell hb _).drew⟩
  · rw [hs]; exact (h.out.kept hg (.inr hne)).drew
  · rw [hs]; rw [flts_set] at ho; exact ho.drew
structure RMid (l : List Nat) (w : World) (gd : Nat) (v : Value) (wq : World) (k i : Nat) : Prop where
  out : wq.ownsRow (gd + 1) 3 1 v (runT (parts l) k).2.length (ints (runT (parts l) k).2)
  debt : wq.ownsRow w.heap.size 22 1 (.slice (some ⟨gd, 0, none⟩) l.length l.length) l.length (flts (runT (parts l) (k + 1)).1)
  below : Below w.heap.size w wq
  gd : w.heap.size ≤ gd ∧ gd < wq.heap.size
  next : (runT (parts l) (k + 1)).2 = (runT (parts l) k).2 ++ [i]
theorem RInv.mid {l : List Nat} {w wr : World} {gd n k i : Nat} {v : Value} (h : RInv l w gd v n wr k) (hi : k % l.length = i)
    (hx : ¬ newDebt (parts l) (runT (parts l) k).1 i < ONE) :
    RMid l w gd v ((wr.setCell ⟨gd, i, none⟩ (.float .f64 (newDebt (parts l) (runT (parts l) k).1 i))).setCell ⟨gd, i, none⟩ (.float .f64 (subF (newDebt (parts l) (runT (parts l) k).1 i) ONE))).drew k i := by
  have hs : runT (parts l) (k + 1) = ((runT (parts l) k).1.set i (subF (newDebt (parts l) (runT (parts l) k).1 i) ONE), (runT (parts l) k).2 ++ [i]) := by
    rw [runT, parts_length, hi]; unfold stp; rw [if_neg hx]
  obtain ⟨ho, hg⟩ := h.debt.stored i (.float .f64 (newDebt (parts l) (runT (parts l) k).1 i))
  obtain ⟨ho', hg'⟩ := ho.stored i (.float .f64 (subF (newDebt (parts l) (runT (parts l) k).1 i) ONE))
  have hb := (h.debt.lt gd rfl)
  have hne : v.ownBlock ≠ some gd := fun e => by have := (h.out.lt gd e).1; omega
  have ho1 := (h.out.kept hg (.inr hne)).kept hg' (.inr hne)
  refine ⟨ho1.drew, ?_, ((h.below.setCell hb.1 _).setCell hb.1 _).drew, ⟨hb.1, by simp [World.setCell]; exact hb.2⟩, by rw [hs]⟩
  rw [hs]
  rw [List.set_set, flts_set] at ho'
  exact ho'.drew
theorem RMid.done {l : List Nat} {w wq w3 : World} {gd n k i : Nat} {v v' : Value} (h : RMid l w gd v wq k i) (hlt : (runT (parts l) k).2.length < n) (o : Obj)
    (h3 : w3.ownsRow (gd + 1) 3 1 v' ((runT (parts l) k).2.length + 1) (ints (runT (parts l) k).2 ++ [.int .i64 (i : Int)]))
    (hg3 : (wq.alloc o).grownBy w3 v.ownBlock) :
    (runT (parts l) (k + 1)).2.length = (runT (parts l) k).2.length + 1 ∧ RInv l w gd v' n w3 (k + 1) := by
  have hbm : Below w.heap.size w (wq.alloc o) := h.below.alloc h.below.size _
  have hb3 : Below w.heap.size w w3 := hbm.grown hg3 (hbm.size) (fun j hj => by have := (h.out.lt j hj).1; have := h.gd; omega)
  have e1 : ints (runT (parts l) (k + 1)).2 = ints (runT (parts l) k).2 ++ [.int .i64 (i : Int)] := by rw [h.next]; simp [ints]
  have e2 : (runT (parts l) (k + 1)).2.length = (runT (parts l) k).2.length + 1 := by rw [h.next]; simp
  have hne : v.ownBlock ≠ some gd := fun e => by have := (h.out.lt gd e).1; omega
  refine ⟨e2, by omega, ?_, ?_, hb3⟩
  · rw [e1, e2]; exact h3
  · exact (h.debt.alloc _).kept hg3 (.inr (by intro e; exact hne e.symm))

set_option maxHeartbeats 2000000 in
theorem rturns_some (l : List Nat) (n : Nat) (a : Option Addr) (cap : Nat) (w : World) (hf : Fls w a l)
    (h1 : 1 ≤ n) (h2 : n ≤ 4096) (h3 : l.length ≤ 32) (h4 : best l ≠ 0) :
    Calls Tryd.prog 39 #[.slice a l.length cap, .int .i64 (n : Int)] w fun e w' => ∃ v, e = .returned v ∧
      w'.ownsRow w.heap.size 3 1 v n (ints (turnsN l n)) ∧ Below w.heap.size w w' := by
  have hm := hf.1
  have he := eqF_pos (best_le_INF l) (show (0 : Nat) ≤ INF by decide)
  have hbt : eqF (best l) 0 = false := by rw [he]; simpa using h4
  have H4 := Lib.hid h4
  have hmk := fun (W : World) => run_mk (w := W) l.length h3
  clear he h4
  go_enter Tryd.func39, Tryd.ntmps39
  go_wp2_with (first | (go_at_call 36; refine (rbestC _ _ _ _ (by assumption)).mono ?_; rintro e w' ⟨rfl, rfl⟩))
  obtain ⟨gd, hgd⟩ : ∃ gd, gd = w.heap.size := ⟨_, rfl⟩
  have I0 : RInv l w gd (.slice none 0 0) n (w.alloc (.cells (madeCells #[.float .f64 0] l.length) 22)) 0 := by
    refine ⟨Nat.zero_le _, World.ownsRow_nil _ _ _ _, ?_, (Below.refl _ _).alloc (Nat.le_refl _) _⟩
    rw [runT, parts_length, hgd]; exact owns_made l.length h3
  have hrb : ∀ wr, Below w.heap.size w wr → Calls Tryd.prog 36 #[.slice a l.length cap] wr fun e w' => e = .returned (.float .f64 (best l)) ∧ wr = w' := fun wr hb => rbestC l a cap wr (hf.below hb)
  rw [← hgd]
  clear hgd hmk hbt hm
  go_loopw [6] (fun v wr => ∃ k a6 c6, v = .slice a6 (runT (parts l) k).2.length c6 ∧ RInv l w gd (.slice a6 (runT (parts l) k).2.length c6) n wr k ∧ ((∃ r, k = r * l.length) ∨ (runT (parts l) k).2.length = n)) (fun v _ => n - lenOf v)
  case atStart => exact ⟨0, none, 0, rfl, I0, .inl ⟨0, by simp⟩⟩
  case round =>
    clear I0
    obtain ⟨k, a6, c6, rfl, hI, hk⟩ := hrel
    by_cases hL : (runT (parts l) k).2.length < n
    · obtain ⟨r, rfl⟩ : ∃ r, k = r * l.length := by
        rcases hk with h | h
        · exact h
        · omega
      have HI := Lib.hid hI
      clear hI hk
      obtain ⟨wo, rfl⟩ : ∃ wo : World, wo = wr := ⟨_, rfl⟩
      obtain ⟨L0, hL0⟩ : ∃ L0, L0 = (runT (parts l) (r * l.length)).2.length := ⟨_, rfl⟩
      have HL0 := Lib.hid hL0
      rw [← hL0] at hL ⊢
      clear hL0
      go_wp2
      go_loopw [6, 7] (fun v i wr => ∃ j a6 c6, j ≤ l.length ∧ i = .int .i64 (j : Nat) ∧ v = .slice a6 (runT (parts l) (r * l.length + j)).2.length c6 ∧ RInv l w gd (.slice a6 (runT (parts l) (r * l.length + j)).2.length c6) n wr (r * l.length + j)) (fun _ i _ => l.length - (intOf i).toNat)
      case atStart => exact ⟨0, a6, c6, Nat.zero_le _, rfl, by rw [HL0.out]; rfl, by have := HI.out; simpa using this⟩
      case round =>
        clear HI
        obtain ⟨j, b6, d6, hj, rfl, rfl, hI⟩ := hrel
        by_cases hjl : j < l.length
        · by_cases hLn : (runT (parts l) (r * l.length + j)).2.length < n
          · have hmod : (r * l.length + j) % l.length = j := by rw [Nat.add_comm, Nat.add_mul_mod_self_right]; exact Nat.mod_eq_of_lt hjl
            have hstay := fun h => hI.stay hmod h
            have hcome := fun h => hI.mid hmod h
            have hd := hI.debt.cellAt j (by omega)
            rw [flts_getD _ _ (by rw [runT_length, parts_length]; exact hjl)] at hd
            have hfz := hI.debt.frozenAt j
            have hfw := hf.below hI.below
            obtain ⟨b, off, rfl, hcl⟩ := hfw.2.2 j hjl
            have hx64 := hfw.2.1 _ (getD_mem' l j hjl)
            have hb64 : best l < B64 := by have := best_le l; unfold MAXF at this; unfold B64; omega
            have hrd := hrb wr.drew hI.below.drew
            have hdg := (runT_good (parts_good l) (r * l.length + j)).getD j
            have hpg := (parts_good l).getD j
            have hadd := fun (w : World) => run_float_arith (P := Tryd.prog) w .add 22 .f64 _ _ _ (add_ok hdg hpg)
            have hnx : addF ((runT (parts l) (r * l.length + j)).1.getD j 0) ((parts l).getD j 0) = newDebt (parts l) (runT (parts l) (r * l.length + j)).1 j := rfl
            rw [hnx, parts_getD l j hjl] at hadd
            have hx := newDebt_le (parts_good l) (runT_good (parts_good l) (r * l.length + j)) j
            have hgeF := geF_pos hx (show 4607182418800017408 ≤ INF by decide)
            have HI := Lib.hid hI
            clear hI hnx hdg hpg hfw hrb hf
            generalize (runT (parts l) (r * l.length + j)).1.getD j 0 = dj at *
            generalize l.getD j 0 = lj at *
            generalize hX : newDebt (parts l) (runT (parts l) (r * l.length + j)).1 j = x at *
            have HX := Lib.hid hX
            clear hX
            generalize hbl : best l = bl at *
            clear hbl
            go_upto_region 9 with fail
            go_cut [56] (fun _ wx => wx = (wr.setCell ⟨gd, j, none⟩ (.float .f64 x)).drew)
            case first =>
              go_region_with (first | (go_at_call 36; refine hrd.mono ?_; rintro e w' ⟨rfl, rfl⟩) | (go_at_call 26; refine (rpartC _ _ _ hx64 hb64).mono ?_; rintro e w' ⟨rfl, rfl⟩))
              all_goals go_wp2_with fail
              all_goals go_meet
              all_goals rfl
            case rest =>
              subst hcut
              clear hadd hcl hrd
              by_cases hone : x < ONE
              · have hb1 : geF x 4607182418800017408 = false := by rw [hgeF]; exact decide_eq_false (by unfold ONE at hone; omega)
                have HS := Lib.hid (hstay hone)
                clear hstay hcome hgeF hone hx
                go_wp2
                go_roundw
                case rel => exact ⟨j + 1, b6, d6, by omega, by go_num, by rw [← Nat.add_assoc, HS.out.1], by rw [← Nat.add_assoc, HS.out.1]; exact HS.out.2⟩
                case measure => simp [intOf]; omega
              · have hb1 : geF x 4607182418800017408 = true := by rw [hgeF]; exact decide_eq_true (by unfold ONE at hone; omega)
                have hsub := fun (w : World) => run_float_arith (P := Tryd.prog) w .sub 22 .f64 _ _ _ (sub_ok hx (show 4607182418800017408 ≤ x by unfold ONE at hone; omega) (by decide))
                have HM := hcome hone
                clear hstay hcome hgeF hone hx
                go_upto_region 12 with fail
                rw [ONE_val] at HM
                generalize ((wr.setCell ⟨gd, j, none⟩ (.float .f64 x)).setCell ⟨gd, j, none⟩ (.float .f64 (subF x 4607182418800017408))).drew = wq at HM ⊢
                clear hd hfz hb1 hsub
                obtain ⟨i0, hi, hz0, hz1, hz2⟩ := info_parts info3
                have hHO := HM.out.alloc (.cells #[.int .i64 (j : Int)] 3)
                have hgdq := HM.gd
                go_wp2_with (at_builtin; refine wpList_append_own _ rfl _ _ 31 rfl (gd + 1) 3 i0 (.int .i64 0) 1 8 Tryd.underlying31 hi hz0 hz1 hz2 rfl (by decide) _ _ _ rfl hHO ⟨wq.heap.size, 0, none⟩ 1 1 [.int .i64 (j : Int)] rfl rfl (cell_one_new _ _ _) (by intro u hu; simp at hu; subst hu; rfl) (by unfold maxLen; omega) (by omega) (by simp; omega) ?_; intro v' w3 h3 hg3 _)
                have D := HM.done (n := n) hLn _ h3 hg3
                obtain ⟨hlen3, hR3⟩ := D
                obtain ⟨a7, c7, rfl⟩ : ∃ a7 c7, v' = .slice a7 (runT (parts l) (r * l.length + j + 1)).2.length c7 := by
                  rcases hR3.out.2 with ⟨h, h'⟩ | ⟨g, cc, cur, h, _⟩
                  · exact ⟨none, 0, by rw [h, h']⟩
                  · exact ⟨_, _, h⟩
                have HR := Lib.hid hR3
                clear hR3 h3 hg3 hHO hgdq
                have HL3 := Lib.hid hlen3
                clear hlen3
                go_wp2
                go_roundw
                case rel => exact ⟨j + 1, a7, c7, by omega, by go_num, rfl, HR.out⟩
                case measure => simp [intOf]; omega
          · have hLe : (runT (parts l) (r * l.length + j)).2.length = n := by have := hI.le; omega
            have HI := Lib.hid hI
            have HLe := Lib.hid hLe
            have hLf : ¬ ((runT (parts l) (r * l.length + j)).2.length < n) := hLn
            clear hI hLe hrb
            go_wp2
            go_roundw
            case rel => exact ⟨r * l.length + j, b6, d6, rfl, HI.out, .inr HLe.out⟩
            case measure => have := HLe.out; simp [lenOf]; omega
        · have hjl' : j = l.length := by omega
          have e : r * l.length + j = (r + 1) * l.length := by rw [hjl', Nat.add_mul]; omega
          rw [e] at hI ⊢
          obtain ⟨b, hb, hb1⟩ := parts_one l H4.out
          have hbr := round_brings (parts l) b hb hb1 r
          rw [parts_length, ← HL0.out] at hbr
          have HB := Lib.hid hbr
          have HI := Lib.hid hI
          clear e hbr hb hb1 hI hrb hjl'
          go_wp2
          go_roundw
          case rel => exact ⟨(r + 1) * l.length, b6, d6, rfl, HI.out, .inl ⟨r + 1, rfl⟩⟩
          case measure => have := HB.out; have := HI.out.le; simp [lenOf]; omega
    · have hLe : (runT (parts l) k).2.length = n := by have := hI.le; omega
      have ht := turns_reached l n k H4.out hLe
      have HI := Lib.hid hI
      have HT := Lib.hid ht
      have HLe := Lib.hid hLe
      clear hI ht hLe hrb hk
      go_wp2
      go_ret
      refine ⟨_, rfl, ?_, HI.out.below⟩
      have := HI.out.out
      have hgd2 := (HI.out.debt.lt gd rfl).1
      rw [HT.out, turnsN_length l n H4.out] at this
      refine owns_base ?_ (by omega : w.heap.size ≤ gd + 1)
      show wr.ownsRow (gd + 1) 3 1 (.slice a6 (runT (parts l) k).2.length c6) n (ints (turnsN l n))
      rw [HLe.out]; exact this
end Go.Proofs.YtniejpfjbifjkaaDoor
