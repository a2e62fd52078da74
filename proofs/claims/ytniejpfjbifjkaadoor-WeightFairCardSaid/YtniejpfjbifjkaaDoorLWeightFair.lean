/- WeightFair walked. -/
import Derived.Test.YtniejpfjbifjkaaDoorLWeightFirst
import Derived.Test.YtniejpfjbifjkaaDoorLWeightLists
import Derived.StillTailTactics
namespace Go.Proofs.YtniejpfjbifjkaaDoor.weightFair
open Go.RowKit Fl

/-- what the shares come to. -/
theorem comes (l : List Nat) (n : Int) (h : share l n ≠ []) :
    l.length ≤ 32 ∧ (share l n).length = l.length ∧ (∀ i, i < l.length → (share l n).getD i 0 ≤ 4096) ∧
    (∀ a, a < l.length → cl (l.getD a 0) = 0 → (share l n).getD a 0 = 0) ∧
    (∀ a b, a < l.length → b < l.length → cl (l.getD b 0) = best l → (share l n).getD a 0 ≤ (share l n).getD b 0 + 1) ∧
    (∀ a b, a < l.length → b < l.length → a ≤ b → cl (l.getD a 0) = cl (l.getD b 0) → (share l n).getD a 0 = (share l n).getD b 0 ∨ (share l n).getD a 0 = (share l n).getD b 0 + 1) := by
  by_cases hno : noTurns l n
  · exact absurd (by unfold share; rw [if_pos hno]) h
  · have h' := hno
    unfold noTurns at h'
    have h4 : best l ≠ 0 := by omega
    have ht : turns l n = turnsN l n.toNat := by unfold turns; rw [if_neg hno]
    have hs : share l n = cnt l.length (turnsN l n.toNat) := by unfold share; rw [if_neg hno, ht]
    rw [hs]
    refine ⟨by omega, cnt_length _ _, ?_, ?_, ?_, ?_⟩
    · intro i hi
      rw [cnt_getD _ _ _ hi]
      have := List.count_le_length (a := i) (l := turnsN l n.toNat)
      rw [turnsN_length l _ h4] at this
      omega
    · intro a ha hz; rw [cnt_getD _ _ _ ha]; exact fair_zero l _ a h4 ha hz
    · intro a b ha hb he; rw [cnt_getD _ _ _ ha, cnt_getD _ _ _ hb]; exact fair_best l _ a b h4 ha hb he
    · intro a b ha hb hab he; rw [cnt_getD _ _ _ ha, cnt_getD _ _ _ hb]; exact fair_alike l _ a b h4 ha hb hab he

theorem still_of_quiet {P : Program} {ops : Array Oper} {w1 : World} {Q : Act → Prop} : ∀ (l : List Oper) (a : Act), wpQuiet P ops (fun w' => w' = w1) Q l a → wpStill P ops w1 Q l a
  | [], _, h => h
  | o :: rest, a, h => by
    unfold wpQuiet at h
    unfold wpStill
    by_cases hw : Region.wanted o (yielded ops a.tmps) = true
    · rw [if_pos hw] at h ⊢
      obtain ⟨v, hv, hn⟩ := h
      have h1 := hv w1 rfl
      unfold Oper.quietAt at h1
      unfold Oper.still
      generalize (execOp a.eval o).run P w1 = r at h1
      unfold Oper.quietUpon at h1
      unfold Oper.stillUpon
      split at h1
      · exact ⟨h1.1, by rw [h1.2]; exact still_of_quiet rest _ hn⟩
      · exact ⟨h1.1, by rw [← h1.2]; exact still_of_quiet rest _ hn⟩
      · exact ⟨h1.1, v, h1.2, still_of_quiet rest _ hn⟩
      · exact h1.elim
    · rw [if_neg hw] at h ⊢
      exact still_of_quiet rest _ h

set_option maxRecDepth 100000 in
set_option maxHeartbeats 4000000 in
theorem walk (ad : Option Addr) (l : List Nat) (cap : Nat) (n a b : Int) (w : World) (hf : Fls w ad l) (_ : ad = none → cap = 0) (_ : l.length * 8 ≤ 140737488351232) (hn : -9223372036854775808 ≤ n ∧ n ≤ 9223372036854775807)
    (ha : -9223372036854775808 ≤ a ∧ a ≤ 9223372036854775807) (hb : -9223372036854775808 ≤ b ∧ b ≤ 9223372036854775807) (hl : Laid w) (hpos : 0 < w.heap.size) :
    Calls Tryd.prog 9 #[.slice ad l.length cap, .int .i64 n, .int .i64 a, .int .i64 b] w fun e w' => e = .returned (.bool true) ∧ Below w.heap.size w w' := by
  have hm := hf.1
  go_enter Tryd.func9, Tryd.ntmps9
  go_wp2_with fail
  refine (countC n 300 _ hn (by omega)).mono ?_
  rintro e w' ⟨rfl, rfl⟩
  generalize n % 300 = N at *
  clear hn
  go_wp2_with fail
  refine (shareC l N ad cap _ hl hf hpos).mono ?_
  rintro e w1 ⟨v1, rfl, ho1, hb1⟩
  obtain ⟨a1, k1, rfl, hi1⟩ := Ils.up ho1
  have hf1 := hf.below hb1
  have hl1 := hl.below hb1 hpos
  have hp1 : 0 < w1.heap.size := by have := hb1.size; omega
  clear ho1 hf hl hpos
  rw [up_length (share l N)]
  by_cases h0 : share l N = []
  · have hb0 : (((share l N).length : Int) == 0) = true := by rw [h0]; rfl
    clear h0 hi1 hf1
    go_wp2_with (first | (go_at_call 27; refine (knownC _ (by assumption) (by assumption)).mono ?_; rintro e w7 ⟨rfl, hb7⟩))
    go_ret
    exact ⟨rfl, below_trans' hb1 (by assumption)⟩
  obtain ⟨h32, hlen, hle, hz, hbest, halike⟩ := comes l N h0
  have hpl : 0 < l.length := by have := List.length_pos_iff.2 h0; omega
  have hb0 : ((l.length : Int) == 0) = false := by rw [beq_eq_false_iff_ne]; omega
  have hb00 : ((l.length : Int) != (l.length : Int)) = false := by simp
  rw [hlen]
  clear h0
  generalize hs : share l N = s at *
  clear hs
  go_wp2_with fail
  refine (countC a l.length _ ha (by omega)).mono ?_
  rintro e w' ⟨rfl, rfl⟩
  have A1 := Int.emod_nonneg a (show (l.length : Int) ≠ 0 by omega)
  have A2 := Int.emod_lt_of_pos a (show (0 : Int) < l.length by omega)
  generalize a % (l.length : Int) = A at *
  clear ha
  go_wp2_with fail
  refine (countC b l.length _ hb (by omega)).mono ?_
  rintro e w' ⟨rfl, rfl⟩
  have B1 := Int.emod_nonneg b (show (l.length : Int) ≠ 0 by omega)
  have B2 := Int.emod_lt_of_pos b (show (0 : Int) < l.length by omega)
  generalize b % (l.length : Int) = B at *
  clear hb
  obtain ⟨i, rfl⟩ : ∃ i : Nat, A = (i : Int) := ⟨A.toNat, by omega⟩
  obtain ⟨j, rfl⟩ : ∃ j : Nat, B = (j : Int) := ⟨B.toNat, by omega⟩
  have hi : i < l.length := by omega
  have hj : j < l.length := by omega
  obtain ⟨bk, off, rfl, hci⟩ := hf1.2.2 i hi
  have hcj : w1.cell? ⟨bk, off + j, none⟩ = some (.float .f64 (l.getD j 0)) := by
    obtain ⟨bk', off', e, h⟩ := hf1.2.2 j hj
    cases e; exact h
  obtain ⟨sb, so, rfl, hsi⟩ := hi1.2 i (by rw [up_length, hlen]; exact hi)
  have hsj : w1.cell? ⟨sb, so + j, none⟩ = some (.int .i64 ((up s).getD j 0)) := by
    obtain ⟨bk', off', e, h⟩ := hi1.2 j (by rw [up_length, hlen]; exact hj)
    cases e; exact h
  rw [up_getD] at hsi hsj
  have hxi := hf1.2.1 _ (getD_mem' l i hi)
  have hxj := hf1.2.1 _ (getD_mem' l j hj)
  have q1 := hz i hi
  have q2 := hbest i j hi hj
  have q3 := halike i j hi hj
  have q4 := hle i hi
  have q5 := hle j hj
  have t1 : eqF (cl (l.getD i 0)) 0 = decide (cl (l.getD i 0) = 0) := eqF_pos (cl_le_INF _) (by decide)
  have t2 : eqF (cl (l.getD j 0)) (best l) = decide (cl (l.getD j 0) = best l) := eqF_pos (cl_le_INF _) (best_le_INF l)
  have t3 : neF (cl (l.getD i 0)) (cl (l.getD j 0)) = decide (cl (l.getD i 0) ≠ cl (l.getD j 0)) := neF_pos (cl_le_INF _) (cl_le_INF _)
  clear hz hbest halike hle hi1 hlen
  generalize l.getD i 0 = x at *
  generalize l.getD j 0 = y at *
  generalize s.getD i 0 = si at *
  generalize s.getD j 0 = sj at *
  go_upto_region 11 with (first | (go_at_call 25; refine (rcleanC _ _ (by assumption)).mono ?_; rintro e w' ⟨rfl, rfl⟩))
  have hq : ∀ q, Calls Tryd.prog 36 #[.slice (some ⟨bk, off, none⟩) l.length cap] (w1.drewN q) fun e w' => e = .returned (.float .f64 (best l)) ∧ w1.drewN q = w' :=
    fun q => rbestC l _ cap _ (hf1.below (below_drewN (Below.refl _ _) q))
  clear hf1 hxi hxj
  go_cut [70] (fun v wx => v = .bool false ∧ ∃ q, wx = w1.drewN q)
  case first =>
    clear q3 t3
    by_cases cx : cl x = 0
    · have s0 : si = 0 := q1 cx
      have u1 : eqF (cl x) 0 = true := by rw [t1]; exact decide_eq_true cx
      have u2 : ((si : Int) != 0) = false := by rw [s0]; rfl
      clear q1 t1 cx s0
      by_cases cy : cl y = best l
      · have s1 := q2 cy
        have u3 : eqF (cl y) (best l) = true := by rw [t2]; exact decide_eq_true cy
        have u4 : decide ((sj : Int) + 1 < si) = false := decide_eq_false (by omega)
        clear q2 t2 cy
        go_quiet ((go_at_call 36; exact quiet_eq (hq _)))
        go_wp2_with fail
        go_meet
        exact ⟨rfl, _, rfl⟩
      · have u3 : eqF (cl y) (best l) = false := by rw [t2]; exact decide_eq_false cy
        clear q2 t2 cy
        go_quiet ((go_at_call 36; exact quiet_eq (hq _)))
        go_wp2_with fail
        go_meet
        exact ⟨rfl, _, rfl⟩
    · have u1 : eqF (cl x) 0 = false := by rw [t1]; exact decide_eq_false cx
      clear q1 t1 cx
      by_cases cy : cl y = best l
      · have s1 := q2 cy
        have u3 : eqF (cl y) (best l) = true := by rw [t2]; exact decide_eq_true cy
        have u4 : decide ((sj : Int) + 1 < si) = false := decide_eq_false (by omega)
        clear q2 t2 cy
        go_quiet ((go_at_call 36; exact quiet_eq (hq _)))
        go_wp2_with fail
        go_meet
        exact ⟨rfl, _, rfl⟩
      · have u3 : eqF (cl y) (best l) = false := by rw [t2]; exact decide_eq_false cy
        clear q2 t2 cy
        go_quiet ((go_at_call 36; exact quiet_eq (hq _)))
        go_wp2_with fail
        go_meet
        exact ⟨rfl, _, rfl⟩
  case rest =>
    obtain ⟨rfl, q, rfl⟩ := hcut
    have hB : Below w.heap.size w (w1.drewN q).drew := (below_drewN hb1 q).drew
    have hci' : (w1.drewN q).drew.cell? ⟨sb, so + i, none⟩ = some (.int .i64 si) := hsi
    have hcj' : (w1.drewN q).drew.cell? ⟨sb, so + j, none⟩ = some (.int .i64 sj) := hsj
    have hk : Calls Tryd.prog 27 #[] (w1.drewN q).drew fun e w' => e = .returned (.bool true) ∧ (Below w.heap.size w w' ∧ w'.cell? ⟨sb, so + i, none⟩ = some (.int .i64 si) ∧ w'.cell? ⟨sb, so + j, none⟩ = some (.int .i64 sj)) :=
      (knownC ((w1.drewN q).drew) (fun i hi => hl1 i hi) hp1).mono fun e w' h => ⟨h.1, below_trans' hB h.2,
        (h.2.cell (p := ⟨sb, so + i, none⟩) (World.block_lt_of_cell? _ _ hci')).trans hci', (h.2.cell (p := ⟨sb, so + j, none⟩) (World.block_lt_of_cell? _ _ hcj')).trans hcj'⟩
    clear q1 q2 t1 t2 hl1 hp1 hb1 hq hci hcj hsi hsj
    generalize w1.drewN q = w2 at *
    go_upto_region 13 with fail
    by_cases c1 : cl x = cl y
    · have u1 : neF (cl x) (cl y) = false := by rw [t3]; exact decide_eq_false (fun h => h c1)
      by_cases c2 : j < i
      · have u2 : decide ((j : Int) < i) = true := decide_eq_true (by omega)
        clear q3 t3 c1
        refine wp_region_still_tail 32 (by kernel_rfl) (by kernel_rfl) ?_
        simp only [List.take_succ_cons, List.take_zero, List.drop_succ_cons, List.drop_zero]
        change wpStill Tryd.prog _ (World.drew w2) (fun a' => wpList Tryd.prog _ _ _ a' (World.drew w2)) _ _
        refine still_of_quiet _ _ ?_
        repeat (go_big_quiet_step (fail))
        refine wpQuiet_nil ?_
        go_wp2_with (first | (go_at_call 27; refine hk.mono ?_; rintro e w7 ⟨rfl, hb7⟩))
        go_ret
        exact ⟨rfl, hb7.1⟩
      · have u2 : decide ((j : Int) < i) = false := decide_eq_false (by omega)
        have s1 := q3 (by omega) c1
        clear q3 t3 c1
        by_cases c3 : si = sj
        · have u3 : ((si : Int) == sj) = true := by rw [beq_iff_eq]; omega
          clear s1
          refine wp_region_still_tail 32 (by kernel_rfl) (by kernel_rfl) ?_
          simp only [List.take_succ_cons, List.take_zero, List.drop_succ_cons, List.drop_zero]
          change wpStill Tryd.prog _ (World.drew w2) (fun a' => wpList Tryd.prog _ _ _ a' (World.drew w2)) _ _
          refine still_of_quiet _ _ ?_
          repeat (go_big_quiet_step (fail))
          refine wpQuiet_nil ?_
          go_wp2_with (first | (go_at_call 27; refine hk.mono ?_; rintro e w7 ⟨rfl, hb7⟩))
          go_ret
          exact ⟨rfl, hb7.1⟩
        · have u3 : ((si : Int) == sj) = false := by rw [beq_eq_false_iff_ne]; omega
          have u4 : ((si : Int) == (sj : Int) + 1) = true := by rw [beq_iff_eq]; omega
          clear s1
          refine wp_region_still_tail 32 (by kernel_rfl) (by kernel_rfl) ?_
          simp only [List.take_succ_cons, List.take_zero, List.drop_succ_cons, List.drop_zero]
          change wpStill Tryd.prog _ (World.drew w2) (fun a' => wpList Tryd.prog _ _ _ a' (World.drew w2)) _ _
          refine still_of_quiet _ _ ?_
          repeat (go_big_quiet_step (fail))
          refine wpQuiet_nil ?_
          go_wp2_with (first | (go_at_call 27; refine hk.mono ?_; rintro e w7 ⟨rfl, hb7⟩))
          go_ret
          exact ⟨rfl, hb7.1⟩
    · have u1 : neF (cl x) (cl y) = true := by rw [t3]; exact decide_eq_true c1
      clear q3 t3 c1
      refine wp_region_still_tail 32 (by kernel_rfl) (by kernel_rfl) ?_
      simp only [List.take_succ_cons, List.take_zero, List.drop_succ_cons, List.drop_zero]
      change wpStill Tryd.prog _ (World.drew w2) (fun a' => wpList Tryd.prog _ _ _ a' (World.drew w2)) _ _
      refine still_of_quiet _ _ ?_
      repeat (go_big_quiet_step (fail))
      refine wpQuiet_nil ?_
      go_wp2_with (first | (go_at_call 27; refine hk.mono ?_; rintro e w7 ⟨rfl, hb7⟩))
      go_ret
      exact ⟨rfl, hb7.1⟩
end Go.Proofs.YtniejpfjbifjkaaDoor.weightFair
