/- WeightLists walked. -/
import Derived.Test.YtniejpfjbifjkaaDoorWo
import Derived.Test.YtniejpfjbifjkaaDoorWk
namespace Go.Proofs.YtniejpfjbifjkaaDoor
open Go.RowKit Fl

theorem quiet_eq {P : Program} {f : FuncId} {args : Array Value} {w : World} {n : Nat} {v : Value}
    (h : Calls P f args (w.drewN n) fun e w' => e = .returned v ∧ w.drewN n = w') : Calls P f args (w.drewN n) fun e w'' => e = .returned v ∧ ∃ m, w'' = w.drewN m :=
  h.mono fun _ _ ⟨he, hm⟩ => ⟨he, n, hm.symm⟩
theorem Fls.owned {w : World} {base e n : Nat} {v : Value} {l : List Nat} (hn : n = l.length) (hb : ∀ x ∈ l, x < B64) (h : w.ownsRow base e 1 v n (flts l)) :
    ∃ a cap, v = .slice a n cap ∧ Fls w a l := by
  subst hn
  rcases h.2 with ⟨rfl, hn⟩ | ⟨g, cap, cur, rfl, _, hg, hc, hm, _⟩
  · exact ⟨none, 0, by rw [hn], ⟨by omega, hb, fun i hi => by omega⟩⟩
  · refine ⟨some ⟨g, 0, none⟩, cap, rfl, ⟨by unfold maxLen at hm; omega, hb, fun i hi => ⟨g, 0, rfl, ?_⟩⟩⟩
    rw [Nat.zero_add, h.cellAt i (by omega), flts_getD l i hi]
theorem flts_oneCell (l : List Nat) : ∀ u ∈ flts l, u.oneCell' = true := by
  intro u hu; simp [flts] at hu; obtain ⟨x, _, rfl⟩ := hu; rfl
/-- what is appended from a slice that came in lies there. -/
theorem Fls.news {w : World} {ad : Addr} {l : List Nat} (h : Fls w (some ad) l) : ∀ (j : Nat) (u : Value), (flts l)[j]? = some u → w.cell? (ad.add j) = some u := by
  intro j u hu
  have hj : j < l.length := by
    by_cases c : j < l.length
    · exact c
    · simp [flts, Nat.not_lt.1 c] at hu
  obtain ⟨b, off, he, hc⟩ := h.2.2 j hj
  rw [flts_getD l j hj] at hu
  cases hu
  cases he
  rw [← hc]
  congr 1
  unfold Addr.add; split <;> simp_all
theorem same_self {x : Nat} (h : x < B64) : sameF x x = true := by
  rcases one_of h h with h1 | h1 | h1
  · exact h1.1
  · rw [h1.2.1] at h1; simp at h1
  · rw [h1.2.1] at h1; simp at h1
theorem less_small {x y : Nat} (hx : x ≤ MAXF) (hy : y ≤ MAXF) : lessF x y = decide (x < y) := by
  unfold lessF
  have sx : x ≤ INF := by unfold MAXF at hx; unfold INF; omega
  have sy : y ≤ INF := by unfold MAXF at hy; unfold INF; omega
  rw [ordF_num (by unfold MAXF at hx; unfold B64; omega) (by unfold MAXF at hy; unfold B64; omega) (not_isN_small sx) (not_isN_small sy), T_small sx, T_small sy, kind_small hx, kind_small hy]
  rw [Bool.eq_iff_iff, decide_eq_true_eq, decide_eq_true_eq]
  (repeat' split) <;> omega
theorem best_le_sum_at (l : List Nat) (k : Nat) (hk : k ≤ l.length) : best (l.take k) ≤ sumW (l.take k) := by
  induction k with
  | zero => exact Nat.le_refl _
  | succ k ih =>
    have ih := ih (by omega)
    rw [take_succ_getD l k (by omega), best_snoc, sumW_snoc]
    have h1 := addF_ge_left (sumW_le_INF (l.take k)) (cl_le_INF (l.getD k 0))
    have h2 := addF_ge_right (sumW_le_INF (l.take k)) (cl_le_INF (l.getD k 0))
    have h3 := sumW_le (l.take k)
    have h4 := cl_le (l.getD k 0)
    unfold MAXF at *
    omega
theorem best_le_sum (l : List Nat) : best l ≤ sumW l := by
  have := best_le_sum_at l l.length (Nat.le_refl _)
  rwa [List.take_length] at this

namespace weightLists
set_option maxHeartbeats 2000000 in
theorem walk (a : Option Addr) (l : List Nat) (cap : Nat) (w : World) (hf : Fls w a l) (hz : a = none → cap = 0) (hr : l.length * 8 ≤ 140737488351232) (hl : Laid w) (hpos : 0 < w.heap.size) :
    Calls Tryd.prog 7 #[.slice a l.length cap] w fun e w' => e = .returned (.bool true) ∧ Below w.heap.size w w' := by
  have hm := hf.1
  obtain ⟨i0, hi, hz0, hz1, hz2⟩ := info_parts info22
  go_enter Tryd.func7, Tryd.ntmps7
  go_upto_region 2 with fail
  go_cut [3] (fun s3 wx => ∃ a' cap', s3 = .slice a' l.length cap' ∧ Fls wx a' l ∧ Below w.heap.size w wx)
  case first =>
    cases a with
    | none =>
      have hl0 : l = [] := by
        cases l with
        | nil => rfl
        | cons x l => obtain ⟨b, off, h, _⟩ := hf.2.2 0 (by simp); cases h
      subst hl0
      have hc0 := hz rfl
      subst hc0
      have hrun := fun ty (W : World) => run_append_owned_none (P := Tryd.prog) W 0 29 ty 22 i0 1 Tryd.underlying29 hi (.slice none 0 0) 0 [] (World.ownsRow_nil W 0 22 1)
      go_wp2_with fail
      go_meet
      exact ⟨none, 0, rfl, hf, Below.refl _ _⟩
    | some ad =>
      have hn := hf.news
      go_wp2_with (at_builtin; refine wpList_append_own _ rfl _ _ 29 rfl w.heap.size 22 i0 (.float .f64 0) 1 8 Tryd.underlying29 hi hz0 hz1 hz2 rfl (by decide) _ _ _ rfl (World.ownsRow_nil w w.heap.size 22 1) ad l.length cap (flts l) rfl (by simp [flts]) hn (flts_oneCell l) (by unfold maxLen; omega) (by omega) (Nat.le_refl _) ?_; intro v' w1 hown hgrow _)
      rw [Nat.zero_add, List.nil_append] at hown
      obtain ⟨a', cap', rfl, hf'⟩ := Fls.owned rfl hf.2.1 hown
      go_meet
      exact ⟨a', cap', rfl, hf', (Below.refl _ _).grown hgrow (Nat.le_refl _) (fun k h => by cases h)⟩
  case rest =>
    obtain ⟨a', cap', rfl, hf', hbel⟩ := hcut
    have hfw := hf.below hbel
    have hlw := hl.below hbel hpos
    have hpw : 0 < wc.heap.size := by have := hbel.size; omega
    have hb64 : best l < B64 := by have := best_le l; unfold MAXF at this; unfold B64; omega
    have hs64 : sumW l < B64 := by have := sumW_le l; unfold MAXF at this; unfold B64; omega
    have e1 := same_self hb64
    have e2 := same_self hs64
    have e3 : lessF (sumW l) (best l) = false := by
      rw [less_small (sumW_le l) (best_le l)]; have := best_le_sum l; simp; omega
    go_wp2_with (first | (go_at_call 34; refine (bestC _ _ _ _ (by assumption) (by assumption)).mono ?_; rintro e w' ⟨rfl, rfl⟩) | (go_at_call 35; refine (sumC _ _ _ _ (by assumption) (by assumption)).mono ?_; rintro e w' ⟨rfl, rfl⟩) | (go_at_call 36; refine (rbestC _ _ _ _ (by assumption)).mono ?_; rintro e w' ⟨rfl, rfl⟩) | (go_at_call 37; refine (rsumC _ _ _ _ (by assumption)).mono ?_; rintro e w' ⟨rfl, rfl⟩) | (go_at_call 24; refine (rsameC _ _ _ (by assumption) (by assumption)).mono ?_; rintro e w' ⟨rfl, rfl⟩) | (go_at_call 29; refine (less_calls _ _ _).mono ?_; rintro e w' ⟨rfl, rfl⟩))
    have hge := best_ge l
    clear e1 e2 e3 hl hf
    go_loopw [6] (fun i wr => ∃ k : Nat, k ≤ l.length ∧ i = .int .i64 k ∧ Fls wr a l ∧ Fls wr a' l ∧ Laid wr ∧ Below w.heap.size w wr) (fun i _ => l.length - (intOf i).toNat)
    case atStart => exact ⟨0, Nat.zero_le _, rfl, hfw, hf', hlw, hbel⟩
    case round =>
      clear hfw hf' hlw hbel hpw
      obtain ⟨k, hk, rfl, hf1, hf2, hlr, hbr⟩ := hrel
      by_cases hlt : k < l.length
      · obtain ⟨b1, o1, rfl, hc1⟩ := hf1.2.2 k hlt
        obtain ⟨b2, o2, rfl, hc2⟩ := hf2.2.2 k hlt
        have hx := hf1.2.1 _ (getD_mem' l k hlt)
        have hs := same_self hx
        have hcx := cl_B64 (l.getD k 0)
        have hle : lessF (best l) (cl (l.getD k 0)) = false := by
          rw [less_small (best_le l) (cl_le _)]; exact decide_eq_false (by have := hge k hlt; omega)
        have hlq : ∀ q, Laid (wr.drewN q) := fun q i hi => hlr i hi
        have HF1 := Lib.hid hf1
        have HF2 := Lib.hid hf2
        have HL := Lib.hid hlr
        have HB := Lib.hid hbr
        clear hf1 hf2 hlr hbr hge
        generalize l.getD k 0 = x at *
        go_upto_region 10 with fail
        go_quiet (first | (go_at_call 24; exact quiet_eq (rsameC _ _ _ hx hx)) | (go_at_call 22; exact quiet_eq (cleanC _ _ hx (hlq _))) | (go_at_call 29; exact quiet_eq (less_calls _ _ _)))
        go_wp2
        go_roundw
        case rel => exact ⟨k + 1, by omega, by go_num, HF1.out.below (below_drewN (Below.refl _ _) _), HF2.out.below (below_drewN (Below.refl _ _) _), fun i hi => HL.out i hi, below_drewN HB.out _⟩
        case measure => simp [intOf]; omega
      · have hpw : 0 < wr.heap.size := by have := hbr.size; omega
        have HB := Lib.hid hbr
        clear hbr hf1 hf2 hge
        go_wp2_with (first | (go_at_call 27; refine (knownC _ (by assumption) (by assumption)).mono ?_; rintro e w' ⟨rfl, hbel⟩))
        go_ret
        exact ⟨rfl, HB.out.trans (Below.mono (by assumption) HB.out.size)⟩
end weightLists
end Go.Proofs.YtniejpfjbifjkaaDoor
