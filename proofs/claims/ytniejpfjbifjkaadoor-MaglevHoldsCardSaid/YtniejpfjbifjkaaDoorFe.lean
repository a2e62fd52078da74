/- Entries that came in, opened. -/
import Derived.Test.YtniejpfjbifjkaaDoorFr
import Derived.Test.YtniejpfjbifjkaaDoorMh
import Derived.Deep.SlicePairs
namespace Go.Proofs.YtniejpfjbifjkaaDoor
open Go.ChangeShapes Go.WideShapes Go.ChangeAt Go.RowKit Fl

theorem cells52 : Tryd.prog.cellsOf 52 = 2 := by kernel_rfl
theorem bytes52 : Tryd.prog.bytesOf 52 = 16 := by kernel_rfl
set_option maxRecDepth 100000 in
/-- a slice of entries that came in. -/
theorem open_ens {H : Type} {enc : TypeId × Value → H} {W : World} {r : Reach} {b0 : Nat} {v : Value} {d : DataW H} {p : List MemPlace}
    (hv : Value.okWide Tryd.prog W r b0 45 v) (h : DataW.Trod enc Tryd.prog W 0 (fun _ => true) true 45 v d p) :
    ∃ a l cap, v = .slice a l.length cap ∧ (l.length * 16 ≤ 140737488351232 → Ens W a l) ∧ (∀ x ∈ l, -9223372036854775808 ≤ x.1 ∧ x.1 ≤ 9223372036854775807) ∧ (l = [] ∨ ∃ es sp, d = .slice es sp ∧ es.length = l.length) := by
  obtain ⟨a0, len, cap, rfl⟩ := okWide_slice Tryd.underlying45 hv
  obtain ⟨fuel, hf⟩ := h
  rcases Deep.open_slice_pairs (cs := [.slice a0 len cap]) Tryd.underlying45 Tryd.underlying52 cells52 rfl rfl cells3 cells22 hf with ⟨h1, _⟩ | ⟨a, len', cap', m, n, V0, V1, D0, D1, P0, P1, h1, _, hl, hm, hmm, hx, hcell⟩
  · simp only [List.cons.injEq, Value.slice.injEq, and_true] at h1
    obtain ⟨rfl, rfl, rfl⟩ := h1
    exact ⟨none, [], 0, rfl, fun _ => ⟨by simp, fun i hi => by simp at hi, fun i hi => by simp at hi⟩, by simp, .inl rfl⟩
  · simp only [List.cons.injEq, Value.slice.injEq, and_true] at h1
    obtain ⟨rfl, rfl, rfl⟩ := h1
    simp only [if_true] at hmm
    subst hmm
    have hV : ∀ i, i < len → ∃ b : Int × Nat, V0 i = .int .i64 b.1 ∧ V1 i = .float .f64 b.2 ∧ b.2 < B64 ∧ -9223372036854775808 ≤ b.1 ∧ b.1 ≤ 9223372036854775807 := by
      intro i hi
      obtain ⟨_, _, ht0, ht1⟩ := hcell i (by omega)
      obtain ⟨b, hb, _, hw⟩ := DataW.trod_int Tryd.underlying3 ht0
      obtain ⟨c, hc, _, hw2⟩ := trod_float Tryd.underlying22 ht1
      simp only [List.cons.injEq, and_true] at hb hc
      have hw' := hw
      simp only [Lit.wf, Bool.and_eq_true, decide_eq_true_eq] at hw'
      exact ⟨(b, c), hb, hc, wf_B64 hw2, hw'⟩
    obtain ⟨f, hfn⟩ := Deep.choose_lt hV
    have hget : ∀ i, i < len → ((List.range len).map f).getD i ent0 = f i := by
      intro i hi; simp [List.getD, hi]
    refine ⟨some a, (List.range len).map f, m, by simp, fun hsz => ⟨?_, ?_, ?_⟩, ?_, .inr ⟨_, _, (Prod.ext_iff.1 hx).1, by simp⟩⟩
    · omega
    · intro i hi
      simp at hi
      rw [hget i hi]
      exact (hfn i hi).2.2.1
    · intro i hi
      simp at hi
      have hc0 := (hcell 0 (by omega)).1
      rw [show a.add (0 * 2) = a from rfl] at hc0
      have hsp : a.spot = none := by
        cases hs : a.spot with
        | none => rfl
        | some _ => simp [World.cell?, hs] at hc0; split at hc0 <;> simp_all
      have hc1 := (hcell i (by omega)).1
      have hc2 := (hcell i (by omega)).2.1
      rw [(hfn i hi).1] at hc1
      rw [(hfn i hi).2.1] at hc2
      have hadd : ∀ j, a.add j = ⟨a.block, a.off + j, none⟩ := by
        intro j
        cases a with
        | mk b o s =>
          simp only at hsp; subst hsp
          unfold Addr.add; split <;> simp_all
      rw [hadd] at hc1 hc2
      refine ⟨a.block, a.off, by cases a; simp_all, ?_, ?_⟩
      · rw [hget i hi]; exact hc1
      · rw [hget i hi]; exact hc2
    · intro x hx'
      simp at hx'
      obtain ⟨i, hi, rfl⟩ := hx'
      exact (hfn i hi).2.2.2
end Go.Proofs.YtniejpfjbifjkaaDoor
