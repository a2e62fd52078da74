/- What all laws of this seat share: the table's cells out of the row's condition; arguments opened; that a law which returns true and writes nothing old meets its row; the world of the witness. -/
import Derived.Test.YtniejpfjbifjkaaDoorCards
import Derived.Test.YtniejpfjbifjkaaDoorTie
import Derived.Test.YtniejpfjbifjkaaDoorWf
import Derived.WalkKit
import Derived.ProofKit
import Derived.OpenShut
import Derived.Deep.DeepHandedRow
import Derived.Deep.Slices
import Derived.Lib.LaidTab
import Derived.SizedLaws
namespace Go.Proofs.YtniejpfjbifjkaaDoor
open Go.ChangeShapes Go.WideShapes Go.ChangeAt Go.RowKit Fl

theorem own : ownKnob Tryd.prog.godebug = none := by kernel_rfl
theorem laidOut : laidOutB Tryd.prog = true := by kernel_rfl
theorem gTab : Tryd.prog.globalNamed "steelyard/weight.counts" = some 0 := by kernel_rfl
theorem gTabType : (Tryd.prog.globals[0]?).map (·.type) = some 98 := by kernel_rfl
theorem cells98 : Tryd.prog.cellsOf 98 = 6 := by kernel_rfl
theorem cells22 : Tryd.prog.cellsOf 22 = 1 := by kernel_rfl
theorem cells3 : Tryd.prog.cellsOf 3 = 1 := by kernel_rfl
theorem bytes22 : Tryd.prog.bytesOf 22 = 8 := by kernel_rfl
theorem bytes3 : Tryd.prog.bytesOf 3 = 8 := by kernel_rfl

section
variable {H : Type} {enc : TypeId × Value → H} {P : Program} {w : World} {base : Nat} {spare : Nat → Bool} {held : Bool}
theorem trod_float {t : TypeId} {k : FloatKind} {fuel : Nat} {cs : List Value} {x : DataW H × List MemPlace} (ht : P.underlying t = some (.float k)) (h : DataW.trod enc P w base spare held fuel t cs = some x) :
    ∃ b, cs = [.float k b] ∧ x = (.lit (.float k b), []) ∧ (Lit.float k b).wf = true := by
  cases fuel with
  | zero => simp [DataW.trod] at h
  | succ n =>
    rcases cs with _ | ⟨v, _ | ⟨v2, rest⟩⟩
    · simp [DataW.trod, ht] at h
    · cases v <;> simp [DataW.trod, ht] at h
      obtain ⟨⟨rfl, hw⟩, h⟩ := h
      exact ⟨_, rfl, h.symm, hw⟩
    · simp [DataW.trod, ht] at h

/-- the table's cells, out of the row's condition. -/
theorem cells_of_ftab {fuel : Nat} {t e : TypeId} {n : Nat} {k : FloatKind} {cs : List Value} {zs : List Nat} {p : List MemPlace}
    (ht : P.underlying t = some (.array n e)) (he : P.underlying e = some (.float k)) (hce : P.cellsOf e = 1) (hct : P.cellsOf t = n)
    (h : DataW.trod enc P w base spare held fuel t cs = some (.agg (zs.map fun z => .lit (.float k z)), p)) : cs = zs.map fun z => Value.float k z := by
  cases fuel with
  | zero => simp [DataW.trod] at h
  | succ fuel =>
    simp only [DataW.trod, ht, hce, hct, Nat.mul_one] at h
    split at h
    · rename_i hl
      obtain ⟨xs, hm, hx⟩ := Option.map_eq_some_iff.1 h
      have hxs : xs.map (·.1) = zs.map fun z => (DataW.lit (.float k z) : DataW H) := by
        have := congrArg Prod.fst hx
        simpa using this
      have hxl : xs.length = n := by simpa using Lib.mapM_length hm
      have hzl : zs.length = n := by
        have := congrArg List.length hxs
        simp at this
        omega
      apply List.ext_getElem?
      intro i
      by_cases hi : i < n
      · obtain ⟨b, hb, hf⟩ := Lib.mapM_at hm i i (by simp [hi])
        obtain ⟨z, hc, rfl, _⟩ := trod_float he hf
        have h1 : cs[i]? = some (.float k z) := by
          have := congrArg (·[0]?) hc
          simpa [List.getElem?_take, List.getElem?_drop] using this
        have h2 : (xs.map (·.1))[i]? = some (DataW.lit (.float k z) : DataW H) := by simp [hb]
        rw [hxs] at h2
        simp only [List.getElem?_map, Option.map_eq_some_iff, DataW.lit.injEq, Lit.float.injEq, true_and] at h2
        obtain ⟨z', hz', rfl⟩ := h2
        simp [h1, hz']
      · rw [List.getElem?_eq_none (by omega), List.getElem?_eq_none (by simp; omega)]
    · cases h
end
theorem wf_B64 {b : Nat} (h : (Lit.float .f64 b).wf = true) : b < B64 := by
  simp only [Lit.wf, decide_eq_true_eq] at h
  exact h

theorem laid_of {W : World} (h : laidMet Tryd.prog [("steelyard/weight.counts", Rows.laid_steelyard_weight_counts)] W) : Laid W ∧ 0 < W.heap.size := by
  obtain ⟨ps, ⟨g', t', cs, fuel, p, q, hg', ht', hvar, hd, _, _⟩, _⟩ := h
  obtain rfl := Option.some.inj (gTab.symm.trans hg')
  obtain rfl := Option.some.inj (gTabType.symm.trans ht')
  have hc := cells_of_ftab (zs := [0, 0, 0, 0, 9218868437227405311, 0]) Tryd.underlying98 Tryd.underlying22 cells22 cells98 hd
  have hcell : ∀ i, i < 6 → W.cell? ⟨0, i, none⟩ = some (.float .f64 (cntF i)) := by
    intro i hi
    have h1 := World.var?_cell gTab hvar i
    rw [h1]
    have h2 : cs[i]? = cs.toList[i]? := by simp
    rw [h2, hc]
    match i, hi with
    | 0, _ => rfl
    | 1, _ => rfl
    | 2, _ => rfl
    | 3, _ => rfl
    | 4, _ => rfl
    | 5, _ => rfl
  exact ⟨hcell, World.block_lt_of_cell? W (a := ⟨0, 0, none⟩) (hcell 0 (by omega))⟩

/-- a law that returns true and writes nothing old meets its row. -/
theorem trodAll_below {H : Type} {enc : TypeId × Value → H} {P : Program} (hl : laidOutB P = true) {W W' : World} (hb : Below W.heap.size W W') :
    ∀ (ts : List TypeId) (vs : List Value) (ds : List (DataW H)) (ps : List MemPlace), (∀ t ∈ ts, P.readableRec t = true ∧ t < P.types.size) →
      DataW.TrodAll enc P W 0 (fun _ => true) true ts vs ds ps → (∀ x ∈ ps, x.block < W.heap.size) →
      DataW.TrodAll enc P W' 0 (fun b => decide (b < W.heap.size)) true ts vs ds ps
  | [], vs, ds, ps, _, h, _ => by cases vs <;> cases ds <;> simp_all [DataW.TrodAll]
  | t :: ts, vs, ds, ps, ht, h, hlt => by
    obtain ⟨v, vs', d, ds', p, q, rfl, rfl, rfl, h1, h2⟩ := trodAll_cons h
    have ht1 := ht t (List.mem_cons_self ..)
    exact ⟨p, q, Below.trod hl ht1.1 ht1.2 h1 hb (fun x hx => hlt x (List.mem_append.2 (.inl hx))),
      trodAll_below hl hb ts vs' ds' q (fun t' h' => ht t' (List.mem_cons_of_mem _ h')) h2 (fun x hx => hlt x (List.mem_append.2 (.inr hx))), rfl⟩

theorem law_post {H : Type} {enc : TypeId × Value → H} {f : Func} {s : ChangeSpec} {W W' : World} {args : Array Value} {ds gs : List (DataW H)} {before : List MemPlace}
    (hv : s.vars = []) (hr : f.resultTypes = #[4]) (hp : ∀ t ∈ f.params.toList, Tryd.prog.readableRec t = true ∧ t < Tryd.prog.types.size)
    (hs : s.fn H (ds ++ gs) = { results := [.lit (.bool true)], args := ds })
    (hW : DataW.Whole enc Tryd.prog f.params.toList s.vars false W args.toList ds gs before) (hb : Below W.heap.size W W') :
    s.post enc Tryd.prog f false true false false W args (.bool true) W' := by
  have hW' := hW
  have hlt := hW.lt
  obtain ⟨p, q, hA, hV, rfl, hfz, hnd⟩ := hW
  rw [hv] at hV
  obtain ⟨rfl, rfl⟩ := trodVars_none hV
  refine ⟨ds, [], p ++ [], [], p, [], hW', ?_, ?_, ?_, hb.frame _, fun h => by cases h⟩
  · rw [hr, hs]
    exact trodAll_mk1 (shut_bool Tryd.underlying4 true)
  · rw [hs]
    exact trodAll_below laidOut hb _ _ _ _ hp hA (fun x hx => hlt x (List.mem_append.2 (.inl hx)))
  · rw [hv, hs]; rfl

set_option maxRecDepth 100000 in
/-- a slice of floats that came in. -/
theorem open_fls {H : Type} {enc : TypeId × Value → H} {W : World} {r : Reach} {b0 : Nat} {v : Value} {d : DataW H} {p : List MemPlace}
    (hv : Value.okWide Tryd.prog W r b0 29 v) (h : DataW.Trod enc Tryd.prog W 0 (fun _ => true) true 29 v d p) :
    ∃ a l cap, v = .slice a l.length cap ∧ Fls W a l ∧ (a = none → cap = 0) ∧ (l = [] ∨ ∃ es sp, d = .slice es sp ∧ es.length = l.length) := by
  obtain ⟨a0, len, cap, rfl⟩ := okWide_slice Tryd.underlying29 hv
  obtain ⟨fuel, hf⟩ := h
  rcases Deep.open_slice1 (cs := [.slice a0 len cap]) Tryd.underlying29 cells22 hf with ⟨h1, _⟩ | ⟨a, len', cap', m, n, V, D, Pl, h1, _, hl, hm, hmm, hx, hcell⟩
  · simp only [List.cons.injEq, Value.slice.injEq, and_true] at h1
    obtain ⟨rfl, rfl, rfl⟩ := h1
    exact ⟨none, [], 0, rfl, ⟨by simp, by simp, fun i hi => by simp at hi⟩, fun _ => rfl, .inl rfl⟩
  · simp only [List.cons.injEq, Value.slice.injEq, and_true] at h1
    obtain ⟨rfl, rfl, rfl⟩ := h1
    simp only [if_true] at hmm
    subst hmm
    have hV : ∀ i, i < len → ∃ b, V i = .float .f64 b ∧ b < B64 := by
      intro i hi
      obtain ⟨_, ht⟩ := hcell i (by omega)
      obtain ⟨b, hb, _, hw⟩ := trod_float Tryd.underlying22 ht
      simp only [List.cons.injEq, and_true] at hb
      exact ⟨b, hb, wf_B64 hw⟩
    obtain ⟨f, hfn⟩ := Deep.choose_lt hV
    refine ⟨some a, (List.range len).map f, m, by simp, ⟨?_, ?_, ?_⟩, (fun h => by cases h), .inr ⟨_, _, (Prod.ext_iff.1 hx).1, by simp⟩⟩
    · simp; unfold maxLen at hm; omega
    · intro x hx'
      simp at hx'
      obtain ⟨i, hi, rfl⟩ := hx'
      exact (hfn i hi).2
    · intro i hi
      simp at hi
      have hc0 := (hcell 0 (by omega)).1
      rw [show a.add 0 = a from rfl] at hc0
      have hsp : a.spot = none := by
        cases hs : a.spot with
        | none => rfl
        | some _ => simp [World.cell?, hs] at hc0; split at hc0 <;> simp_all
      have hc := (hcell i (by omega)).1
      rw [(hfn i hi).1] at hc
      refine ⟨a.block, a.off, by cases a; simp_all, ?_⟩
      have : a.add i = ⟨a.block, a.off + i, none⟩ := by
        cases a with
        | mk b o s =>
          simp only at hsp; subst hsp
          unfold Addr.add; split <;> simp_all
      rw [this] at hc
      rw [hc]; simp [List.getD, hi]
set_option maxRecDepth 100000 in
/-- a slice of whole numbers that came in. -/
theorem open_ils {H : Type} {enc : TypeId × Value → H} {W : World} {r : Reach} {b0 : Nat} {v : Value} {d : DataW H} {p : List MemPlace}
    (hv : Value.okWide Tryd.prog W r b0 31 v) (h : DataW.Trod enc Tryd.prog W 0 (fun _ => true) true 31 v d p) :
    ∃ a l cap, v = .slice a l.length cap ∧ Ils W a l ∧ (a = none → cap = 0) ∧ (∀ x ∈ l, -9223372036854775808 ≤ x ∧ x ≤ 9223372036854775807) ∧ (l = [] ∨ ∃ es sp, d = .slice es sp ∧ es.length = l.length) := by
  obtain ⟨a0, len, cap, rfl⟩ := okWide_slice Tryd.underlying31 hv
  obtain ⟨fuel, hf⟩ := h
  rcases Deep.open_slice1 (cs := [.slice a0 len cap]) Tryd.underlying31 cells3 hf with ⟨h1, _⟩ | ⟨a, len', cap', m, n, V, D, Pl, h1, _, hl, hm, hmm, hx, hcell⟩
  · simp only [List.cons.injEq, Value.slice.injEq, and_true] at h1
    obtain ⟨rfl, rfl, rfl⟩ := h1
    exact ⟨none, [], 0, rfl, ⟨by simp, fun i hi => by simp at hi⟩, fun _ => rfl, by simp, .inl rfl⟩
  · simp only [List.cons.injEq, Value.slice.injEq, and_true] at h1
    obtain ⟨rfl, rfl, rfl⟩ := h1
    simp only [if_true] at hmm
    subst hmm
    have hV : ∀ i, i < len → ∃ b : Int, V i = .int .i64 b ∧ -9223372036854775808 ≤ b ∧ b ≤ 9223372036854775807 := by
      intro i hi
      obtain ⟨_, ht⟩ := hcell i (by omega)
      obtain ⟨b, hb, _, hw⟩ := DataW.trod_int Tryd.underlying3 ht
      simp only [List.cons.injEq, and_true] at hb
      have hw' := hw
      simp only [Lit.wf, Bool.and_eq_true, decide_eq_true_eq] at hw'
      exact ⟨b, hb, hw'⟩
    obtain ⟨f, hfn⟩ := Deep.choose_lt hV
    refine ⟨some a, (List.range len).map f, m, by simp, ⟨?_, ?_⟩, (fun h => by cases h), ?_, .inr ⟨_, _, (Prod.ext_iff.1 hx).1, by simp⟩⟩
    · simp; unfold maxLen at hm; omega
    · intro i hi
      simp at hi
      have hc0 := (hcell 0 (by omega)).1
      rw [show a.add 0 = a from rfl] at hc0
      have hsp : a.spot = none := by
        cases hs : a.spot with
        | none => rfl
        | some _ => simp [World.cell?, hs] at hc0; split at hc0 <;> simp_all
      have hc := (hcell i (by omega)).1
      rw [(hfn i hi).1] at hc
      refine ⟨a.block, a.off, by cases a; simp_all, ?_⟩
      have : a.add i = ⟨a.block, a.off + i, none⟩ := by
        cases a with
        | mk b o s =>
          simp only at hsp; subst hsp
          unfold Addr.add; split <;> simp_all
      rw [this] at hc
      rw [hc]; simp [List.getD, hi]
    · intro x hx'
      simp at hx'
      obtain ⟨i, hi, rfl⟩ := hx'
      exact (hfn i hi).2
theorem wf_i64 {n : Int} (h : (Lit.int .i64 n).wf = true) : -9223372036854775808 ≤ n ∧ n ≤ 9223372036854775807 := by
  simp only [Lit.wf, Bool.and_eq_true, decide_eq_true_eq] at h
  exact h
theorem wf_u64 {n : Int} (h : (Lit.int .u64 n).wf = true) : 0 ≤ n ∧ n ≤ 18446744073709551615 := by
  simp only [Lit.wf, Bool.and_eq_true, decide_eq_true_eq] at h
  exact h
/-- a slice that came in takes at most so many bytes. -/
theorem reach_len {H : Type} {ts : List TypeId} {ds : List (DataW H)} (h : (DataW.weightsEach Tryd.prog ts ds).all (· ≤ reachBytes) = true) {j : Nat} {t e n : Nat} {d : DataW H} {by_ : Nat}
    (ht : ts[j]? = some t) (hd : ds[j]? = some d) (hu : Tryd.prog.underlying t = some (.slice e)) (hb : Tryd.prog.bytesOf e = by_)
    (hn : n = 0 ∨ ∃ es sp, d = .slice es sp ∧ es.length = n) : n * by_ ≤ 140737488351232 := by
  rcases hn with rfl | ⟨es, sp, rfl, rfl⟩
  · omega
  · have := sized_slice h ht hd hu
    rw [hb] at this
    have h2 : es.length * by_ ≤ (es.length + sp.length) * by_ := Nat.mul_le_mul_right _ (by omega)
    have h3 : reachBytes = 140737488351232 := rfl
    omega

/-- the world of the witness: the settled one, the table holding what its initialiser lays. -/
noncomputable def laidWorld (os : Os) : World :=
  { World.holding Tryd.prog os ⟨#[], #[], []⟩ with heap := (World.holding Tryd.prog os ⟨#[], #[], []⟩).heap.modify 0 fun
      | .cells _ t frozen => .cells #[.float .f64 0, .float .f64 0, .float .f64 0, .float .f64 0, .float .f64 9218868437227405311, .float .f64 0] t frozen
      | o => o }
end Go.Proofs.YtniejpfjbifjkaaDoor
