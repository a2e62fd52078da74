/- MaglevOrder: of any entry and any number of slots the order is what the reference says, and it comes to each slot once. No condition. -/
import Derived.Test.YtniejpfjbifjkaaDoorFs
import Derived.Test.YtniejpfjbifjkaaDoorLMaglevOrder
namespace Go.Proofs.YtniejpfjbifjkaaDoor.maglevOrder
open Go.ChangeShapes Go.WideShapes Go.ChangeAt Go.RowKit Fl

theorem hpar : ∀ t ∈ Tryd.f10.params.toList, Tryd.prog.readableRec t = true ∧ t < Tryd.prog.types.size := by
  rw [Tryd.params10]
  intro t ht
  simp only [List.mem_cons, List.not_mem_nil, or_false] at ht
  rcases ht with rfl | rfl | rfl <;> exact ⟨by kernel_rfl, of_decide_eq_true (by kernel_rfl)⟩
set_option maxRecDepth 100000 in
theorem contract (H : Type) (enc : TypeId × Value → H) (W : World) (base : Nat) (args : Array Value) (ds gs : List (DataW H)) (before : List MemPlace)
    (hval : ∀ (j : Nat) t v, Tryd.f10.params[j]? = some t → args[j]? = some v → Value.okWide Tryd.prog W .any base t v)
    (hW : DataW.Whole enc Tryd.prog Tryd.f10.params.toList Rows.maglevOrderSpec.vars false W args.toList ds gs before) (hL : laidMetH Tryd.prog Rows.maglevOrderRow.laid W)
    : Calls Tryd.prog 10 args W fun e W' => ∃ v, e = .returned v ∧ Rows.maglevOrderSpec.post enc Tryd.prog Tryd.f10 false true false false W args v W' := by
  have hW' := hW
  obtain ⟨p, q, hA0, hV, rfl, hfz, hnd⟩ := hW
  have hA : DataW.TrodAll enc Tryd.prog W 0 (fun _ => true) true Tryd.f10.params.toList args.toList ds p := hA0
  rw [Tryd.params10] at hA hval
  obtain ⟨v0, vs0, d0, ds0, p0, q0, hargs, rfl, rfl, h0, r0⟩ := trodAll_cons hA
  obtain ⟨v1, vs1, d1, ds1, p1, q1, rfl, rfl, rfl, h1, r1⟩ := trodAll_cons r0
  obtain ⟨v2, vs2, d2, ds2, p2, q2, rfl, rfl, rfl, h2, r2⟩ := trodAll_cons r1
  obtain ⟨rfl, rfl, rfl⟩ := trodAll_nil r2
  obtain rfl : args = #[v0, v1, v2] := by cases args; simp_all
  obtain ⟨rfl, rfl⟩ := trodVars_none hV
  obtain ⟨x0, rfl, rfl, rfl, w0⟩ := open_int Tryd.underlying3 (hval 0 3 v0 rfl rfl) h0
  obtain ⟨x1, rfl, rfl, rfl, w1⟩ := open_int Tryd.underlying3 (hval 1 3 v1 rfl rfl) h1
  obtain ⟨x2, rfl, rfl, rfl, w2⟩ := open_int Tryd.underlying3 (hval 2 3 v2 rfl rfl) h2
  obtain ⟨hl, hpos⟩ := laid_of hL
  refine (walk x0 x1 x2 W (wf_i64 w0) (wf_i64 w1) (wf_i64 w2) hl hpos).mono fun e W' ⟨he, hb⟩ => ?_
  subst he
  exact ⟨_, rfl, law_post rfl rfl hpar rfl hW' hb⟩

theorem laid_met (os : Os) : laidMet Tryd.prog Rows.maglevOrderRow.laid ((laidWorld os).forCall (fun _ _ => 0) ⟨#[], #[.int .i64 0, .int .i64 0, .int .i64 0], []⟩).memory :=
  laidMet_of_run' 8 (by kernel_rfl) (by kernel_rfl)
theorem reads (os : Os) {H : Type} (enc : TypeId × Value → H) : ∃ places, DataW.whole enc Tryd.prog ((laidWorld os).forCall (fun _ _ => 0) ⟨#[], #[.int .i64 0, .int .i64 0, .int .i64 0], []⟩).memory Tryd.f10.params.toList Rows.maglevOrderSpec.vars false #[Value.int .i64 0, .int .i64 0, .int .i64 0].toList 8 = some ([.lit (.int .i64 0), .lit (.int .i64 0), .lit (.int .i64 0)], [], places) :=
  ⟨[], by kernel_rfl⟩

set_option maxRecDepth 100000 in
theorem lifted (os : Os) (started : os.Started) (H : Type) (enc : TypeId × Value → H) (F : Stop.Interp) :
    ReturnsInHanded {} Tryd.checked os 10 .any ((OpenSpec.ofChange Rows.maglevOrderSpec).preRow enc Tryd.prog Tryd.f10 Rows.maglevOrderRow.domain false Rows.maglevOrderRow.laid) (((OpenSpec.ofChange Rows.maglevOrderSpec).at F).post enc Tryd.prog Tryd.f10 false true false false) := by
  obtain ⟨places, hx⟩ := reads os enc
  refine returnsInHanded_of_row (C := Tryd.checked) (s := OpenSpec.ofChange Rows.maglevOrderSpec) own started (by kernel_rfl) Tryd.func10
    (witness_row_at (enc := enc) (C := Tryd.checked) false (laidWorld os) #[.int .i64 0, .int .i64 0, .int .i64 0] rfl (by kernel_rfl) (by kernel_rfl) (by kernel_rfl)
      (OpenSpec.preRow_of_cond 8 hx (by kernel_rfl) (fun k hk => by cases hk) (by kernel_rfl) (laid_met os))) ?_
  intro W base args ds gs before hval hW _ _ _ hL _ _
  exact contract H enc W base args ds gs before hval hW hL

theorem small : smallFacts Tryd.prog Tryd.f10 Rows.maglevOrderSpec Rows.maglevOrderRow = true := by kernel_rfl
theorem inPlace1 : Rows.maglevOrderRow.inPlace = Tryd.prog.inPlace 10 := by kernel_rfl
theorem unfollowed1 : Rows.maglevOrderRow.unfollowed = Tryd.prog.unfollowed 10 := by kernel_rfl
theorem recurses1 : Rows.maglevOrderRow.recurses = Tryd.prog.recurses 10 := by kernel_rfl
theorem named1 : Rows.maglevOrderRow.named = Tryd.prog.varsNamed 10 := by kernel_rfl
theorem closed : joinedFacts Tryd.prog 10 Tryd.f10 Rows.maglevOrderSpec Rows.maglevOrderRow = true :=
  joined_of small laidOut mapsRowed0 stops0 stopKnobs0 stopsHeard0 mayEnter liftsFinal.symm make0 plainKeys0.symm inPlace1 unfollowed1 recurses1 named1
theorem numbered : Tryd.pinned.checked.prog.funcNamed Rows.maglevOrderRow.func = some 10 := by kernel_rfl
set_option maxRecDepth 100000 in
theorem said : Rows.MaglevOrderSaid :=
  OpenClaim.holds_of_cond 10 Tryd.f10 rfl rfl rfl rfl rfl rfl rfl ⟨rfl, rfl, rfl, rfl, rfl⟩ rfl rfl rfl rfl rfl numbered Tryd.func10 closed
    (of_decide_eq_true (by kernel_rfl)) (by unfold Func.isWrapper; first | (rw [if_pos (by decide +kernel)]; kernel_rfl) | (rw [if_neg (by decide +kernel)]; exact ⟨rfl, rfl⟩))
    (fun os started H enc _ F => by rw [OpenClaim.pre_eq_preRow]; exact lifted os started H enc F)

theorem plain (f : FuncId) (fn : Func) (hf : Tryd.pinned.checked.prog.funcNamed "steelyard/steelyardlaw10.MaglevOrder" = some f) (hfn : Tryd.pinned.checked.prog.funcs[f]? = some fn) :
    false = Tryd.pinned.checked.prog.looks [] ∧ ∀ (j : Nat) t, fn.params[j]? = some t → Tryd.pinned.checked.prog.wantsStandIn t = false := by
  obtain rfl : f = 10 := Option.some.inj ((show Tryd.prog.funcNamed "steelyard/steelyardlaw10.MaglevOrder" = some 10 by kernel_rfl).symm.trans hf) |>.symm
  obtain rfl : fn = Tryd.f10 := (Option.some.inj (Tryd.func10.symm.trans hfn)).symm
  refine ⟨by kernel_rfl, fun j t ht => ?_⟩
  rw [Tryd.params10] at ht
  have ht' := Array.mem_of_getElem? ht
  simp only [List.mem_toArray, List.mem_cons, List.not_mem_nil, or_false] at ht'
  rcases ht' with rfl | rfl | rfl <;> exact (show Tryd.prog.wantsStandIn _ = false by kernel_rfl)

theorem goes1 : false = Rows.maglevOrderRow.goesBy Tryd.pinned.checked.prog := by kernel_rfl
theorem wfBy1 : Rows.maglevOrderRow.wfByText (OpenSpec.ofChange Rows.maglevOrderSpec) = true := by kernel_rfl
theorem card : Rows.MaglevOrderCardSaid :=
  Claim7.holds_tied_plain_at .later [] _ _ _ _ said (fun _ h => by cases h) wfBy1 (fun _ h => by cases h) maglevOrder_row_tie rfl ⟨rfl, rfl⟩ mainIs0 rfl plain goes1
#print axioms card
end Go.Proofs.YtniejpfjbifjkaaDoor.maglevOrder
