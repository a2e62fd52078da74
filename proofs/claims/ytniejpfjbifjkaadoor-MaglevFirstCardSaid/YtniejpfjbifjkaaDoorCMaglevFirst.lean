/- MaglevFirst: of any entries who is first in turn has the first slot of its order. No condition. -/
import Derived.Test.YtniejpfjbifjkaaDoorFs
import Derived.Test.YtniejpfjbifjkaaDoorLMaglevFirst
import Derived.Test.YtniejpfjbifjkaaDoorFe
namespace Go.Proofs.YtniejpfjbifjkaaDoor.maglevFirst
open Go.ChangeShapes Go.WideShapes Go.ChangeAt Go.RowKit Fl

theorem hpar : ∀ t ∈ Tryd.f15.params.toList, Tryd.prog.readableRec t = true ∧ t < Tryd.prog.types.size := by
  rw [Tryd.params15]
  intro t ht
  simp only [List.mem_cons, List.not_mem_nil, or_false] at ht
  rcases ht with rfl | rfl <;> exact ⟨by kernel_rfl, of_decide_eq_true (by kernel_rfl)⟩
set_option maxRecDepth 100000 in
theorem contract (H : Type) (enc : TypeId × Value → H) (W : World) (base : Nat) (args : Array Value) (ds gs : List (DataW H)) (before : List MemPlace)
    (hval : ∀ (j : Nat) t v, Tryd.f15.params[j]? = some t → args[j]? = some v → Value.okWide Tryd.prog W .any base t v)
    (hW : DataW.Whole enc Tryd.prog Tryd.f15.params.toList Rows.maglevFirstSpec.vars false W args.toList ds gs before) (hL : laidMetH Tryd.prog Rows.maglevFirstRow.laid W)
    (hsz0 : (DataW.weightsEach Tryd.prog (Tryd.f15.params.toList ++ Rows.maglevFirstSpec.plain.varTypes Tryd.prog) (ds ++ gs)).all (· ≤ reachBytes) = true)
    : Calls Tryd.prog 15 args W fun e W' => ∃ v, e = .returned v ∧ Rows.maglevFirstSpec.post enc Tryd.prog Tryd.f15 false true false false W args v W' := by
  have hW' := hW
  obtain ⟨p, q, hA0, hV, rfl, hfz, hnd⟩ := hW
  have hA : DataW.TrodAll enc Tryd.prog W 0 (fun _ => true) true Tryd.f15.params.toList args.toList ds p := hA0
  rw [Tryd.params15] at hA hval hsz0
  obtain ⟨v0, vs0, d0, ds0, p0, q0, hargs, rfl, rfl, h0, r0⟩ := trodAll_cons hA
  obtain ⟨v1, vs1, d1, ds1, p1, q1, rfl, rfl, rfl, h1, r1⟩ := trodAll_cons r0
  obtain ⟨rfl, rfl, rfl⟩ := trodAll_nil r1
  obtain rfl : args = #[v0, v1] := by cases args; simp_all
  obtain ⟨rfl, rfl⟩ := trodVars_none hV
  obtain ⟨a0, l0, cap0, rfl, g0, b0, e0⟩ := open_ens (hval 0 45 v0 rfl rfl) h0
  have s0 : l0.length * 16 ≤ 140737488351232 := reach_len hsz0 (j := 0) (t := 45) (e := 52) rfl rfl Tryd.underlying45 bytes52 (by rcases e0 with h | h; exact .inl (by rw [h]; rfl); exact .inr h)
  have f0 := g0 s0
  obtain ⟨x1, rfl, rfl, rfl, w1⟩ := open_int Tryd.underlying3 (hval 1 3 v1 rfl rfl) h1
  obtain ⟨hl, hpos⟩ := laid_of hL
  refine (walk a0 l0 cap0 x1 W f0 b0 s0 (wf_i64 w1) hl hpos).mono fun e W' ⟨he, hb⟩ => ?_
  subst he
  exact ⟨_, rfl, law_post rfl rfl hpar rfl hW' hb⟩

theorem laid_met (os : Os) : laidMet Tryd.prog Rows.maglevFirstRow.laid ((laidWorld os).forCall (fun _ _ => 0) ⟨#[], #[.slice none 0 0, .int .i64 0], []⟩).memory :=
  laidMet_of_run' 8 (by kernel_rfl) (by kernel_rfl)
theorem reads (os : Os) {H : Type} (enc : TypeId × Value → H) : ∃ places, DataW.whole enc Tryd.prog ((laidWorld os).forCall (fun _ _ => 0) ⟨#[], #[.slice none 0 0, .int .i64 0], []⟩).memory Tryd.f15.params.toList Rows.maglevFirstSpec.vars false #[Value.slice none 0 0, .int .i64 0].toList 8 = some ([.nil, .lit (.int .i64 0)], [], places) :=
  ⟨[], by kernel_rfl⟩

set_option maxRecDepth 100000 in
theorem lifted (os : Os) (started : os.Started) (H : Type) (enc : TypeId × Value → H) (F : Stop.Interp) :
    ReturnsInHanded {} Tryd.checked os 15 .any ((OpenSpec.ofChange Rows.maglevFirstSpec).preRow enc Tryd.prog Tryd.f15 Rows.maglevFirstRow.domain false Rows.maglevFirstRow.laid) (((OpenSpec.ofChange Rows.maglevFirstSpec).at F).post enc Tryd.prog Tryd.f15 false true false false) := by
  obtain ⟨places, hx⟩ := reads os enc
  refine returnsInHanded_of_row (C := Tryd.checked) (s := OpenSpec.ofChange Rows.maglevFirstSpec) own started (by kernel_rfl) Tryd.func15
    (witness_row_at (enc := enc) (C := Tryd.checked) false (laidWorld os) #[.slice none 0 0, .int .i64 0] rfl (by kernel_rfl) (by kernel_rfl) (by kernel_rfl)
      (OpenSpec.preRow_of_cond 8 hx (by kernel_rfl) (fun k hk => by cases hk) (by kernel_rfl) (laid_met os))) ?_
  intro W base args ds gs before hval hW _ _ hsz hL _ _
  exact contract H enc W base args ds gs before hval hW hL hsz

theorem small : smallFacts Tryd.prog Tryd.f15 Rows.maglevFirstSpec Rows.maglevFirstRow = true := by kernel_rfl
theorem inPlace1 : Rows.maglevFirstRow.inPlace = Tryd.prog.inPlace 15 := by kernel_rfl
theorem unfollowed1 : Rows.maglevFirstRow.unfollowed = Tryd.prog.unfollowed 15 := by kernel_rfl
theorem recurses1 : Rows.maglevFirstRow.recurses = Tryd.prog.recurses 15 := by kernel_rfl
theorem named1 : Rows.maglevFirstRow.named = Tryd.prog.varsNamed 15 := by kernel_rfl
theorem closed : joinedFacts Tryd.prog 15 Tryd.f15 Rows.maglevFirstSpec Rows.maglevFirstRow = true :=
  joined_of small laidOut mapsRowed0 stops0 stopKnobs0 stopsHeard0 mayEnter liftsFinal.symm make0 plainKeys0.symm inPlace1 unfollowed1 recurses1 named1
theorem numbered : Tryd.pinned.checked.prog.funcNamed Rows.maglevFirstRow.func = some 15 := by kernel_rfl
set_option maxRecDepth 100000 in
theorem said : Rows.MaglevFirstSaid :=
  OpenClaim.holds_of_cond 15 Tryd.f15 rfl rfl rfl rfl rfl rfl rfl ⟨rfl, rfl, rfl, rfl, rfl⟩ rfl rfl rfl rfl rfl numbered Tryd.func15 closed
    (of_decide_eq_true (by kernel_rfl)) (by unfold Func.isWrapper; first | (rw [if_pos (by decide +kernel)]; kernel_rfl) | (rw [if_neg (by decide +kernel)]; exact ⟨rfl, rfl⟩))
    (fun os started H enc _ F => by rw [OpenClaim.pre_eq_preRow]; exact lifted os started H enc F)

theorem plain (f : FuncId) (fn : Func) (hf : Tryd.pinned.checked.prog.funcNamed "steelyard/steelyardlaw10.MaglevFirst" = some f) (hfn : Tryd.pinned.checked.prog.funcs[f]? = some fn) :
    false = Tryd.pinned.checked.prog.looks [] ∧ ∀ (j : Nat) t, fn.params[j]? = some t → Tryd.pinned.checked.prog.wantsStandIn t = false := by
  obtain rfl : f = 15 := Option.some.inj ((show Tryd.prog.funcNamed "steelyard/steelyardlaw10.MaglevFirst" = some 15 by kernel_rfl).symm.trans hf) |>.symm
  obtain rfl : fn = Tryd.f15 := (Option.some.inj (Tryd.func15.symm.trans hfn)).symm
  refine ⟨by kernel_rfl, fun j t ht => ?_⟩
  rw [Tryd.params15] at ht
  have ht' := Array.mem_of_getElem? ht
  simp only [List.mem_toArray, List.mem_cons, List.not_mem_nil, or_false] at ht'
  rcases ht' with rfl | rfl <;> exact (show Tryd.prog.wantsStandIn _ = false by kernel_rfl)

theorem goes1 : false = Rows.maglevFirstRow.goesBy Tryd.pinned.checked.prog := by kernel_rfl
theorem wfBy1 : Rows.maglevFirstRow.wfByText (OpenSpec.ofChange Rows.maglevFirstSpec) = true := by kernel_rfl
theorem card : Rows.MaglevFirstCardSaid :=
  Claim7.holds_tied_plain_at .later [] _ _ _ _ said (fun _ h => by cases h) wfBy1 (fun _ h => by cases h) maglevFirst_row_tie rfl ⟨rfl, rfl⟩ mainIs0 rfl plain goes1
#print axioms card
end Go.Proofs.YtniejpfjbifjkaaDoor.maglevFirst
