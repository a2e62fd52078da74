/- MaglevFinds: of any two tables and any number whose slot it is, how many are whose and how many moved is what the reference says. No condition. -/
import Derived.Test.YtniejpfjbifjkaaDoorFs
import Derived.Test.YtniejpfjbifjkaaDoorLMaglevFinds
namespace Go.Proofs.YtniejpfjbifjkaaDoor.maglevFinds
open Go.ChangeShapes Go.WideShapes Go.ChangeAt Go.RowKit Fl

theorem hpar : ∀ t ∈ Tryd.f16.params.toList, Tryd.prog.readableRec t = true ∧ t < Tryd.prog.types.size := by
  rw [Tryd.params16]
  intro t ht
  simp only [List.mem_cons, List.not_mem_nil, or_false] at ht
  rcases ht with rfl | rfl | rfl | rfl <;> exact ⟨by kernel_rfl, of_decide_eq_true (by kernel_rfl)⟩
set_option maxRecDepth 100000 in
theorem contract (H : Type) (enc : TypeId × Value → H) (W : World) (base : Nat) (args : Array Value) (ds gs : List (DataW H)) (before : List MemPlace)
    (hval : ∀ (j : Nat) t v, Tryd.f16.params[j]? = some t → args[j]? = some v → Value.okWide Tryd.prog W .any base t v)
    (hW : DataW.Whole enc Tryd.prog Tryd.f16.params.toList Rows.maglevFindsSpec.vars false W args.toList ds gs before) (hL : laidMetH Tryd.prog Rows.maglevFindsRow.laid W)
    (hsz0 : (DataW.weightsEach Tryd.prog (Tryd.f16.params.toList ++ Rows.maglevFindsSpec.plain.varTypes Tryd.prog) (ds ++ gs)).all (· ≤ reachBytes) = true)
    : Calls Tryd.prog 16 args W fun e W' => ∃ v, e = .returned v ∧ Rows.maglevFindsSpec.post enc Tryd.prog Tryd.f16 false true false false W args v W' := by
  have hW' := hW
  obtain ⟨p, q, hA0, hV, rfl, hfz, hnd⟩ := hW
  have hA : DataW.TrodAll enc Tryd.prog W 0 (fun _ => true) true Tryd.f16.params.toList args.toList ds p := hA0
  rw [Tryd.params16] at hA hval hsz0
  obtain ⟨v0, vs0, d0, ds0, p0, q0, hargs, rfl, rfl, h0, r0⟩ := trodAll_cons hA
  obtain ⟨v1, vs1, d1, ds1, p1, q1, rfl, rfl, rfl, h1, r1⟩ := trodAll_cons r0
  obtain ⟨v2, vs2, d2, ds2, p2, q2, rfl, rfl, rfl, h2, r2⟩ := trodAll_cons r1
  obtain ⟨v3, vs3, d3, ds3, p3, q3, rfl, rfl, rfl, h3, r3⟩ := trodAll_cons r2
  obtain ⟨rfl, rfl, rfl⟩ := trodAll_nil r3
  obtain rfl : args = #[v0, v1, v2, v3] := by cases args; simp_all
  obtain ⟨rfl, rfl⟩ := trodVars_none hV
  obtain ⟨a0, l0, cap0, rfl, f0, z0, b0, e0⟩ := open_ils (hval 0 31 v0 rfl rfl) h0
  have s0 : l0.length * 8 ≤ 140737488351232 := reach_len hsz0 (j := 0) (t := 31) (e := 3) rfl rfl Tryd.underlying31 bytes3 (by rcases e0 with h | h; exact .inl (by rw [h]; rfl); exact .inr h)
  obtain ⟨a1, l1, cap1, rfl, f1, z1, b1, e1⟩ := open_ils (hval 1 31 v1 rfl rfl) h1
  have s1 : l1.length * 8 ≤ 140737488351232 := reach_len hsz0 (j := 1) (t := 31) (e := 3) rfl rfl Tryd.underlying31 bytes3 (by rcases e1 with h | h; exact .inl (by rw [h]; rfl); exact .inr h)
  obtain ⟨x2, rfl, rfl, rfl, w2⟩ := open_int Tryd.underlying58 (hval 2 58 v2 rfl rfl) h2
  obtain ⟨x3, rfl, rfl, rfl, w3⟩ := open_int Tryd.underlying3 (hval 3 3 v3 rfl rfl) h3
  obtain ⟨hl, hpos⟩ := laid_of hL
  refine (walk a0 l0 cap0 a1 l1 cap1 x2 x3 W f0 z0 b0 s0 f1 z1 b1 s1 (wf_u64 w2) (wf_i64 w3) hl hpos).mono fun e W' ⟨he, hb⟩ => ?_
  subst he
  exact ⟨_, rfl, law_post rfl rfl hpar rfl hW' hb⟩

theorem laid_met (os : Os) : laidMet Tryd.prog Rows.maglevFindsRow.laid ((laidWorld os).forCall (fun _ _ => 0) ⟨#[], #[.slice none 0 0, .slice none 0 0, .int .u64 0, .int .i64 0], []⟩).memory :=
  laidMet_of_run' 8 (by kernel_rfl) (by kernel_rfl)
theorem reads (os : Os) {H : Type} (enc : TypeId × Value → H) : ∃ places, DataW.whole enc Tryd.prog ((laidWorld os).forCall (fun _ _ => 0) ⟨#[], #[.slice none 0 0, .slice none 0 0, .int .u64 0, .int .i64 0], []⟩).memory Tryd.f16.params.toList Rows.maglevFindsSpec.vars false #[Value.slice none 0 0, .slice none 0 0, .int .u64 0, .int .i64 0].toList 8 = some ([.nil, .nil, .lit (.int .u64 0), .lit (.int .i64 0)], [], places) :=
  ⟨[], by kernel_rfl⟩

set_option maxRecDepth 100000 in
theorem lifted (os : Os) (started : os.Started) (H : Type) (enc : TypeId × Value → H) (F : Stop.Interp) :
    ReturnsInHanded {} Tryd.checked os 16 .any ((OpenSpec.ofChange Rows.maglevFindsSpec).preRow enc Tryd.prog Tryd.f16 Rows.maglevFindsRow.domain false Rows.maglevFindsRow.laid) (((OpenSpec.ofChange Rows.maglevFindsSpec).at F).post enc Tryd.prog Tryd.f16 false true false false) := by
  obtain ⟨places, hx⟩ := reads os enc
  refine returnsInHanded_of_row (C := Tryd.checked) (s := OpenSpec.ofChange Rows.maglevFindsSpec) own started (by kernel_rfl) Tryd.func16
    (witness_row_at (enc := enc) (C := Tryd.checked) false (laidWorld os) #[.slice none 0 0, .slice none 0 0, .int .u64 0, .int .i64 0] rfl (by kernel_rfl) (by kernel_rfl) (by kernel_rfl)
      (OpenSpec.preRow_of_cond 8 hx (by kernel_rfl) (fun k hk => by cases hk) (by kernel_rfl) (laid_met os))) ?_
  intro W base args ds gs before hval hW _ _ hsz hL _ _
  exact contract H enc W base args ds gs before hval hW hL hsz

theorem small : smallFacts Tryd.prog Tryd.f16 Rows.maglevFindsSpec Rows.maglevFindsRow = true := by kernel_rfl
theorem inPlace1 : Rows.maglevFindsRow.inPlace = Tryd.prog.inPlace 16 := by kernel_rfl
theorem unfollowed1 : Rows.maglevFindsRow.unfollowed = Tryd.prog.unfollowed 16 := by kernel_rfl
theorem recurses1 : Rows.maglevFindsRow.recurses = Tryd.prog.recurses 16 := by kernel_rfl
theorem named1 : Rows.maglevFindsRow.named = Tryd.prog.varsNamed 16 := by kernel_rfl
theorem closed : joinedFacts Tryd.prog 16 Tryd.f16 Rows.maglevFindsSpec Rows.maglevFindsRow = true :=
  joined_of small laidOut mapsRowed0 stops0 stopKnobs0 stopsHeard0 mayEnter liftsFinal.symm make0 plainKeys0.symm inPlace1 unfollowed1 recurses1 named1
theorem numbered : Tryd.pinned.checked.prog.funcNamed Rows.maglevFindsRow.func = some 16 := by kernel_rfl
set_option maxRecDepth 100000 in
theorem said : Rows.MaglevFindsSaid :=
  OpenClaim.holds_of_cond 16 Tryd.f16 rfl rfl rfl rfl rfl rfl rfl ⟨rfl, rfl, rfl, rfl, rfl⟩ rfl rfl rfl rfl rfl numbered Tryd.func16 closed
    (of_decide_eq_true (by kernel_rfl)) (by unfold Func.isWrapper; first | (rw [if_pos (by decide +kernel)]; kernel_rfl) | (rw [if_neg (by decide +kernel)]; exact ⟨rfl, rfl⟩))
    (fun os started H enc _ F => by rw [OpenClaim.pre_eq_preRow]; exact lifted os started H enc F)

theorem plain (f : FuncId) (fn : Func) (hf : Tryd.pinned.checked.prog.funcNamed "steelyard/steelyardlaw10.MaglevFinds" = some f) (hfn : Tryd.pinned.checked.prog.funcs[f]? = some fn) :
    false = Tryd.pinned.checked.prog.looks [] ∧ ∀ (j : Nat) t, fn.params[j]? = some t → Tryd.pinned.checked.prog.wantsStandIn t = false := by
  obtain rfl : f = 16 := Option.some.inj ((show Tryd.prog.funcNamed "steelyard/steelyardlaw10.MaglevFinds" = some 16 by kernel_rfl).symm.trans hf) |>.symm
  obtain rfl : fn = Tryd.f16 := (Option.some.inj (Tryd.func16.symm.trans hfn)).symm
  refine ⟨by kernel_rfl, fun j t ht => ?_⟩
  rw [Tryd.params16] at ht
  have ht' := Array.mem_of_getElem? ht
  simp only [List.mem_toArray, List.mem_cons, List.not_mem_nil, or_false] at ht'
  rcases ht' with rfl | rfl | rfl | rfl <;> exact (show Tryd.prog.wantsStandIn _ = false by kernel_rfl)

theorem goes1 : false = Rows.maglevFindsRow.goesBy Tryd.pinned.checked.prog := by kernel_rfl
theorem wfBy1 : Rows.maglevFindsRow.wfByText (OpenSpec.ofChange Rows.maglevFindsSpec) = true := by kernel_rfl
theorem card : Rows.MaglevFindsCardSaid :=
  Claim7.holds_tied_plain_at .later [] _ _ _ _ said (fun _ h => by cases h) wfBy1 (fun _ h => by cases h) maglevFinds_row_tie rfl ⟨rfl, rfl⟩ mainIs0 rfl plain goes1
#print axioms card
end Go.Proofs.YtniejpfjbifjkaaDoor.maglevFinds
