/- LifeEach: of any record, any number of replicas and any order of them: the law's function returns true, writes nothing that was there, does not panic. -/
import Derived.Test.YtniejpfjbifjkaaDoorFs
import Derived.Test.YtniejpfjbifjkaaDoorLLifeEach
import Derived.Test.YtniejpfjbifjkaaDoorFo
namespace Go.Proofs.YtniejpfjbifjkaaDoor.lifeEach
open Go.ChangeShapes Go.WideShapes Go.ChangeAt Go.RowKit Fl

theorem hpar : ∀ t ∈ Tryd.f18.params.toList, Tryd.prog.readableRec t = true ∧ t < Tryd.prog.types.size := by
  rw [Tryd.params18]
  intro t ht
  simp only [List.mem_cons, List.not_mem_nil, or_false] at ht
  rcases ht with rfl | rfl | rfl <;> exact ⟨by kernel_rfl, of_decide_eq_true (by kernel_rfl)⟩
set_option maxRecDepth 100000 in
theorem contract (H : Type) (enc : TypeId × Value → H) (W : World) (base : Nat) (args : Array Value) (ds gs : List (DataW H)) (before : List MemPlace)
    (hval : ∀ (j : Nat) t v, Tryd.f18.params[j]? = some t → args[j]? = some v → Value.okWide Tryd.prog W .any base t v)
    (hW : DataW.Whole enc Tryd.prog Tryd.f18.params.toList Rows.lifeEachSpec.vars false W args.toList ds gs before) (hL : laidMetH Tryd.prog Rows.lifeEachRow.laid W)
    (hsz0 : (DataW.weightsEach Tryd.prog (Tryd.f18.params.toList ++ Rows.lifeEachSpec.plain.varTypes Tryd.prog) (ds ++ gs)).all (· ≤ reachBytes) = true)
    : Calls Tryd.prog 18 args W fun e W' => ∃ v, e = .returned v ∧ Rows.lifeEachSpec.post enc Tryd.prog Tryd.f18 false true false false W args v W' := by
  have hW' := hW
  obtain ⟨p, q, hA0, hV, rfl, hfz, hnd⟩ := hW
  have hA : DataW.TrodAll enc Tryd.prog W 0 (fun _ => true) true Tryd.f18.params.toList args.toList ds p := hA0
  rw [Tryd.params18] at hA hval hsz0
  obtain ⟨v0, vs0, d0, ds0, p0, q0, hargs, rfl, rfl, h0, r0⟩ := trodAll_cons hA
  obtain ⟨v1, vs1, d1, ds1, p1, q1, rfl, rfl, rfl, h1, r1⟩ := trodAll_cons r0
  obtain ⟨v2, vs2, d2, ds2, p2, q2, rfl, rfl, rfl, h2, r2⟩ := trodAll_cons r1
  obtain ⟨rfl, rfl, rfl⟩ := trodAll_nil r2
  obtain rfl : args = #[v0, v1, v2] := by cases args; simp_all
  obtain ⟨rfl, rfl⟩ := trodVars_none hV
  obtain ⟨a0, x0, c0, rfl, n0, f0⟩ := open_rec (hval 0 71 v0 rfl rfl) h0 (fun n hn => by have := List.all_eq_true.1 hsz0 n (DataW.weights_mem_each (j := 0) rfl rfl n hn); simpa using this)
  obtain ⟨x1, rfl, rfl, rfl, w1⟩ := open_int Tryd.underlying3 (hval 1 3 v1 rfl rfl) h1
  obtain ⟨a2, l2, cap2, rfl, f2, z2, b2, e2⟩ := open_ils (hval 2 31 v2 rfl rfl) h2
  have s2 : l2.length * 8 ≤ 140737488351232 := reach_len hsz0 (j := 2) (t := 31) (e := 3) rfl rfl Tryd.underlying31 bytes3 (by rcases e2 with h | h; exact .inl (by rw [h]; rfl); exact .inr h)
  obtain ⟨hl, hpos⟩ := laid_of hL
  refine (walk a0 x0 c0 x1 a2 l2 cap2 W n0 f0 (wf_i64 w1) f2 z2 b2 s2 hl hpos).mono fun e W' ⟨he, hb⟩ => ?_
  subst he
  exact ⟨_, rfl, law_post rfl rfl hpar rfl hW' hb⟩

theorem laid_met (os : Os) : laidMet Tryd.prog Rows.lifeEachRow.laid ((laidWorld os).forCall (fun _ _ => 0) ⟨#[], #[.agg #[.int .i64 0, .int .i64 0, .int .i64 0, .int .i64 0, .bool false, .int .u8 0, .int .u8 0, .int .u8 0, .int .u8 0, .int .u8 0, .int .u8 0, .int .u8 0, .int .u8 0, .int .u8 0, .int .u8 0, .int .u8 0, .int .u8 0, .int .u8 0, .int .u8 0, .int .u8 0, .int .u8 0, .float .f64 0, .slice none 0 0, .int .i64 0], .int .i64 0, .slice none 0 0], []⟩).memory :=
  laidMet_of_run' 8 (by kernel_rfl) (by kernel_rfl)
theorem reads (os : Os) {H : Type} (enc : TypeId × Value → H) : ∃ places, DataW.whole enc Tryd.prog ((laidWorld os).forCall (fun _ _ => 0) ⟨#[], #[.agg #[.int .i64 0, .int .i64 0, .int .i64 0, .int .i64 0, .bool false, .int .u8 0, .int .u8 0, .int .u8 0, .int .u8 0, .int .u8 0, .int .u8 0, .int .u8 0, .int .u8 0, .int .u8 0, .int .u8 0, .int .u8 0, .int .u8 0, .int .u8 0, .int .u8 0, .int .u8 0, .int .u8 0, .float .f64 0, .slice none 0 0, .int .i64 0], .int .i64 0, .slice none 0 0], []⟩).memory Tryd.f18.params.toList Rows.lifeEachSpec.vars false #[Value.agg #[.int .i64 0, .int .i64 0, .int .i64 0, .int .i64 0, .bool false, .int .u8 0, .int .u8 0, .int .u8 0, .int .u8 0, .int .u8 0, .int .u8 0, .int .u8 0, .int .u8 0, .int .u8 0, .int .u8 0, .int .u8 0, .int .u8 0, .int .u8 0, .int .u8 0, .int .u8 0, .int .u8 0, .float .f64 0, .slice none 0 0, .int .i64 0], .int .i64 0, .slice none 0 0].toList 8 = some ([.agg [.lit (.int .i64 0), .lit (.int .i64 0), .agg [.lit (.int .i64 0), .lit (.int .i64 0), .agg [.lit (.bool false), .agg [.lit (.int .u8 0), .lit (.int .u8 0), .lit (.int .u8 0), .lit (.int .u8 0), .lit (.int .u8 0), .lit (.int .u8 0), .lit (.int .u8 0), .lit (.int .u8 0), .lit (.int .u8 0), .lit (.int .u8 0), .lit (.int .u8 0), .lit (.int .u8 0), .lit (.int .u8 0), .lit (.int .u8 0), .lit (.int .u8 0), .lit (.int .u8 0)]], .lit (.float .f64 0)], .nil, .lit (.int .i64 0)], .lit (.int .i64 0), .nil], [], places) :=
  ⟨[], by kernel_rfl⟩

set_option maxRecDepth 100000 in
theorem lifted (os : Os) (started : os.Started) (H : Type) (enc : TypeId × Value → H) (F : Stop.Interp) :
    ReturnsInHanded {} Tryd.checked os 18 .any ((OpenSpec.ofChange Rows.lifeEachSpec).preRow enc Tryd.prog Tryd.f18 Rows.lifeEachRow.domain false Rows.lifeEachRow.laid) (((OpenSpec.ofChange Rows.lifeEachSpec).at F).post enc Tryd.prog Tryd.f18 false true false false) := by
  obtain ⟨places, hx⟩ := reads os enc
  refine returnsInHanded_of_row (C := Tryd.checked) (s := OpenSpec.ofChange Rows.lifeEachSpec) own started (by kernel_rfl) Tryd.func18
    (witness_row_at (enc := enc) (C := Tryd.checked) false (laidWorld os) #[.agg #[.int .i64 0, .int .i64 0, .int .i64 0, .int .i64 0, .bool false, .int .u8 0, .int .u8 0, .int .u8 0, .int .u8 0, .int .u8 0, .int .u8 0, .int .u8 0, .int .u8 0, .int .u8 0, .int .u8 0, .int .u8 0, .int .u8 0, .int .u8 0, .int .u8 0, .int .u8 0, .int .u8 0, .float .f64 0, .slice none 0 0, .int .i64 0], .int .i64 0, .slice none 0 0] rfl (by kernel_rfl) (by kernel_rfl) (by kernel_rfl)
      (OpenSpec.preRow_of_cond 8 hx (by kernel_rfl) (fun k hk => by cases hk) (by kernel_rfl) (laid_met os))) ?_
  intro W base args ds gs before hval hW _ _ hsz hL _ _
  exact contract H enc W base args ds gs before hval hW hL hsz

theorem small : smallFacts Tryd.prog Tryd.f18 Rows.lifeEachSpec Rows.lifeEachRow = true := by kernel_rfl
theorem inPlace1 : Rows.lifeEachRow.inPlace = Tryd.prog.inPlace 18 := by kernel_rfl
theorem unfollowed1 : Rows.lifeEachRow.unfollowed = Tryd.prog.unfollowed 18 := by kernel_rfl
theorem recurses1 : Rows.lifeEachRow.recurses = Tryd.prog.recurses 18 := by kernel_rfl
theorem named1 : Rows.lifeEachRow.named = Tryd.prog.varsNamed 18 := by kernel_rfl
theorem closed : joinedFacts Tryd.prog 18 Tryd.f18 Rows.lifeEachSpec Rows.lifeEachRow = true :=
  joined_of small laidOut mapsRowed0 stops0 stopKnobs0 stopsHeard0 mayEnter liftsFinal.symm make0 plainKeys0.symm inPlace1 unfollowed1 recurses1 named1
theorem numbered : Tryd.pinned.checked.prog.funcNamed Rows.lifeEachRow.func = some 18 := by kernel_rfl
set_option maxRecDepth 100000 in
theorem said : Rows.LifeEachSaid :=
  OpenClaim.holds_of_cond 18 Tryd.f18 rfl rfl rfl rfl rfl rfl rfl ⟨rfl, rfl, rfl, rfl, rfl⟩ rfl rfl rfl rfl rfl numbered Tryd.func18 closed
    (of_decide_eq_true (by kernel_rfl)) (by unfold Func.isWrapper; first | (rw [if_pos (by decide +kernel)]; kernel_rfl) | (rw [if_neg (by decide +kernel)]; exact ⟨rfl, rfl⟩))
    (fun os started H enc _ F => by rw [OpenClaim.pre_eq_preRow]; exact lifted os started H enc F)

theorem plain (f : FuncId) (fn : Func) (hf : Tryd.pinned.checked.prog.funcNamed "steelyard/steelyardlaw12.LifeEach" = some f) (hfn : Tryd.pinned.checked.prog.funcs[f]? = some fn) :
    false = Tryd.pinned.checked.prog.looks [] ∧ ∀ (j : Nat) t, fn.params[j]? = some t → Tryd.pinned.checked.prog.wantsStandIn t = false := by
  obtain rfl : f = 18 := Option.some.inj ((show Tryd.prog.funcNamed "steelyard/steelyardlaw12.LifeEach" = some 18 by kernel_rfl).symm.trans hf) |>.symm
  obtain rfl : fn = Tryd.f18 := (Option.some.inj (Tryd.func18.symm.trans hfn)).symm
  refine ⟨by kernel_rfl, fun j t ht => ?_⟩
  rw [Tryd.params18] at ht
  have ht' := Array.mem_of_getElem? ht
  simp only [List.mem_toArray, List.mem_cons, List.not_mem_nil, or_false] at ht'
  rcases ht' with rfl | rfl | rfl <;> exact (show Tryd.prog.wantsStandIn _ = false by kernel_rfl)

theorem goes1 : false = Rows.lifeEachRow.goesBy Tryd.pinned.checked.prog := by kernel_rfl
theorem wfBy1 : Rows.lifeEachRow.wfByText (OpenSpec.ofChange Rows.lifeEachSpec) = true := by kernel_rfl
theorem card : Rows.LifeEachCardSaid :=
  Claim7.holds_tied_plain_at .later [] _ _ _ _ said (fun _ h => by cases h) wfBy1 (fun _ h => by cases h) lifeEach_row_tie rfl ⟨rfl, rfl⟩ mainIs0 rfl plain goes1
#print axioms card
end Go.Proofs.YtniejpfjbifjkaaDoor.lifeEach
