/- The facts on the whole translation that every row of this seat asks for, each proved once: its header line read as letters (the kernel's own reading of so long a string wants 10 GB), and what hangs on it. -/
import Derived.Test.YtniejpfjbifjkaaDoorFr
namespace Go.Proofs.YtniejpfjbifjkaaDoor
set_option maxRecDepth 100000
def hdNats : List Nat := [104, 97, 114, 110, 101, 115, 115, 32, 52, 98, 51, 52, 100, 101, 101, 54, 54, 57, 99, 57, 55, 55, 51, 52, 54, 98, 57, 102, 55, 48, 101, 51, 100, 101, 49, 51, 101, 49, 49, 99, 54, 99, 52, 49, 54, 99, 55, 53, 56, 98, 57, 54, 52, 101, 98, 102, 54, 51, 52, 101, 50, 101, 56, 53, 100, 101, 97, 100, 49, 51, 97, 56, 32, 99, 117, 116, 32, 97, 116, 32, 115, 116, 101, 101, 108, 121, 97, 114, 100, 47, 115, 116, 101, 101, 108, 121, 97, 114, 100, 108, 97, 119, 48, 56, 46, 87, 101, 105, 103, 104, 116, 67, 108, 101, 97, 110, 32, 115, 116, 101, 101, 108, 121, 97, 114, 100, 47, 115, 116, 101, 101, 108, 121, 97, 114, 100, 108, 97, 119, 48, 56, 46, 87, 101, 105, 103, 104, 116, 79, 114, 100, 101, 114, 32, 115, 116, 101, 101, 108, 121, 97, 114, 100, 47, 115, 116, 101, 101, 108, 121, 97, 114, 100, 108, 97, 119, 48, 56, 46, 87, 101, 105, 103, 104, 116, 71, 114, 111, 119, 115, 32, 115, 116, 101, 101, 108, 121, 97, 114, 100, 47, 115, 116, 101, 101, 108, 121, 97, 114, 100, 108, 97, 119, 48, 56, 46, 87, 101, 105, 103, 104, 116, 70, 105, 114, 115, 116, 32, 115, 116, 101, 101, 108, 121, 97, 114, 100, 47, 115, 116, 101, 101, 108, 121, 97, 114, 100, 108, 97, 119, 48, 56, 46, 87, 101, 105, 103, 104, 116, 76, 105, 115, 116, 115, 32, 115, 116, 101, 101, 108, 121, 97, 114, 100, 47, 115, 116, 101, 101, 108, 121, 97, 114, 100, 108, 97, 119, 48, 56, 46, 87, 101, 105, 103, 104, 116, 84, 117, 114, 110, 115, 32, 115, 116, 101, 101, 108, 121, 97, 114, 100, 47, 115, 116, 101, 101, 108, 121, 97, 114, 100, 108, 97, 119, 48, 56, 46, 87, 101, 105, 103, 104, 116, 70, 97, 105, 114, 32, 115, 116, 101, 101, 108, 121, 97, 114, 100, 47, 115, 116, 101, 101, 108, 121, 97, 114, 100, 108, 97, 119, 49, 48, 46, 77, 97, 103, 108, 101, 118, 79, 114, 100, 101, 114, 32, 115, 116, 101, 101, 108, 121, 97, 114, 100, 47, 115, 116, 101, 101, 108, 121, 97, 114, 100, 108, 97, 119, 49, 48, 46, 77, 97, 103, 108, 101, 118, 66, 117, 105, 108, 100, 115, 32, 115, 116, 101, 101, 108, 121, 97, 114, 100, 47, 115, 116, 101, 101, 108, 121, 97, 114, 100, 108, 97, 119, 49, 48, 46, 77, 97, 103, 108, 101, 118, 72, 111, 108, 100, 115, 32, 115, 116, 101, 101, 108, 121, 97, 114, 100, 47, 115, 116, 101, 101, 108, 121, 97, 114, 100, 108, 97, 119, 49, 48, 46, 77, 97, 103, 108, 101, 118, 68, 117, 108, 108, 32, 115, 116, 101, 101, 108, 121, 97, 114, 100, 47, 115, 116, 101, 101, 108, 121, 97, 114, 100, 108, 97, 119, 49, 48, 46, 77, 97, 103, 108, 101, 118, 83, 99, 97, 108, 101, 100, 32, 115, 116, 101, 101, 108, 121, 97, 114, 100, 47, 115, 116, 101, 101, 108, 121, 97, 114, 100, 108, 97, 119, 49, 48, 46, 77, 97, 103, 108, 101, 118, 70, 105, 114, 115, 116, 32, 115, 116, 101, 101, 108, 121, 97, 114, 100, 47, 115, 116, 101, 101, 108, 121, 97, 114, 100, 108, 97, 119, 49, 48, 46, 77, 97, 103, 108, 101, 118, 70, 105, 110, 100, 115, 32, 115, 116, 101, 101, 108, 121, 97, 114, 100, 47, 115, 116, 101, 101, 108, 121, 97, 114, 100, 108, 97, 119, 49, 48, 46, 77, 97, 103, 108, 101, 118, 70, 97, 114, 32, 115, 116, 101, 101, 108, 121, 97, 114, 100, 47, 115, 116, 101, 101, 108, 121, 97, 114, 100, 108, 97, 119, 49, 50, 46, 76, 105, 102, 101, 69, 97, 99, 104, 32, 115, 116, 101, 101, 108, 121, 97, 114, 100, 47, 115, 116, 101, 101, 108, 121, 97, 114, 100, 108, 97, 119, 49, 50, 46, 76, 105, 102, 101, 71, 114, 111, 119, 115, 32, 115, 116, 101, 101, 108, 121, 97, 114, 100, 47, 115, 116, 101, 101, 108, 121, 97, 114, 100, 108, 97, 119, 49, 50, 46, 76, 105, 102, 101, 86, 111, 116, 101, 115, 32, 115, 116, 101, 101, 108, 121, 97, 114, 100, 47, 115, 116, 101, 101, 108, 121, 97, 114, 100, 108, 97, 119, 49, 50, 46, 76, 105, 102, 101, 84, 101, 108, 108, 115]
def hdWords : List (List Nat) := [[99, 117, 116], [97, 116], [115, 116, 101, 101, 108, 121, 97, 114, 100, 47, 115, 116, 101, 101, 108, 121, 97, 114, 100, 108, 97, 119, 48, 56, 46, 87, 101, 105, 103, 104, 116, 67, 108, 101, 97, 110], [115, 116, 101, 101, 108, 121, 97, 114, 100, 47, 115, 116, 101, 101, 108, 121, 97, 114, 100, 108, 97, 119, 48, 56, 46, 87, 101, 105, 103, 104, 116, 79, 114, 100, 101, 114], [115, 116, 101, 101, 108, 121, 97, 114, 100, 47, 115, 116, 101, 101, 108, 121, 97, 114, 100, 108, 97, 119, 48, 56, 46, 87, 101, 105, 103, 104, 116, 71, 114, 111, 119, 115], [115, 116, 101, 101, 108, 121, 97, 114, 100, 47, 115, 116, 101, 101, 108, 121, 97, 114, 100, 108, 97, 119, 48, 56, 46, 87, 101, 105, 103, 104, 116, 70, 105, 114, 115, 116], [115, 116, 101, 101, 108, 121, 97, 114, 100, 47, 115, 116, 101, 101, 108, 121, 97, 114, 100, 108, 97, 119, 48, 56, 46, 87, 101, 105, 103, 104, 116, 76, 105, 115, 116, 115], [115, 116, 101, 101, 108, 121, 97, 114, 100, 47, 115, 116, 101, 101, 108, 121, 97, 114, 100, 108, 97, 119, 48, 56, 46, 87, 101, 105, 103, 104, 116, 84, 117, 114, 110, 115], [115, 116, 101, 101, 108, 121, 97, 114, 100, 47, 115, 116, 101, 101, 108, 121, 97, 114, 100, 108, 97, 119, 48, 56, 46, 87, 101, 105, 103, 104, 116, 70, 97, 105, 114], [115, 116, 101, 101, 108, 121, 97, 114, 100, 47, 115, 116, 101, 101, 108, 121, 97, 114, 100, 108, 97, 119, 49, 48, 46, 77, 97, 103, 108, 101, 118, 79, 114, 100, 101, 114], [115, 116, 101, 101, 108, 121, 97, 114, 100, 47, 115, 116, 101, 101, 108, 121, 97, 114, 100, 108, 97, 119, 49, 48, 46, 77, 97, 103, 108, 101, 118, 66, 117, 105, 108, 100, 115], [115, 116, 101, 101, 108, 121, 97, 114, 100, 47, 115, 116, 101, 101, 108, 121, 97, 114, 100, 108, 97, 119, 49, 48, 46, 77, 97, 103, 108, 101, 118, 72, 111, 108, 100, 115], [115, 116, 101, 101, 108, 121, 97, 114, 100, 47, 115, 116, 101, 101, 108, 121, 97, 114, 100, 108, 97, 119, 49, 48, 46, 77, 97, 103, 108, 101, 118, 68, 117, 108, 108], [115, 116, 101, 101, 108, 121, 97, 114, 100, 47, 115, 116, 101, 101, 108, 121, 97, 114, 100, 108, 97, 119, 49, 48, 46, 77, 97, 103, 108, 101, 118, 83, 99, 97, 108, 101, 100], [115, 116, 101, 101, 108, 121, 97, 114, 100, 47, 115, 116, 101, 101, 108, 121, 97, 114, 100, 108, 97, 119, 49, 48, 46, 77, 97, 103, 108, 101, 118, 70, 105, 114, 115, 116], [115, 116, 101, 101, 108, 121, 97, 114, 100, 47, 115, 116, 101, 101, 108, 121, 97, 114, 100, 108, 97, 119, 49, 48, 46, 77, 97, 103, 108, 101, 118, 70, 105, 110, 100, 115], [115, 116, 101, 101, 108, 121, 97, 114, 100, 47, 115, 116, 101, 101, 108, 121, 97, 114, 100, 108, 97, 119, 49, 48, 46, 77, 97, 103, 108, 101, 118, 70, 97, 114], [115, 116, 101, 101, 108, 121, 97, 114, 100, 47, 115, 116, 101, 101, 108, 121, 97, 114, 100, 108, 97, 119, 49, 50, 46, 76, 105, 102, 101, 69, 97, 99, 104], [115, 116, 101, 101, 108, 121, 97, 114, 100, 47, 115, 116, 101, 101, 108, 121, 97, 114, 100, 108, 97, 119, 49, 50, 46, 76, 105, 102, 101, 71, 114, 111, 119, 115], [115, 116, 101, 101, 108, 121, 97, 114, 100, 47, 115, 116, 101, 101, 108, 121, 97, 114, 100, 108, 97, 119, 49, 50, 46, 76, 105, 102, 101, 86, 111, 116, 101, 115], [115, 116, 101, 101, 108, 121, 97, 114, 100, 47, 115, 116, 101, 101, 108, 121, 97, 114, 100, 108, 97, 119, 49, 50, 46, 76, 105, 102, 101, 84, 101, 108, 108, 115]]
theorem hd00 : Tryd.prog.initOrder = "harness 4b34dee669c977346b9f70e3de13e11c6c416c758b964ebf634e2e85dead13a8 cut at steelyard/steelyardlaw08.WeightClean steelyard/steelyardlaw08.WeightOrder steelyard/steelyardlaw08.WeightGrows steelyard/steelyardlaw08.WeightFirst steelyard/steelyardlaw08.WeightLists steelyard/steelyardlaw08.WeightTurns steelyard/steelyardlaw08.WeightFair steelyard/steelyardlaw10.MaglevOrder steelyard/steelyardlaw10.MaglevBuilds steelyard/steelyardlaw10.MaglevHolds steelyard/steelyardlaw10.MaglevDull steelyard/steelyardlaw10.MaglevScaled steelyard/steelyardlaw10.MaglevFirst steelyard/steelyardlaw10.MaglevFinds steelyard/steelyardlaw10.MaglevFar steelyard/steelyardlaw12.LifeEach steelyard/steelyardlaw12.LifeGrows steelyard/steelyardlaw12.LifeVotes steelyard/steelyardlaw12.LifeTells" := rfl
theorem hd01 : "harness 4b34dee669c977346b9f70e3de13e11c6c416c758b964ebf634e2e85dead13a8 cut at steelyard/steelyardlaw08.WeightClean steelyard/steelyardlaw08.WeightOrder steelyard/steelyardlaw08.WeightGrows steelyard/steelyardlaw08.WeightFirst steelyard/steelyardlaw08.WeightLists steelyard/steelyardlaw08.WeightTurns steelyard/steelyardlaw08.WeightFair steelyard/steelyardlaw10.MaglevOrder steelyard/steelyardlaw10.MaglevBuilds steelyard/steelyardlaw10.MaglevHolds steelyard/steelyardlaw10.MaglevDull steelyard/steelyardlaw10.MaglevScaled steelyard/steelyardlaw10.MaglevFirst steelyard/steelyardlaw10.MaglevFinds steelyard/steelyardlaw10.MaglevFar steelyard/steelyardlaw12.LifeEach steelyard/steelyardlaw12.LifeGrows steelyard/steelyardlaw12.LifeVotes steelyard/steelyardlaw12.LifeTells" = String.ofList (hdNats.map Char.ofNat) := by rfl
theorem hd : Tryd.prog.initOrder.toList = hdNats.map Char.ofNat := by rw [hd00, hd01]; exact String.toList_ofList
theorem hw0 : behindMainWord (wordsSigns (hdNats.map Char.ofNat)) = hdWords.map (·.map Char.ofNat) := by kernel_rfl
theorem hw : behindMainWord (wordsSigns Tryd.prog.initOrder.toList) = hdWords.map (·.map Char.ofNat) := by rw [hd]; exact hw0
theorem headLifts : Tryd.prog.headLifts = [] := by
  unfold Program.headLifts
  simp only [hw]
  kernel_rfl
theorem liftsFinal : Tryd.prog.liftsFinal = false := by
  unfold Program.liftsFinal
  simp only [hw, headLifts]
  kernel_rfl
theorem sl0 : stripLifts liftWords (hdWords.map (·.map Char.ofNat)) = ([], hdWords.map (·.map Char.ofNat)) := by kernel_rfl
theorem hdHead : (hdWords.map (·.map Char.ofNat)).head? = some "cut".toList := by kernel_rfl
theorem lays0 : Tryd.prog.laysLater = false := by kernel_rfl
theorem refl0 : Tryd.prog.bearsReflect = false := by kernel_rfl
theorem door0 : Tryd.prog.doorFits [] = true := by kernel_rfl
theorem mayEnter_of {P : Program} {L : List (List Char)} (h1 : behindMainWord (wordsSigns P.initOrder.toList) = L) (h2 : stripLifts liftWords L = ([], L)) (h3 : L.head? = some "cut".toList)
    (l0 : P.laysLater = false) (r0 : P.bearsReflect = false) (d0 : P.doorFits [] = true) : P.mayEnter = true := by
  unfold Program.mayEnter
  rw [h1]
  cases L with
  | nil => cases h3
  | cons c r =>
    dsimp only
    rw [h2]
    simp [h3, l0, r0, d0]
theorem mayEnter : Tryd.prog.mayEnter = true := mayEnter_of hw sl0 hdHead lays0 refl0 door0
theorem make_of {P : Program} {L : List (List Char)} (h1 : behindMainWord (wordsSigns P.initOrder.toList) = L) (h3 : L.head? = some "cut".toList) : P.make = some .cut := by
  unfold Program.make
  rw [h1]
  cases L with
  | nil => cases h3
  | cons c r =>
    simp only [List.head?_cons, Option.some.injEq] at h3
    subst h3
    dsimp only
    rw [if_neg (by decide), if_pos (by rw [Bool.or_eq_true]; exact .inl (beq_self_eq_true _))]
theorem make0 : Tryd.prog.make = some .cut := make_of hw hdHead
theorem mapsRowed0 : mapsRowed Tryd.prog = true := by kernel_rfl
theorem stops0 : Tryd.prog.stops = [] := by kernel_rfl
theorem stopKnobs0 : Tryd.prog.stopKnobs = [] := by kernel_rfl
theorem stopsHeard0 : Tryd.prog.stopsHeard = true := by kernel_rfl
theorem plainKeys0 : Tryd.prog.plainKeys = true := by kernel_rfl
theorem mainIs_of {P : Program} {S : List Char} (h : (wordsSigns P.initOrder.toList).take 2 = ["harness".toList, S]) (hs : isSumSigns S = true) : P.mainIs = some (true, S) := by
  unfold Program.mainIs
  generalize wordsSigns P.initOrder.toList = W at h
  match W, h with
  | a :: b :: r, h =>
    simp only [List.take_succ_cons, List.take_zero, List.cons.injEq, and_true] at h
    obtain ⟨rfl, rfl⟩ := h
    dsimp only
    rw [hs, if_neg (by decide), if_pos (beq_self_eq_true _)]
def sumNats : List Nat := [52, 98, 51, 52, 100, 101, 101, 54, 54, 57, 99, 57, 55, 55, 51, 52, 54, 98, 57, 102, 55, 48, 101, 51, 100, 101, 49, 51, 101, 49, 49, 99, 54, 99, 52, 49, 54, 99, 55, 53, 56, 98, 57, 54, 52, 101, 98, 102, 54, 51, 52, 101, 50, 101, 56, 53, 100, 101, 97, 100, 49, 51, 97, 56]
theorem sum0 : isSumSigns (sumNats.map Char.ofNat) = true := by kernel_rfl
theorem hm1 : (wordsSigns (hdNats.map Char.ofNat)).take 2 = ["harness".toList, sumNats.map Char.ofNat] := by kernel_rfl
theorem sum1 : "4b34dee669c977346b9f70e3de13e11c6c416c758b964ebf634e2e85dead13a8".toList = sumNats.map Char.ofNat := by
  rw [show "4b34dee669c977346b9f70e3de13e11c6c416c758b964ebf634e2e85dead13a8" = String.ofList (sumNats.map Char.ofNat) by rfl]
  exact String.toList_ofList
theorem mainIs0 : Tryd.prog.mainIs = some (true, "4b34dee669c977346b9f70e3de13e11c6c416c758b964ebf634e2e85dead13a8".toList) := by
  rw [sum1]
  exact mainIs_of (by rw [hd]; exact hm1) sum0

/-- the row's own facts that are small. -/
def smallFacts (P : Program) (fn : Func) (s : ChangeSpec) (c : OpenClaim) : Bool :=
  c.wf (OpenSpec.ofChange s) && fn.params.all (P.readableRec ·) && namedTie P c.named s.vars &&
  (c.stops == []) && (c.knobs == []) &&
  (c.maps == (fn.params.toList ++ s.plain.varTypes P).any (P.mapsRec ·)) && (c.ifaces == (fn.params.toList ++ s.plain.varTypes P).any (P.ifacesRec ·)) && (c.mapsOut == P.mapsAmong fn.resultTypes.toList) &&
  (c.loops == (fn.params.toList ++ s.plain.varTypes P).any (P.loopsFrom ·)) && (c.wideKeys == (fn.params.toList ++ s.plain.varTypes P ++ fn.resultTypes.toList).any (P.wideKeysFrom ·)) &&
  s.vars.all (P.varReadable ·) && fn.resultTypes.all (fun t => P.readableRec t && decide (t < P.types.size)) && (c.ifacesOut == fn.resultTypes.toList.any (P.ifacesRec ·)) && (c.loopsOut == fn.resultTypes.toList.any (P.loopsFrom ·)) && c.shortTexts.isNone &&
  (c.kinds == (if c.domain.isEmpty then [] else fn.params.toList.map fun t => match P.underlying t with | some (.int k) => some k | _ => none)) && (c.pinned == c.pinnedBy) &&
  (c.veiled == (fn.params.toList ++ s.plain.varTypes P ++ fn.resultTypes.toList).any (P.veiledRec ·)) && c.veiledFits P fn.params.toList (fn.params.toList ++ s.plain.varTypes P ++ fn.resultTypes.toList)

theorem joined_of {P : Program} {f : FuncId} {fn : Func} {s : ChangeSpec} {c : OpenClaim} (hs : smallFacts P fn s c = true)
    (g1 : laidOutB P = true) (g2 : mapsRowed P = true) (g3 : P.stops = []) (g4 : P.stopKnobs = []) (g5 : P.stopsHeard = true) (g6 : P.mayEnter = true) (g7 : c.lifted = P.liftsFinal) (g8 : P.make = some c.make) (g9 : c.plainKeys = P.plainKeys)
    (f1 : c.inPlace = P.inPlace f) (f2 : c.unfollowed = P.unfollowed f) (f3 : c.recurses = P.recurses f) (f4 : c.named = P.varsNamed f) : joinedFacts P f fn s c = true := by
  unfold smallFacts at hs
  simp only [Bool.and_eq_true] at hs
  obtain ⟨⟨⟨⟨⟨⟨⟨⟨⟨⟨⟨⟨⟨⟨⟨⟨⟨⟨k1, k2⟩, k3⟩, k4⟩, k5⟩, k6⟩, k7⟩, k8⟩, k9⟩, k10⟩, k11⟩, k12⟩, k13⟩, k14⟩, k15⟩, k16⟩, k17⟩, k18⟩, k19⟩ := hs
  unfold joinedFacts
  simp only [Bool.and_eq_true]
  exact ⟨⟨⟨⟨⟨⟨⟨⟨⟨⟨⟨⟨⟨⟨⟨⟨⟨⟨⟨⟨⟨⟨⟨⟨⟨⟨⟨⟨⟨⟨⟨k1, g1⟩, g2⟩, k2⟩, k3⟩, k4⟩, beq_iff_eq.2 g3⟩, k5⟩, beq_iff_eq.2 g4⟩, beq_iff_eq.2 f1⟩, beq_iff_eq.2 f2⟩, beq_iff_eq.2 f3⟩, beq_iff_eq.2 f4⟩, k6⟩, k7⟩, k8⟩, k9⟩, k10⟩, k11⟩, k12⟩, k13⟩, k14⟩, beq_iff_eq.2 g9⟩, k15⟩, g5⟩, g6⟩, beq_iff_eq.2 g7⟩, beq_iff_eq.2 g8⟩, k16⟩, k17⟩, k18⟩, k19⟩
end Go.Proofs.YtniejpfjbifjkaaDoor
