/-
  NARROWER THAN 'FOR EVERY INPUT', by the rows' own cells (each row's printed sentence says how): WeightClean: laid · WeightOrder: laid · WeightGrows: laid · WeightFirst: laid · WeightLists: laid · WeightTurns: laid · WeightFair: laid · MaglevOrder: laid · MaglevBuilds: laid · MaglevHolds: laid · MaglevDull: laid · MaglevScaled: laid · MaglevFirst: laid · MaglevFinds: laid · MaglevFar: laid · LifeEach: laid · LifeGrows: laid · LifeVotes: laid · LifeTells: laid.
  DERIVED. THE GIVEN ROWS OF THIS SEAT. 19 by the template 'for every input the law returns true; each argument reads behind the call as it read before'; 0 by the template 'total and deterministic' (their statements: YtniejpfjbifjkaaDoorTotals.lean).
  GIVEN WITH THE SEED: the statements are not yours to turn. If you find one false, say at which input.
  Laid BY PROGRAM, IN A SANDBOX (cutbox-rows.mjs): the forced cells as the released guide's own fill.sh prints them over the translation 3b66b598cc8e25d6… (all of the seat's roots in one cut). By AI agents, Wed Nov 11 2026. No macro, syntax, notation, axiom, sorry.
-/
import Derived.Test.YtniejpfjbifjkaaDoorChecked
import GoSem.Claim
import GoSem.ClaimJoined
import GoSem.ClaimMapViews
import Derived.JoinedTies
import Derived.KernelRfl
namespace Go.Proofs.YtniejpfjbifjkaaDoor
/- THE CELL 'sum', in the pinned program and in every row, IS THE sha256 OF THE DUMP (.gsa) THAT YtniejpfjbifjkaaDoorProg.lean LOADS. Nothing in Lean hashes anything: it is a label: what it is worth is what the hold of that sum in a sandbox is worth. -/
noncomputable def Tryd.pinned : Pinned := { name := "ytniejpfjbifjkaadoor", sum := "3b66b598cc8e25d613bb9703d30b74bc94e355dfc3eebc81d31d0248d8917f75", checked := Tryd.checked }
namespace Rows
def none {H : Type} : Left H := { results := [], args := [] }

/- WHAT THE LISTED PACKAGE-LEVEL VARIABLES READ AS WHEN THE CALL BEGINS. Each datum BY PROGRAM (the guide's laid-datum.mjs) off the statement by which the dump's own 'gosem.cut.vars' lays the variable. In a bare row this is a premise. The card (YtniejpfjbifjkaaDoorCards.lean) ties it to the program's text. -/
def laid_steelyard_weight_counts {H : Type} : DataW H := .agg [.lit (.float .f64 0), .lit (.float .f64 0), .lit (.float .f64 0), .lit (.float .f64 0), .lit (.float .f64 9218868437227405311), .lit (.float .f64 0)]

/-- 'steelyardlaw08.WeightClean': WHATEVER THE INPUT: true; the input reads as it did. -/
def weightCleanSpec : ChangeSpec := { name := "weightClean", fn := fun _ => fun
  | [d1, d2] => { results := [.lit (.bool true)], args := [d1, d2] }
  | _ => none }
def weightCleanRow : OpenClaim := { program := "ytniejpfjbifjkaadoor", sum := "3b66b598cc8e25d613bb9703d30b74bc94e355dfc3eebc81d31d0248d8917f75", func := "steelyard/steelyardlaw08.WeightClean", spec := "weightClean", inPlace := ["math.Float64bits", "math.Float64frombits"], named := ["steelyard/weight.counts"], apart := false, laid := [("steelyard/weight.counts", laid_steelyard_weight_counts)] }
def WeightCleanSaid : Prop := weightCleanRow.holds Tryd.pinned (OpenSpec.ofChange weightCleanSpec)

/-- ITS FALSE NEIGHBOUR: 'it returns false'. Refute it at one input. -/
def weightCleanWrong : ChangeSpec := { name := "weightClean", fn := fun _ => fun
  | [d1, d2] => { results := [.lit (.bool false)], args := [d1, d2] }
  | _ => none }
def WeightCleanWrongFalsely : Prop := weightCleanRow.holds Tryd.pinned (OpenSpec.ofChange weightCleanWrong)

/-- 'steelyardlaw08.WeightOrder': WHATEVER THE INPUT: true; the input reads as it did. -/
def weightOrderSpec : ChangeSpec := { name := "weightOrder", fn := fun _ => fun
  | [d1, d2, d3] => { results := [.lit (.bool true)], args := [d1, d2, d3] }
  | _ => none }
def weightOrderRow : OpenClaim := { program := "ytniejpfjbifjkaadoor", sum := "3b66b598cc8e25d613bb9703d30b74bc94e355dfc3eebc81d31d0248d8917f75", func := "steelyard/steelyardlaw08.WeightOrder", spec := "weightOrder", inPlace := ["math.Float64bits", "math.Float64frombits"], named := ["steelyard/weight.counts"], apart := false, laid := [("steelyard/weight.counts", laid_steelyard_weight_counts)] }
def WeightOrderSaid : Prop := weightOrderRow.holds Tryd.pinned (OpenSpec.ofChange weightOrderSpec)

/-- ITS FALSE NEIGHBOUR: 'it returns false'. Refute it at one input. -/
def weightOrderWrong : ChangeSpec := { name := "weightOrder", fn := fun _ => fun
  | [d1, d2, d3] => { results := [.lit (.bool false)], args := [d1, d2, d3] }
  | _ => none }
def WeightOrderWrongFalsely : Prop := weightOrderRow.holds Tryd.pinned (OpenSpec.ofChange weightOrderWrong)

/-- 'steelyardlaw08.WeightGrows': WHATEVER THE INPUT: true; the input reads as it did. -/
def weightGrowsSpec : ChangeSpec := { name := "weightGrows", fn := fun _ => fun
  | [d1, d2, d3, d4] => { results := [.lit (.bool true)], args := [d1, d2, d3, d4] }
  | _ => none }
def weightGrowsRow : OpenClaim := { program := "ytniejpfjbifjkaadoor", sum := "3b66b598cc8e25d613bb9703d30b74bc94e355dfc3eebc81d31d0248d8917f75", func := "steelyard/steelyardlaw08.WeightGrows", spec := "weightGrows", inPlace := ["math.Float64bits", "math.Float64frombits"], named := ["steelyard/weight.counts"], apart := false, laid := [("steelyard/weight.counts", laid_steelyard_weight_counts)] }
def WeightGrowsSaid : Prop := weightGrowsRow.holds Tryd.pinned (OpenSpec.ofChange weightGrowsSpec)

/-- ITS FALSE NEIGHBOUR: 'it returns false'. Refute it at one input. -/
def weightGrowsWrong : ChangeSpec := { name := "weightGrows", fn := fun _ => fun
  | [d1, d2, d3, d4] => { results := [.lit (.bool false)], args := [d1, d2, d3, d4] }
  | _ => none }
def WeightGrowsWrongFalsely : Prop := weightGrowsRow.holds Tryd.pinned (OpenSpec.ofChange weightGrowsWrong)

/-- 'steelyardlaw08.WeightFirst': WHATEVER THE INPUT: true; the input reads as it did. -/
def weightFirstSpec : ChangeSpec := { name := "weightFirst", fn := fun _ => fun
  | [d1, d2, d3] => { results := [.lit (.bool true)], args := [d1, d2, d3] }
  | _ => none }
def weightFirstRow : OpenClaim := { program := "ytniejpfjbifjkaadoor", sum := "3b66b598cc8e25d613bb9703d30b74bc94e355dfc3eebc81d31d0248d8917f75", func := "steelyard/steelyardlaw08.WeightFirst", spec := "weightFirst", inPlace := ["math.Float64bits", "math.Float64frombits"], named := ["steelyard/weight.counts"], apart := false, laid := [("steelyard/weight.counts", laid_steelyard_weight_counts)] }
def WeightFirstSaid : Prop := weightFirstRow.holds Tryd.pinned (OpenSpec.ofChange weightFirstSpec)

/-- ITS FALSE NEIGHBOUR: 'it returns false'. Refute it at one input. -/
def weightFirstWrong : ChangeSpec := { name := "weightFirst", fn := fun _ => fun
  | [d1, d2, d3] => { results := [.lit (.bool false)], args := [d1, d2, d3] }
  | _ => none }
def WeightFirstWrongFalsely : Prop := weightFirstRow.holds Tryd.pinned (OpenSpec.ofChange weightFirstWrong)

/-- 'steelyardlaw08.WeightLists': WHATEVER THE INPUT: true; the input reads as it did. -/
def weightListsSpec : ChangeSpec := { name := "weightLists", fn := fun _ => fun
  | [d] => { results := [.lit (.bool true)], args := [d] }
  | _ => none }
def weightListsRow : OpenClaim := { program := "ytniejpfjbifjkaadoor", sum := "3b66b598cc8e25d613bb9703d30b74bc94e355dfc3eebc81d31d0248d8917f75", func := "steelyard/steelyardlaw08.WeightLists", spec := "weightLists", inPlace := ["math.Float64bits", "math.Float64frombits"], named := ["steelyard/weight.counts"], apart := false, laid := [("steelyard/weight.counts", laid_steelyard_weight_counts)] }
def WeightListsSaid : Prop := weightListsRow.holds Tryd.pinned (OpenSpec.ofChange weightListsSpec)

/-- ITS FALSE NEIGHBOUR: 'it returns false'. Refute it at one input. -/
def weightListsWrong : ChangeSpec := { name := "weightLists", fn := fun _ => fun
  | [d] => { results := [.lit (.bool false)], args := [d] }
  | _ => none }
def WeightListsWrongFalsely : Prop := weightListsRow.holds Tryd.pinned (OpenSpec.ofChange weightListsWrong)

/-- 'steelyardlaw08.WeightTurns': WHATEVER THE INPUT: true; the input reads as it did. -/
def weightTurnsSpec : ChangeSpec := { name := "weightTurns", fn := fun _ => fun
  | [d1, d2] => { results := [.lit (.bool true)], args := [d1, d2] }
  | _ => none }
def weightTurnsRow : OpenClaim := { program := "ytniejpfjbifjkaadoor", sum := "3b66b598cc8e25d613bb9703d30b74bc94e355dfc3eebc81d31d0248d8917f75", func := "steelyard/steelyardlaw08.WeightTurns", spec := "weightTurns", inPlace := ["math.Float64bits", "math.Float64frombits"], named := ["steelyard/weight.counts"], apart := false, laid := [("steelyard/weight.counts", laid_steelyard_weight_counts)] }
def WeightTurnsSaid : Prop := weightTurnsRow.holds Tryd.pinned (OpenSpec.ofChange weightTurnsSpec)

/-- ITS FALSE NEIGHBOUR: 'it returns false'. Refute it at one input. -/
def weightTurnsWrong : ChangeSpec := { name := "weightTurns", fn := fun _ => fun
  | [d1, d2] => { results := [.lit (.bool false)], args := [d1, d2] }
  | _ => none }
def WeightTurnsWrongFalsely : Prop := weightTurnsRow.holds Tryd.pinned (OpenSpec.ofChange weightTurnsWrong)

/-- 'steelyardlaw08.WeightFair': WHATEVER THE INPUT: true; the input reads as it did. -/
def weightFairSpec : ChangeSpec := { name := "weightFair", fn := fun _ => fun
  | [d1, d2, d3, d4] => { results := [.lit (.bool true)], args := [d1, d2, d3, d4] }
  | _ => none }
def weightFairRow : OpenClaim := { program := "ytniejpfjbifjkaadoor", sum := "3b66b598cc8e25d613bb9703d30b74bc94e355dfc3eebc81d31d0248d8917f75", func := "steelyard/steelyardlaw08.WeightFair", spec := "weightFair", inPlace := ["math.Float64bits", "math.Float64frombits"], named := ["steelyard/weight.counts"], apart := false, laid := [("steelyard/weight.counts", laid_steelyard_weight_counts)] }
def WeightFairSaid : Prop := weightFairRow.holds Tryd.pinned (OpenSpec.ofChange weightFairSpec)

/-- ITS FALSE NEIGHBOUR: 'it returns false'. Refute it at one input. -/
def weightFairWrong : ChangeSpec := { name := "weightFair", fn := fun _ => fun
  | [d1, d2, d3, d4] => { results := [.lit (.bool false)], args := [d1, d2, d3, d4] }
  | _ => none }
def WeightFairWrongFalsely : Prop := weightFairRow.holds Tryd.pinned (OpenSpec.ofChange weightFairWrong)

/-- 'steelyardlaw10.MaglevOrder': WHATEVER THE INPUT: true; the input reads as it did. -/
def maglevOrderSpec : ChangeSpec := { name := "maglevOrder", fn := fun _ => fun
  | [d1, d2, d3] => { results := [.lit (.bool true)], args := [d1, d2, d3] }
  | _ => none }
def maglevOrderRow : OpenClaim := { program := "ytniejpfjbifjkaadoor", sum := "3b66b598cc8e25d613bb9703d30b74bc94e355dfc3eebc81d31d0248d8917f75", func := "steelyard/steelyardlaw10.MaglevOrder", spec := "maglevOrder", inPlace := ["math.Float64bits", "math.Float64frombits"], named := ["steelyard/weight.counts"], apart := false, laid := [("steelyard/weight.counts", laid_steelyard_weight_counts)] }
def MaglevOrderSaid : Prop := maglevOrderRow.holds Tryd.pinned (OpenSpec.ofChange maglevOrderSpec)

/-- ITS FALSE NEIGHBOUR: 'it returns false'. Refute it at one input. -/
def maglevOrderWrong : ChangeSpec := { name := "maglevOrder", fn := fun _ => fun
  | [d1, d2, d3] => { results := [.lit (.bool false)], args := [d1, d2, d3] }
  | _ => none }
def MaglevOrderWrongFalsely : Prop := maglevOrderRow.holds Tryd.pinned (OpenSpec.ofChange maglevOrderWrong)

/-- 'steelyardlaw10.MaglevBuilds': WHATEVER THE INPUT: true; the input reads as it did. -/
def maglevBuildsSpec : ChangeSpec := { name := "maglevBuilds", fn := fun _ => fun
  | [d1, d2] => { results := [.lit (.bool true)], args := [d1, d2] }
  | _ => none }
def maglevBuildsRow : OpenClaim := { program := "ytniejpfjbifjkaadoor", sum := "3b66b598cc8e25d613bb9703d30b74bc94e355dfc3eebc81d31d0248d8917f75", func := "steelyard/steelyardlaw10.MaglevBuilds", spec := "maglevBuilds", inPlace := ["math.Float64bits", "math.Float64frombits"], named := ["steelyard/weight.counts"], apart := false, laid := [("steelyard/weight.counts", laid_steelyard_weight_counts)] }
def MaglevBuildsSaid : Prop := maglevBuildsRow.holds Tryd.pinned (OpenSpec.ofChange maglevBuildsSpec)

/-- ITS FALSE NEIGHBOUR: 'it returns false'. Refute it at one input. -/
def maglevBuildsWrong : ChangeSpec := { name := "maglevBuilds", fn := fun _ => fun
  | [d1, d2] => { results := [.lit (.bool false)], args := [d1, d2] }
  | _ => none }
def MaglevBuildsWrongFalsely : Prop := maglevBuildsRow.holds Tryd.pinned (OpenSpec.ofChange maglevBuildsWrong)

/-- 'steelyardlaw10.MaglevHolds': WHATEVER THE INPUT: true; the input reads as it did. -/
def maglevHoldsSpec : ChangeSpec := { name := "maglevHolds", fn := fun _ => fun
  | [d1, d2] => { results := [.lit (.bool true)], args := [d1, d2] }
  | _ => none }
def maglevHoldsRow : OpenClaim := { program := "ytniejpfjbifjkaadoor", sum := "3b66b598cc8e25d613bb9703d30b74bc94e355dfc3eebc81d31d0248d8917f75", func := "steelyard/steelyardlaw10.MaglevHolds", spec := "maglevHolds", inPlace := ["math.Float64bits", "math.Float64frombits"], named := ["steelyard/weight.counts"], apart := false, laid := [("steelyard/weight.counts", laid_steelyard_weight_counts)] }
def MaglevHoldsSaid : Prop := maglevHoldsRow.holds Tryd.pinned (OpenSpec.ofChange maglevHoldsSpec)

/-- ITS FALSE NEIGHBOUR: 'it returns false'. Refute it at one input. -/
def maglevHoldsWrong : ChangeSpec := { name := "maglevHolds", fn := fun _ => fun
  | [d1, d2] => { results := [.lit (.bool false)], args := [d1, d2] }
  | _ => none }
def MaglevHoldsWrongFalsely : Prop := maglevHoldsRow.holds Tryd.pinned (OpenSpec.ofChange maglevHoldsWrong)

/-- 'steelyardlaw10.MaglevDull': WHATEVER THE INPUT: true; the input reads as it did. -/
def maglevDullSpec : ChangeSpec := { name := "maglevDull", fn := fun _ => fun
  | [d1, d2] => { results := [.lit (.bool true)], args := [d1, d2] }
  | _ => none }
def maglevDullRow : OpenClaim := { program := "ytniejpfjbifjkaadoor", sum := "3b66b598cc8e25d613bb9703d30b74bc94e355dfc3eebc81d31d0248d8917f75", func := "steelyard/steelyardlaw10.MaglevDull", spec := "maglevDull", inPlace := ["math.Float64bits", "math.Float64frombits"], named := ["steelyard/weight.counts"], apart := false, laid := [("steelyard/weight.counts", laid_steelyard_weight_counts)] }
def MaglevDullSaid : Prop := maglevDullRow.holds Tryd.pinned (OpenSpec.ofChange maglevDullSpec)

/-- ITS FALSE NEIGHBOUR: 'it returns false'. Refute it at one input. -/
def maglevDullWrong : ChangeSpec := { name := "maglevDull", fn := fun _ => fun
  | [d1, d2] => { results := [.lit (.bool false)], args := [d1, d2] }
  | _ => none }
def MaglevDullWrongFalsely : Prop := maglevDullRow.holds Tryd.pinned (OpenSpec.ofChange maglevDullWrong)

/-- 'steelyardlaw10.MaglevScaled': WHATEVER THE INPUT: true; the input reads as it did. -/
def maglevScaledSpec : ChangeSpec := { name := "maglevScaled", fn := fun _ => fun
  | [d1, d2] => { results := [.lit (.bool true)], args := [d1, d2] }
  | _ => none }
def maglevScaledRow : OpenClaim := { program := "ytniejpfjbifjkaadoor", sum := "3b66b598cc8e25d613bb9703d30b74bc94e355dfc3eebc81d31d0248d8917f75", func := "steelyard/steelyardlaw10.MaglevScaled", spec := "maglevScaled", inPlace := ["math.Float64bits", "math.Float64frombits"], named := ["steelyard/weight.counts"], apart := false, laid := [("steelyard/weight.counts", laid_steelyard_weight_counts)] }
def MaglevScaledSaid : Prop := maglevScaledRow.holds Tryd.pinned (OpenSpec.ofChange maglevScaledSpec)

/-- ITS FALSE NEIGHBOUR: 'it returns false'. Refute it at one input. -/
def maglevScaledWrong : ChangeSpec := { name := "maglevScaled", fn := fun _ => fun
  | [d1, d2] => { results := [.lit (.bool false)], args := [d1, d2] }
  | _ => none }
def MaglevScaledWrongFalsely : Prop := maglevScaledRow.holds Tryd.pinned (OpenSpec.ofChange maglevScaledWrong)

/-- 'steelyardlaw10.MaglevFirst': WHATEVER THE INPUT: true; the input reads as it did. -/
def maglevFirstSpec : ChangeSpec := { name := "maglevFirst", fn := fun _ => fun
  | [d1, d2] => { results := [.lit (.bool true)], args := [d1, d2] }
  | _ => none }
def maglevFirstRow : OpenClaim := { program := "ytniejpfjbifjkaadoor", sum := "3b66b598cc8e25d613bb9703d30b74bc94e355dfc3eebc81d31d0248d8917f75", func := "steelyard/steelyardlaw10.MaglevFirst", spec := "maglevFirst", inPlace := ["math.Float64bits", "math.Float64frombits"], named := ["steelyard/weight.counts"], apart := false, laid := [("steelyard/weight.counts", laid_steelyard_weight_counts)] }
def MaglevFirstSaid : Prop := maglevFirstRow.holds Tryd.pinned (OpenSpec.ofChange maglevFirstSpec)

/-- ITS FALSE NEIGHBOUR: 'it returns false'. Refute it at one input. -/
def maglevFirstWrong : ChangeSpec := { name := "maglevFirst", fn := fun _ => fun
  | [d1, d2] => { results := [.lit (.bool false)], args := [d1, d2] }
  | _ => none }
def MaglevFirstWrongFalsely : Prop := maglevFirstRow.holds Tryd.pinned (OpenSpec.ofChange maglevFirstWrong)

/-- 'steelyardlaw10.MaglevFinds': WHATEVER THE INPUT: true; the input reads as it did. -/
def maglevFindsSpec : ChangeSpec := { name := "maglevFinds", fn := fun _ => fun
  | [d1, d2, d3, d4] => { results := [.lit (.bool true)], args := [d1, d2, d3, d4] }
  | _ => none }
def maglevFindsRow : OpenClaim := { program := "ytniejpfjbifjkaadoor", sum := "3b66b598cc8e25d613bb9703d30b74bc94e355dfc3eebc81d31d0248d8917f75", func := "steelyard/steelyardlaw10.MaglevFinds", spec := "maglevFinds", inPlace := ["math.Float64bits", "math.Float64frombits"], named := ["steelyard/weight.counts"], apart := false, laid := [("steelyard/weight.counts", laid_steelyard_weight_counts)] }
def MaglevFindsSaid : Prop := maglevFindsRow.holds Tryd.pinned (OpenSpec.ofChange maglevFindsSpec)

/-- ITS FALSE NEIGHBOUR: 'it returns false'. Refute it at one input. -/
def maglevFindsWrong : ChangeSpec := { name := "maglevFinds", fn := fun _ => fun
  | [d1, d2, d3, d4] => { results := [.lit (.bool false)], args := [d1, d2, d3, d4] }
  | _ => none }
def MaglevFindsWrongFalsely : Prop := maglevFindsRow.holds Tryd.pinned (OpenSpec.ofChange maglevFindsWrong)

/-- 'steelyardlaw10.MaglevFar': WHATEVER THE INPUT: true; the input reads as it did. -/
def maglevFarSpec : ChangeSpec := { name := "maglevFar", fn := fun _ => fun
  | [d1, d2, d3] => { results := [.lit (.bool true)], args := [d1, d2, d3] }
  | _ => none }
def maglevFarRow : OpenClaim := { program := "ytniejpfjbifjkaadoor", sum := "3b66b598cc8e25d613bb9703d30b74bc94e355dfc3eebc81d31d0248d8917f75", func := "steelyard/steelyardlaw10.MaglevFar", spec := "maglevFar", inPlace := ["math.Float64bits", "math.Float64frombits"], named := ["steelyard/weight.counts"], apart := false, laid := [("steelyard/weight.counts", laid_steelyard_weight_counts)] }
def MaglevFarSaid : Prop := maglevFarRow.holds Tryd.pinned (OpenSpec.ofChange maglevFarSpec)

/-- ITS FALSE NEIGHBOUR: 'it returns false'. Refute it at one input. -/
def maglevFarWrong : ChangeSpec := { name := "maglevFar", fn := fun _ => fun
  | [d1, d2, d3] => { results := [.lit (.bool false)], args := [d1, d2, d3] }
  | _ => none }
def MaglevFarWrongFalsely : Prop := maglevFarRow.holds Tryd.pinned (OpenSpec.ofChange maglevFarWrong)

/-- 'steelyardlaw12.LifeEach': WHATEVER THE INPUT: true; the input reads as it did. -/
def lifeEachSpec : ChangeSpec := { name := "lifeEach", fn := fun _ => fun
  | [d1, d2, d3] => { results := [.lit (.bool true)], args := [d1, d2, d3] }
  | _ => none }
def lifeEachRow : OpenClaim := { program := "ytniejpfjbifjkaadoor", sum := "3b66b598cc8e25d613bb9703d30b74bc94e355dfc3eebc81d31d0248d8917f75", func := "steelyard/steelyardlaw12.LifeEach", spec := "lifeEach", inPlace := ["math.Float64bits", "math.Float64frombits", "internal/bytealg.Compare"], unfollowed := true, recurses := true, named := ["steelyard/weight.counts"], apart := false, laid := [("steelyard/weight.counts", laid_steelyard_weight_counts)] }
def LifeEachSaid : Prop := lifeEachRow.holds Tryd.pinned (OpenSpec.ofChange lifeEachSpec)

/-- ITS FALSE NEIGHBOUR: 'it returns false'. Refute it at one input. -/
def lifeEachWrong : ChangeSpec := { name := "lifeEach", fn := fun _ => fun
  | [d1, d2, d3] => { results := [.lit (.bool false)], args := [d1, d2, d3] }
  | _ => none }
def LifeEachWrongFalsely : Prop := lifeEachRow.holds Tryd.pinned (OpenSpec.ofChange lifeEachWrong)

/-- 'steelyardlaw12.LifeGrows': WHATEVER THE INPUT: true; the input reads as it did. -/
def lifeGrowsSpec : ChangeSpec := { name := "lifeGrows", fn := fun _ => fun
  | [d1, d2, d3] => { results := [.lit (.bool true)], args := [d1, d2, d3] }
  | _ => none }
def lifeGrowsRow : OpenClaim := { program := "ytniejpfjbifjkaadoor", sum := "3b66b598cc8e25d613bb9703d30b74bc94e355dfc3eebc81d31d0248d8917f75", func := "steelyard/steelyardlaw12.LifeGrows", spec := "lifeGrows", inPlace := ["math.Float64bits", "math.Float64frombits", "internal/bytealg.Compare"], unfollowed := true, recurses := true, named := ["steelyard/weight.counts"], apart := false, laid := [("steelyard/weight.counts", laid_steelyard_weight_counts)] }
def LifeGrowsSaid : Prop := lifeGrowsRow.holds Tryd.pinned (OpenSpec.ofChange lifeGrowsSpec)

/-- ITS FALSE NEIGHBOUR: 'it returns false'. Refute it at one input. -/
def lifeGrowsWrong : ChangeSpec := { name := "lifeGrows", fn := fun _ => fun
  | [d1, d2, d3] => { results := [.lit (.bool false)], args := [d1, d2, d3] }
  | _ => none }
def LifeGrowsWrongFalsely : Prop := lifeGrowsRow.holds Tryd.pinned (OpenSpec.ofChange lifeGrowsWrong)

/-- 'steelyardlaw12.LifeVotes': WHATEVER THE INPUT: true; the input reads as it did. -/
def lifeVotesSpec : ChangeSpec := { name := "lifeVotes", fn := fun _ => fun
  | [d1, d2, d3, d4] => { results := [.lit (.bool true)], args := [d1, d2, d3, d4] }
  | _ => none }
def lifeVotesRow : OpenClaim := { program := "ytniejpfjbifjkaadoor", sum := "3b66b598cc8e25d613bb9703d30b74bc94e355dfc3eebc81d31d0248d8917f75", func := "steelyard/steelyardlaw12.LifeVotes", spec := "lifeVotes", inPlace := ["math.Float64bits", "math.Float64frombits", "internal/bytealg.Compare"], unfollowed := true, recurses := true, named := ["steelyard/weight.counts"], apart := false, laid := [("steelyard/weight.counts", laid_steelyard_weight_counts)] }
def LifeVotesSaid : Prop := lifeVotesRow.holds Tryd.pinned (OpenSpec.ofChange lifeVotesSpec)

/-- ITS FALSE NEIGHBOUR: 'it returns false'. Refute it at one input. -/
def lifeVotesWrong : ChangeSpec := { name := "lifeVotes", fn := fun _ => fun
  | [d1, d2, d3, d4] => { results := [.lit (.bool false)], args := [d1, d2, d3, d4] }
  | _ => none }
def LifeVotesWrongFalsely : Prop := lifeVotesRow.holds Tryd.pinned (OpenSpec.ofChange lifeVotesWrong)

/-- 'steelyardlaw12.LifeTells': WHATEVER THE INPUT: true; the input reads as it did. -/
def lifeTellsSpec : ChangeSpec := { name := "lifeTells", fn := fun _ => fun
  | [d1, d2, d3, d4] => { results := [.lit (.bool true)], args := [d1, d2, d3, d4] }
  | _ => none }
def lifeTellsRow : OpenClaim := { program := "ytniejpfjbifjkaadoor", sum := "3b66b598cc8e25d613bb9703d30b74bc94e355dfc3eebc81d31d0248d8917f75", func := "steelyard/steelyardlaw12.LifeTells", spec := "lifeTells", inPlace := ["math.Float64bits", "math.Float64frombits", "internal/bytealg.Compare"], unfollowed := true, recurses := true, named := ["steelyard/weight.counts"], apart := false, laid := [("steelyard/weight.counts", laid_steelyard_weight_counts)] }
def LifeTellsSaid : Prop := lifeTellsRow.holds Tryd.pinned (OpenSpec.ofChange lifeTellsSpec)

/-- ITS FALSE NEIGHBOUR: 'it returns false'. Refute it at one input. -/
def lifeTellsWrong : ChangeSpec := { name := "lifeTells", fn := fun _ => fun
  | [d1, d2, d3, d4] => { results := [.lit (.bool false)], args := [d1, d2, d3, d4] }
  | _ => none }
def LifeTellsWrongFalsely : Prop := lifeTellsRow.holds Tryd.pinned (OpenSpec.ofChange lifeTellsWrong)

/- THE SECOND FORM. 'bulk': how many values and letters a reading holds, each counted each time it is reached (what is shared counts as often as it is met; a slice's spare places count too). A statement '..UptoSaid' is the law's where the arguments, and the package variables that the reading takes, are together of bulk at most 1048576: NARROWER than '..Said'. Prove '..Said' where nothing that the law and all that it calls make is longer than what came in: it says more and counts as full. Else prove '..UptoSaid'. A law counts once. -/
mutual
def uptoBulk {H : Type} : DataW H → Nat
  | .lit (.string bytes) => bytes.length + 1
  | .lit _ => 1
  | .nil => 1
  | .ptr d => uptoBulk d + 1
  | .slice elems spare => uptoBulkAll elems + uptoBulkAll spare + 1
  | .agg parts => uptoBulkAll parts + 1
  | .iface _ d => uptoBulk d + 1
  | .map entries => uptoBulkEntries entries + 1
  | .held _ => 1
def uptoBulkAll {H : Type} : List (DataW H) → Nat
  | [] => 0
  | d :: r => uptoBulk d + uptoBulkAll r
def uptoBulkEntries {H : Type} : List (Lit × DataW H) → Nat
  | [] => 0
  | x :: r => uptoBulkEntry x + uptoBulkEntries r
def uptoBulkEntry {H : Type} : Lit × DataW H → Nat
  | (.string bytes, d) => bytes.length + uptoBulk d + 1
  | (_, d) => uptoBulk d + 1
 end
def uptoSmall : (H : Type) → List (DataW H) → Bool := fun _ ds => decide (uptoBulkAll ds ≤ 1048576)
def OpenSpec.upto (s : _root_.Go.ChangeSpec) : _root_.Go.OpenSpec := { _root_.Go.OpenSpec.ofChange s with cond := some uptoSmall }

/-- 'steelyardlaw08.WeightClean', WHERE WHAT IT READS IS OF BULK AT MOST 1048576: true; the input reads as it did. -/
def weightCleanUptoRow : OpenClaim := { program := "ytniejpfjbifjkaadoor", sum := "3b66b598cc8e25d613bb9703d30b74bc94e355dfc3eebc81d31d0248d8917f75", func := "steelyard/steelyardlaw08.WeightClean", spec := "weightClean", inPlace := ["math.Float64bits", "math.Float64frombits"], named := ["steelyard/weight.counts"], apart := false, laid := [("steelyard/weight.counts", laid_steelyard_weight_counts)], narrowed := true }
def WeightCleanUptoSaid : Prop := weightCleanUptoRow.holds Tryd.pinned (OpenSpec.upto weightCleanSpec)

/-- 'steelyardlaw08.WeightOrder', WHERE WHAT IT READS IS OF BULK AT MOST 1048576: true; the input reads as it did. -/
def weightOrderUptoRow : OpenClaim := { program := "ytniejpfjbifjkaadoor", sum := "3b66b598cc8e25d613bb9703d30b74bc94e355dfc3eebc81d31d0248d8917f75", func := "steelyard/steelyardlaw08.WeightOrder", spec := "weightOrder", inPlace := ["math.Float64bits", "math.Float64frombits"], named := ["steelyard/weight.counts"], apart := false, laid := [("steelyard/weight.counts", laid_steelyard_weight_counts)], narrowed := true }
def WeightOrderUptoSaid : Prop := weightOrderUptoRow.holds Tryd.pinned (OpenSpec.upto weightOrderSpec)

/-- 'steelyardlaw08.WeightGrows', WHERE WHAT IT READS IS OF BULK AT MOST 1048576: true; the input reads as it did. -/
def weightGrowsUptoRow : OpenClaim := { program := "ytniejpfjbifjkaadoor", sum := "3b66b598cc8e25d613bb9703d30b74bc94e355dfc3eebc81d31d0248d8917f75", func := "steelyard/steelyardlaw08.WeightGrows", spec := "weightGrows", inPlace := ["math.Float64bits", "math.Float64frombits"], named := ["steelyard/weight.counts"], apart := false, laid := [("steelyard/weight.counts", laid_steelyard_weight_counts)], narrowed := true }
def WeightGrowsUptoSaid : Prop := weightGrowsUptoRow.holds Tryd.pinned (OpenSpec.upto weightGrowsSpec)

/-- 'steelyardlaw08.WeightFirst', WHERE WHAT IT READS IS OF BULK AT MOST 1048576: true; the input reads as it did. -/
def weightFirstUptoRow : OpenClaim := { program := "ytniejpfjbifjkaadoor", sum := "3b66b598cc8e25d613bb9703d30b74bc94e355dfc3eebc81d31d0248d8917f75", func := "steelyard/steelyardlaw08.WeightFirst", spec := "weightFirst", inPlace := ["math.Float64bits", "math.Float64frombits"], named := ["steelyard/weight.counts"], apart := false, laid := [("steelyard/weight.counts", laid_steelyard_weight_counts)], narrowed := true }
def WeightFirstUptoSaid : Prop := weightFirstUptoRow.holds Tryd.pinned (OpenSpec.upto weightFirstSpec)

/-- 'steelyardlaw08.WeightLists', WHERE WHAT IT READS IS OF BULK AT MOST 1048576: true; the input reads as it did. -/
def weightListsUptoRow : OpenClaim := { program := "ytniejpfjbifjkaadoor", sum := "3b66b598cc8e25d613bb9703d30b74bc94e355dfc3eebc81d31d0248d8917f75", func := "steelyard/steelyardlaw08.WeightLists", spec := "weightLists", inPlace := ["math.Float64bits", "math.Float64frombits"], named := ["steelyard/weight.counts"], apart := false, laid := [("steelyard/weight.counts", laid_steelyard_weight_counts)], narrowed := true }
def WeightListsUptoSaid : Prop := weightListsUptoRow.holds Tryd.pinned (OpenSpec.upto weightListsSpec)

/-- 'steelyardlaw08.WeightTurns', WHERE WHAT IT READS IS OF BULK AT MOST 1048576: true; the input reads as it did. -/
def weightTurnsUptoRow : OpenClaim := { program := "ytniejpfjbifjkaadoor", sum := "3b66b598cc8e25d613bb9703d30b74bc94e355dfc3eebc81d31d0248d8917f75", func := "steelyard/steelyardlaw08.WeightTurns", spec := "weightTurns", inPlace := ["math.Float64bits", "math.Float64frombits"], named := ["steelyard/weight.counts"], apart := false, laid := [("steelyard/weight.counts", laid_steelyard_weight_counts)], narrowed := true }
def WeightTurnsUptoSaid : Prop := weightTurnsUptoRow.holds Tryd.pinned (OpenSpec.upto weightTurnsSpec)

/-- 'steelyardlaw08.WeightFair', WHERE WHAT IT READS IS OF BULK AT MOST 1048576: true; the input reads as it did. -/
def weightFairUptoRow : OpenClaim := { program := "ytniejpfjbifjkaadoor", sum := "3b66b598cc8e25d613bb9703d30b74bc94e355dfc3eebc81d31d0248d8917f75", func := "steelyard/steelyardlaw08.WeightFair", spec := "weightFair", inPlace := ["math.Float64bits", "math.Float64frombits"], named := ["steelyard/weight.counts"], apart := false, laid := [("steelyard/weight.counts", laid_steelyard_weight_counts)], narrowed := true }
def WeightFairUptoSaid : Prop := weightFairUptoRow.holds Tryd.pinned (OpenSpec.upto weightFairSpec)

/-- 'steelyardlaw10.MaglevOrder', WHERE WHAT IT READS IS OF BULK AT MOST 1048576: true; the input reads as it did. -/
def maglevOrderUptoRow : OpenClaim := { program := "ytniejpfjbifjkaadoor", sum := "3b66b598cc8e25d613bb9703d30b74bc94e355dfc3eebc81d31d0248d8917f75", func := "steelyard/steelyardlaw10.MaglevOrder", spec := "maglevOrder", inPlace := ["math.Float64bits", "math.Float64frombits"], named := ["steelyard/weight.counts"], apart := false, laid := [("steelyard/weight.counts", laid_steelyard_weight_counts)], narrowed := true }
def MaglevOrderUptoSaid : Prop := maglevOrderUptoRow.holds Tryd.pinned (OpenSpec.upto maglevOrderSpec)

/-- 'steelyardlaw10.MaglevBuilds', WHERE WHAT IT READS IS OF BULK AT MOST 1048576: true; the input reads as it did. -/
def maglevBuildsUptoRow : OpenClaim := { program := "ytniejpfjbifjkaadoor", sum := "3b66b598cc8e25d613bb9703d30b74bc94e355dfc3eebc81d31d0248d8917f75", func := "steelyard/steelyardlaw10.MaglevBuilds", spec := "maglevBuilds", inPlace := ["math.Float64bits", "math.Float64frombits"], named := ["steelyard/weight.counts"], apart := false, laid := [("steelyard/weight.counts", laid_steelyard_weight_counts)], narrowed := true }
def MaglevBuildsUptoSaid : Prop := maglevBuildsUptoRow.holds Tryd.pinned (OpenSpec.upto maglevBuildsSpec)

/-- 'steelyardlaw10.MaglevHolds', WHERE WHAT IT READS IS OF BULK AT MOST 1048576: true; the input reads as it did. -/
def maglevHoldsUptoRow : OpenClaim := { program := "ytniejpfjbifjkaadoor", sum := "3b66b598cc8e25d613bb9703d30b74bc94e355dfc3eebc81d31d0248d8917f75", func := "steelyard/steelyardlaw10.MaglevHolds", spec := "maglevHolds", inPlace := ["math.Float64bits", "math.Float64frombits"], named := ["steelyard/weight.counts"], apart := false, laid := [("steelyard/weight.counts", laid_steelyard_weight_counts)], narrowed := true }
def MaglevHoldsUptoSaid : Prop := maglevHoldsUptoRow.holds Tryd.pinned (OpenSpec.upto maglevHoldsSpec)

/-- 'steelyardlaw10.MaglevDull', WHERE WHAT IT READS IS OF BULK AT MOST 1048576: true; the input reads as it did. -/
def maglevDullUptoRow : OpenClaim := { program := "ytniejpfjbifjkaadoor", sum := "3b66b598cc8e25d613bb9703d30b74bc94e355dfc3eebc81d31d0248d8917f75", func := "steelyard/steelyardlaw10.MaglevDull", spec := "maglevDull", inPlace := ["math.Float64bits", "math.Float64frombits"], named := ["steelyard/weight.counts"], apart := false, laid := [("steelyard/weight.counts", laid_steelyard_weight_counts)], narrowed := true }
def MaglevDullUptoSaid : Prop := maglevDullUptoRow.holds Tryd.pinned (OpenSpec.upto maglevDullSpec)

/-- 'steelyardlaw10.MaglevScaled', WHERE WHAT IT READS IS OF BULK AT MOST 1048576: true; the input reads as it did. -/
def maglevScaledUptoRow : OpenClaim := { program := "ytniejpfjbifjkaadoor", sum := "3b66b598cc8e25d613bb9703d30b74bc94e355dfc3eebc81d31d0248d8917f75", func := "steelyard/steelyardlaw10.MaglevScaled", spec := "maglevScaled", inPlace := ["math.Float64bits", "math.Float64frombits"], named := ["steelyard/weight.counts"], apart := false, laid := [("steelyard/weight.counts", laid_steelyard_weight_counts)], narrowed := true }
def MaglevScaledUptoSaid : Prop := maglevScaledUptoRow.holds Tryd.pinned (OpenSpec.upto maglevScaledSpec)

/-- 'steelyardlaw10.MaglevFirst', WHERE WHAT IT READS IS OF BULK AT MOST 1048576: true; the input reads as it did. -/
def maglevFirstUptoRow : OpenClaim := { program := "ytniejpfjbifjkaadoor", sum := "3b66b598cc8e25d613bb9703d30b74bc94e355dfc3eebc81d31d0248d8917f75", func := "steelyard/steelyardlaw10.MaglevFirst", spec := "maglevFirst", inPlace := ["math.Float64bits", "math.Float64frombits"], named := ["steelyard/weight.counts"], apart := false, laid := [("steelyard/weight.counts", laid_steelyard_weight_counts)], narrowed := true }
def MaglevFirstUptoSaid : Prop := maglevFirstUptoRow.holds Tryd.pinned (OpenSpec.upto maglevFirstSpec)

/-- 'steelyardlaw10.MaglevFinds', WHERE WHAT IT READS IS OF BULK AT MOST 1048576: true; the input reads as it did. -/
def maglevFindsUptoRow : OpenClaim := { program := "ytniejpfjbifjkaadoor", sum := "3b66b598cc8e25d613bb9703d30b74bc94e355dfc3eebc81d31d0248d8917f75", func := "steelyard/steelyardlaw10.MaglevFinds", spec := "maglevFinds", inPlace := ["math.Float64bits", "math.Float64frombits"], named := ["steelyard/weight.counts"], apart := false, laid := [("steelyard/weight.counts", laid_steelyard_weight_counts)], narrowed := true }
def MaglevFindsUptoSaid : Prop := maglevFindsUptoRow.holds Tryd.pinned (OpenSpec.upto maglevFindsSpec)

/-- 'steelyardlaw10.MaglevFar', WHERE WHAT IT READS IS OF BULK AT MOST 1048576: true; the input reads as it did. -/
def maglevFarUptoRow : OpenClaim := { program := "ytniejpfjbifjkaadoor", sum := "3b66b598cc8e25d613bb9703d30b74bc94e355dfc3eebc81d31d0248d8917f75", func := "steelyard/steelyardlaw10.MaglevFar", spec := "maglevFar", inPlace := ["math.Float64bits", "math.Float64frombits"], named := ["steelyard/weight.counts"], apart := false, laid := [("steelyard/weight.counts", laid_steelyard_weight_counts)], narrowed := true }
def MaglevFarUptoSaid : Prop := maglevFarUptoRow.holds Tryd.pinned (OpenSpec.upto maglevFarSpec)

/-- 'steelyardlaw12.LifeEach', WHERE WHAT IT READS IS OF BULK AT MOST 1048576: true; the input reads as it did. -/
def lifeEachUptoRow : OpenClaim := { program := "ytniejpfjbifjkaadoor", sum := "3b66b598cc8e25d613bb9703d30b74bc94e355dfc3eebc81d31d0248d8917f75", func := "steelyard/steelyardlaw12.LifeEach", spec := "lifeEach", inPlace := ["math.Float64bits", "math.Float64frombits", "internal/bytealg.Compare"], unfollowed := true, recurses := true, named := ["steelyard/weight.counts"], apart := false, laid := [("steelyard/weight.counts", laid_steelyard_weight_counts)], narrowed := true }
def LifeEachUptoSaid : Prop := lifeEachUptoRow.holds Tryd.pinned (OpenSpec.upto lifeEachSpec)

/-- 'steelyardlaw12.LifeGrows', WHERE WHAT IT READS IS OF BULK AT MOST 1048576: true; the input reads as it did. -/
def lifeGrowsUptoRow : OpenClaim := { program := "ytniejpfjbifjkaadoor", sum := "3b66b598cc8e25d613bb9703d30b74bc94e355dfc3eebc81d31d0248d8917f75", func := "steelyard/steelyardlaw12.LifeGrows", spec := "lifeGrows", inPlace := ["math.Float64bits", "math.Float64frombits", "internal/bytealg.Compare"], unfollowed := true, recurses := true, named := ["steelyard/weight.counts"], apart := false, laid := [("steelyard/weight.counts", laid_steelyard_weight_counts)], narrowed := true }
def LifeGrowsUptoSaid : Prop := lifeGrowsUptoRow.holds Tryd.pinned (OpenSpec.upto lifeGrowsSpec)

/-- 'steelyardlaw12.LifeVotes', WHERE WHAT IT READS IS OF BULK AT MOST 1048576: true; the input reads as it did. -/
def lifeVotesUptoRow : OpenClaim := { program := "ytniejpfjbifjkaadoor", sum := "3b66b598cc8e25d613bb9703d30b74bc94e355dfc3eebc81d31d0248d8917f75", func := "steelyard/steelyardlaw12.LifeVotes", spec := "lifeVotes", inPlace := ["math.Float64bits", "math.Float64frombits", "internal/bytealg.Compare"], unfollowed := true, recurses := true, named := ["steelyard/weight.counts"], apart := false, laid := [("steelyard/weight.counts", laid_steelyard_weight_counts)], narrowed := true }
def LifeVotesUptoSaid : Prop := lifeVotesUptoRow.holds Tryd.pinned (OpenSpec.upto lifeVotesSpec)

/-- 'steelyardlaw12.LifeTells', WHERE WHAT IT READS IS OF BULK AT MOST 1048576: true; the input reads as it did. -/
def lifeTellsUptoRow : OpenClaim := { program := "ytniejpfjbifjkaadoor", sum := "3b66b598cc8e25d613bb9703d30b74bc94e355dfc3eebc81d31d0248d8917f75", func := "steelyard/steelyardlaw12.LifeTells", spec := "lifeTells", inPlace := ["math.Float64bits", "math.Float64frombits", "internal/bytealg.Compare"], unfollowed := true, recurses := true, named := ["steelyard/weight.counts"], apart := false, laid := [("steelyard/weight.counts", laid_steelyard_weight_counts)], narrowed := true }
def LifeTellsUptoSaid : Prop := lifeTellsUptoRow.holds Tryd.pinned (OpenSpec.upto lifeTellsSpec)

end Rows
end Go.Proofs.YtniejpfjbifjkaaDoor
