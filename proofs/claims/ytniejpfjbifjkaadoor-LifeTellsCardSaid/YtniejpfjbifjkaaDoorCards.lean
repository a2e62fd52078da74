/-
  DERIVED. GIVEN WITH THE SEED: THE CARDS: each row of YtniejpfjbifjkaaDoorRows.lean that lists a variable, with what it lists TIED to the program's text (the seventh form; the later family's looks); each row that meets fmt, with fmt's text TOLD by the authors' own Lean function (tested against real Go, not proved from fmt's source: count such statements apart). THE CARD IS WHAT COUNTS. Prove the row's statement (the work); the ties are given (YtniejpfjbifjkaaDoorTie.lean); close each card by the builder's one call (the guide's Derived/Test/ToyasCard.lean, 'card_holds'). Laid BY PROGRAM, IN A SANDBOX (cutbox-door.mjs). By AI agents, Wed Nov 11 2026. No macro, syntax, notation, axiom, sorry.
-/
import Derived.Test.YtniejpfjbifjkaaDoorRows
import GoSem.ClaimSeven
namespace Go.Proofs.YtniejpfjbifjkaaDoor
namespace Rows

/-- THE TIED CARD OF 'steelyardlaw08.WeightClean'. -/
def weightCleanCard : Claim7 := { stood := { row := weightCleanRow, standIns := [], harness := (true, "4b34dee669c977346b9f70e3de13e11c6c416c758b964ebf634e2e85dead13a8"), looks := false }, kinds := [], alts := [], laidByText := true, laidKinds := [.data], laidTests := true, laidLooks := .later }
def WeightCleanCardSaid : Prop := Claim7.holds Tryd.pinned (.plain (OpenSpec.ofChange weightCleanSpec)) weightCleanCard

/-- THE TIED CARD OF 'steelyardlaw08.WeightOrder'. -/
def weightOrderCard : Claim7 := { stood := { row := weightOrderRow, standIns := [], harness := (true, "4b34dee669c977346b9f70e3de13e11c6c416c758b964ebf634e2e85dead13a8"), looks := false }, kinds := [], alts := [], laidByText := true, laidKinds := [.data], laidTests := true, laidLooks := .later }
def WeightOrderCardSaid : Prop := Claim7.holds Tryd.pinned (.plain (OpenSpec.ofChange weightOrderSpec)) weightOrderCard

/-- THE TIED CARD OF 'steelyardlaw08.WeightGrows'. -/
def weightGrowsCard : Claim7 := { stood := { row := weightGrowsRow, standIns := [], harness := (true, "4b34dee669c977346b9f70e3de13e11c6c416c758b964ebf634e2e85dead13a8"), looks := false }, kinds := [], alts := [], laidByText := true, laidKinds := [.data], laidTests := true, laidLooks := .later }
def WeightGrowsCardSaid : Prop := Claim7.holds Tryd.pinned (.plain (OpenSpec.ofChange weightGrowsSpec)) weightGrowsCard

/-- THE TIED CARD OF 'steelyardlaw08.WeightFirst'. -/
def weightFirstCard : Claim7 := { stood := { row := weightFirstRow, standIns := [], harness := (true, "4b34dee669c977346b9f70e3de13e11c6c416c758b964ebf634e2e85dead13a8"), looks := false }, kinds := [], alts := [], laidByText := true, laidKinds := [.data], laidTests := true, laidLooks := .later }
def WeightFirstCardSaid : Prop := Claim7.holds Tryd.pinned (.plain (OpenSpec.ofChange weightFirstSpec)) weightFirstCard

/-- THE TIED CARD OF 'steelyardlaw08.WeightLists'. -/
def weightListsCard : Claim7 := { stood := { row := weightListsRow, standIns := [], harness := (true, "4b34dee669c977346b9f70e3de13e11c6c416c758b964ebf634e2e85dead13a8"), looks := false }, kinds := [], alts := [], laidByText := true, laidKinds := [.data], laidTests := true, laidLooks := .later }
def WeightListsCardSaid : Prop := Claim7.holds Tryd.pinned (.plain (OpenSpec.ofChange weightListsSpec)) weightListsCard

/-- THE TIED CARD OF 'steelyardlaw08.WeightTurns'. -/
def weightTurnsCard : Claim7 := { stood := { row := weightTurnsRow, standIns := [], harness := (true, "4b34dee669c977346b9f70e3de13e11c6c416c758b964ebf634e2e85dead13a8"), looks := false }, kinds := [], alts := [], laidByText := true, laidKinds := [.data], laidTests := true, laidLooks := .later }
def WeightTurnsCardSaid : Prop := Claim7.holds Tryd.pinned (.plain (OpenSpec.ofChange weightTurnsSpec)) weightTurnsCard

/-- THE TIED CARD OF 'steelyardlaw08.WeightFair'. -/
def weightFairCard : Claim7 := { stood := { row := weightFairRow, standIns := [], harness := (true, "4b34dee669c977346b9f70e3de13e11c6c416c758b964ebf634e2e85dead13a8"), looks := false }, kinds := [], alts := [], laidByText := true, laidKinds := [.data], laidTests := true, laidLooks := .later }
def WeightFairCardSaid : Prop := Claim7.holds Tryd.pinned (.plain (OpenSpec.ofChange weightFairSpec)) weightFairCard

/-- THE TIED CARD OF 'steelyardlaw10.MaglevOrder'. -/
def maglevOrderCard : Claim7 := { stood := { row := maglevOrderRow, standIns := [], harness := (true, "4b34dee669c977346b9f70e3de13e11c6c416c758b964ebf634e2e85dead13a8"), looks := false }, kinds := [], alts := [], laidByText := true, laidKinds := [.data], laidTests := true, laidLooks := .later }
def MaglevOrderCardSaid : Prop := Claim7.holds Tryd.pinned (.plain (OpenSpec.ofChange maglevOrderSpec)) maglevOrderCard

/-- THE TIED CARD OF 'steelyardlaw10.MaglevBuilds'. -/
def maglevBuildsCard : Claim7 := { stood := { row := maglevBuildsRow, standIns := [], harness := (true, "4b34dee669c977346b9f70e3de13e11c6c416c758b964ebf634e2e85dead13a8"), looks := false }, kinds := [], alts := [], laidByText := true, laidKinds := [.data], laidTests := true, laidLooks := .later }
def MaglevBuildsCardSaid : Prop := Claim7.holds Tryd.pinned (.plain (OpenSpec.ofChange maglevBuildsSpec)) maglevBuildsCard

/-- THE TIED CARD OF 'steelyardlaw10.MaglevHolds'. -/
def maglevHoldsCard : Claim7 := { stood := { row := maglevHoldsRow, standIns := [], harness := (true, "4b34dee669c977346b9f70e3de13e11c6c416c758b964ebf634e2e85dead13a8"), looks := false }, kinds := [], alts := [], laidByText := true, laidKinds := [.data], laidTests := true, laidLooks := .later }
def MaglevHoldsCardSaid : Prop := Claim7.holds Tryd.pinned (.plain (OpenSpec.ofChange maglevHoldsSpec)) maglevHoldsCard

/-- THE TIED CARD OF 'steelyardlaw10.MaglevDull'. -/
def maglevDullCard : Claim7 := { stood := { row := maglevDullRow, standIns := [], harness := (true, "4b34dee669c977346b9f70e3de13e11c6c416c758b964ebf634e2e85dead13a8"), looks := false }, kinds := [], alts := [], laidByText := true, laidKinds := [.data], laidTests := true, laidLooks := .later }
def MaglevDullCardSaid : Prop := Claim7.holds Tryd.pinned (.plain (OpenSpec.ofChange maglevDullSpec)) maglevDullCard

/-- THE TIED CARD OF 'steelyardlaw10.MaglevScaled'. -/
def maglevScaledCard : Claim7 := { stood := { row := maglevScaledRow, standIns := [], harness := (true, "4b34dee669c977346b9f70e3de13e11c6c416c758b964ebf634e2e85dead13a8"), looks := false }, kinds := [], alts := [], laidByText := true, laidKinds := [.data], laidTests := true, laidLooks := .later }
def MaglevScaledCardSaid : Prop := Claim7.holds Tryd.pinned (.plain (OpenSpec.ofChange maglevScaledSpec)) maglevScaledCard

/-- THE TIED CARD OF 'steelyardlaw10.MaglevFirst'. -/
def maglevFirstCard : Claim7 := { stood := { row := maglevFirstRow, standIns := [], harness := (true, "4b34dee669c977346b9f70e3de13e11c6c416c758b964ebf634e2e85dead13a8"), looks := false }, kinds := [], alts := [], laidByText := true, laidKinds := [.data], laidTests := true, laidLooks := .later }
def MaglevFirstCardSaid : Prop := Claim7.holds Tryd.pinned (.plain (OpenSpec.ofChange maglevFirstSpec)) maglevFirstCard

/-- THE TIED CARD OF 'steelyardlaw10.MaglevFinds'. -/
def maglevFindsCard : Claim7 := { stood := { row := maglevFindsRow, standIns := [], harness := (true, "4b34dee669c977346b9f70e3de13e11c6c416c758b964ebf634e2e85dead13a8"), looks := false }, kinds := [], alts := [], laidByText := true, laidKinds := [.data], laidTests := true, laidLooks := .later }
def MaglevFindsCardSaid : Prop := Claim7.holds Tryd.pinned (.plain (OpenSpec.ofChange maglevFindsSpec)) maglevFindsCard

/-- THE TIED CARD OF 'steelyardlaw10.MaglevFar'. -/
def maglevFarCard : Claim7 := { stood := { row := maglevFarRow, standIns := [], harness := (true, "4b34dee669c977346b9f70e3de13e11c6c416c758b964ebf634e2e85dead13a8"), looks := false }, kinds := [], alts := [], laidByText := true, laidKinds := [.data], laidTests := true, laidLooks := .later }
def MaglevFarCardSaid : Prop := Claim7.holds Tryd.pinned (.plain (OpenSpec.ofChange maglevFarSpec)) maglevFarCard

/-- THE TIED CARD OF 'steelyardlaw12.LifeEach'. -/
def lifeEachCard : Claim7 := { stood := { row := lifeEachRow, standIns := [], harness := (true, "4b34dee669c977346b9f70e3de13e11c6c416c758b964ebf634e2e85dead13a8"), looks := false }, kinds := [], alts := [], laidByText := true, laidKinds := [.data], laidTests := true, laidLooks := .later }
def LifeEachCardSaid : Prop := Claim7.holds Tryd.pinned (.plain (OpenSpec.ofChange lifeEachSpec)) lifeEachCard

/-- THE TIED CARD OF 'steelyardlaw12.LifeGrows'. -/
def lifeGrowsCard : Claim7 := { stood := { row := lifeGrowsRow, standIns := [], harness := (true, "4b34dee669c977346b9f70e3de13e11c6c416c758b964ebf634e2e85dead13a8"), looks := false }, kinds := [], alts := [], laidByText := true, laidKinds := [.data], laidTests := true, laidLooks := .later }
def LifeGrowsCardSaid : Prop := Claim7.holds Tryd.pinned (.plain (OpenSpec.ofChange lifeGrowsSpec)) lifeGrowsCard

/-- THE TIED CARD OF 'steelyardlaw12.LifeVotes'. -/
def lifeVotesCard : Claim7 := { stood := { row := lifeVotesRow, standIns := [], harness := (true, "4b34dee669c977346b9f70e3de13e11c6c416c758b964ebf634e2e85dead13a8"), looks := false }, kinds := [], alts := [], laidByText := true, laidKinds := [.data], laidTests := true, laidLooks := .later }
def LifeVotesCardSaid : Prop := Claim7.holds Tryd.pinned (.plain (OpenSpec.ofChange lifeVotesSpec)) lifeVotesCard

/-- THE TIED CARD OF 'steelyardlaw12.LifeTells'. -/
def lifeTellsCard : Claim7 := { stood := { row := lifeTellsRow, standIns := [], harness := (true, "4b34dee669c977346b9f70e3de13e11c6c416c758b964ebf634e2e85dead13a8"), looks := false }, kinds := [], alts := [], laidByText := true, laidKinds := [.data], laidTests := true, laidLooks := .later }
def LifeTellsCardSaid : Prop := Claim7.holds Tryd.pinned (.plain (OpenSpec.ofChange lifeTellsSpec)) lifeTellsCard

/-- THE SECOND FORM's CARD OF 'steelyardlaw08.WeightClean'. -/
def weightCleanUptoCard : Claim7 := { stood := { row := weightCleanUptoRow, standIns := [], harness := (true, "4b34dee669c977346b9f70e3de13e11c6c416c758b964ebf634e2e85dead13a8"), looks := false }, kinds := [], alts := [], laidByText := true, laidKinds := [.data], laidTests := true, laidLooks := .later }
def WeightCleanUptoCardSaid : Prop := Claim7.holds Tryd.pinned (.plain (OpenSpec.upto weightCleanSpec)) weightCleanUptoCard

/-- THE SECOND FORM's CARD OF 'steelyardlaw08.WeightOrder'. -/
def weightOrderUptoCard : Claim7 := { stood := { row := weightOrderUptoRow, standIns := [], harness := (true, "4b34dee669c977346b9f70e3de13e11c6c416c758b964ebf634e2e85dead13a8"), looks := false }, kinds := [], alts := [], laidByText := true, laidKinds := [.data], laidTests := true, laidLooks := .later }
def WeightOrderUptoCardSaid : Prop := Claim7.holds Tryd.pinned (.plain (OpenSpec.upto weightOrderSpec)) weightOrderUptoCard

/-- THE SECOND FORM's CARD OF 'steelyardlaw08.WeightGrows'. -/
def weightGrowsUptoCard : Claim7 := { stood := { row := weightGrowsUptoRow, standIns := [], harness := (true, "4b34dee669c977346b9f70e3de13e11c6c416c758b964ebf634e2e85dead13a8"), looks := false }, kinds := [], alts := [], laidByText := true, laidKinds := [.data], laidTests := true, laidLooks := .later }
def WeightGrowsUptoCardSaid : Prop := Claim7.holds Tryd.pinned (.plain (OpenSpec.upto weightGrowsSpec)) weightGrowsUptoCard

/-- THE SECOND FORM's CARD OF 'steelyardlaw08.WeightFirst'. -/
def weightFirstUptoCard : Claim7 := { stood := { row := weightFirstUptoRow, standIns := [], harness := (true, "4b34dee669c977346b9f70e3de13e11c6c416c758b964ebf634e2e85dead13a8"), looks := false }, kinds := [], alts := [], laidByText := true, laidKinds := [.data], laidTests := true, laidLooks := .later }
def WeightFirstUptoCardSaid : Prop := Claim7.holds Tryd.pinned (.plain (OpenSpec.upto weightFirstSpec)) weightFirstUptoCard

/-- THE SECOND FORM's CARD OF 'steelyardlaw08.WeightLists'. -/
def weightListsUptoCard : Claim7 := { stood := { row := weightListsUptoRow, standIns := [], harness := (true, "4b34dee669c977346b9f70e3de13e11c6c416c758b964ebf634e2e85dead13a8"), looks := false }, kinds := [], alts := [], laidByText := true, laidKinds := [.data], laidTests := true, laidLooks := .later }
def WeightListsUptoCardSaid : Prop := Claim7.holds Tryd.pinned (.plain (OpenSpec.upto weightListsSpec)) weightListsUptoCard

/-- THE SECOND FORM's CARD OF 'steelyardlaw08.WeightTurns'. -/
def weightTurnsUptoCard : Claim7 := { stood := { row := weightTurnsUptoRow, standIns := [], harness := (true, "4b34dee669c977346b9f70e3de13e11c6c416c758b964ebf634e2e85dead13a8"), looks := false }, kinds := [], alts := [], laidByText := true, laidKinds := [.data], laidTests := true, laidLooks := .later }
def WeightTurnsUptoCardSaid : Prop := Claim7.holds Tryd.pinned (.plain (OpenSpec.upto weightTurnsSpec)) weightTurnsUptoCard

/-- THE SECOND FORM's CARD OF 'steelyardlaw08.WeightFair'. -/
def weightFairUptoCard : Claim7 := { stood := { row := weightFairUptoRow, standIns := [], harness := (true, "4b34dee669c977346b9f70e3de13e11c6c416c758b964ebf634e2e85dead13a8"), looks := false }, kinds := [], alts := [], laidByText := true, laidKinds := [.data], laidTests := true, laidLooks := .later }
def WeightFairUptoCardSaid : Prop := Claim7.holds Tryd.pinned (.plain (OpenSpec.upto weightFairSpec)) weightFairUptoCard

/-- THE SECOND FORM's CARD OF 'steelyardlaw10.MaglevOrder'. -/
def maglevOrderUptoCard : Claim7 := { stood := { row := maglevOrderUptoRow, standIns := [], harness := (true, "4b34dee669c977346b9f70e3de13e11c6c416c758b964ebf634e2e85dead13a8"), looks := false }, kinds := [], alts := [], laidByText := true, laidKinds := [.data], laidTests := true, laidLooks := .later }
def MaglevOrderUptoCardSaid : Prop := Claim7.holds Tryd.pinned (.plain (OpenSpec.upto maglevOrderSpec)) maglevOrderUptoCard

/-- THE SECOND FORM's CARD OF 'steelyardlaw10.MaglevBuilds'. -/
def maglevBuildsUptoCard : Claim7 := { stood := { row := maglevBuildsUptoRow, standIns := [], harness := (true, "4b34dee669c977346b9f70e3de13e11c6c416c758b964ebf634e2e85dead13a8"), looks := false }, kinds := [], alts := [], laidByText := true, laidKinds := [.data], laidTests := true, laidLooks := .later }
def MaglevBuildsUptoCardSaid : Prop := Claim7.holds Tryd.pinned (.plain (OpenSpec.upto maglevBuildsSpec)) maglevBuildsUptoCard

/-- THE SECOND FORM's CARD OF 'steelyardlaw10.MaglevHolds'. -/
def maglevHoldsUptoCard : Claim7 := { stood := { row := maglevHoldsUptoRow, standIns := [], harness := (true, "4b34dee669c977346b9f70e3de13e11c6c416c758b964ebf634e2e85dead13a8"), looks := false }, kinds := [], alts := [], laidByText := true, laidKinds := [.data], laidTests := true, laidLooks := .later }
def MaglevHoldsUptoCardSaid : Prop := Claim7.holds Tryd.pinned (.plain (OpenSpec.upto maglevHoldsSpec)) maglevHoldsUptoCard

/-- THE SECOND FORM's CARD OF 'steelyardlaw10.MaglevDull'. -/
def maglevDullUptoCard : Claim7 := { stood := { row := maglevDullUptoRow, standIns := [], harness := (true, "4b34dee669c977346b9f70e3de13e11c6c416c758b964ebf634e2e85dead13a8"), looks := false }, kinds := [], alts := [], laidByText := true, laidKinds := [.data], laidTests := true, laidLooks := .later }
def MaglevDullUptoCardSaid : Prop := Claim7.holds Tryd.pinned (.plain (OpenSpec.upto maglevDullSpec)) maglevDullUptoCard

/-- THE SECOND FORM's CARD OF 'steelyardlaw10.MaglevScaled'. -/
def maglevScaledUptoCard : Claim7 := { stood := { row := maglevScaledUptoRow, standIns := [], harness := (true, "4b34dee669c977346b9f70e3de13e11c6c416c758b964ebf634e2e85dead13a8"), looks := false }, kinds := [], alts := [], laidByText := true, laidKinds := [.data], laidTests := true, laidLooks := .later }
def MaglevScaledUptoCardSaid : Prop := Claim7.holds Tryd.pinned (.plain (OpenSpec.upto maglevScaledSpec)) maglevScaledUptoCard

/-- THE SECOND FORM's CARD OF 'steelyardlaw10.MaglevFirst'. -/
def maglevFirstUptoCard : Claim7 := { stood := { row := maglevFirstUptoRow, standIns := [], harness := (true, "4b34dee669c977346b9f70e3de13e11c6c416c758b964ebf634e2e85dead13a8"), looks := false }, kinds := [], alts := [], laidByText := true, laidKinds := [.data], laidTests := true, laidLooks := .later }
def MaglevFirstUptoCardSaid : Prop := Claim7.holds Tryd.pinned (.plain (OpenSpec.upto maglevFirstSpec)) maglevFirstUptoCard

/-- THE SECOND FORM's CARD OF 'steelyardlaw10.MaglevFinds'. -/
def maglevFindsUptoCard : Claim7 := { stood := { row := maglevFindsUptoRow, standIns := [], harness := (true, "4b34dee669c977346b9f70e3de13e11c6c416c758b964ebf634e2e85dead13a8"), looks := false }, kinds := [], alts := [], laidByText := true, laidKinds := [.data], laidTests := true, laidLooks := .later }
def MaglevFindsUptoCardSaid : Prop := Claim7.holds Tryd.pinned (.plain (OpenSpec.upto maglevFindsSpec)) maglevFindsUptoCard

/-- THE SECOND FORM's CARD OF 'steelyardlaw10.MaglevFar'. -/
def maglevFarUptoCard : Claim7 := { stood := { row := maglevFarUptoRow, standIns := [], harness := (true, "4b34dee669c977346b9f70e3de13e11c6c416c758b964ebf634e2e85dead13a8"), looks := false }, kinds := [], alts := [], laidByText := true, laidKinds := [.data], laidTests := true, laidLooks := .later }
def MaglevFarUptoCardSaid : Prop := Claim7.holds Tryd.pinned (.plain (OpenSpec.upto maglevFarSpec)) maglevFarUptoCard

/-- THE SECOND FORM's CARD OF 'steelyardlaw12.LifeEach'. -/
def lifeEachUptoCard : Claim7 := { stood := { row := lifeEachUptoRow, standIns := [], harness := (true, "4b34dee669c977346b9f70e3de13e11c6c416c758b964ebf634e2e85dead13a8"), looks := false }, kinds := [], alts := [], laidByText := true, laidKinds := [.data], laidTests := true, laidLooks := .later }
def LifeEachUptoCardSaid : Prop := Claim7.holds Tryd.pinned (.plain (OpenSpec.upto lifeEachSpec)) lifeEachUptoCard

/-- THE SECOND FORM's CARD OF 'steelyardlaw12.LifeGrows'. -/
def lifeGrowsUptoCard : Claim7 := { stood := { row := lifeGrowsUptoRow, standIns := [], harness := (true, "4b34dee669c977346b9f70e3de13e11c6c416c758b964ebf634e2e85dead13a8"), looks := false }, kinds := [], alts := [], laidByText := true, laidKinds := [.data], laidTests := true, laidLooks := .later }
def LifeGrowsUptoCardSaid : Prop := Claim7.holds Tryd.pinned (.plain (OpenSpec.upto lifeGrowsSpec)) lifeGrowsUptoCard

/-- THE SECOND FORM's CARD OF 'steelyardlaw12.LifeVotes'. -/
def lifeVotesUptoCard : Claim7 := { stood := { row := lifeVotesUptoRow, standIns := [], harness := (true, "4b34dee669c977346b9f70e3de13e11c6c416c758b964ebf634e2e85dead13a8"), looks := false }, kinds := [], alts := [], laidByText := true, laidKinds := [.data], laidTests := true, laidLooks := .later }
def LifeVotesUptoCardSaid : Prop := Claim7.holds Tryd.pinned (.plain (OpenSpec.upto lifeVotesSpec)) lifeVotesUptoCard

/-- THE SECOND FORM's CARD OF 'steelyardlaw12.LifeTells'. -/
def lifeTellsUptoCard : Claim7 := { stood := { row := lifeTellsUptoRow, standIns := [], harness := (true, "4b34dee669c977346b9f70e3de13e11c6c416c758b964ebf634e2e85dead13a8"), looks := false }, kinds := [], alts := [], laidByText := true, laidKinds := [.data], laidTests := true, laidLooks := .later }
def LifeTellsUptoCardSaid : Prop := Claim7.holds Tryd.pinned (.plain (OpenSpec.upto lifeTellsSpec)) lifeTellsUptoCard
end Rows
end Go.Proofs.YtniejpfjbifjkaaDoor
