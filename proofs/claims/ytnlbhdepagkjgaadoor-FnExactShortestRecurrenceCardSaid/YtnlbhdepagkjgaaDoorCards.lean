/-
  DERIVED. GIVEN WITH THE SEED: THE CARDS: each row of YtnlbhdepagkjgaaDoorRows.lean that lists a variable, with what it lists TIED to the program's text (the seventh form; the later family's looks); each row that meets fmt, with fmt's text TOLD by the authors' own Lean function (tested against real Go, not proved from fmt's source: count such statements apart). THE CARD IS WHAT COUNTS. Prove the row's statement (the work); the ties are given (YtnlbhdepagkjgaaDoorTie.lean); close each card by the builder's one call (the guide's Derived/Test/ToyasCard.lean, 'card_holds'). Laid BY PROGRAM, IN A SANDBOX (cutbox-door.mjs). By AI agents, Wed Nov 11 2026. No macro, syntax, notation, axiom, sorry.
-/
import Derived.Test.YtnlbhdepagkjgaaDoorRows
import GoSem.ClaimSeven
namespace Go.Proofs.YtnlbhdepagkjgaaDoor
namespace Rows

/-- THE TIED CARD OF 'laws.FnExactSameOutputs'. -/
def fnExactSameOutputsCard : Claim7 := { stood := { row := fnExactSameOutputsRow, standIns := [], harness := (true, "194c161d68b45173730838031868ebfbdd0cefcecf9b0022978f3c30fc5f7547"), looks := false }, kinds := [], alts := [], laidByText := true, laidKinds := [.data], laidTests := true, laidLooks := .later }
def FnExactSameOutputsCardSaid : Prop := Claim7.holds Tryd.pinned (.plain (OpenSpec.ofChange fnExactSameOutputsSpec)) fnExactSameOutputsCard

/-- THE TIED CARD OF 'laws.FnExactHankelRank'. -/
def fnExactHankelRankCard : Claim7 := { stood := { row := fnExactHankelRankRow, standIns := [], harness := (true, "194c161d68b45173730838031868ebfbdd0cefcecf9b0022978f3c30fc5f7547"), looks := false }, kinds := [], alts := [], laidByText := true, laidKinds := [.data], laidTests := true, laidLooks := .later }
def FnExactHankelRankCardSaid : Prop := Claim7.holds Tryd.pinned (.plain (OpenSpec.ofChange fnExactHankelRankSpec)) fnExactHankelRankCard

/-- THE TIED CARD OF 'laws.FnExactMarkovParameters'. -/
def fnExactMarkovParametersCard : Claim7 := { stood := { row := fnExactMarkovParametersRow, standIns := [], harness := (true, "194c161d68b45173730838031868ebfbdd0cefcecf9b0022978f3c30fc5f7547"), looks := false }, kinds := [], alts := [], laidByText := true, laidKinds := [.data], laidTests := true, laidLooks := .later }
def FnExactMarkovParametersCardSaid : Prop := Claim7.holds Tryd.pinned (.plain (OpenSpec.ofChange fnExactMarkovParametersSpec)) fnExactMarkovParametersCard

/-- THE TIED CARD OF 'laws.FnExactHasVector'. -/
def fnExactHasVectorCard : Claim7 := { stood := { row := fnExactHasVectorRow, standIns := [], harness := (true, "194c161d68b45173730838031868ebfbdd0cefcecf9b0022978f3c30fc5f7547"), looks := false }, kinds := [], alts := [], laidByText := true, laidKinds := [.data], laidTests := true, laidLooks := .later }
def FnExactHasVectorCardSaid : Prop := Claim7.holds Tryd.pinned (.plain (OpenSpec.ofChange fnExactHasVectorSpec)) fnExactHasVectorCard

/-- THE TIED CARD OF 'laws.FnExactFirstChoice'. -/
def fnExactFirstChoiceCard : Claim7 := { stood := { row := fnExactFirstChoiceRow, standIns := [], harness := (true, "194c161d68b45173730838031868ebfbdd0cefcecf9b0022978f3c30fc5f7547"), looks := false }, kinds := [], alts := [], laidByText := true, laidKinds := [.data], laidTests := true, laidLooks := .later }
def FnExactFirstChoiceCardSaid : Prop := Claim7.holds Tryd.pinned (.plain (OpenSpec.ofChange fnExactFirstChoiceSpec)) fnExactFirstChoiceCard

/-- THE TIED CARD OF 'laws.FnExactHasPair'. -/
def fnExactHasPairCard : Claim7 := { stood := { row := fnExactHasPairRow, standIns := [], harness := (true, "194c161d68b45173730838031868ebfbdd0cefcecf9b0022978f3c30fc5f7547"), looks := false }, kinds := [], alts := [], laidByText := true, laidKinds := [.data], laidTests := true, laidLooks := .later }
def FnExactHasPairCardSaid : Prop := Claim7.holds Tryd.pinned (.plain (OpenSpec.ofChange fnExactHasPairSpec)) fnExactHasPairCard

/-- THE TIED CARD OF 'laws.FnExactNeverInputs'. -/
def fnExactNeverInputsCard : Claim7 := { stood := { row := fnExactNeverInputsRow, standIns := [], harness := (true, "194c161d68b45173730838031868ebfbdd0cefcecf9b0022978f3c30fc5f7547"), looks := false }, kinds := [], alts := [], laidByText := true, laidKinds := [.data], laidTests := true, laidLooks := .later }
def FnExactNeverInputsCardSaid : Prop := Claim7.holds Tryd.pinned (.plain (OpenSpec.ofChange fnExactNeverInputsSpec)) fnExactNeverInputsCard

/-- THE TIED CARD OF 'laws.FnExactIncludesRelation'. -/
def fnExactIncludesRelationCard : Claim7 := { stood := { row := fnExactIncludesRelationRow, standIns := [], harness := (true, "194c161d68b45173730838031868ebfbdd0cefcecf9b0022978f3c30fc5f7547"), looks := false }, kinds := [], alts := [], laidByText := true, laidKinds := [.data], laidTests := true, laidLooks := .later }
def FnExactIncludesRelationCardSaid : Prop := Claim7.holds Tryd.pinned (.plain (OpenSpec.ofChange fnExactIncludesRelationSpec)) fnExactIncludesRelationCard

/-- THE TIED CARD OF 'laws.FnExactCoordinatesOf'. -/
def fnExactCoordinatesOfCard : Claim7 := { stood := { row := fnExactCoordinatesOfRow, standIns := [], harness := (true, "194c161d68b45173730838031868ebfbdd0cefcecf9b0022978f3c30fc5f7547"), looks := false }, kinds := [], alts := [], laidByText := true, laidKinds := [.data], laidTests := true, laidLooks := .later }
def FnExactCoordinatesOfCardSaid : Prop := Claim7.holds Tryd.pinned (.plain (OpenSpec.ofChange fnExactCoordinatesOfSpec)) fnExactCoordinatesOfCard

/-- THE TIED CARD OF 'laws.FnExactShortestRecurrence'. -/
def fnExactShortestRecurrenceCard : Claim7 := { stood := { row := fnExactShortestRecurrenceRow, standIns := [], harness := (true, "194c161d68b45173730838031868ebfbdd0cefcecf9b0022978f3c30fc5f7547"), looks := false }, kinds := [], alts := [], laidByText := true, laidKinds := [.data], laidTests := true, laidLooks := .later }
def FnExactShortestRecurrenceCardSaid : Prop := Claim7.holds Tryd.pinned (.plain (OpenSpec.ofChange fnExactShortestRecurrenceSpec)) fnExactShortestRecurrenceCard

/-- THE TIED CARD OF 'laws.FnExactSolveLinear'. -/
def fnExactSolveLinearCard : Claim7 := { stood := { row := fnExactSolveLinearRow, standIns := [], harness := (true, "194c161d68b45173730838031868ebfbdd0cefcecf9b0022978f3c30fc5f7547"), looks := false }, kinds := [], alts := [], laidByText := true, laidKinds := [.data], laidTests := true, laidLooks := .later }
def FnExactSolveLinearCardSaid : Prop := Claim7.holds Tryd.pinned (.plain (OpenSpec.ofChange fnExactSolveLinearSpec)) fnExactSolveLinearCard

/-- THE SECOND FORM's CARD OF 'laws.FnExactSameOutputs'. -/
def fnExactSameOutputsUptoCard : Claim7 := { stood := { row := fnExactSameOutputsUptoRow, standIns := [], harness := (true, "194c161d68b45173730838031868ebfbdd0cefcecf9b0022978f3c30fc5f7547"), looks := false }, kinds := [], alts := [], laidByText := true, laidKinds := [.data], laidTests := true, laidLooks := .later }
def FnExactSameOutputsUptoCardSaid : Prop := Claim7.holds Tryd.pinned (.plain (OpenSpec.upto fnExactSameOutputsSpec)) fnExactSameOutputsUptoCard

/-- THE SECOND FORM's CARD OF 'laws.FnExactHankelRank'. -/
def fnExactHankelRankUptoCard : Claim7 := { stood := { row := fnExactHankelRankUptoRow, standIns := [], harness := (true, "194c161d68b45173730838031868ebfbdd0cefcecf9b0022978f3c30fc5f7547"), looks := false }, kinds := [], alts := [], laidByText := true, laidKinds := [.data], laidTests := true, laidLooks := .later }
def FnExactHankelRankUptoCardSaid : Prop := Claim7.holds Tryd.pinned (.plain (OpenSpec.upto fnExactHankelRankSpec)) fnExactHankelRankUptoCard

/-- THE SECOND FORM's CARD OF 'laws.FnExactMarkovParameters'. -/
def fnExactMarkovParametersUptoCard : Claim7 := { stood := { row := fnExactMarkovParametersUptoRow, standIns := [], harness := (true, "194c161d68b45173730838031868ebfbdd0cefcecf9b0022978f3c30fc5f7547"), looks := false }, kinds := [], alts := [], laidByText := true, laidKinds := [.data], laidTests := true, laidLooks := .later }
def FnExactMarkovParametersUptoCardSaid : Prop := Claim7.holds Tryd.pinned (.plain (OpenSpec.upto fnExactMarkovParametersSpec)) fnExactMarkovParametersUptoCard

/-- THE SECOND FORM's CARD OF 'laws.FnExactHasVector'. -/
def fnExactHasVectorUptoCard : Claim7 := { stood := { row := fnExactHasVectorUptoRow, standIns := [], harness := (true, "194c161d68b45173730838031868ebfbdd0cefcecf9b0022978f3c30fc5f7547"), looks := false }, kinds := [], alts := [], laidByText := true, laidKinds := [.data], laidTests := true, laidLooks := .later }
def FnExactHasVectorUptoCardSaid : Prop := Claim7.holds Tryd.pinned (.plain (OpenSpec.upto fnExactHasVectorSpec)) fnExactHasVectorUptoCard

/-- THE SECOND FORM's CARD OF 'laws.FnExactFirstChoice'. -/
def fnExactFirstChoiceUptoCard : Claim7 := { stood := { row := fnExactFirstChoiceUptoRow, standIns := [], harness := (true, "194c161d68b45173730838031868ebfbdd0cefcecf9b0022978f3c30fc5f7547"), looks := false }, kinds := [], alts := [], laidByText := true, laidKinds := [.data], laidTests := true, laidLooks := .later }
def FnExactFirstChoiceUptoCardSaid : Prop := Claim7.holds Tryd.pinned (.plain (OpenSpec.upto fnExactFirstChoiceSpec)) fnExactFirstChoiceUptoCard

/-- THE SECOND FORM's CARD OF 'laws.FnExactHasPair'. -/
def fnExactHasPairUptoCard : Claim7 := { stood := { row := fnExactHasPairUptoRow, standIns := [], harness := (true, "194c161d68b45173730838031868ebfbdd0cefcecf9b0022978f3c30fc5f7547"), looks := false }, kinds := [], alts := [], laidByText := true, laidKinds := [.data], laidTests := true, laidLooks := .later }
def FnExactHasPairUptoCardSaid : Prop := Claim7.holds Tryd.pinned (.plain (OpenSpec.upto fnExactHasPairSpec)) fnExactHasPairUptoCard

/-- THE SECOND FORM's CARD OF 'laws.FnExactNeverInputs'. -/
def fnExactNeverInputsUptoCard : Claim7 := { stood := { row := fnExactNeverInputsUptoRow, standIns := [], harness := (true, "194c161d68b45173730838031868ebfbdd0cefcecf9b0022978f3c30fc5f7547"), looks := false }, kinds := [], alts := [], laidByText := true, laidKinds := [.data], laidTests := true, laidLooks := .later }
def FnExactNeverInputsUptoCardSaid : Prop := Claim7.holds Tryd.pinned (.plain (OpenSpec.upto fnExactNeverInputsSpec)) fnExactNeverInputsUptoCard

/-- THE SECOND FORM's CARD OF 'laws.FnExactIncludesRelation'. -/
def fnExactIncludesRelationUptoCard : Claim7 := { stood := { row := fnExactIncludesRelationUptoRow, standIns := [], harness := (true, "194c161d68b45173730838031868ebfbdd0cefcecf9b0022978f3c30fc5f7547"), looks := false }, kinds := [], alts := [], laidByText := true, laidKinds := [.data], laidTests := true, laidLooks := .later }
def FnExactIncludesRelationUptoCardSaid : Prop := Claim7.holds Tryd.pinned (.plain (OpenSpec.upto fnExactIncludesRelationSpec)) fnExactIncludesRelationUptoCard

/-- THE SECOND FORM's CARD OF 'laws.FnExactCoordinatesOf'. -/
def fnExactCoordinatesOfUptoCard : Claim7 := { stood := { row := fnExactCoordinatesOfUptoRow, standIns := [], harness := (true, "194c161d68b45173730838031868ebfbdd0cefcecf9b0022978f3c30fc5f7547"), looks := false }, kinds := [], alts := [], laidByText := true, laidKinds := [.data], laidTests := true, laidLooks := .later }
def FnExactCoordinatesOfUptoCardSaid : Prop := Claim7.holds Tryd.pinned (.plain (OpenSpec.upto fnExactCoordinatesOfSpec)) fnExactCoordinatesOfUptoCard

/-- THE SECOND FORM's CARD OF 'laws.FnExactShortestRecurrence'. -/
def fnExactShortestRecurrenceUptoCard : Claim7 := { stood := { row := fnExactShortestRecurrenceUptoRow, standIns := [], harness := (true, "194c161d68b45173730838031868ebfbdd0cefcecf9b0022978f3c30fc5f7547"), looks := false }, kinds := [], alts := [], laidByText := true, laidKinds := [.data], laidTests := true, laidLooks := .later }
def FnExactShortestRecurrenceUptoCardSaid : Prop := Claim7.holds Tryd.pinned (.plain (OpenSpec.upto fnExactShortestRecurrenceSpec)) fnExactShortestRecurrenceUptoCard

/-- THE SECOND FORM's CARD OF 'laws.FnExactSolveLinear'. -/
def fnExactSolveLinearUptoCard : Claim7 := { stood := { row := fnExactSolveLinearUptoRow, standIns := [], harness := (true, "194c161d68b45173730838031868ebfbdd0cefcecf9b0022978f3c30fc5f7547"), looks := false }, kinds := [], alts := [], laidByText := true, laidKinds := [.data], laidTests := true, laidLooks := .later }
def FnExactSolveLinearUptoCardSaid : Prop := Claim7.holds Tryd.pinned (.plain (OpenSpec.upto fnExactSolveLinearSpec)) fnExactSolveLinearUptoCard
end Rows
end Go.Proofs.YtnlbhdepagkjgaaDoor
