/-
  DERIVED. GIVEN WITH THE SEED: THE CARDS: each row of YteikcdofblclhaaDoorRows.lean that lists a variable, with what it lists TIED to the program's text (the seventh form; the later family's looks); each row that meets fmt, with fmt's text TOLD by the authors' own Lean function (tested against real Go, not proved from fmt's source: count such statements apart). THE CARD IS WHAT COUNTS. Prove the row's statement (the work); the ties are given (YteikcdofblclhaaDoorTie.lean); close each card by the builder's one call (the guide's Derived/Test/ToyasCard.lean, 'card_holds'). Laid BY PROGRAM, IN A SANDBOX (cutbox-door.mjs). By AI agents, Wed Nov 11 2026. No macro, syntax, notation, axiom, sorry.
-/
import Derived.Test.YteikcdofblclhaaDoorRows
import GoSem.ClaimSeven
namespace Go.Proofs.YteikcdofblclhaaDoor
namespace Rows

/-- THE TIED CARD OF 'laws.FnExactIsRealization'. -/
def fnExactIsRealizationCard : Claim7 := { stood := { row := fnExactIsRealizationRow, standIns := [], harness := (true, "3dccaab7e379c31e99f7f4f46e5020323e1a4661320651891fc8a7692187260a"), looks := false }, kinds := [], alts := [], laidByText := true, laidKinds := [.data], laidTests := true, laidLooks := .later }
def FnExactIsRealizationCardSaid : Prop := Claim7.holds Tryd.pinned (.plain (OpenSpec.ofChange fnExactIsRealizationSpec)) fnExactIsRealizationCard

/-- THE TIED CARD OF 'laws.FnExactReachableSpace'. -/
def fnExactReachableSpaceCard : Claim7 := { stood := { row := fnExactReachableSpaceRow, standIns := [], harness := (true, "3dccaab7e379c31e99f7f4f46e5020323e1a4661320651891fc8a7692187260a"), looks := false }, kinds := [], alts := [], laidByText := true, laidKinds := [.data], laidTests := true, laidLooks := .later }
def FnExactReachableSpaceCardSaid : Prop := Claim7.holds Tryd.pinned (.plain (OpenSpec.ofChange fnExactReachableSpaceSpec)) fnExactReachableSpaceCard

/-- THE TIED CARD OF 'laws.FnExactRelationOfFunction'. -/
def fnExactRelationOfFunctionCard : Claim7 := { stood := { row := fnExactRelationOfFunctionRow, standIns := [], harness := (true, "3dccaab7e379c31e99f7f4f46e5020323e1a4661320651891fc8a7692187260a"), looks := false }, kinds := [], alts := [], laidByText := true, laidKinds := [.data], laidTests := true, laidLooks := .later }
def FnExactRelationOfFunctionCardSaid : Prop := Claim7.holds Tryd.pinned (.plain (OpenSpec.ofChange fnExactRelationOfFunctionSpec)) fnExactRelationOfFunctionCard

/-- THE TIED CARD OF 'laws.FnExactAlwaysInputs'. -/
def fnExactAlwaysInputsCard : Claim7 := { stood := { row := fnExactAlwaysInputsRow, standIns := [], harness := (true, "3dccaab7e379c31e99f7f4f46e5020323e1a4661320651891fc8a7692187260a"), looks := false }, kinds := [], alts := [], laidByText := true, laidKinds := [.data], laidTests := true, laidLooks := .later }
def FnExactAlwaysInputsCardSaid : Prop := Claim7.holds Tryd.pinned (.plain (OpenSpec.ofChange fnExactAlwaysInputsSpec)) fnExactAlwaysInputsCard

/-- THE TIED CARD OF 'laws.FnExactIsInputChoice'. -/
def fnExactIsInputChoiceCard : Claim7 := { stood := { row := fnExactIsInputChoiceRow, standIns := [], harness := (true, "3dccaab7e379c31e99f7f4f46e5020323e1a4661320651891fc8a7692187260a"), looks := false }, kinds := [], alts := [], laidByText := true, laidKinds := [.data], laidTests := true, laidLooks := .later }
def FnExactIsInputChoiceCardSaid : Prop := Claim7.holds Tryd.pinned (.plain (OpenSpec.ofChange fnExactIsInputChoiceSpec)) fnExactIsInputChoiceCard

/-- THE TIED CARD OF 'laws.FnExactIsMinimal'. -/
def fnExactIsMinimalCard : Claim7 := { stood := { row := fnExactIsMinimalRow, standIns := [], harness := (true, "3dccaab7e379c31e99f7f4f46e5020323e1a4661320651891fc8a7692187260a"), looks := false }, kinds := [], alts := [], laidByText := true, laidKinds := [.data], laidTests := true, laidLooks := .later }
def FnExactIsMinimalCardSaid : Prop := Claim7.holds Tryd.pinned (.plain (OpenSpec.ofChange fnExactIsMinimalSpec)) fnExactIsMinimalCard

/-- THE TIED CARD OF 'laws.FnExactReplaceablePorts'. -/
def fnExactReplaceablePortsCard : Claim7 := { stood := { row := fnExactReplaceablePortsRow, standIns := [], harness := (true, "3dccaab7e379c31e99f7f4f46e5020323e1a4661320651891fc8a7692187260a"), looks := false }, kinds := [], alts := [], laidByText := true, laidKinds := [.data], laidTests := true, laidLooks := .later }
def FnExactReplaceablePortsCardSaid : Prop := Claim7.holds Tryd.pinned (.plain (OpenSpec.ofChange fnExactReplaceablePortsSpec)) fnExactReplaceablePortsCard

/-- THE TIED CARD OF 'laws.FnExactHiddenSpace'. -/
def fnExactHiddenSpaceCard : Claim7 := { stood := { row := fnExactHiddenSpaceRow, standIns := [], harness := (true, "3dccaab7e379c31e99f7f4f46e5020323e1a4661320651891fc8a7692187260a"), looks := false }, kinds := [], alts := [], laidByText := true, laidKinds := [.data], laidTests := true, laidLooks := .later }
def FnExactHiddenSpaceCardSaid : Prop := Claim7.holds Tryd.pinned (.plain (OpenSpec.ofChange fnExactHiddenSpaceSpec)) fnExactHiddenSpaceCard

/-- THE TIED CARD OF 'laws.FnExactMinimizeSpace'. -/
def fnExactMinimizeSpaceCard : Claim7 := { stood := { row := fnExactMinimizeSpaceRow, standIns := [], harness := (true, "3dccaab7e379c31e99f7f4f46e5020323e1a4661320651891fc8a7692187260a"), looks := false }, kinds := [], alts := [], laidByText := true, laidKinds := [.data], laidTests := true, laidLooks := .later }
def FnExactMinimizeSpaceCardSaid : Prop := Claim7.holds Tryd.pinned (.plain (OpenSpec.ofChange fnExactMinimizeSpaceSpec)) fnExactMinimizeSpaceCard

/-- THE TIED CARD OF 'laws.FnExactSimilarityOf'. -/
def fnExactSimilarityOfCard : Claim7 := { stood := { row := fnExactSimilarityOfRow, standIns := [], harness := (true, "3dccaab7e379c31e99f7f4f46e5020323e1a4661320651891fc8a7692187260a"), looks := false }, kinds := [], alts := [], laidByText := true, laidKinds := [.data], laidTests := true, laidLooks := .later }
def FnExactSimilarityOfCardSaid : Prop := Claim7.holds Tryd.pinned (.plain (OpenSpec.ofChange fnExactSimilarityOfSpec)) fnExactSimilarityOfCard

/-- THE TIED CARD OF 'laws.FnExactRealizeSequence'. -/
def fnExactRealizeSequenceCard : Claim7 := { stood := { row := fnExactRealizeSequenceRow, standIns := [], harness := (true, "3dccaab7e379c31e99f7f4f46e5020323e1a4661320651891fc8a7692187260a"), looks := false }, kinds := [], alts := [], laidByText := true, laidKinds := [.data], laidTests := true, laidLooks := .later }
def FnExactRealizeSequenceCardSaid : Prop := Claim7.holds Tryd.pinned (.plain (OpenSpec.ofChange fnExactRealizeSequenceSpec)) fnExactRealizeSequenceCard

/-- THE TIED CARD OF 'laws.FnExactRealizeMarkov'. -/
def fnExactRealizeMarkovCard : Claim7 := { stood := { row := fnExactRealizeMarkovRow, standIns := [], harness := (true, "3dccaab7e379c31e99f7f4f46e5020323e1a4661320651891fc8a7692187260a"), looks := false }, kinds := [], alts := [], laidByText := true, laidKinds := [.data], laidTests := true, laidLooks := .later }
def FnExactRealizeMarkovCardSaid : Prop := Claim7.holds Tryd.pinned (.plain (OpenSpec.ofChange fnExactRealizeMarkovSpec)) fnExactRealizeMarkovCard

/-- THE SECOND FORM's CARD OF 'laws.FnExactIsRealization'. -/
def fnExactIsRealizationUptoCard : Claim7 := { stood := { row := fnExactIsRealizationUptoRow, standIns := [], harness := (true, "3dccaab7e379c31e99f7f4f46e5020323e1a4661320651891fc8a7692187260a"), looks := false }, kinds := [], alts := [], laidByText := true, laidKinds := [.data], laidTests := true, laidLooks := .later }
def FnExactIsRealizationUptoCardSaid : Prop := Claim7.holds Tryd.pinned (.plain (OpenSpec.upto fnExactIsRealizationSpec)) fnExactIsRealizationUptoCard

/-- THE SECOND FORM's CARD OF 'laws.FnExactReachableSpace'. -/
def fnExactReachableSpaceUptoCard : Claim7 := { stood := { row := fnExactReachableSpaceUptoRow, standIns := [], harness := (true, "3dccaab7e379c31e99f7f4f46e5020323e1a4661320651891fc8a7692187260a"), looks := false }, kinds := [], alts := [], laidByText := true, laidKinds := [.data], laidTests := true, laidLooks := .later }
def FnExactReachableSpaceUptoCardSaid : Prop := Claim7.holds Tryd.pinned (.plain (OpenSpec.upto fnExactReachableSpaceSpec)) fnExactReachableSpaceUptoCard

/-- THE SECOND FORM's CARD OF 'laws.FnExactRelationOfFunction'. -/
def fnExactRelationOfFunctionUptoCard : Claim7 := { stood := { row := fnExactRelationOfFunctionUptoRow, standIns := [], harness := (true, "3dccaab7e379c31e99f7f4f46e5020323e1a4661320651891fc8a7692187260a"), looks := false }, kinds := [], alts := [], laidByText := true, laidKinds := [.data], laidTests := true, laidLooks := .later }
def FnExactRelationOfFunctionUptoCardSaid : Prop := Claim7.holds Tryd.pinned (.plain (OpenSpec.upto fnExactRelationOfFunctionSpec)) fnExactRelationOfFunctionUptoCard

/-- THE SECOND FORM's CARD OF 'laws.FnExactAlwaysInputs'. -/
def fnExactAlwaysInputsUptoCard : Claim7 := { stood := { row := fnExactAlwaysInputsUptoRow, standIns := [], harness := (true, "3dccaab7e379c31e99f7f4f46e5020323e1a4661320651891fc8a7692187260a"), looks := false }, kinds := [], alts := [], laidByText := true, laidKinds := [.data], laidTests := true, laidLooks := .later }
def FnExactAlwaysInputsUptoCardSaid : Prop := Claim7.holds Tryd.pinned (.plain (OpenSpec.upto fnExactAlwaysInputsSpec)) fnExactAlwaysInputsUptoCard

/-- THE SECOND FORM's CARD OF 'laws.FnExactIsInputChoice'. -/
def fnExactIsInputChoiceUptoCard : Claim7 := { stood := { row := fnExactIsInputChoiceUptoRow, standIns := [], harness := (true, "3dccaab7e379c31e99f7f4f46e5020323e1a4661320651891fc8a7692187260a"), looks := false }, kinds := [], alts := [], laidByText := true, laidKinds := [.data], laidTests := true, laidLooks := .later }
def FnExactIsInputChoiceUptoCardSaid : Prop := Claim7.holds Tryd.pinned (.plain (OpenSpec.upto fnExactIsInputChoiceSpec)) fnExactIsInputChoiceUptoCard

/-- THE SECOND FORM's CARD OF 'laws.FnExactIsMinimal'. -/
def fnExactIsMinimalUptoCard : Claim7 := { stood := { row := fnExactIsMinimalUptoRow, standIns := [], harness := (true, "3dccaab7e379c31e99f7f4f46e5020323e1a4661320651891fc8a7692187260a"), looks := false }, kinds := [], alts := [], laidByText := true, laidKinds := [.data], laidTests := true, laidLooks := .later }
def FnExactIsMinimalUptoCardSaid : Prop := Claim7.holds Tryd.pinned (.plain (OpenSpec.upto fnExactIsMinimalSpec)) fnExactIsMinimalUptoCard

/-- THE SECOND FORM's CARD OF 'laws.FnExactReplaceablePorts'. -/
def fnExactReplaceablePortsUptoCard : Claim7 := { stood := { row := fnExactReplaceablePortsUptoRow, standIns := [], harness := (true, "3dccaab7e379c31e99f7f4f46e5020323e1a4661320651891fc8a7692187260a"), looks := false }, kinds := [], alts := [], laidByText := true, laidKinds := [.data], laidTests := true, laidLooks := .later }
def FnExactReplaceablePortsUptoCardSaid : Prop := Claim7.holds Tryd.pinned (.plain (OpenSpec.upto fnExactReplaceablePortsSpec)) fnExactReplaceablePortsUptoCard

/-- THE SECOND FORM's CARD OF 'laws.FnExactHiddenSpace'. -/
def fnExactHiddenSpaceUptoCard : Claim7 := { stood := { row := fnExactHiddenSpaceUptoRow, standIns := [], harness := (true, "3dccaab7e379c31e99f7f4f46e5020323e1a4661320651891fc8a7692187260a"), looks := false }, kinds := [], alts := [], laidByText := true, laidKinds := [.data], laidTests := true, laidLooks := .later }
def FnExactHiddenSpaceUptoCardSaid : Prop := Claim7.holds Tryd.pinned (.plain (OpenSpec.upto fnExactHiddenSpaceSpec)) fnExactHiddenSpaceUptoCard

/-- THE SECOND FORM's CARD OF 'laws.FnExactMinimizeSpace'. -/
def fnExactMinimizeSpaceUptoCard : Claim7 := { stood := { row := fnExactMinimizeSpaceUptoRow, standIns := [], harness := (true, "3dccaab7e379c31e99f7f4f46e5020323e1a4661320651891fc8a7692187260a"), looks := false }, kinds := [], alts := [], laidByText := true, laidKinds := [.data], laidTests := true, laidLooks := .later }
def FnExactMinimizeSpaceUptoCardSaid : Prop := Claim7.holds Tryd.pinned (.plain (OpenSpec.upto fnExactMinimizeSpaceSpec)) fnExactMinimizeSpaceUptoCard

/-- THE SECOND FORM's CARD OF 'laws.FnExactSimilarityOf'. -/
def fnExactSimilarityOfUptoCard : Claim7 := { stood := { row := fnExactSimilarityOfUptoRow, standIns := [], harness := (true, "3dccaab7e379c31e99f7f4f46e5020323e1a4661320651891fc8a7692187260a"), looks := false }, kinds := [], alts := [], laidByText := true, laidKinds := [.data], laidTests := true, laidLooks := .later }
def FnExactSimilarityOfUptoCardSaid : Prop := Claim7.holds Tryd.pinned (.plain (OpenSpec.upto fnExactSimilarityOfSpec)) fnExactSimilarityOfUptoCard

/-- THE SECOND FORM's CARD OF 'laws.FnExactRealizeSequence'. -/
def fnExactRealizeSequenceUptoCard : Claim7 := { stood := { row := fnExactRealizeSequenceUptoRow, standIns := [], harness := (true, "3dccaab7e379c31e99f7f4f46e5020323e1a4661320651891fc8a7692187260a"), looks := false }, kinds := [], alts := [], laidByText := true, laidKinds := [.data], laidTests := true, laidLooks := .later }
def FnExactRealizeSequenceUptoCardSaid : Prop := Claim7.holds Tryd.pinned (.plain (OpenSpec.upto fnExactRealizeSequenceSpec)) fnExactRealizeSequenceUptoCard

/-- THE SECOND FORM's CARD OF 'laws.FnExactRealizeMarkov'. -/
def fnExactRealizeMarkovUptoCard : Claim7 := { stood := { row := fnExactRealizeMarkovUptoRow, standIns := [], harness := (true, "3dccaab7e379c31e99f7f4f46e5020323e1a4661320651891fc8a7692187260a"), looks := false }, kinds := [], alts := [], laidByText := true, laidKinds := [.data], laidTests := true, laidLooks := .later }
def FnExactRealizeMarkovUptoCardSaid : Prop := Claim7.holds Tryd.pinned (.plain (OpenSpec.upto fnExactRealizeMarkovSpec)) fnExactRealizeMarkovUptoCard
end Rows
end Go.Proofs.YteikcdofblclhaaDoor
