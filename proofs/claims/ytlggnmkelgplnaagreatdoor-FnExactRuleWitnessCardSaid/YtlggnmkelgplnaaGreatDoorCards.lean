/-
  DERIVED. GIVEN WITH THE SEED: THE CARDS: each row of YtlggnmkelgplnaaGreatDoorRows.lean that lists a variable, with what it lists TIED to the program's text (the seventh form; the later family's looks); each row that meets fmt, with fmt's text TOLD by the authors' own Lean function (tested against real Go, not proved from fmt's source: count such statements apart). THE CARD IS WHAT COUNTS. Prove the row's statement (the work); the ties are given (YtlggnmkelgplnaaGreatDoorTie.lean); close each card by the builder's one call (the guide's Derived/Test/ToyasCard.lean, 'card_holds'). Laid BY PROGRAM, IN A SANDBOX (cutbox-door.mjs). By AI agents, Wed Nov 11 2026. No macro, syntax, notation, axiom, sorry.
-/
import Derived.Test.YtlggnmkelgplnaaGreatDoorRows
import GoSem.ClaimSeven
namespace Go.Proofs.YtlggnmkelgplnaaGreatDoor
namespace Rows

/-- THE TIED CARD OF 'laws.FnExactEqualTerms'. -/
def fnExactEqualTermsCard : Claim7 := { stood := { row := fnExactEqualTermsRow, standIns := [], harness := (true, "d4ba02ee5fe991cb6bc91bb93d1c6a5a264c24e0fee54bb2d40a0179494bf6ef"), looks := false }, kinds := [], alts := [], laidByText := true, laidKinds := [.data], laidTests := true, laidLooks := .later }
def FnExactEqualTermsCardSaid : Prop := Claim7.holds Tryz.pinned (.plain (OpenSpec.ofChange fnExactEqualTermsSpec)) fnExactEqualTermsCard

/-- THE TIED CARD OF 'laws.FnExactIncludedTerms'. -/
def fnExactIncludedTermsCard : Claim7 := { stood := { row := fnExactIncludedTermsRow, standIns := [], harness := (true, "d4ba02ee5fe991cb6bc91bb93d1c6a5a264c24e0fee54bb2d40a0179494bf6ef"), looks := false }, kinds := [], alts := [], laidByText := true, laidKinds := [.data], laidTests := true, laidLooks := .later }
def FnExactIncludedTermsCardSaid : Prop := Claim7.holds Tryz.pinned (.plain (OpenSpec.ofChange fnExactIncludedTermsSpec)) fnExactIncludedTermsCard

/-- THE TIED CARD OF 'laws.FnExactMissingPair'. -/
def fnExactMissingPairCard : Claim7 := { stood := { row := fnExactMissingPairRow, standIns := [], harness := (true, "d4ba02ee5fe991cb6bc91bb93d1c6a5a264c24e0fee54bb2d40a0179494bf6ef"), looks := false }, kinds := [], alts := [], laidByText := true, laidKinds := [.data], laidTests := true, laidLooks := .later }
def FnExactMissingPairCardSaid : Prop := Claim7.holds Tryz.pinned (.plain (OpenSpec.ofChange fnExactMissingPairSpec)) fnExactMissingPairCard

/-- THE TIED CARD OF 'laws.FnExactIsSoundRule'. -/
def fnExactIsSoundRuleCard : Claim7 := { stood := { row := fnExactIsSoundRuleRow, standIns := [], harness := (true, "d4ba02ee5fe991cb6bc91bb93d1c6a5a264c24e0fee54bb2d40a0179494bf6ef"), looks := false }, kinds := [], alts := [], laidByText := true, laidKinds := [.data], laidTests := true, laidLooks := .later }
def FnExactIsSoundRuleCardSaid : Prop := Claim7.holds Tryz.pinned (.plain (OpenSpec.ofChange fnExactIsSoundRuleSpec)) fnExactIsSoundRuleCard

/-- THE TIED CARD OF 'laws.FnExactRuleWitness'. -/
def fnExactRuleWitnessCard : Claim7 := { stood := { row := fnExactRuleWitnessRow, standIns := [], harness := (true, "d4ba02ee5fe991cb6bc91bb93d1c6a5a264c24e0fee54bb2d40a0179494bf6ef"), looks := false }, kinds := [], alts := [], laidByText := true, laidKinds := [.data], laidTests := true, laidLooks := .later }
def FnExactRuleWitnessCardSaid : Prop := Claim7.holds Tryz.pinned (.plain (OpenSpec.ofChange fnExactRuleWitnessSpec)) fnExactRuleWitnessCard

/-- THE SECOND FORM's CARD OF 'laws.FnExactEqualTerms'. -/
def fnExactEqualTermsUptoCard : Claim7 := { stood := { row := fnExactEqualTermsUptoRow, standIns := [], harness := (true, "d4ba02ee5fe991cb6bc91bb93d1c6a5a264c24e0fee54bb2d40a0179494bf6ef"), looks := false }, kinds := [], alts := [], laidByText := true, laidKinds := [.data], laidTests := true, laidLooks := .later }
def FnExactEqualTermsUptoCardSaid : Prop := Claim7.holds Tryz.pinned (.plain (OpenSpec.upto fnExactEqualTermsSpec)) fnExactEqualTermsUptoCard

/-- THE SECOND FORM's CARD OF 'laws.FnExactIncludedTerms'. -/
def fnExactIncludedTermsUptoCard : Claim7 := { stood := { row := fnExactIncludedTermsUptoRow, standIns := [], harness := (true, "d4ba02ee5fe991cb6bc91bb93d1c6a5a264c24e0fee54bb2d40a0179494bf6ef"), looks := false }, kinds := [], alts := [], laidByText := true, laidKinds := [.data], laidTests := true, laidLooks := .later }
def FnExactIncludedTermsUptoCardSaid : Prop := Claim7.holds Tryz.pinned (.plain (OpenSpec.upto fnExactIncludedTermsSpec)) fnExactIncludedTermsUptoCard

/-- THE SECOND FORM's CARD OF 'laws.FnExactMissingPair'. -/
def fnExactMissingPairUptoCard : Claim7 := { stood := { row := fnExactMissingPairUptoRow, standIns := [], harness := (true, "d4ba02ee5fe991cb6bc91bb93d1c6a5a264c24e0fee54bb2d40a0179494bf6ef"), looks := false }, kinds := [], alts := [], laidByText := true, laidKinds := [.data], laidTests := true, laidLooks := .later }
def FnExactMissingPairUptoCardSaid : Prop := Claim7.holds Tryz.pinned (.plain (OpenSpec.upto fnExactMissingPairSpec)) fnExactMissingPairUptoCard

/-- THE SECOND FORM's CARD OF 'laws.FnExactIsSoundRule'. -/
def fnExactIsSoundRuleUptoCard : Claim7 := { stood := { row := fnExactIsSoundRuleUptoRow, standIns := [], harness := (true, "d4ba02ee5fe991cb6bc91bb93d1c6a5a264c24e0fee54bb2d40a0179494bf6ef"), looks := false }, kinds := [], alts := [], laidByText := true, laidKinds := [.data], laidTests := true, laidLooks := .later }
def FnExactIsSoundRuleUptoCardSaid : Prop := Claim7.holds Tryz.pinned (.plain (OpenSpec.upto fnExactIsSoundRuleSpec)) fnExactIsSoundRuleUptoCard

/-- THE SECOND FORM's CARD OF 'laws.FnExactRuleWitness'. -/
def fnExactRuleWitnessUptoCard : Claim7 := { stood := { row := fnExactRuleWitnessUptoRow, standIns := [], harness := (true, "d4ba02ee5fe991cb6bc91bb93d1c6a5a264c24e0fee54bb2d40a0179494bf6ef"), looks := false }, kinds := [], alts := [], laidByText := true, laidKinds := [.data], laidTests := true, laidLooks := .later }
def FnExactRuleWitnessUptoCardSaid : Prop := Claim7.holds Tryz.pinned (.plain (OpenSpec.upto fnExactRuleWitnessSpec)) fnExactRuleWitnessUptoCard
end Rows
end Go.Proofs.YtlggnmkelgplnaaGreatDoor
