/-
  DERIVED. GIVEN WITH THE SEED: THE CARDS: each row of YteimaohaeodbkaaGreatDoorRows.lean that lists a variable, with what it lists TIED to the program's text (the seventh form; the later family's looks); each row that meets fmt, with fmt's text TOLD by the authors' own Lean function (tested against real Go, not proved from fmt's source: count such statements apart). THE CARD IS WHAT COUNTS. Prove the row's statement (the work); the ties are given (YteimaohaeodbkaaGreatDoorTie.lean); close each card by the builder's one call (the guide's Derived/Test/ToyasCard.lean, 'card_holds'). Laid BY PROGRAM, IN A SANDBOX (cutbox-door.mjs). By AI agents, Wed Nov 11 2026. No macro, syntax, notation, axiom, sorry.
-/
import Derived.Test.YteimaohaeodbkaaGreatDoorRows
import GoSem.ClaimSeven
namespace Go.Proofs.YteimaohaeodbkaaGreatDoor
namespace Rows

/-- THE TIED CARD OF 'laws.FnExactPrintRule'. -/
def fnExactPrintRuleCard : Claim7 := { stood := { row := fnExactPrintRuleRow, standIns := [], harness := (true, "1f6d281a70c47c425ad1b5e8ba9b39a44696ab976889d65a40d43e13c4ae9820"), looks := true }, kinds := [], alts := [], laidByText := true, laidKinds := [.data, .data, .data], laidTests := true, laidLooks := .later }
def FnExactPrintRuleCardSaid : Prop := Claim7.holds Tryz.pinned (.plain (OpenSpec.ofChange fnExactPrintRuleSpec)) fnExactPrintRuleCard

/-- THE SECOND FORM's CARD OF 'laws.FnExactPrintRule'. -/
def fnExactPrintRuleUptoCard : Claim7 := { stood := { row := fnExactPrintRuleUptoRow, standIns := [], harness := (true, "1f6d281a70c47c425ad1b5e8ba9b39a44696ab976889d65a40d43e13c4ae9820"), looks := true }, kinds := [], alts := [], laidByText := true, laidKinds := [.data, .data, .data], laidTests := true, laidLooks := .later }
def FnExactPrintRuleUptoCardSaid : Prop := Claim7.holds Tryz.pinned (.plain (OpenSpec.upto fnExactPrintRuleSpec)) fnExactPrintRuleUptoCard
end Rows
end Go.Proofs.YteimaohaeodbkaaGreatDoor
