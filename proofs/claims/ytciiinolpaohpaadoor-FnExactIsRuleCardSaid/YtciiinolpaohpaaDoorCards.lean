/-
  DERIVED. GIVEN WITH THE SEED: THE CARDS: each row of YtciiinolpaohpaaDoorRows.lean that lists a variable, with what it lists TIED to the program's text (the seventh form; the later family's looks); each row that meets fmt, with fmt's text TOLD by the authors' own Lean function (tested against real Go, not proved from fmt's source: count such statements apart). THE CARD IS WHAT COUNTS. Prove the row's statement (the work); the ties are given (YtciiinolpaohpaaDoorTie.lean); close each card by the builder's one call (the guide's Derived/Test/ToyasCard.lean, 'card_holds'). Laid BY PROGRAM, IN A SANDBOX (cutbox-door.mjs). By AI agents, Wed Nov 11 2026. No macro, syntax, notation, axiom, sorry.
-/
import Derived.Test.YtciiinolpaohpaaDoorRows
import GoSem.ClaimSeven
namespace Go.Proofs.YtciiinolpaohpaaDoor
namespace Rows

/-- THE TIED CARD OF 'laws.FnExactIsRule'. -/
def fnExactIsRuleCard : Claim7 := { stood := { row := fnExactIsRuleRow, standIns := [], harness := (true, "6e77b4c31fa4355d8ccbb0f4714284734898f96e9c164d4fa670770f45f2d37f"), looks := false }, kinds := [], alts := [], laidByText := true, laidKinds := [.data], laidTests := true, laidLooks := .later }
def FnExactIsRuleCardSaid : Prop := Claim7.holds Tryd.pinned (.plain (OpenSpec.ofChange fnExactIsRuleSpec)) fnExactIsRuleCard

/-- THE SECOND FORM's CARD OF 'laws.FnExactIsRule'. -/
def fnExactIsRuleUptoCard : Claim7 := { stood := { row := fnExactIsRuleUptoRow, standIns := [], harness := (true, "6e77b4c31fa4355d8ccbb0f4714284734898f96e9c164d4fa670770f45f2d37f"), looks := false }, kinds := [], alts := [], laidByText := true, laidKinds := [.data], laidTests := true, laidLooks := .later }
def FnExactIsRuleUptoCardSaid : Prop := Claim7.holds Tryd.pinned (.plain (OpenSpec.upto fnExactIsRuleSpec)) fnExactIsRuleUptoCard
end Rows
end Go.Proofs.YtciiinolpaohpaaDoor
