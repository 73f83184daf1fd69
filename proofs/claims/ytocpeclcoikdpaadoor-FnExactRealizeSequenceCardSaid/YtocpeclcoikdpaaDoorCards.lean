/-
  DERIVED. GIVEN WITH THE SEED: THE CARDS: each row of YtocpeclcoikdpaaDoorRows.lean that lists a variable, with what it lists TIED to the program's text (the seventh form; the later family's looks); each row that meets fmt, with fmt's text TOLD by the authors' own Lean function (tested against real Go, not proved from fmt's source: count such statements apart). THE CARD IS WHAT COUNTS. Prove the row's statement (the work); the ties are given (YtocpeclcoikdpaaDoorTie.lean); close each card by the builder's one call (the guide's Derived/Test/ToyasCard.lean, 'card_holds'). Laid BY PROGRAM, IN A SANDBOX (cutbox-door.mjs). By AI agents, Wed Nov 11 2026. No macro, syntax, notation, axiom, sorry.
-/
import Derived.Test.YtocpeclcoikdpaaDoorRows
import GoSem.ClaimSeven
namespace Go.Proofs.YtocpeclcoikdpaaDoor
namespace Rows

/-- THE TIED CARD OF 'laws.FnExactSimilarityOf'. -/
def fnExactSimilarityOfCard : Claim7 := { stood := { row := fnExactSimilarityOfRow, standIns := [], harness := (true, "aee69ae4a7bd60cf94e933b4fc23dab2692190c3ef1f52f03bbb647e0b45ec81"), looks := false }, kinds := [], alts := [], laidByText := true, laidKinds := [.data], laidTests := true, laidLooks := .later }
def FnExactSimilarityOfCardSaid : Prop := Claim7.holds Tryd.pinned (.plain (OpenSpec.ofChange fnExactSimilarityOfSpec)) fnExactSimilarityOfCard

/-- THE TIED CARD OF 'laws.FnExactRealizeSequence'. -/
def fnExactRealizeSequenceCard : Claim7 := { stood := { row := fnExactRealizeSequenceRow, standIns := [], harness := (true, "aee69ae4a7bd60cf94e933b4fc23dab2692190c3ef1f52f03bbb647e0b45ec81"), looks := false }, kinds := [], alts := [], laidByText := true, laidKinds := [.data], laidTests := true, laidLooks := .later }
def FnExactRealizeSequenceCardSaid : Prop := Claim7.holds Tryd.pinned (.plain (OpenSpec.ofChange fnExactRealizeSequenceSpec)) fnExactRealizeSequenceCard

/-- THE TIED CARD OF 'laws.FnExactRealizeMarkov'. -/
def fnExactRealizeMarkovCard : Claim7 := { stood := { row := fnExactRealizeMarkovRow, standIns := [], harness := (true, "aee69ae4a7bd60cf94e933b4fc23dab2692190c3ef1f52f03bbb647e0b45ec81"), looks := false }, kinds := [], alts := [], laidByText := true, laidKinds := [.data], laidTests := true, laidLooks := .later }
def FnExactRealizeMarkovCardSaid : Prop := Claim7.holds Tryd.pinned (.plain (OpenSpec.ofChange fnExactRealizeMarkovSpec)) fnExactRealizeMarkovCard

/-- THE SECOND FORM's CARD OF 'laws.FnExactSimilarityOf'. -/
def fnExactSimilarityOfUptoCard : Claim7 := { stood := { row := fnExactSimilarityOfUptoRow, standIns := [], harness := (true, "aee69ae4a7bd60cf94e933b4fc23dab2692190c3ef1f52f03bbb647e0b45ec81"), looks := false }, kinds := [], alts := [], laidByText := true, laidKinds := [.data], laidTests := true, laidLooks := .later }
def FnExactSimilarityOfUptoCardSaid : Prop := Claim7.holds Tryd.pinned (.plain (OpenSpec.upto fnExactSimilarityOfSpec)) fnExactSimilarityOfUptoCard

/-- THE SECOND FORM's CARD OF 'laws.FnExactRealizeSequence'. -/
def fnExactRealizeSequenceUptoCard : Claim7 := { stood := { row := fnExactRealizeSequenceUptoRow, standIns := [], harness := (true, "aee69ae4a7bd60cf94e933b4fc23dab2692190c3ef1f52f03bbb647e0b45ec81"), looks := false }, kinds := [], alts := [], laidByText := true, laidKinds := [.data], laidTests := true, laidLooks := .later }
def FnExactRealizeSequenceUptoCardSaid : Prop := Claim7.holds Tryd.pinned (.plain (OpenSpec.upto fnExactRealizeSequenceSpec)) fnExactRealizeSequenceUptoCard

/-- THE SECOND FORM's CARD OF 'laws.FnExactRealizeMarkov'. -/
def fnExactRealizeMarkovUptoCard : Claim7 := { stood := { row := fnExactRealizeMarkovUptoRow, standIns := [], harness := (true, "aee69ae4a7bd60cf94e933b4fc23dab2692190c3ef1f52f03bbb647e0b45ec81"), looks := false }, kinds := [], alts := [], laidByText := true, laidKinds := [.data], laidTests := true, laidLooks := .later }
def FnExactRealizeMarkovUptoCardSaid : Prop := Claim7.holds Tryd.pinned (.plain (OpenSpec.upto fnExactRealizeMarkovSpec)) fnExactRealizeMarkovUptoCard
end Rows
end Go.Proofs.YtocpeclcoikdpaaDoor
