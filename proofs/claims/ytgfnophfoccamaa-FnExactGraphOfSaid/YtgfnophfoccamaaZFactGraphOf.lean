/-
  The facts of the program and of the row of GraphOf: a text of its own, for the kernel's memory. Printed by a program (wip/y/card.py).
-/
import Derived.Test.YtgfnophfoccamaaRows
import Derived.WalkKit
import Derived.ProofKit
import Derived.OpenShut
import Derived.Deep.DeepHandedRow
namespace Go.Proofs.Ytgfnophfoccamaa.fnExactGraphOf
open Go Go.ChangeShapes Go.WideShapes Go.ChangeAt Go.RowKit
theorem facts : joinedFacts Try.pinned.checked.prog 8 Try.f8 (OpenSpec.ofChange Rows.fnExactGraphOfSpec).bare Rows.fnExactGraphOfRow = true := by kernel_rfl
end Go.Proofs.Ytgfnophfoccamaa.fnExactGraphOf
