/-
  The facts of the program and of the row of ReachableWires: a text of its own, for the kernel's memory. Printed by a program (wip/y/card.py).
-/
import Derived.Test.YtgfnophfoccamaaRows
import Derived.WalkKit
import Derived.ProofKit
import Derived.OpenShut
import Derived.Deep.DeepHandedRow
namespace Go.Proofs.Ytgfnophfoccamaa.fnExactReachableWires
open Go Go.ChangeShapes Go.WideShapes Go.ChangeAt Go.RowKit
theorem facts : joinedFacts Try.pinned.checked.prog 4 Try.f4 (OpenSpec.ofChange Rows.fnExactReachableWiresSpec).bare Rows.fnExactReachableWiresRow = true := by kernel_rfl
end Go.Proofs.Ytgfnophfoccamaa.fnExactReachableWires
