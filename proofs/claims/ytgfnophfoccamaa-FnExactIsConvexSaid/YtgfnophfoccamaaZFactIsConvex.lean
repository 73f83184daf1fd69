/-
  The facts of the program and of the row of IsConvex: a text of its own, for the kernel's memory. Printed by a program (wip/y/card.py).
-/
import Derived.Test.YtgfnophfoccamaaRows
import Derived.WalkKit
import Derived.ProofKit
import Derived.OpenShut
import Derived.Deep.DeepHandedRow
namespace Go.Proofs.Ytgfnophfoccamaa.fnExactIsConvex
open Go Go.ChangeShapes Go.WideShapes Go.ChangeAt Go.RowKit
theorem facts : joinedFacts Try.pinned.checked.prog 7 Try.f7 (OpenSpec.ofChange Rows.fnExactIsConvexSpec).bare Rows.fnExactIsConvexRow = true := by kernel_rfl
end Go.Proofs.Ytgfnophfoccamaa.fnExactIsConvex
