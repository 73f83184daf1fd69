/-
  The facts of the program and of the row of RealizeSequence: a text of its own, for the kernel's memory. Printed by a program (wip/y/card.py).
-/
import Derived.Test.YtocpeclcoikdpaaDoorCards
import Derived.WalkKit
import Derived.ProofKit
import Derived.OpenShut
import Derived.Deep.DeepHandedRow
namespace Go.Proofs.YtocpeclcoikdpaaDoor.fnExactRealizeSequence
open Go Go.ChangeShapes Go.WideShapes Go.ChangeAt Go.RowKit
theorem facts : joinedFacts Tryd.pinned.checked.prog 4 Tryd.f4 (OpenSpec.ofChange Rows.fnExactRealizeSequenceSpec).bare Rows.fnExactRealizeSequenceRow = true := by kernel_rfl
end Go.Proofs.YtocpeclcoikdpaaDoor.fnExactRealizeSequence
