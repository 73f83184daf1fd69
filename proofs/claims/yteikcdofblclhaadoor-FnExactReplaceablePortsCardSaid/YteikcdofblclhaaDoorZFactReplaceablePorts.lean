/-
  The facts of the program and of the row of ReplaceablePorts: a text of its own, for the kernel's memory. Printed by a program (wip/y/card.py).
-/
import Derived.Test.YteikcdofblclhaaDoorCards
import Derived.WalkKit
import Derived.ProofKit
import Derived.OpenShut
import Derived.Deep.DeepHandedRow
namespace Go.Proofs.YteikcdofblclhaaDoor.fnExactReplaceablePorts
open Go Go.ChangeShapes Go.WideShapes Go.ChangeAt Go.RowKit
theorem facts : joinedFacts Tryd.pinned.checked.prog 9 Tryd.f9 (OpenSpec.ofChange Rows.fnExactReplaceablePortsSpec).bare Rows.fnExactReplaceablePortsRow = true := by kernel_rfl
end Go.Proofs.YteikcdofblclhaaDoor.fnExactReplaceablePorts
