/-
  The facts of the program and of the row of TransferOf: a text of its own, for the kernel's memory. Printed by a program (wip/y/card.py).
-/
import Derived.Test.YtgkomaglodpefaaDoorCards
import Derived.WalkKit
import Derived.ProofKit
import Derived.OpenShut
import Derived.Deep.DeepHandedRow
namespace Go.Proofs.YtgkomaglodpefaaDoor.fnExactTransferOf
open Go Go.ChangeShapes Go.WideShapes Go.ChangeAt Go.RowKit
theorem facts : joinedFacts Tryd.pinned.checked.prog 3 Tryd.f3 (OpenSpec.ofChange Rows.fnExactTransferOfSpec).bare Rows.fnExactTransferOfRow = true := by kernel_rfl
end Go.Proofs.YtgkomaglodpefaaDoor.fnExactTransferOf
