/-
  The facts of the program and of the row of RealizeMarkov: a text of its own, for the kernel's memory. Printed by a program (wip/y/card.py).
-/
import Derived.Test.YtocpeclcoikdpaaDoorCards
import Derived.WalkKit
import Derived.ProofKit
import Derived.OpenShut
import Derived.Deep.DeepHandedRow
namespace Go.Proofs.YtocpeclcoikdpaaDoor.fnExactRealizeMarkov
open Go Go.ChangeShapes Go.WideShapes Go.ChangeAt Go.RowKit
theorem facts : joinedFacts Tryd.pinned.checked.prog 5 Tryd.f5 (OpenSpec.ofChange Rows.fnExactRealizeMarkovSpec).bare Rows.fnExactRealizeMarkovRow = true := by kernel_rfl
end Go.Proofs.YtocpeclcoikdpaaDoor.fnExactRealizeMarkov
