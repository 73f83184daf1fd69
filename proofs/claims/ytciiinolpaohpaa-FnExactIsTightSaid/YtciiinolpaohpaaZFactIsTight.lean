/-
  The facts of the program and of the row of IsTight: a text of its own, for the kernel's memory. Printed by a program (wip/y/card.py).
-/
import Derived.Test.YtciiinolpaohpaaRows
import Derived.WalkKit
import Derived.ProofKit
import Derived.OpenShut
import Derived.Deep.DeepHandedRow
namespace Go.Proofs.Ytciiinolpaohpaa.fnExactIsTight
open Go Go.ChangeShapes Go.WideShapes Go.ChangeAt Go.RowKit
theorem facts : joinedFacts Try.pinned.checked.prog 4 Try.f4 (OpenSpec.ofChange Rows.fnExactIsTightSpec).bare Rows.fnExactIsTightRow = true := by kernel_rfl
end Go.Proofs.Ytciiinolpaohpaa.fnExactIsTight
