/-
  The facts of the program and of the row of MissingPair: a text of its own, for the kernel's memory. Printed by a program (wip/y/card.py).
-/
import Derived.Test.YtlggnmkelgplnaaGreatDoorCards
import Derived.WalkKit
import Derived.ProofKit
import Derived.OpenShut
import Derived.Deep.DeepHandedRow
namespace Go.Proofs.YtlggnmkelgplnaaGreatDoor.fnExactMissingPair
open Go Go.ChangeShapes Go.WideShapes Go.ChangeAt Go.RowKit
theorem facts:joinedFacts Tryz.pinned.checked.prog 5 Tryz.f5 (OpenSpec.ofChange Rows.fnExactMissingPairSpec).bare Rows.fnExactMissingPairRow = true:=by kernel_rfl
end Go.Proofs.YtlggnmkelgplnaaGreatDoor.fnExactMissingPair
