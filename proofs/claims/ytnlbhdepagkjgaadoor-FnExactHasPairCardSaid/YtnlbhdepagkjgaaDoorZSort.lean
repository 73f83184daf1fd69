/-
  What sorting an empty list does: nothing. Contracts by hand, of the functions of Go's library that are reached. No condition.
-/
import Derived.Test.YtnlbhdepagkjgaaDoorZEng
import Derived.Test.YtnlbhdepagkjgaaDoorZOps21
namespace Go.Proofs.YtnlbhdepagkjgaaDoor
open Go Go.Proofs.YtnlbhdepagkjgaaDoor.RW
set_option maxRecDepth 100000
set_option linter.unusedVariables false
end Go.Proofs.YtnlbhdepagkjgaaDoor
