/-
  A list whose elements are handed on one by one, from the first on. No condition.
-/
import Derived.Test.YtnlbhdepagkjgaaDoorZOps19
namespace Go.Proofs.YtnlbhdepagkjgaaDoor.RW
open Go
open Rep RepZ
set_option linter.unusedVariables false
set_option linter.unusedSectionVars false
section
variable {w0 : World} {F : List Nat} {S0 : Nat → Prop} {w : World} {Γ : List Ent}
variable {P : Program} {G : Eng}
/-! ### maps from int to int: what is there, how many -/
end
end Go.Proofs.YtnlbhdepagkjgaaDoor.RW
