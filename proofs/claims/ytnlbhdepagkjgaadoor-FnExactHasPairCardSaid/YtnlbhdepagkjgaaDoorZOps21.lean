/-
  Maps from int to []int that a call makes for itself (of which the keys are told, and how long the lists are): made, a list taken out and put back, a key deleted, a loop over an empty one. Conditions: the engine's table holds ('EngOk').
-/
import Derived.Test.YtnlbhdepagkjgaaDoorZOps20
namespace Go.Proofs.YtnlbhdepagkjgaaDoor.RW
open Go
open Rep RepZ
set_option linter.unusedVariables false
set_option linter.unusedSectionVars false
section
variable {P : Program} {G : Eng} {w0 w : World} {F : List Nat} {S0 : Nat → Prop} {Γ : List Ent}
end
end Go.Proofs.YtnlbhdepagkjgaaDoor.RW
