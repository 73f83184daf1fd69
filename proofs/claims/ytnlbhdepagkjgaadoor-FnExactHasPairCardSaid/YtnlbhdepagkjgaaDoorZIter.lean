/-
  Loops over an iterator whose body appends what comes to a list: the loop's record and the list as one entry; a round; a call of 'yield'. Conditions: the engine's table holds ('EngOk').
-/
import Derived.Test.YtnlbhdepagkjgaaDoorZOps21
import Derived.RangeFuncIn
namespace Go.Proofs.YtnlbhdepagkjgaaDoor.RW
open Go
open Rep RepZ
set_option linter.unusedVariables false
set_option linter.unusedSectionVars false
section
variable {P : Program} {G : Eng} {w0 w : World} {F : List Nat} {S0 : Nat → Prop} {Γ Γ1 : List Ent}
end
end Go.Proofs.YtnlbhdepagkjgaaDoor.RW
