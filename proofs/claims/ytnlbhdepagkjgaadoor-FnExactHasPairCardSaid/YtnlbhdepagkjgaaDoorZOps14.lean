/-
  Maps of names to 'true' that a call makes for itself: made, asked, a new name put in. Conditions: the engine's table holds ('EngOk').
-/
import Derived.Test.YtnlbhdepagkjgaaDoorZOps13
import Derived.MapKept
import Derived.Carry
namespace Go.Proofs.YtnlbhdepagkjgaaDoor.RW
open Go
open Rep RepZ
section
variable {P : Program} {G : Eng} {w0 w : World} {F : List Nat} {S0 : Nat → Prop} {Γ : List Ent}
end
end Go.Proofs.YtnlbhdepagkjgaaDoor.RW
