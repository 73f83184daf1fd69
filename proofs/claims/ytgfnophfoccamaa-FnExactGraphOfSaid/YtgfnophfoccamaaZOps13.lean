/-
  A part of a variable written at once. Conditions: the engine's table holds ('EngOk').
-/
import Derived.Test.YtgfnophfoccamaaZOps12
namespace Go.Proofs.Ytgfnophfoccamaa.RW
open Go
open Rep RepZ
section
variable {P : Program} {G : Eng} {w0 w : World} {F : List Nat} {S0 : Nat → Prop} {Γ : List Ent}
end
end Go.Proofs.Ytgfnophfoccamaa.RW
