/-
  A part of a variable written at once. Conditions: the engine's table holds ('EngOk').
-/
import Derived.Test.YtnlbhdepagkjgaaDoorZOps12
namespace Go.Proofs.YtnlbhdepagkjgaaDoor.RW
open Go
open Rep RepZ
section
variable {P : Program} {G : Eng} {w0 w : World} {F : List Nat} {S0 : Nat → Prop} {Γ : List Ent}
/-- types whose values hold no place: what is read is one's own -/
class Flat (α : Type) [Rep α] : Prop where
  flat : ∀ {w : World} {S S' : Nat → Prop} {x : α} {g : Gh α}, rd w S x g → own w S' [] x g
instance : Flat Int := ⟨fun _ => rfl⟩
instance : Flat Bool := ⟨fun _ => rfl⟩
instance : Flat By := ⟨fun _ => rfl⟩
instance : Flat ByteArray := ⟨fun _ => rfl⟩
instance {α β : Type} [Rep α] [Rep β] [Flat α] [Flat β] : Flat (α × β) := ⟨fun h => ⟨[], [], rfl, Flat.flat h.1, Flat.flat h.2, List.nodup_nil⟩⟩
end
end Go.Proofs.YtnlbhdepagkjgaaDoor.RW
