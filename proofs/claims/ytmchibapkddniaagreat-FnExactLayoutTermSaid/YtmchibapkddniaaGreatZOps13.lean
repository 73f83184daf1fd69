/-
  A part of a variable written at once. Conditions: the engine's table holds ('EngOk').
-/
import Derived.Test.YtmchibapkddniaaGreatZOps12
namespace Go.Proofs.YtmchibapkddniaaGreat.RW
open Go
open Rep RepZ
section
variable {P : Program} {G : Eng} {w0 w : World} {F : List Nat} {S0 : Nat → Prop} {Γ : List Ent}
/-- types whose values hold no place: what is read is one's own -/
class Flat (α : Type) [Rep α] : Prop where
  flat : ∀ {w : World} {S S' : Nat → Prop} {x : α} {g : Gh α}, rd w S x g → own w S' [] x g
instance : Flat Int := ⟨fun _ => rfl⟩
instance : Flat Bool := ⟨fun _ => rfl⟩
instance : Flat By := ⟨fun _ => rfl⟩
instance : Flat ByteArray := ⟨fun _ => rfl⟩
instance {α β : Type} [Rep α] [Rep β] [Flat α] [Flat β] : Flat (α × β) := ⟨fun h => ⟨[], [], rfl, Flat.flat h.1, Flat.flat h.2, List.nodup_nil⟩⟩
theorem Cx.unSh {α : Type} [Rep α] [Flat α] {xs : List α} {h : Hd} (H : Cx w0 F S0 w (E (List (Sh α)) xs h :: Γ)) : Cx w0 F S0 w (E (List α) xs h :: Γ) := by
  obtain ⟨S, fp, H⟩ := H
  obtain ⟨f, r, rfl, h1, h2⟩ := H.all
  have h1 : OwnG (sz α) (fun w f cs x => ∃ g : Gh α, cs = cl (α := α) x g ∧ (f = [] ∧ rd (α := α) w S x g)) w f h.a h.n h.c xs := h1
  refine ⟨S, _, H.upd, H.s0, H.sb, ⟨f, r, rfl, ?_, h2⟩, H.nd, H.out⟩
  exact OwnG.keep (fun _ ⟨g, e1, e2, e3⟩ => ⟨g, e1, by subst e2; exact Flat.flat e3⟩) (fun _ _ => rfl) h1
end
end Go.Proofs.YtmchibapkddniaaGreat.RW
