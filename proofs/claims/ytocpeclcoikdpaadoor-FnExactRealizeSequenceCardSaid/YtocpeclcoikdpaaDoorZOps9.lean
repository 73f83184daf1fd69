/-
  Literals of several elements; lists whose elements are shared. Conditions: the engine's table holds ('EngOk').
-/
import Derived.Test.YtocpeclcoikdpaaDoorZOps8
import Derived.Laws.Cover3
namespace Go.Proofs.YtocpeclcoikdpaaDoor.RW
open Go
open Go.RowKit (Below)
open Rep RepZ
section
variable {P : Program} {G : Eng} {w : World}

/-! ### literals -/

variable {w0 : World} {F : List Nat} {S0 : Nat → Prop} {Γ : List Ent}
def CellsL {α : Type} [Rep α] : List Value → List α → List (Gh α) → Prop
  | u :: us, x :: xs, g :: gs => u.cells = (cl x g).toArray ∧ CellsL us xs gs
  | [], [], [] => True
  | _, _, _ => False
theorem CellsL.len {α : Type} [Rep α] : ∀ {us : List Value} {xs : List α} {gs : List (Gh α)}, CellsL us xs gs → us.length = xs.length ∧ gs.length = xs.length
  | _ :: us, _ :: xs, _ :: gs, h => by obtain ⟨h1, h2⟩ := h.2.len; simp [h1, h2]
  | [], [], [], _ => ⟨rfl, rfl⟩
theorem CellsL.size {α : Type} [Rep α] : ∀ {us : List Value} {xs : List α} {gs : List (Gh α)}, CellsL us xs gs → ∀ u ∈ us, u.cells.size = sz α
  | _ :: us, _ :: xs, _ :: gs, h, u, hu => by
    rcases List.mem_cons.1 hu with rfl | hu
    · rw [h.1]; simp [cl_len]
    · exact h.2.size u hu

/-! ### lists whose elements are shared -/

/-! ### a slice against nil -/
/-! ### what is lent for a while -/
end
end Go.Proofs.YtocpeclcoikdpaaDoor.RW
