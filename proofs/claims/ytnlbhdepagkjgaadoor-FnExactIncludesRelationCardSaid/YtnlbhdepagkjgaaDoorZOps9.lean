/-
  Literals of several elements; lists whose elements are shared. Conditions: the engine's table holds ('EngOk').
-/
import Derived.Test.YtnlbhdepagkjgaaDoorZOps8
import Derived.Laws.Cover3
namespace Go.Proofs.YtnlbhdepagkjgaaDoor.RW
open Go
open Go.RowKit (Below)
open Rep RepZ
section
variable {P : Program} {G : Eng} {w : World}

/-! ### literals -/

variable {w0 : World} {F : List Nat} {S0 : Nat → Prop} {Γ : List Ent}
def CellsL {α : Type} [Rep α] : List Value → List α → List (Gh α) → Prop
  | u :: us, x :: xs, g :: gs => u.cells = (cl x g).toArray ∧ CellsL us xs gs
  | [], [], [] => True
  | _, _, _ => False
theorem CellsL.len {α : Type} [Rep α] : ∀ {us : List Value} {xs : List α} {gs : List (Gh α)}, CellsL us xs gs → us.length = xs.length ∧ gs.length = xs.length
  | _ :: us, _ :: xs, _ :: gs, h => by obtain ⟨h1, h2⟩ := h.2.len; simp [h1, h2]
  | [], [], [], _ => ⟨rfl, rfl⟩
theorem CellsL.size {α : Type} [Rep α] : ∀ {us : List Value} {xs : List α} {gs : List (Gh α)}, CellsL us xs gs → ∀ u ∈ us, u.cells.size = sz α
  | _ :: us, _ :: xs, _ :: gs, h, u, hu => by
    rcases List.mem_cons.1 hu with rfl | hu
    · rw [h.1]; simp [cl_len]
    · exact h.2.size u hu

/-! ### lists whose elements are shared -/

/-! ### a slice against nil -/
theorem nil_isEmpty {α : Type} [Rep α] {xs : List α} {h : Hd} (hr : Rdb w xs h) (hn : xs = [] → h.a = none) : h.a.isNone = xs.isEmpty := by
  cases xs with
  | nil => rw [hn rfl]; rfl
  | cons x xs =>
    obtain ⟨p, hp⟩ := hr.some_ (by simp)
    rw [hp]; rfl
theorem eqNil (ok : EngOk P G) {t e st b : Nat} {z : Value} (ht : nthO G.tt t = some ⟨.slice e, st, b, z⟩) {x y : Operand} {α : Type} [Rep α] {xs : List α} {h : Hd} {r : Bool} (hr : Rdb w xs h) (hn : xs = [] → h.a = none) (he : some xs.isEmpty = some r)
    {K : Value → World → Prop} (hK : K (.bool r) w) : ERun P (do eqGuard .eql t x y h.v (.slice none 0 0); binOp .eql t h.v (.slice none 0 0)) w K := by
  have hu := und_slice (und_of ok ht)
  have h1 := run_equal_slice_nil (P := P) w t e h.a h.n h.c hu
  rw [nil_isEmpty hr hn] at h1
  rw [← Option.some.inj he] at hK
  refine erun_of (v := .bool xs.isEmpty) (w' := w) ?_ hK
  simp [eqGuard, Hd.v, binOp, h1]
end
end Go.Proofs.YtnlbhdepagkjgaaDoor.RW
