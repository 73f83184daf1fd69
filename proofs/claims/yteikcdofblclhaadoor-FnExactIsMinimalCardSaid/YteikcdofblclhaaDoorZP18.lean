/-
  Plain laws: pairs of relations, ports that are never inputs, inclusion. No program in sight. No condition.
-/
import Derived.Test.YteikcdofblclhaaDoorZP17
namespace Go.Proofs.YteikcdofblclhaaDoor

theorem okR_app {p : Int} {l r : Nat} {x y : List Int} (hx : okR p l x) (hy : okR p r y) : okR p (l + r) (x ++ y) :=
  ⟨by rw [List.length_append, hx.1, hy.1], fun z hz => by rcases List.mem_append.1 hz with h | h; exact hx.2 z h; exact hy.2 z h⟩

/-! ### inclusion -/

/-! ### ports that are never inputs -/
end Go.Proofs.YteikcdofblclhaaDoor
