/-
  Plain laws: the reference's reduction of a matrix with its transforming matrix; linear equations. No program in sight. No condition.
-/
import Derived.Test.YteikcdofblclhaaDoorZP17
import Derived.Test.YteikcdofblclhaaDoorZP14
namespace Go.Proofs.YteikcdofblclhaaDoor
set_option linter.unusedVariables false

/-! ### identity matrices -/
def unitN (n i : Nat) : List Int := (List.replicate n 0).set i 1
theorem unitN_ok {p : Int} (hp : 2 ≤ p) (n i : Nat) : okR p n (unitN n i) := by
  refine ⟨by simp [unitN], fun x hx => ?_⟩
  rcases List.mem_or_eq_of_mem_set hx with h | rfl
  · have := List.eq_of_mem_replicate h; omega
  · omega

/-! ### linear equations -/
end Go.Proofs.YteikcdofblclhaaDoor
