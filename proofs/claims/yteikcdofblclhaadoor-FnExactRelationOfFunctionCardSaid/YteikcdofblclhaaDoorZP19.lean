/-
  Plain laws: the reference's reduction of a matrix with its transforming matrix; linear equations. No program in sight. No condition.
-/
import Derived.Test.YteikcdofblclhaaDoorZP17
import Derived.Test.YteikcdofblclhaaDoorZP14
namespace Go.Proofs.YteikcdofblclhaaDoor
set_option linter.unusedVariables false

/-! ### identity matrices -/
def unitN (n i : Nat) : List Int := (List.replicate n 0).set i 1
theorem unit_ {n i : Nat} (hi : i < n) (hn : n ≤ maxN) : F_impl_unit (n : Int) (i : Int) = some (unitN n i) :=
  bnd (zeros_ hn) (bnd (setO_of _ (by simpa using hi)) rfl)

/-! ### linear equations -/
theorem matB_ok {p : Int} {m : Mat} (h : matB p m = true) : ∃ n : Nat, m.1 = (n : Int) ∧ fdB p = true ∧ n ≤ 24 ∧ m.2.length ≤ 24 ∧ okM p n m.2 := by
  unfold matB at h
  simp only [Bool.and_eq_true, rng_true, decide_eq_true_eq] at h
  obtain ⟨h1, h2, h3, h4⟩ := h
  have e : m.1 = (m.1.toNat : Int) := by omega
  rw [e] at h4
  exact ⟨m.1.toNat, e, h1, by omega, by omega, rowsB_true.1 h4⟩
end Go.Proofs.YteikcdofblclhaaDoor
