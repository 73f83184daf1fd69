/-
  Plain laws: prime fields, vectors over them, sums of rows. No program in sight. No condition.
-/
import Derived.Test.YtgfnophfoccamaaZP4
namespace Go.Proofs.Ytgfnophfoccamaa

def rng (n lo hi : Int) : Bool := decide (lo ≤ n) && decide (n ≤ hi)
theorem rng_true {n lo hi : Int} : rng n lo hi = true ↔ lo ≤ n ∧ n ≤ hi := by unfold rng; simp
theorem l1In (n lo hi : Int) : F_spec_l1In n lo hi = some (rng n lo hi) := by
  unfold F_spec_l1In rng
  by_cases h : lo ≤ n
  · rw [dT h]; rfl
  · rw [dF h]; rfl
theorem within_ (n lo hi : Int) : F_impl_within n lo hi = some (rng n lo hi) := by
  unfold F_impl_within rng
  by_cases h : lo ≤ n
  · rw [dT h]; rfl
  · rw [dF h]; rfl

theorem l1All (l : List Int) (lo hi : Int) : F_spec_l1All l lo hi = some (l.all fun x => rng x lo hi) := by
  refine sqW (forO_all (fun x => rng x lo hi) l 0 ?_ (t := false)) ?_
  · intro j x hj
    rw [Nat.zero_add]
    refine bnd (idxO_of hj) (bnd (l1In x lo hi) (stp ?_))
    cases rng x lo hi <;> rfl
  · cases (l.all fun x => rng x lo hi) <;> rfl
end Go.Proofs.Ytgfnophfoccamaa
