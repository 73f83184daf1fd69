/-
  Plain laws: sums, combinations of rows by their elements, coordinates in a reduced list. No program in sight. No condition.
-/
import Derived.Test.YteikcdofblclhaaDoorZP16
namespace Go.Proofs.YteikcdofblclhaaDoor

/-! ### sums -/

/-! ### combinations -/
theorem el_rep (n j : Nat) : el (List.replicate n 0) j = 0 := by
  unfold el; rw [List.getD_eq_getElem?_getD, List.getElem?_replicate]; split <;> rfl

/-! ### coordinates -/

/-! ### has a vector -/

/-! ### relations -/
abbrev Rel := Int × Int × Rows
theorem fits_ (l r : Int) : F_impl_fits l r = some (rng l 0 24 && (rng r 0 24 && decide (l + r ≤ 24))) := by
  refine bnd (a := (rng l 0 24 && (rng r 0 24 && decide (l + r ≤ 24)))) ?_ rfl
  refine bndB (within_ _ _ _) (fun _ => rfl) (fun h1 => cTW rfl (bndB (within_ _ _ _) (fun _ => rfl) (fun h2 => cTW rfl ?_)))
  have h1 := rng_true.1 h1
  have h2 := rng_true.1 h2
  exact bnd (addO_of (by omega) (by omega)) rfl

/-! ### the first choice -/
end Go.Proofs.YteikcdofblclhaaDoor

