/-
  Plain laws: matrices, responses, Hankel rows; the law of HankelRank. No program in sight. No condition.
-/
import Derived.Test.YteikcdofblclhaaDoorZP13
namespace Go.Proofs.YteikcdofblclhaaDoor

/-! ### lists of matrices in the law -/

/-! ### matrices and responses -/
def matB (p : Int) (m : Mat) : Bool := fdB p && (rng m.1 0 24 && (decide ((m.2.length : Int) ≤ 24) && rowsB p m.1 m.2))
theorem isMatrix_ (p : Int) (m : Mat) : F_impl_isMatrix p m = some (matB p m) := by
  refine bnd (a := matB p m) ?_ rfl
  refine bndB (isField_ p) (fun _ => rfl) (fun _ => cTW rfl ?_)
  refine bndB (within_ _ _ _) (fun _ => rfl) (fun _ => cTW rfl (stp ?_))
  cases decide ((m.2.length : Int) ≤ 24) with
  | false => rfl
  | true => exact cTW rfl (bnd (areVectors_ p m.1 m.2) rfl)
theorem mxGood_ (p : Int) (m : Mat) : F_spec_mxGood p m = some (matB p m) := by
  unfold matB
  refine bnd (a := !(fdB p && (rng m.1 0 24 && decide ((m.2.length : Int) ≤ 24)))) ?_ ?_
  · refine bndN (fdGood p) (fun _ => rfl) (fun _ => stp (cFW rfl ?_))
    refine bndN (l1In _ _ _) (fun _ => rfl) (fun _ => stp (cFW rfl (stp ?_)))
    by_cases h : (m.2.length : Int) ≤ 24
    · rw [dT h, dF (by omega)]; rfl
    · rw [dF h, dT (by omega)]; rfl
  · cases hb : (fdB p && (rng m.1 0 24 && decide ((m.2.length : Int) ≤ 24))) with
    | false =>
      refine cTW rfl ?_
      rw [← Bool.and_assoc (rng m.1 0 24), ← Bool.and_assoc (fdB p), hb]; rfl
    | true =>
      refine cFW rfl ?_
      rw [← Bool.and_assoc (rng m.1 0 24), ← Bool.and_assoc (fdB p), hb, Bool.true_and]
      have hp := fdB_rng (by rw [Bool.and_eq_true] at hb; exact hb.1 : fdB p = true)
      refine sqW (forO_all (fun r : List Int => decide ((r.length : Int) = m.1) && inB p r) m.2 0 ?_ (t := false)) ?_
      · intro j r hj
        rw [Nat.zero_add]
        refine bnd (idxO_of hj) ?_
        refine bnd (a := !(decide ((r.length : Int) = m.1) && inB p r)) (stp ?_) ?_
        · cases decide ((r.length : Int) = m.1) with
          | false => rfl
          | true => exact cFW rfl (bnd (fdIn hp r) rfl)
        · cases (decide ((r.length : Int) = m.1) && inB p r) <;> rfl
      · show _ = some (m.2.all _)
        cases (m.2.all fun r => decide ((r.length : Int) = m.1) && inB p r) <;> rfl
end Go.Proofs.YteikcdofblclhaaDoor
