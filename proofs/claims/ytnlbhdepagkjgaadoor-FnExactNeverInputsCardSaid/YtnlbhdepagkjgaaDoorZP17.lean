/-
  Plain laws: sums, combinations of rows by their elements, coordinates in a reduced list. No program in sight. No condition.
-/
import Derived.Test.YtnlbhdepagkjgaaDoorZP16
namespace Go.Proofs.YtnlbhdepagkjgaaDoor

/-! ### sums -/

/-! ### combinations -/

/-! ### coordinates -/

/-! ### has a vector -/

/-! ### relations -/
abbrev Rel := Int × Int × Rows
def rlB (p : Int) (r : Rel) : Bool := fdB p && ((rng r.1 0 24 && (rng r.2.1 0 24 && decide (r.1 + r.2.1 ≤ 24))) && redB p (r.1 + r.2.1) r.2.2)
theorem fits_ (l r : Int) : F_impl_fits l r = some (rng l 0 24 && (rng r 0 24 && decide (l + r ≤ 24))) := by
  refine bnd (a := (rng l 0 24 && (rng r 0 24 && decide (l + r ≤ 24)))) ?_ rfl
  refine bndB (within_ _ _ _) (fun _ => rfl) (fun h1 => cTW rfl (bndB (within_ _ _ _) (fun _ => rfl) (fun h2 => cTW rfl ?_)))
  have h1 := rng_true.1 h1
  have h2 := rng_true.1 h2
  exact bnd (addO_of (by omega) (by omega)) rfl
theorem isRelation_ (p : Int) (r : Rel) : F_impl_isRelation p r = some (rlB p r) := by
  refine bnd (a := rlB p r) ?_ rfl
  unfold rlB
  cases hf : fdB p with
  | false => exact bnd (isField_ p) (by rw [hf]; rfl)
  | true =>
    refine bnd (isField_ p) (cTW hf (bnd (fits_ _ _) ?_))
    cases hb : (rng r.1 0 24 && (rng r.2.1 0 24 && decide (r.1 + r.2.1 ≤ 24))) with
    | false => rfl
    | true =>
      simp only [Bool.and_eq_true, rng_true, decide_eq_true_eq] at hb
      refine cTW rfl (bnd (addO_of (by omega) (by omega)) ?_)
      obtain ⟨n, hn⟩ : ∃ n : Nat, r.1 + r.2.1 = (n : Int) := ⟨(r.1 + r.2.1).toNat, by omega⟩
      rw [hn]
      exact bnd (isReduced_ hf (by omega)) rfl
theorem rlGood_ (p : Int) (r : Rel) : F_spec_rlGood p r = some (rlB p r) := by
  refine bnd (a := rlB p r) ?_ rfl
  have e : rlB p r = (rng r.1 0 24 && (rng r.2.1 0 (24 - r.1) && spB p (r.1 + r.2.1, r.2.2))) := by
    unfold rlB spB
    by_cases h : (0 ≤ r.1 ∧ r.1 ≤ 24) ∧ (0 ≤ r.2.1 ∧ r.2.1 ≤ 24) ∧ r.1 + r.2.1 ≤ 24
    · rw [rng_true.2 h.1, rng_true.2 h.2.1, dT h.2.2, show rng r.2.1 0 (24 - r.1) = true from rng_true.2 (by omega), show rng (r.1 + r.2.1) 0 24 = true from rng_true.2 (by omega)]
      simp
    · have h1 : (rng r.1 0 24 && (rng r.2.1 0 24 && decide (r.1 + r.2.1 ≤ 24))) = false := by
        rw [← Bool.not_eq_true]; simp only [Bool.and_eq_true, rng_true, decide_eq_true_eq]; exact h
      have h2 : (rng r.1 0 24 && (rng r.2.1 0 (24 - r.1) && (fdB p && (rng (r.1 + r.2.1) 0 24 && redB p (r.1 + r.2.1) r.2.2)))) = false := by
        rw [← Bool.not_eq_true]; simp only [Bool.and_eq_true, rng_true]; intro h3; exact h (by omega)
      rw [h1]
      simp only [Bool.false_and, Bool.and_false]
      exact h2.symm
  rw [e]
  refine bndB (l1In _ _ _) (fun _ => rfl) (fun h1 => cTW rfl ?_)
  have h1 := rng_true.1 h1
  refine bnd (subO_of (by omega) (by omega)) (bndB (l1In _ _ _) (fun _ => rfl) (fun h2 => cTW rfl ?_))
  have h2 := rng_true.1 h2
  exact bnd (addO_of (by omega) (by omega)) (bnd (spGood_ p _) rfl)
/-- a valid relation: l elements left, r right -/
structure RlOk (p : Int) (l r : Nat) (R : Rel) : Prop where
  hf : fdB p = true
  left : R.1 = (l : Int)
  right : R.2.1 = (r : Int)
  n24 : l + r ≤ 24
  red : Red p (l + r) R.2.2
  len : R.2.2.length ≤ l + r
theorem rlB_ok {p : Int} {R : Rel} (h : rlB p R = true) : ∃ l r, RlOk p l r R := by
  unfold rlB at h
  simp only [Bool.and_eq_true, rng_true, decide_eq_true_eq] at h
  obtain ⟨h1, ⟨h2, h3, h4⟩, h5⟩ := h
  obtain ⟨l, hl⟩ : ∃ l : Nat, R.1 = (l : Int) := ⟨R.1.toNat, by omega⟩
  obtain ⟨r, hr⟩ : ∃ r : Nat, R.2.1 = (r : Int) := ⟨R.2.1.toNat, by omega⟩
  rw [hl, hr, show (l : Int) + (r : Int) = ((l + r : Nat) : Int) by omega] at h5
  obtain ⟨k1, k2⟩ := redB_ok h1 h5
  exact ⟨l, r, h1, hl, hr, by omega, k1, k2⟩

/-! ### the first choice -/
end Go.Proofs.YtnlbhdepagkjgaaDoor

