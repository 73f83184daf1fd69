/-
  Plain laws: sums, combinations of rows by their elements, coordinates in a reduced list. No program in sight. No condition.
-/
import Derived.Test.YteikcdofblclhaaDoorZP16
namespace Go.Proofs.YteikcdofblclhaaDoor

/-! ### sums -/
def sg : Nat → (Nat → Int) → Int
  | 0, _ => 0
  | k + 1, f => sg k f + f k
theorem sg_congr {f g : Nat → Int} : ∀ {k : Nat}, (∀ i, i < k → f i = g i) → sg k f = sg k g
  | 0, _ => rfl
  | k + 1, h => by
    show sg k f + f k = sg k g + g k
    rw [sg_congr (fun i hi => h i (by omega)), h k (by omega)]
theorem sg_zero {f : Nat → Int} {k : Nat} (h : ∀ i, i < k → f i = 0) : sg k f = 0 := by
  induction k with
  | zero => rfl
  | succ k ih =>
    show sg k f + f k = 0
    rw [ih (fun i hi => h i (by omega)), h k (by omega)]; rfl
theorem sg_one {f : Nat → Int} {k i0 : Nat} (h0 : i0 < k) (h : ∀ i, i < k → i ≠ i0 → f i = 0) : sg k f = f i0 := by
  induction k with
  | zero => omega
  | succ k ih =>
    show sg k f + f k = f i0
    by_cases hk : k = i0
    · subst hk
      rw [sg_zero (fun i hi => h i (by omega) (by omega)), Int.zero_add]
    · rw [ih (by omega) (fun i hi hn => h i (by omega) hn), h k (by omega) hk, Int.add_zero]
theorem sg_add (f g : Nat → Int) : ∀ k, sg k (fun i => f i + g i) = sg k f + sg k g
  | 0 => rfl
  | k + 1 => by
    show sg k (fun i => f i + g i) + (f k + g k) = (sg k f + f k) + (sg k g + g k)
    rw [sg_add f g k]; omega
theorem sg_mul (c : Int) (f : Nat → Int) : ∀ k, sg k (fun i => c * f i) = c * sg k f
  | 0 => by show (0 : Int) = c * 0; rw [Int.mul_zero]
  | k + 1 => by
    show sg k (fun i => c * f i) + c * f k = c * (sg k f + f k)
    rw [sg_mul c f k, Int.mul_add]
theorem sg_comm (f : Nat → Nat → Int) (n : Nat) : ∀ k, sg k (fun i => sg n (fun j => f i j)) = sg n (fun j => sg k (fun i => f i j))
  | 0 => by
    show (0 : Int) = _
    rw [sg_zero (k := n) (f := fun j => sg 0 fun i => f i j) (fun _ _ => rfl)]
  | k + 1 => by
    show sg k (fun i => sg n (fun j => f i j)) + sg n (fun j => f k j) = sg n (fun j => sg k (fun i => f i j) + f k j)
    rw [sg_comm f n k, sg_add]
theorem sg_mod {p : Int} {f g : Nat → Int} : ∀ {k : Nat}, (∀ i, i < k → f i % p = g i % p) → sg k f % p = sg k g % p
  | 0, _ => rfl
  | k + 1, h => by
    show (sg k f + f k) % p = (sg k g + g k) % p
    rw [Int.add_emod, sg_mod (fun i hi => h i (by omega)), h k (by omega), ← Int.add_emod]
theorem add_mod1 (p a b : Int) : (a % p + b) % p = (a + b) % p := by rw [Int.add_emod, Int.emod_emod_of_dvd _ (Int.dvd_refl p), ← Int.add_emod]
theorem mod_mod (p a : Int) : a % p % p = a % p := Int.emod_emod_of_dvd _ (Int.dvd_refl p)
theorem mul_mod1 (p a b : Int) : (a % p * b) % p = (a * b) % p := by rw [Int.mul_emod, mod_mod, ← Int.mul_emod]
theorem mul_mod2 (p a b : Int) : (a * (b % p)) % p = (a * b) % p := by rw [Int.mul_emod, mod_mod, ← Int.mul_emod]

/-! ### combinations -/
theorem gr_zero (x : List Int) (xs : Rows) : gr (x :: xs) 0 = x := by unfold gr; simp
theorem gr_succ (x : List Int) (xs : Rows) (j : Nat) : gr (x :: xs) (j + 1) = gr xs j := by unfold gr; simp

/-! ### coordinates -/

/-! ### has a vector -/

/-! ### relations -/
abbrev Rel := Int × Int × Rows
def rlB (p : Int) (r : Rel) : Bool := fdB p && ((rng r.1 0 24 && (rng r.2.1 0 24 && decide (r.1 + r.2.1 ≤ 24))) && redB p (r.1 + r.2.1) r.2.2)
theorem fits_ (l r : Int) : F_impl_fits l r = some (rng l 0 24 && (rng r 0 24 && decide (l + r ≤ 24))) := by
  refine bnd (a := (rng l 0 24 && (rng r 0 24 && decide (l + r ≤ 24)))) ?_ rfl
  refine bndB (within_ _ _ _) (fun _ => rfl) (fun h1 => cTW rfl (bndB (within_ _ _ _) (fun _ => rfl) (fun h2 => cTW rfl ?_)))
  have h1 := rng_true.1 h1
  have h2 := rng_true.1 h2
  exact bnd (addO_of (by omega) (by omega)) rfl
theorem isRelation_ (p : Int) (r : Rel) : F_impl_isRelation p r = some (rlB p r) := by
  refine bnd (a := rlB p r) ?_ rfl
  unfold rlB
  cases hf : fdB p with
  | false => exact bnd (isField_ p) (by rw [hf]; rfl)
  | true =>
    refine bnd (isField_ p) (cTW hf (bnd (fits_ _ _) ?_))
    cases hb : (rng r.1 0 24 && (rng r.2.1 0 24 && decide (r.1 + r.2.1 ≤ 24))) with
    | false => rfl
    | true =>
      simp only [Bool.and_eq_true, rng_true, decide_eq_true_eq] at hb
      refine cTW rfl (bnd (addO_of (by omega) (by omega)) ?_)
      obtain ⟨n, hn⟩ : ∃ n : Nat, r.1 + r.2.1 = (n : Int) := ⟨(r.1 + r.2.1).toNat, by omega⟩
      rw [hn]
      exact bnd (isReduced_ hf (by omega)) rfl
theorem rlGood_ (p : Int) (r : Rel) : F_spec_rlGood p r = some (rlB p r) := by
  refine bnd (a := rlB p r) ?_ rfl
  have e : rlB p r = (rng r.1 0 24 && (rng r.2.1 0 (24 - r.1) && spB p (r.1 + r.2.1, r.2.2))) := by
    unfold rlB spB
    by_cases h : (0 ≤ r.1 ∧ r.1 ≤ 24) ∧ (0 ≤ r.2.1 ∧ r.2.1 ≤ 24) ∧ r.1 + r.2.1 ≤ 24
    · rw [rng_true.2 h.1, rng_true.2 h.2.1, dT h.2.2, show rng r.2.1 0 (24 - r.1) = true from rng_true.2 (by omega), show rng (r.1 + r.2.1) 0 24 = true from rng_true.2 (by omega)]
      simp
    · have h1 : (rng r.1 0 24 && (rng r.2.1 0 24 && decide (r.1 + r.2.1 ≤ 24))) = false := by
        rw [← Bool.not_eq_true]; simp only [Bool.and_eq_true, rng_true, decide_eq_true_eq]; exact h
      have h2 : (rng r.1 0 24 && (rng r.2.1 0 (24 - r.1) && (fdB p && (rng (r.1 + r.2.1) 0 24 && redB p (r.1 + r.2.1) r.2.2)))) = false := by
        rw [← Bool.not_eq_true]; simp only [Bool.and_eq_true, rng_true]; intro h3; exact h (by omega)
      rw [h1]
      simp only [Bool.false_and, Bool.and_false]
      exact h2.symm
  rw [e]
  refine bndB (l1In _ _ _) (fun _ => rfl) (fun h1 => cTW rfl ?_)
  have h1 := rng_true.1 h1
  refine bnd (subO_of (by omega) (by omega)) (bndB (l1In _ _ _) (fun _ => rfl) (fun h2 => cTW rfl ?_))
  have h2 := rng_true.1 h2
  exact bnd (addO_of (by omega) (by omega)) (bnd (spGood_ p _) rfl)
/-- a valid relation: l elements left, r right -/
structure RlOk (p : Int) (l r : Nat) (R : Rel) : Prop where
  hf : fdB p = true
  left : R.1 = (l : Int)
  right : R.2.1 = (r : Int)
  n24 : l + r ≤ 24
  red : Red p (l + r) R.2.2
  len : R.2.2.length ≤ l + r
theorem rlB_ok {p : Int} {R : Rel} (h : rlB p R = true) : ∃ l r, RlOk p l r R := by
  unfold rlB at h
  simp only [Bool.and_eq_true, rng_true, decide_eq_true_eq] at h
  obtain ⟨h1, ⟨h2, h3, h4⟩, h5⟩ := h
  obtain ⟨l, hl⟩ : ∃ l : Nat, R.1 = (l : Int) := ⟨R.1.toNat, by omega⟩
  obtain ⟨r, hr⟩ : ∃ r : Nat, R.2.1 = (r : Int) := ⟨R.2.1.toNat, by omega⟩
  rw [hl, hr, show (l : Int) + (r : Int) = ((l + r : Nat) : Int) by omega] at h5
  obtain ⟨k1, k2⟩ := redB_ok h1 h5
  exact ⟨l, r, h1, hl, hr, by omega, k1, k2⟩

/-! ### the first choice -/
end Go.Proofs.YteikcdofblclhaaDoor

