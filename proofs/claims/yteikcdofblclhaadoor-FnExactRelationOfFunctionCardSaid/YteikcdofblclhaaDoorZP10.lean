/-
  Plain laws: the inverse in a field; rows divided, subtracted, exchanged. No program in sight. No condition.
-/
import Derived.Test.YteikcdofblclhaaDoorZP6
namespace Go.Proofs.YteikcdofblclhaaDoor

def powBody (p : Int) (s : Int × Int × Int) : Option ((Int × Int × Int) ⊕ Int) :=
      (some (decide ((0 : Int) < s.2.1))).bind fun a226 =>
      cond a226
      (((remO s.2.1 2).bind fun a247 =>
          (some (decide (a247 = 1))).bind fun a249 =>
          cond a249
          ((mulO s.2.2 s.1).bind fun a253 =>
            (remO a253 p).bind fun a255 =>
            some a255)
          (some s.2.2)).bind fun (s241 : Int) =>
        (mulO s.1 s.1).bind fun a259 =>
        (remO a259 p).bind fun a261 =>
        (quoO s.2.1 2).bind fun a263 =>
        some (.inl (a261, a263, s241)))
      (some (.inr s.2.2))
def invN (p x : Nat) : Option Int := iterO (powBody p) 9 ((x : Int), (p : Int) - 2 + (if p = 2 then 1 else 0), (1 : Int).tmod p)
def invOk (p x : Nat) : Bool := match invN p x with
  | some v => decide (((x : Int) * v) % p = 1) && decide (0 ≤ v) && decide (v < p)
  | none => false
theorem inv_all : ((List.range 98).all fun p => !fdB p || (List.range p).all fun x => decide (x = 0) || invOk p x) = true := by decide +kernel
def invF (p x : Int) : Int := (invN p.toNat x.toNat).getD 0
theorem inverse_ {p x : Int} (hf : fdB p = true) (hx : 0 < x ∧ x < p) : F_impl_inverse p x = some (invF p x) ∧ (x * invF p x) % p = 1 ∧ 0 ≤ invF p x ∧ invF p x < p := by
  have hp := fdB_rng hf
  obtain ⟨k, rfl⟩ : ∃ k : Nat, p = (k : Int) := ⟨p.toNat, by omega⟩
  obtain ⟨y, rfl⟩ : ∃ y : Nat, x = (y : Int) := ⟨x.toNat, by omega⟩
  have h1 := List.all_eq_true.1 inv_all k (List.mem_range.2 (by omega))
  rw [hf] at h1
  have h2 : ∀ x : Nat, x < k → x = 0 ∨ invOk k x = true := by simpa using h1
  have h3 : invOk k y = true := by
    rcases h2 y (by omega) with h2 | h2
    · omega
    · exact h2
  unfold invOk at h3
  unfold invF
  rw [Int.toNat_natCast, Int.toNat_natCast]
  cases hv : invN k y with
  | none => rw [hv] at h3; cases h3
  | some v =>
    rw [hv] at h3
    simp only [Bool.and_eq_true, decide_eq_true_eq] at h3
    refine ⟨?_, h3.1.1, h3.1.2, h3.2⟩
    refine bnd (subO_of (by omega) (by omega)) (stp (bnd (a := (if k = 2 then 1 else 0 : Int)) ?_ (bnd (addO_of (by split <;> omega) (by split <;> omega)) (bnd (a := v) ?_ rfl))))
    · by_cases h : k = 2
      · subst h; rfl
      · rw [dF (by omega), if_neg h]; rfl
    · refine bnd (remO_of (by omega)) (bnd ?_ rfl)
      exact whileO_iff.2 ⟨9, hv⟩
theorem inv_unique {p x s t : Int} (h1 : (x * s) % p = 1) (h2 : (x * t) % p = 1) (hs : 0 ≤ s ∧ s < p) (ht : 0 ≤ t ∧ t < p) : s = t := by
  have e1 : s % p = (s * ((x * t) % p)) % p := by rw [h2, Int.mul_one]
  have e2 : t % p = (t * ((x * s) % p)) % p := by rw [h1, Int.mul_one]
  rw [Int.mul_emod, Int.emod_emod_of_dvd _ (Int.dvd_refl p), ← Int.mul_emod] at e1 e2
  rw [show s * (x * t) = t * (x * s) by rw [Int.mul_left_comm, Int.mul_comm s t, Int.mul_left_comm]] at e1
  rw [← e2, Int.emod_eq_of_lt hs.1 hs.2, Int.emod_eq_of_lt ht.1 ht.2] at e1
  exact e1
theorem fdInv_ {p x : Int} (hf : fdB p = true) (hx : 0 < x ∧ x < p) : F_spec_fdInv p x = some (invF p x) := by
  have hp := fdB_rng hf
  obtain ⟨_, h1, h2, h3⟩ := inverse_ hf hx
  have h0 : invF p x ≠ 0 := by intro h; rw [h, Int.mul_zero, Int.zero_emod] at h1; cases h1
  obtain ⟨k, hk⟩ : ∃ k : Nat, invF p x = (k : Int) + 1 := ⟨(invF p x - 1).toNat, by omega⟩
  refine sqW (whileO_is (fun j => (j : Int) + 1) (t := .inr (invF p x)) k ?_ ?_) rfl
  · intro j hj
    have hm := mul_lt hp (by omega : 0 ≤ x ∧ x < p) (by omega : 0 ≤ (j : Int) + 1 ∧ (j : Int) + 1 < p)
    refine stp (cTW (dT (by omega)) (bnd (mulO_of (by omega) (by omega)) (bnd (remO_of (by omega)) (stp ?_))))
    rw [Int.tmod_eq_emod_of_nonneg hm.1]
    refine cFW (dF ?_) (bnd (addO_of (by omega) (by omega)) rfl)
    intro h
    have := inv_unique h h1 (by omega) (by omega)
    omega
  · have hm := mul_lt hp (by omega : 0 ≤ x ∧ x < p) (by omega : 0 ≤ (k : Int) + 1 ∧ (k : Int) + 1 < p)
    refine stp (cTW (dT (by omega)) (bnd (mulO_of (by omega) (by omega)) (bnd (remO_of (by omega)) (stp ?_))))
    rw [Int.tmod_eq_emod_of_nonneg hm.1, ← hk]
    exact cTW (dT h1) rfl

/-- the remainder that is not negative -/
theorem modG {p a : Int} (hp : 2 ≤ p ∧ p ≤ 97) (_ : -1000000 ≤ a ∧ a ≤ 1000000) : F_impl_mod p a = some (a % p) := by
  have h1 := Int.tmod_add_mul_tdiv a p
  have h2 := Int.tmod_lt_of_pos a (show 0 < p by omega)
  have h3 := Int.lt_tmod_of_pos a (show 0 < p by omega)
  have h4 : a % p = a.tmod p % p := by
    conv => lhs; rw [← h1]
    rw [Int.add_mul_emod_self_left]
  refine bnd (remO_of (by omega)) (stp ?_)
  by_cases h : a.tmod p < 0
  · refine cTW (dT h) (bnd (addO_of (by omega) (by omega)) ?_)
    rw [h4, ← Int.add_emod_right, Int.emod_eq_of_lt (by omega) (by omega)]
  · refine cFW (dF h) ?_
    rw [h4, Int.emod_eq_of_lt (by omega) (by omega)]

theorem sub_mod (v p t : Int) : (v + p - t % p) % p = (v - t) % p := by
  have h := Int.emod_add_mul_ediv t p
  have : v + p - t % p = (v - t) + p * (1 + t / p) := by rw [Int.mul_add, Int.mul_one]; omega
  rw [this, Int.add_mul_emod_self_left]
end Go.Proofs.YteikcdofblclhaaDoor
