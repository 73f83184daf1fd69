/-
  Plain laws: the inverse in a field; rows divided, subtracted, exchanged. No program in sight. No condition.
-/
import Derived.Test.YtgfnophfoccamaaZP6
namespace Go.Proofs.Ytgfnophfoccamaa

def powBody (p : Int) (s : Int × Int × Int) : Option ((Int × Int × Int) ⊕ Int) :=
      (some (decide ((0 : Int) < s.2.1))).bind fun a226 =>
      cond a226
      (((remO s.2.1 2).bind fun a247 =>
          (some (decide (a247 = 1))).bind fun a249 =>
          cond a249
          ((mulO s.2.2 s.1).bind fun a253 =>
            (remO a253 p).bind fun a255 =>
            some a255)
          (some s.2.2)).bind fun (s241 : Int) =>
        (mulO s.1 s.1).bind fun a259 =>
        (remO a259 p).bind fun a261 =>
        (quoO s.2.1 2).bind fun a263 =>
        some (.inl (a261, a263, s241)))
      (some (.inr s.2.2))
def invN (p x : Nat) : Option Int := iterO (powBody p) 9 ((x : Int), (p : Int) - 2 + (if p = 2 then 1 else 0), (1 : Int).tmod p)
def invOk (p x : Nat) : Bool := match invN p x with
  | some v => decide (((x : Int) * v) % p = 1) && decide (0 ≤ v) && decide (v < p)
  | none => false
theorem inv_all : ((List.range 98).all fun p => !fdB p || (List.range p).all fun x => decide (x = 0) || invOk p x) = true := by decide +kernel
def invF (p x : Int) : Int := (invN p.toNat x.toNat).getD 0
theorem inverse_ {p x : Int} (hf : fdB p = true) (hx : 0 < x ∧ x < p) : F_impl_inverse p x = some (invF p x) ∧ (x * invF p x) % p = 1 ∧ 0 ≤ invF p x ∧ invF p x < p := by
  have hp := fdB_rng hf
  obtain ⟨k, rfl⟩ : ∃ k : Nat, p = (k : Int) := ⟨p.toNat, by omega⟩
  obtain ⟨y, rfl⟩ : ∃ y : Nat, x = (y : Int) := ⟨x.toNat, by omega⟩
  have h1 := List.all_eq_true.1 inv_all k (List.mem_range.2 (by omega))
  rw [hf] at h1
  have h2 : ∀ x : Nat, x < k → x = 0 ∨ invOk k x = true := by simpa using h1
  have h3 : invOk k y = true := by
    rcases h2 y (by omega) with h2 | h2
    · omega
    · exact h2
  unfold invOk at h3
  unfold invF
  rw [Int.toNat_natCast, Int.toNat_natCast]
  cases hv : invN k y with
  | none => rw [hv] at h3; cases h3
  | some v =>
    rw [hv] at h3
    simp only [Bool.and_eq_true, decide_eq_true_eq] at h3
    refine ⟨?_, h3.1.1, h3.1.2, h3.2⟩
    refine bnd (subO_of (by omega) (by omega)) (stp (bnd (a := (if k = 2 then 1 else 0 : Int)) ?_ (bnd (addO_of (by split <;> omega) (by split <;> omega)) (bnd (a := v) ?_ rfl))))
    · by_cases h : k = 2
      · subst h; rfl
      · rw [dF (by omega), if_neg h]; rfl
    · refine bnd (remO_of (by omega)) (bnd ?_ rfl)
      exact whileO_iff.2 ⟨9, hv⟩

end Go.Proofs.Ytgfnophfoccamaa
