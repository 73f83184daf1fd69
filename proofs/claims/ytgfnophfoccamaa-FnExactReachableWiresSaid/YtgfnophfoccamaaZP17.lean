/-
  Plain laws: sums, combinations of rows by their elements, coordinates in a reduced list. No program in sight. No condition.
-/
import Derived.Test.YtgfnophfoccamaaZP16
namespace Go.Proofs.Ytgfnophfoccamaa

/-! ### sums -/
def sg : Nat → (Nat → Int) → Int
  | 0, _ => 0
  | k + 1, f => sg k f + f k
theorem sg_congr {f g : Nat → Int} : ∀ {k : Nat}, (∀ i, i < k → f i = g i) → sg k f = sg k g
  | 0, _ => rfl
  | k + 1, h => by
    show sg k f + f k = sg k g + g k
    rw [sg_congr (fun i hi => h i (by omega)), h k (by omega)]
theorem sg_zero {f : Nat → Int} {k : Nat} (h : ∀ i, i < k → f i = 0) : sg k f = 0 := by
  induction k with
  | zero => rfl
  | succ k ih =>
    show sg k f + f k = 0
    rw [ih (fun i hi => h i (by omega)), h k (by omega)]; rfl
theorem sg_one {f : Nat → Int} {k i0 : Nat} (h0 : i0 < k) (h : ∀ i, i < k → i ≠ i0 → f i = 0) : sg k f = f i0 := by
  induction k with
  | zero => omega
  | succ k ih =>
    show sg k f + f k = f i0
    by_cases hk : k = i0
    · subst hk
      rw [sg_zero (fun i hi => h i (by omega) (by omega)), Int.zero_add]
    · rw [ih (by omega) (fun i hi hn => h i (by omega) hn), h k (by omega) hk, Int.add_zero]
theorem sg_add (f g : Nat → Int) : ∀ k, sg k (fun i => f i + g i) = sg k f + sg k g
  | 0 => rfl
  | k + 1 => by
    show sg k (fun i => f i + g i) + (f k + g k) = (sg k f + f k) + (sg k g + g k)
    rw [sg_add f g k]; omega
theorem sg_mul (c : Int) (f : Nat → Int) : ∀ k, sg k (fun i => c * f i) = c * sg k f
  | 0 => by show (0 : Int) = c * 0; rw [Int.mul_zero]
  | k + 1 => by
    show sg k (fun i => c * f i) + c * f k = c * (sg k f + f k)
    rw [sg_mul c f k, Int.mul_add]
theorem sg_mod {p : Int} {f g : Nat → Int} : ∀ {k : Nat}, (∀ i, i < k → f i % p = g i % p) → sg k f % p = sg k g % p
  | 0, _ => rfl
  | k + 1, h => by
    show (sg k f + f k) % p = (sg k g + g k) % p
    rw [Int.add_emod, sg_mod (fun i hi => h i (by omega)), h k (by omega), ← Int.add_emod]
theorem mod_mod (p a : Int) : a % p % p = a % p := Int.emod_emod_of_dvd _ (Int.dvd_refl p)
theorem mul_mod1 (p a b : Int) : (a % p * b) % p = (a * b) % p := by rw [Int.mul_emod, mod_mod, ← Int.mul_emod]
theorem mul_mod2 (p a b : Int) : (a * (b % p)) % p = (a * b) % p := by rw [Int.mul_emod, mod_mod, ← Int.mul_emod]

/-! ### combinations -/

/-! ### coordinates -/

/-! ### has a vector -/

/-! ### relations -/

/-! ### the first choice -/
end Go.Proofs.Ytgfnophfoccamaa

