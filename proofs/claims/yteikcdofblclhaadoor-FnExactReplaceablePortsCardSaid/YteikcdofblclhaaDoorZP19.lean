/-
  Plain laws: the reference's reduction of a matrix with its transforming matrix; linear equations. No program in sight. No condition.
-/
import Derived.Test.YteikcdofblclhaaDoorZP17
import Derived.Test.YteikcdofblclhaaDoorZP14
namespace Go.Proofs.YteikcdofblclhaaDoor
set_option linter.unusedVariables false

/-! ### identity matrices -/
def unitN (n i : Nat) : List Int := (List.replicate n 0).set i 1
def idN (n : Nat) : Rows := (List.range n).map (unitN n)
theorem unitN_ok {p : Int} (hp : 2 ≤ p) (n i : Nat) : okR p n (unitN n i) := by
  refine ⟨by simp [unitN], fun x hx => ?_⟩
  rcases List.mem_or_eq_of_mem_set hx with h | rfl
  · have := List.eq_of_mem_replicate h; omega
  · omega
theorem idN_len (n : Nat) : (idN n).length = n := by simp [idN]
theorem idN_ok {p : Int} (hp : 2 ≤ p) (n : Nat) : okM p n (idN n) := by
  intro x hx
  obtain ⟨i, hi, rfl⟩ := List.mem_map.1 hx
  exact unitN_ok hp n i

/-! ### linear equations -/
theorem redLoop_RedI {p : Int} {N : Nat} (hf : fdB p = true) (d : Nat) (m a : Rows) (ho : okM p N m) (hd : d ≤ N) : RedI d (redLoop p d 0 m a 0).2.2 (redLoop p d 0 m a 0).1 := by
  have h1 := redLoop_red hf d 0 m 0 (by omega) ho (RedI.start m)
  obtain ⟨e1, e2⟩ := redLoop_any p d 0 m m a 0
  rw [Nat.zero_add] at h1
  rw [e1, e2] at h1; exact h1
end Go.Proofs.YteikcdofblclhaaDoor
