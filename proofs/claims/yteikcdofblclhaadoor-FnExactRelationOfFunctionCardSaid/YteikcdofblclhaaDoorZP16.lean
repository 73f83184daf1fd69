/-
  Plain laws: leads, reduced lists of rows, spaces and relations that are valid, coordinates. No program in sight. No condition.
-/
import Derived.Test.YteikcdofblclhaaDoorZP13
namespace Go.Proofs.YteikcdofblclhaaDoor

/-! ### leads -/
def leadN : List Int → Nat
  | [] => 0
  | x :: xs => if x = 0 then leadN xs + 1 else 0
theorem el_zero (x : Int) (xs : List Int) : el (x :: xs) 0 = x := by unfold el; simp
theorem el_succ (x : Int) (xs : List Int) (j : Nat) : el (x :: xs) (j + 1) = el xs j := by unfold el; simp

/-! ### rows by their elements -/
theorem ext_el {a b : List Int} (hl : a.length = b.length) (h : ∀ j, j < a.length → el a j = el b j) : a = b := by
  apply List.ext_getElem?
  intro j
  by_cases hj : j < a.length
  · rw [el_get hj, el_get (by omega), h j hj]
  · rw [List.getElem?_eq_none (by omega), List.getElem?_eq_none (by omega)]
theorem el_mapR {g : Nat → Int → Int} {r : List Int} {j : Nat} (h : j < r.length) : el (mapR g r) j = g j (el r j) := by
  have h1 := el_get (r := mapR g r) (c := j) (by rw [mapR_len]; exact h)
  unfold mapR at h1
  rw [List.getElem?_mapIdx, el_get h] at h1
  exact (Option.some.inj h1).symm

/-! ### reduced lists -/
/-- the first r rows are reduced up to column c; the others are zero up to it -/
structure RedI (c r : Nat) (m : Rows) : Prop where
  le : r ≤ m.length
  lt : ∀ i, i < r → leadN (gr m i) < c
  one : ∀ i, i < r → el (gr m i) (leadN (gr m i)) = 1
  zero : ∀ i j, i < r → j < m.length → i ≠ j → el (gr m j) (leadN (gr m i)) = 0
  inc : ∀ i j, i < j → j < r → leadN (gr m i) < leadN (gr m j)
  rest : ∀ i, r ≤ i → i < m.length → ∀ q, q < c → el (gr m i) q = 0
theorem RedI.start (m : Rows) : RedI 0 0 m := ⟨Nat.zero_le _, fun _ h => by omega, fun _ h => by omega, fun _ _ h => by omega, fun _ _ _ h => by omega, fun _ _ _ _ h => by omega⟩
theorem RedI.skip {c r : Nat} {m : Rows} (h : RedI c r m) (hz : ∀ i, r ≤ i → i < m.length → el (gr m i) c = 0) : RedI (c + 1) r m :=
  ⟨h.le, fun i hi => by have := h.lt i hi; omega, h.one, h.zero, h.inc, fun i h1 h2 q hq => by
    rcases Nat.lt_or_ge q c with h3 | h3
    · exact h.rest i h1 h2 q h3
    · rw [show q = c by omega]; exact hz i h1 h2⟩

/-! ### valid spaces -/
end Go.Proofs.YteikcdofblclhaaDoor
