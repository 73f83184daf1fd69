/-
  Plain laws: leads, reduced lists of rows, spaces and relations that are valid, coordinates. No program in sight. No condition.
-/
import Derived.Test.YteikcdofblclhaaDoorZP13
namespace Go.Proofs.YteikcdofblclhaaDoor

/-! ### leads -/
def leadN : List Int → Nat
  | [] => 0
  | x :: xs => if x = 0 then leadN xs + 1 else 0

/-! ### rows by their elements -/

/-! ### reduced lists -/
/-- the first r rows are reduced up to column c; the others are zero up to it -/
structure RedI (c r : Nat) (m : Rows) : Prop where
  le : r ≤ m.length
  lt : ∀ i, i < r → leadN (gr m i) < c
  one : ∀ i, i < r → el (gr m i) (leadN (gr m i)) = 1
  zero : ∀ i j, i < r → j < m.length → i ≠ j → el (gr m j) (leadN (gr m i)) = 0
  inc : ∀ i j, i < j → j < r → leadN (gr m i) < leadN (gr m j)
  rest : ∀ i, r ≤ i → i < m.length → ∀ q, q < c → el (gr m i) q = 0
theorem RedI.start (m : Rows) : RedI 0 0 m := ⟨Nat.zero_le _, fun _ h => by omega, fun _ h => by omega, fun _ _ h => by omega, fun _ _ _ h => by omega, fun _ _ _ _ h => by omega⟩
theorem RedI.skip {c r : Nat} {m : Rows} (h : RedI c r m) (hz : ∀ i, r ≤ i → i < m.length → el (gr m i) c = 0) : RedI (c + 1) r m :=
  ⟨h.le, fun i hi => by have := h.lt i hi; omega, h.one, h.zero, h.inc, fun i h1 h2 q hq => by
    rcases Nat.lt_or_ge q c with h3 | h3
    · exact h.rest i h1 h2 q h3
    · rw [show q = c by omega]; exact hz i h1 h2⟩

/-! ### valid spaces -/
end Go.Proofs.YteikcdofblclhaaDoor
