/-
  Plain laws: pairs of relations, ports that are never inputs, inclusion. No program in sight. No condition.
-/
import Derived.Test.YteikcdofblclhaaDoorZP17
namespace Go.Proofs.YteikcdofblclhaaDoor

theorem flat_take {α : Type} (l : List (List α)) (j : Nat) : (l.take j).flatten.length ≤ l.flatten.length := by
  have : l.flatten = (l.take j).flatten ++ (l.drop j).flatten := by rw [← List.flatten_append, List.take_append_drop]
  rw [this, List.length_append]; omega
theorem flat_succ {α : Type} (l : List (List α)) {j : Nat} {x : List α} (h : l[j]? = some x) : (l.take (j + 1)).flatten = (l.take j).flatten ++ x := by
  rw [List.take_add_one, h]
  simp only [Option.toList_some, List.flatten_append, List.flatten_cons, List.flatten_nil, List.append_nil]
theorem joined_ {l : Rows} (h : l.flatten.length ≤ maxN) : F_impl_joined l = some l.flatten := by
  have := forS_is (n := l.length) (fun j => (l.take j).flatten) (f := fun (k5 : Nat) (s41 : List Int) =>
      (idxO l ((k5 : Nat) : Int)).bind fun a57 =>
      (appO s41 a57).bind fun a61 =>
      some a61) (by
    intro j hj
    have h1 := gr_get hj
    have h2 := flat_succ l h1
    have h3 := flat_take l (j + 1)
    refine bnd (idx_gr hj) (bnd (appO_of ?_) (by rw [h2]))
    rw [h2, List.length_append] at h3; omega)
  exact bnd this (by rw [List.take_of_length_le (Nat.le_refl _)])

/-! ### inclusion -/

/-! ### ports that are never inputs -/
def sieve (P : Nat → Bool) (n : Nat) : List Int := ((List.range n).filter P).map fun q : Nat => (q : Int)
theorem sieve_succ (P : Nat → Bool) (n : Nat) : sieve P (n + 1) = if P n then sieve P n ++ [(n : Int)] else sieve P n := by
  unfold sieve
  rw [List.range_succ, List.filter_append, List.map_append]
  cases h : P n <;> simp [h]
theorem sieve_len (P : Nat → Bool) (n : Nat) : (sieve P n).length ≤ n := by
  unfold sieve
  rw [List.length_map]
  have := List.length_filter_le P (List.range n)
  rw [List.length_range] at this; exact this
end Go.Proofs.YteikcdofblclhaaDoor
