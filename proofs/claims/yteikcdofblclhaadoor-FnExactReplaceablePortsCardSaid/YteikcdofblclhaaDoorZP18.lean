/-
  Plain laws: pairs of relations, ports that are never inputs, inclusion. No program in sight. No condition.
-/
import Derived.Test.YteikcdofblclhaaDoorZP17
namespace Go.Proofs.YteikcdofblclhaaDoor

theorem okR_app {p : Int} {l r : Nat} {x y : List Int} (hx : okR p l x) (hy : okR p r y) : okR p (l + r) (x ++ y) :=
  ⟨by rw [List.length_append, hx.1, hy.1], fun z hz => by rcases List.mem_append.1 hz with h | h; exact hx.2 z h; exact hy.2 z h⟩

/-! ### inclusion -/

/-! ### ports that are never inputs -/
def sieve (P : Nat → Bool) (n : Nat) : List Int := ((List.range n).filter P).map fun q : Nat => (q : Int)
theorem sieve_succ (P : Nat → Bool) (n : Nat) : sieve P (n + 1) = if P n then sieve P n ++ [(n : Int)] else sieve P n := by
  unfold sieve
  rw [List.range_succ, List.filter_append, List.map_append]
  cases h : P n <;> simp [h]
theorem sieve_len (P : Nat → Bool) (n : Nat) : (sieve P n).length ≤ n := by
  unfold sieve
  rw [List.length_map]
  have := List.length_filter_le P (List.range n)
  rw [List.length_range] at this; exact this
theorem relSize_ {p : Int} {l r : Nat} {R : Rel} (h : RlOk p l r R) : F_impl_Relation_size R = some ((l + r : Nat) : Int) := by
  have := h.n24
  unfold F_impl_Relation_size
  rw [h.left, h.right]
  exact bnd (addO_of (by omega) (by omega)) (by rw [show (l : Int) + (r : Int) = ((l + r : Nat) : Int) by omega])
end Go.Proofs.YteikcdofblclhaaDoor
