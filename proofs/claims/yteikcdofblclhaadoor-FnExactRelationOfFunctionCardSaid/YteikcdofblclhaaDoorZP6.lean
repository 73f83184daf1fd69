/-
  Plain laws: sums of rows, products of rows and matrices. No program in sight. No condition.
-/
import Derived.Test.YteikcdofblclhaaDoorZP5
namespace Go.Proofs.YteikcdofblclhaaDoor

theorem mul_lt {p c y : Int} (hp : 2 ≤ p ∧ p ≤ 97) (hc : 0 ≤ c ∧ c < p) (hy : 0 ≤ y ∧ y < p) : 0 ≤ c * y ∧ c * y ≤ 9409 := by
  refine ⟨Int.mul_nonneg hc.1 hy.1, ?_⟩
  calc c * y ≤ 97 * 97 := Int.mul_le_mul (by omega) (by omega) hy.1 (by omega)
    _ = 9409 := by decide
theorem emod_in {p x : Int} (hp : 2 ≤ p) : 0 ≤ x % p ∧ x % p < p := ⟨Int.emod_nonneg _ (by omega), Int.emod_lt_of_pos _ (by omega)⟩
def okR (p : Int) (n : Nat) (l : List Int) : Prop := l.length = n ∧ inP p l
theorem okR_zero {p : Int} (hp : 2 ≤ p) (n : Nat) : okR p n (List.replicate n 0) := ⟨by simp, by intro x hx; have := List.eq_of_mem_replicate hx; omega⟩

theorem zeros_ {n : Nat} (h : n ≤ maxN) : F_impl_zeros (n : Int) = some (List.replicate n 0) := bnd (makeO_of _ h) rfl

theorem own_ {l : List Int} (h : l.length ≤ maxN) : F_spec_l1Own l = some l := bnd (appO_of (by simpa using h)) rfl
theorem clone_ {l : List Int} (h : l.length ≤ maxN) : F_impl_clone l = some l := bnd (appO_of (by simpa using h)) rfl
theorem clones_ {m : List (List Int)} (hl : m.length ≤ maxN) (h : ∀ r ∈ m, r.length ≤ maxN) : F_impl_clones m = some m := by
  refine bnd (makeCO_of0 _ hl) (bnd (a := m) ?_ rfl)
  refine (forS_map (fun r => r) m [] (by simpa using hl) ?_).trans (by simp)
  intro j x s hx hs
  have hj : j < m.length := (List.getElem?_eq_some_iff.1 hx).1
  exact bnd (idxO_of hx) (bnd (clone_ (h x (mem_of_get hx))) (bnd (appO_of (by simp at hs ⊢; omega)) rfl))
end Go.Proofs.YteikcdofblclhaaDoor
