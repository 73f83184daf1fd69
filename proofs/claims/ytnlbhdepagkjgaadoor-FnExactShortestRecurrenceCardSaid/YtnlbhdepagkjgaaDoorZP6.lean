/-
  Plain laws: sums of rows, products of rows and matrices. No program in sight. No condition.
-/
import Derived.Test.YtnlbhdepagkjgaaDoorZP5
namespace Go.Proofs.YtnlbhdepagkjgaaDoor

def fold2 {α β σ : Type} (g : σ → α → β → σ) : List α → List β → σ → σ
  | a :: l, b :: m, s => fold2 g l m (g s a b)
  | _, _, s => s

theorem mul_lt {p c y : Int} (hp : 2 ≤ p ∧ p ≤ 97) (hc : 0 ≤ c ∧ c < p) (hy : 0 ≤ y ∧ y < p) : 0 ≤ c * y ∧ c * y ≤ 9409 := by
  refine ⟨Int.mul_nonneg hc.1 hy.1, ?_⟩
  calc c * y ≤ 97 * 97 := Int.mul_le_mul (by omega) (by omega) hy.1 (by omega)
    _ = 9409 := by decide
theorem emod_in {p x : Int} (hp : 2 ≤ p) : 0 ≤ x % p ∧ x % p < p := ⟨Int.emod_nonneg _ (by omega), Int.emod_lt_of_pos _ (by omega)⟩
/-- adds c times a row -/
def addR (p c : Int) (acc row : List Int) : List Int := List.zipWith (fun y x => (x + c * y) % p) row acc
theorem zip_in {p : Int} (hp : 2 ≤ p) (c : Int) : ∀ (row acc : List Int), inP p (addR p c acc row)
  | [], _ => by intro x hx; simp [addR] at hx
  | _ :: _, [] => by intro x hx; simp [addR] at hx
  | y :: row, x :: acc => by
    intro z hz
    have : z ∈ (x + c * y) % p :: addR p c acc row := hz
    cases this with
    | head => exact emod_in hp
    | tail _ h => exact zip_in hp c row acc z h
theorem addR_len {p c : Int} {acc row : List Int} (h : row.length = acc.length) : (addR p c acc row).length = acc.length := by simp [addR, h]
/-- the sum of rows with coefficients -/
def combR (p : Int) (n : Nat) (rows : List (List Int)) (cs : List Int) : List Int := fold2 (fun acc row c => addR p c acc row) rows cs (List.replicate n 0)
def okR (p : Int) (n : Nat) (l : List Int) : Prop := l.length = n ∧ inP p l
theorem okR_zero {p : Int} (hp : 2 ≤ p) (n : Nat) : okR p n (List.replicate n 0) := ⟨by simp, by intro x hx; have := List.eq_of_mem_replicate hx; omega⟩

theorem zeros_ {n : Nat} (h : n ≤ maxN) : F_impl_zeros (n : Int) = some (List.replicate n 0) := bnd (makeO_of _ h) rfl

/-- the product of rows and a matrix of n columns -/
def mulM (p : Int) (n : Nat) (rows m : List (List Int)) : List (List Int) := rows.map (combR p n m)
theorem own_ {l : List Int} (h : l.length ≤ maxN) : F_spec_l1Own l = some l := bnd (appO_of (by simpa using h)) rfl
theorem clone_ {l : List Int} (h : l.length ≤ maxN) : F_impl_clone l = some l := bnd (appO_of (by simpa using h)) rfl
theorem clones_ {m : List (List Int)} (hl : m.length ≤ maxN) (h : ∀ r ∈ m, r.length ≤ maxN) : F_impl_clones m = some m := by
  refine bnd (makeCO_of0 _ hl) (bnd (a := m) ?_ rfl)
  refine (forS_map (fun r => r) m [] (by simpa using hl) ?_).trans (by simp)
  intro j x s hx hs
  have hj : j < m.length := (List.getElem?_eq_some_iff.1 hx).1
  exact bnd (idxO_of hx) (bnd (clone_ (h x (mem_of_get hx))) (bnd (appO_of (by simp at hs ⊢; omega)) rfl))
end Go.Proofs.YtnlbhdepagkjgaaDoor
