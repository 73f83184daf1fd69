/-
  Plain laws: ports, choices of inputs and their functions. No program in sight. No condition.
-/
import Derived.Test.YteikcdofblclhaaDoorZP18
import Derived.Test.YteikcdofblclhaaDoorZP19
import Derived.Test.YteikcdofblclhaaDoorZP20
namespace Go.Proofs.YteikcdofblclhaaDoor
set_option linter.unusedVariables false

/-! ### lists of ports -/
/-- ports of n, strictly increasing -/
structure Ports (l : List Int) (n : Nat) : Prop where
  rng : ∀ k, k < l.length → 0 ≤ el l k ∧ el l k < (n : Int)
  inc : ∀ i j, i < j → j < l.length → el l i < el l j
theorem mem_el {l : List Int} {x : Int} : x ∈ l ↔ ∃ k, k < l.length ∧ el l k = x := by
  constructor
  · intro h
    obtain ⟨k, hk, rfl⟩ := List.mem_iff_getElem.1 h
    refine ⟨k, hk, ?_⟩
    have := el_get hk
    rw [List.getElem?_eq_getElem hk] at this; exact (Option.some.inj this).symm
  · rintro ⟨k, hk, rfl⟩; exact el_mem hk
theorem Ports.inj {l : List Int} {n : Nat} (h : Ports l n) {i j : Nat} (hi : i < l.length) (hj : j < l.length) (he : el l i = el l j) : i = j := by
  rcases Nat.lt_trichotomy i j with h1 | h1 | h1
  · have := h.inc i j h1 hj; omega
  · exact h1
  · have := h.inc j i h1 hi; omega
theorem Ports.len {l : List Int} {n : Nat} (h : Ports l n) : l.length ≤ n := by
  have key : ∀ k, k < l.length → (k : Int) ≤ el l k := fun k hk => by
    induction k with
    | zero => have := h.rng 0 hk; omega
    | succ k ih => have := ih (by omega); have := h.inc k (k + 1) (by omega) hk; omega
  rcases Nat.eq_zero_or_pos l.length with h0 | h0
  · omega
  · have := key (l.length - 1) (by omega)
    have := (h.rng (l.length - 1) (by omega)).2
    omega

/-! ### the other ports -/

/-! ### rows at ports -/
def chosL (l : List Int) (r : List Int) : List Int := l.map fun i => el r i.toNat
theorem chosL_len (l r : List Int) : (chosL l r).length = l.length := by simp [chosL]
/-- indices below n -/
def below (l : List Int) (n : Nat) : Prop := ∀ k, k < l.length → 0 ≤ el l k ∧ el l k < (n : Int)
theorem chosen_ {r l : List Int} {n : Nat} (hr : r.length = n) (hl : below l n) (hn : l.length ≤ 1048576) : F_impl_chosen r l = some (chosL l r) := by
  have hm : maxN = 1099511627776 := rfl
  refine bnd (makeCO_of0 _ (by omega)) (bnd (forS_map (fun i : Int => el r i.toNat) l [] (by simp; omega) ?_) rfl)
  intro j i s hj hs
  have hjl : j < l.length := (List.getElem?_eq_some_iff.1 hj).1
  have e : el l j = i := Option.some.inj ((el_get hjl).symm.trans hj)
  have h1 := hl j hjl
  rw [e] at h1
  obtain ⟨q, rfl⟩ : ∃ q : Nat, i = (q : Int) := ⟨i.toNat, by omega⟩
  rw [Int.toNat_natCast]
  exact bnd (idxO_of hj) (bnd (idx_el (by omega)) (bnd (appO_of (by simp at hs ⊢; omega)) rfl))

/-! ### ports that are always inputs -/
end Go.Proofs.YteikcdofblclhaaDoor
