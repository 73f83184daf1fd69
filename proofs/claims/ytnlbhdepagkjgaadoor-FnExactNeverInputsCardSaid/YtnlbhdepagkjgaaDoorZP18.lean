/-
  Plain laws: pairs of relations, ports that are never inputs, inclusion. No program in sight. No condition.
-/
import Derived.Test.YtnlbhdepagkjgaaDoorZP17
namespace Go.Proofs.YtnlbhdepagkjgaaDoor

/-! ### inclusion -/

/-! ### ports that are never inputs -/
def sieve (P : Nat → Bool) (n : Nat) : List Int := ((List.range n).filter P).map fun q : Nat => (q : Int)
theorem sieve_succ (P : Nat → Bool) (n : Nat) : sieve P (n + 1) = if P n then sieve P n ++ [(n : Int)] else sieve P n := by
  unfold sieve
  rw [List.range_succ, List.filter_append, List.map_append]
  cases h : P n <;> simp [h]
theorem sieve_len (P : Nat → Bool) (n : Nat) : (sieve P n).length ≤ n := by
  unfold sieve
  rw [List.length_map]
  have := List.length_filter_le P (List.range n)
  rw [List.length_range] at this; exact this
def zeroAt (b : Rows) (q : Nat) : Bool := b.all fun r => decide (el r q = 0)
theorem elements_ {p : Int} {n : Nat} {b : Rows} {q : Nat} (hb : okM p n b) (hq : q < n) (hl : b.length ≤ 1048576) : F_impl_elements b (q : Int) = some (b.map fun r => el r q) := by
  have hm : maxN = 1099511627776 := rfl
  refine bnd (forS_map (fun r => el r q) b [] (by simp; omega) ?_) rfl
  intro j r s hj hs
  have hjl : j < b.length := (List.getElem?_eq_some_iff.1 hj).1
  have h1 := (hb r (mem_of_get hj)).1
  exact bnd (idxO_of hj) (bnd (idx_el (by omega)) (bnd (appO_of (by simp at hs ⊢; omega)) rfl))
theorem zero_map (b : Rows) (q : Nat) : decide (leadN (b.map fun r => el r q) = (b.map fun r => el r q).length) = zeroAt b q := by
  unfold zeroAt
  induction b with
  | nil => rfl
  | cons r b ih =>
    rw [List.map_cons, List.all_cons, List.length_cons]
    unfold leadN
    by_cases h : el r q = 0
    · rw [if_pos h, dT h, Bool.true_and, ← ih, decide_eq_decide]; omega
    · rw [if_neg h, dF h, Bool.false_and, dF (by omega)]
def wNeverInputs (p : Int) (R : Rel) : List Int × Bool := if rlB p R then (sieve (zeroAt R.2.2) (R.1 + R.2.1).toNat, true) else ([], false)
theorem relSize_ {p : Int} {l r : Nat} {R : Rel} (h : RlOk p l r R) : F_impl_Relation_size R = some ((l + r : Nat) : Int) := by
  have := h.n24
  unfold F_impl_Relation_size
  rw [h.left, h.right]
  exact bnd (addO_of (by omega) (by omega)) (by rw [show (l : Int) + (r : Int) = ((l + r : Nat) : Int) by omega])
theorem implNeverInputs (p : Int) (R : Rel) : F_impl_NeverInputs p R = some (wNeverInputs p R) := by
  have hm : maxN = 1099511627776 := rfl
  refine bnd (a := wNeverInputs p R) (bnd (isRelation_ p R) (stp ?_)) rfl
  unfold wNeverInputs
  cases h : rlB p R with
  | false => rfl
  | true =>
    obtain ⟨l, r, h1⟩ := rlB_ok h
    have := h1.n24; have := h1.len
    have e1 := h1.left; have e2 := h1.right
    rw [show (R.1 + R.2.1).toNat = l + r by omega]
    refine cFW rfl (bnd (relSize_ (l := l) (r := r) (R := R) h1) (bnd (cI_of ⟨by omega, by omega⟩) ?_))
    rw [Int.toNat_natCast]
    refine bnd (forS_is (fun j => sieve (zeroAt R.2.2) j) ?_) rfl
    intro j hj
    refine bnd (bnd (elements_ (b := R.2.2) h1.red.ok hj (by omega)) (bnd (isZero_ _) rfl)) ?_
    rw [zero_map, sieve_succ]
    have := sieve_len (zeroAt R.2.2) j
    cases zeroAt R.2.2 j with
    | false => rfl
    | true => exact cTW rfl (bnd (appO_of (by simp; omega)) rfl)
theorem specNeverInputs (p : Int) (R : Rel) : F_spec_NeverInputs p R = some (wNeverInputs p R) := by
  have hm : maxN = 1099511627776 := rfl
  refine bnd (rlGood_ p R) (stp ?_)
  unfold wNeverInputs
  cases h : rlB p R with
  | false => rfl
  | true =>
    obtain ⟨l, r, h1⟩ := rlB_ok h
    have := h1.n24; have := h1.len
    have e1 := h1.left; have e2 := h1.right
    rw [show (R.1 + R.2.1).toNat = l + r by omega]
    refine cFW rfl (bnd (whileO_is (fun j => (sieve (zeroAt R.2.2) j, (j : Int))) (t := sieve (zeroAt R.2.2) (l + r)) (l + r) ?_ ?_) rfl)
    · intro j hj
      dsimp only
      refine bnd (addO_of (by omega) (by omega)) (stp (cTW (dT (by omega)) ?_))
      refine bnd (a := zeroAt R.2.2 j) ?_ ?_
      · have := forS_is (n := R.2.2.length) (fun i => (R.2.2.take i).all fun x => decide (el x j = 0)) (f := fun (k570 : Nat) (s617 : Bool) =>
              (idxO R.2.2 ((k570 : Nat) : Int)).bind fun a632 =>
              cond s617
              ((idxO a632 (j : Int)).bind fun a644 =>
                (some (decide (a644 = 0))).bind fun a646 =>
                some a646)
              (some false)) (by
          intro i hi
          have hx := (okM_gr h1.red.ok hi).1
          refine bnd (idx_gr hi) ?_
          rw [List.take_add_one, gr_get hi]
          simp only [Option.toList_some, List.all_append, List.all_cons, List.all_nil, Bool.and_true]
          cases ((R.2.2.take i).all fun x => decide (el x j = 0)) with
          | false => rfl
          | true => exact cTW rfl (bnd (idx_el (by omega)) (by rw [Bool.true_and]; rfl)))
        rw [List.take_of_length_le (Nat.le_refl _)] at this
        exact this
      · rw [sieve_succ]
        have := sieve_len (zeroAt R.2.2) j
        cases zeroAt R.2.2 j with
        | false => exact cFW rfl (bnd (addO_of (by omega) (by omega)) rfl)
        | true => exact cTW rfl (bnd (appO_of (by simp; omega)) (bnd (addO_of (by omega) (by omega)) rfl))
    · dsimp only
      exact bnd (addO_of (by omega) (by omega)) (stp (cFW (dF (by omega)) rfl))
theorem boundNeverInputs_0 (p : Int) (R : Rel) : (wNeverInputs p R).1.length ≤ 1048576 := by
  unfold wNeverInputs
  split
  · rename_i h
    obtain ⟨l, r, h1⟩ := rlB_ok h
    have := h1.n24
    rw [h1.left, h1.right, show ((l : Int) + (r : Int)).toNat = l + r by omega]
    have := sieve_len (zeroAt R.2.2) (l + r)
    show (sieve (zeroAt R.2.2) (l + r)).length ≤ _
    omega
  · simp
end Go.Proofs.YtnlbhdepagkjgaaDoor
