/-
  Plain laws: pairs of relations, ports that are never inputs, inclusion. No program in sight. No condition.
-/
import Derived.Test.YtnlbhdepagkjgaaDoorZP17
namespace Go.Proofs.YtnlbhdepagkjgaaDoor

theorem hasPair_ {p : Int} {l r : Nat} {R : Rel} {v : List Int} (h : RlOk p l r R) (hv : okR p (l + r) v) : F_impl_hasPair p R v = some (hasB p (l + r) R.2.2 v) := by
  have := h.n24; have := h.len
  exact bnd (coordinates_ h.hf h.red hv (by omega) (by omega)) rfl

/-! ### inclusion -/
theorem forO_find {α : Type} {τ : Type} {f : Nat → Unit → Option (Unit ⊕ τ)} (P : α → Bool) (t : α → τ) : ∀ (l : List α) (k : Nat), (∀ j a, l[j]? = some a → f (k + j) () = some (if P a then .inl () else .inr (t a))) →
    forO f l.length k () = some (match l.find? (fun a => !P a) with | none => .inl () | some a => .inr (t a))
  | [], k, _ => rfl
  | a :: l, k, h => by
    show (f k ()).bind _ = _
    have h0 : f k () = _ := h 0 a rfl
    rw [h0, List.find?_cons]
    cases hP : P a with
    | false => rfl
    | true =>
      have := forO_find P t l (k + 1) (fun j b hb => by
        have := h (j + 1) b (by simpa using hb)
        rw [show k + 1 + j = k + (j + 1) by omega]; exact this)
      exact this
def inclB (p : Int) (a b : Rel) : Bool := rlB p a && (rlB p b && (decide (a.1 = b.1) && decide (a.2.1 = b.2.1)))
theorem inclB_ok {p : Int} {a b : Rel} (h : inclB p a b = true) : ∃ l r, RlOk p l r a ∧ RlOk p l r b := by
  unfold inclB at h
  simp only [Bool.and_eq_true, decide_eq_true_eq] at h
  obtain ⟨h1, h2, h3, h4⟩ := h
  obtain ⟨l, r, k1⟩ := rlB_ok h1
  obtain ⟨l', r', k2⟩ := rlB_ok h2
  have e1 := k1.left; have e2 := k1.right; have e3 := k2.left; have e4 := k2.right
  obtain rfl : l = l' := by omega
  obtain rfl : r = r' := by omega
  exact ⟨l, r, k1, k2⟩
def wIncludesRelation (p : Int) (a b : Rel) : Bool × Bool := if inclB p a b then (b.2.2.all (hasB p (a.1 + a.2.1).toNat a.2.2), true) else (false, false)
theorem inclT {p : Int} {a b : Rel} {m : Option Bool} {k : Option Bool} (ha : m = some (rlB p a)) (hb : k = some (rlB p b)) : (m.bind fun y36 =>
    (some (!y36)).bind fun a39 =>
    cond a39
    (some true)
    (k.bind fun y42 =>
      (some (!y42)).bind fun a45 =>
      cond a45
      (some true)
      ((some (!decide (a.1 = b.1))).bind fun a48 =>
        cond a48
        (some true)
        ((some (!decide (a.2.1 = b.2.1))).bind fun a51 =>
          some a51)))) = some (!inclB p a b) := by
  unfold inclB
  refine bndN ha (fun _ => rfl) (fun _ => stp (cFW rfl (bndN hb (fun _ => rfl) (fun _ => stp (cFW rfl (stp ?_))))))
  cases decide (a.1 = b.1) <;> rfl
theorem specIncludesRelation (p : Int) (a b : Rel) : F_spec_IncludesRelation p a b = some (wIncludesRelation p a b) := by
  refine bnd (inclT (rlGood_ p a) (rlGood_ p b)) ?_
  unfold wIncludesRelation
  cases h : inclB p a b with
  | false => rfl
  | true =>
    obtain ⟨l, r, h1, h2⟩ := inclB_ok h
    have := h1.n24; have := h1.len
    rw [h1.left, h1.right, show ((l : Int) + (r : Int)).toNat = l + r by omega]
    refine cFW rfl (bnd (a := b.2.2.all (hasB p (l + r) a.2.2)) (sqW (forO_all (hasB p (l + r) a.2.2) b.2.2 0 ?_ (t := false)) ?_) rfl)
    · intro j x hj
      rw [Nat.zero_add]
      refine bnd (idxO_of hj) (bnd (spHas_ h1.hf h1.red (h2.red.ok x (mem_of_get hj)) (by omega) (by show a.2.2.length ≤ 1048576; omega)) (stp ?_))
      cases hasB p (l + r) a.2.2 x <;> rfl
    · cases b.2.2.all (hasB p (l + r) a.2.2) <;> rfl
theorem find_all {α : Type} (P : α → Bool) : ∀ l : List α, (l.find? (fun a => !P a)).isNone = l.all P
  | [] => rfl
  | a :: l => by
    rw [List.find?_cons, List.all_cons]
    cases h : P a with
    | false => simp
    | true => simp [find_all P l]
theorem red_row {p : Int} {n : Nat} {b : Rows} (h : Red p n b) {x : List Int} (hx : x ∈ b) : x ≠ [] := by
  obtain ⟨i, hi, rfl⟩ := List.mem_iff_getElem.1 hx
  have h1 := h.lt i hi
  have h2 := okM_gr h.ok hi
  have e : gr b i = b[i] := by have := gr_get hi; rw [List.getElem?_eq_getElem hi] at this; exact (Option.some.inj this).symm
  rw [e] at h2
  intro h0
  rw [h0] at h2
  have := h2.1
  simp at this; omega
theorem implIncludesRelation (p : Int) (a b : Rel) : F_impl_IncludesRelation p a b = some (wIncludesRelation p a b) := by
  refine bnd (inclT (isRelation_ p a) (isRelation_ p b)) ?_
  unfold wIncludesRelation
  cases h : inclB p a b with
  | false => rfl
  | true =>
    obtain ⟨l, r, h1, h2⟩ := inclB_ok h
    have := h1.n24; have := h1.len
    rw [h1.left, h1.right, show ((l : Int) + (r : Int)).toNat = l + r by omega]
    have hf := forO_find (hasB p (l + r) a.2.2) (fun x : List Int => x) b.2.2 0 (f := fun (k9 : Nat) (_ : Unit) =>
      (idxO b.2.2 ((k9 : Nat) : Int)).bind fun a44 =>
      (F_impl_hasPair p (a.1, a.2.1, a.2.2) a44).bind fun y48 =>
      (some (!y48)).bind fun a51 =>
      cond a51
      ((neO a44).bind fun _ =>
        some (.inr a44))
      (some (.inl ()))) (by
        intro j x hj
        rw [Nat.zero_add]
        refine bnd (idxO_of hj) (bnd (hasPair_ h1 (h2.red.ok x (mem_of_get hj))) (stp ?_))
        have hne := red_row h2.red (mem_of_get hj)
        cases hasB p (l + r) a.2.2 x with
        | false =>
          refine cTW rfl (bnd (a := ()) ?_ rfl)
          unfold neO
          cases x with
          | nil => exact absurd rfl hne
          | cons _ _ => rfl
        | true => rfl)
    refine cFW rfl (bnd (sqW hf (y := some ((b.2.2.find? (fun x => !hasB p (l + r) a.2.2 x)).getD [])) ?_) (stp ?_))
    · cases b.2.2.find? (fun x => !hasB p (l + r) a.2.2 x) <;> rfl
    · refine congrArg some (Prod.ext ?_ rfl)
      show _ = b.2.2.all _
      rw [← find_all]
      cases hq : b.2.2.find? (fun x => !hasB p (l + r) a.2.2 x) with
      | none => rfl
      | some x =>
        have hne := red_row h2.red (List.mem_of_find?_eq_some hq)
        cases x with
        | nil => exact absurd rfl hne
        | cons _ _ => rfl

/-! ### ports that are never inputs -/
end Go.Proofs.YtnlbhdepagkjgaaDoor
