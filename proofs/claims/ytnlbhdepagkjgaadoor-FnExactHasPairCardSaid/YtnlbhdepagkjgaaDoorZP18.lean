/-
  Plain laws: pairs of relations, ports that are never inputs, inclusion. No program in sight. No condition.
-/
import Derived.Test.YtnlbhdepagkjgaaDoorZP17
namespace Go.Proofs.YtnlbhdepagkjgaaDoor

theorem flat_take {α : Type} (l : List (List α)) (j : Nat) : (l.take j).flatten.length ≤ l.flatten.length := by
  have : l.flatten = (l.take j).flatten ++ (l.drop j).flatten := by rw [← List.flatten_append, List.take_append_drop]
  rw [this, List.length_append]; omega
theorem flat_succ {α : Type} (l : List (List α)) {j : Nat} {x : List α} (h : l[j]? = some x) : (l.take (j + 1)).flatten = (l.take j).flatten ++ x := by
  rw [List.take_add_one, h]
  simp only [Option.toList_some, List.flatten_append, List.flatten_cons, List.flatten_nil, List.append_nil]
theorem joined_ {l : Rows} (h : l.flatten.length ≤ maxN) : F_impl_joined l = some l.flatten := by
  have := forS_is (n := l.length) (fun j => (l.take j).flatten) (f := fun (k5 : Nat) (s41 : List Int) =>
      (idxO l ((k5 : Nat) : Int)).bind fun a57 =>
      (appO s41 a57).bind fun a61 =>
      some a61) (by
    intro j hj
    have h1 := gr_get hj
    have h2 := flat_succ l h1
    have h3 := flat_take l (j + 1)
    refine bnd (idx_gr hj) (bnd (appO_of ?_) (by rw [h2]))
    rw [h2, List.length_append] at h3; omega)
  exact bnd this (by rw [List.take_of_length_le (Nat.le_refl _)])
def pairB (p : Int) (R : Rel) (x y : List Int) : Bool := rlB p R && (vecB p R.1 x && vecB p R.2.1 y)
theorem pairB_ok {p : Int} {R : Rel} {x y : List Int} (h : pairB p R x y = true) : ∃ l r, RlOk p l r R ∧ okR p l x ∧ okR p r y := by
  unfold pairB at h
  simp only [Bool.and_eq_true] at h
  obtain ⟨l, r, h1⟩ := rlB_ok h.1
  have h2 := h.2.1; have h3 := h.2.2
  rw [h1.left] at h2; rw [h1.right] at h3
  exact ⟨l, r, h1, vecB_ok h2, vecB_ok h3⟩
theorem okR_app {p : Int} {l r : Nat} {x y : List Int} (hx : okR p l x) (hy : okR p r y) : okR p (l + r) (x ++ y) :=
  ⟨by rw [List.length_append, hx.1, hy.1], fun z hz => by rcases List.mem_append.1 hz with h | h; exact hx.2 z h; exact hy.2 z h⟩
def wHasPair (p : Int) (R : Rel) (x y : List Int) : Bool × Bool := if pairB p R x y then (hasB p (R.1 + R.2.1).toNat R.2.2 (x ++ y), true) else (false, false)
theorem hasPair_ {p : Int} {l r : Nat} {R : Rel} {v : List Int} (h : RlOk p l r R) (hv : okR p (l + r) v) : F_impl_hasPair p R v = some (hasB p (l + r) R.2.2 v) := by
  have := h.n24; have := h.len
  exact bnd (coordinates_ h.hf h.red hv (by omega) (by omega)) rfl
theorem implHasPair (p : Int) (R : Rel) (x y : List Int) : F_impl_HasPair p R x y = some (wHasPair p R x y) := by
  have hm : maxN = 1099511627776 := rfl
  refine bnd (a := !pairB p R x y) (bndN (isRelation_ p R) (fun _ => rfl) (fun _ => stp (cFW rfl (bndN (b := vecB p R.1 x) (isVector_ p R.1 x) (fun _ => rfl) (fun _ => stp (cFW rfl (bnd (isVector_ p R.2.1 y) rfl))))))) ?_
  unfold wHasPair
  cases h : pairB p R x y with
  | false => rfl
  | true =>
    obtain ⟨l, r, h1, h2, h3⟩ := pairB_ok h
    have := h1.n24
    have e : ([x, y] : Rows).flatten = x ++ y := by simp
    have hl := okR_app h2 h3
    refine cFW rfl (bnd (joined_ (by rw [e, hl.1]; omega)) ?_)
    rw [e]
    refine bnd (hasPair_ h1 hl) ?_
    rw [h1.left, h1.right, show ((l : Int) + (r : Int)).toNat = l + r by omega]; rfl
theorem and4 (a b c d e : Bool) : (a && ((b && d) && (c && e))) = (a && (b && (c && (d && e)))) := by cases a <;> cases b <;> cases c <;> cases d <;> cases e <;> rfl
theorem specHasPair (p : Int) (R : Rel) (x y : List Int) : F_spec_HasPair p R x y = some (wHasPair p R x y) := by
  have hm : maxN = 1099511627776 := rfl
  refine bnd (a := !pairB p R x y) ?_ ?_
  · unfold pairB vecB
    rw [and4]
    refine bndN (rlGood_ p R) (fun _ => rfl) (fun hb => stp (cFW rfl (stp ?_)))
    have hp : 2 ≤ p ∧ p ≤ 97 := by
      obtain ⟨l, r, h1⟩ := rlB_ok hb
      exact fdB_rng h1.hf
    cases decide ((x.length : Int) = R.1) with
    | false => rfl
    | true =>
      refine cFW rfl (stp ?_)
      cases decide ((y.length : Int) = R.2.1) with
      | false => rfl
      | true =>
        show _ = some (!(inB p x && inB p y))
        exact cFW rfl (bndN (fdIn hp x) (fun _ => rfl) (fun _ => stp (cFW rfl (bnd (fdIn hp y) rfl))))
  · unfold wHasPair
    cases h : pairB p R x y with
    | false => rfl
    | true =>
      obtain ⟨l, r, h1, h2, h3⟩ := pairB_ok h
      have := h1.n24; have := h1.len
      have hl := okR_app h2 h3
      have hx := h2.1
      have hl1 := hl.1
      rw [List.length_append] at hl1
      refine cFW rfl (bnd (bnd (own_ (by omega)) (bnd (appO_of (by omega)) (bnd (spHas_ h1.hf h1.red hl (by omega) (by show R.2.2.length ≤ 1048576; omega)) rfl))) ?_)
      rw [h1.left, h1.right, show ((l : Int) + (r : Int)).toNat = l + r by omega]
      rfl

/-! ### inclusion -/

/-! ### ports that are never inputs -/
end Go.Proofs.YtnlbhdepagkjgaaDoor
