/-
  Plain laws: state spaces and their Markov parameters. No program in sight. No condition.
-/
import Derived.Test.YteikcdofblclhaaDoorZP6
namespace Go.Proofs.YteikcdofblclhaaDoor

def tabB (p : Int) (rows cols : Int) (m : List (List Int)) : Bool := decide ((m.length : Int) = rows) && rowsB p cols m
def ssB (p : Int) (s : SSt) : Bool :=
  fdB p && rng s.1 0 24 && rng s.2.1 0 8 && rng s.2.2.1 0 8 && tabB p s.1 s.1 s.2.2.2.1 && tabB p s.2.1 s.1 s.2.2.2.2.1 && tabB p s.1 s.2.2.1 s.2.2.2.2.2.1 && tabB p s.2.1 s.2.2.1 s.2.2.2.2.2.2
theorem ssTable_ {p : Int} (hp : 2 ≤ p ∧ p ≤ 97) (rows cols : Int) (m : List (List Int)) : F_spec_ssTable p rows cols m = some (tabB p rows cols m) := by
  refine bnd (a := tabB p rows cols m) (stp ?_) rfl
  unfold tabB
  cases decide ((m.length : Int) = rows) with
  | false => rfl
  | true => exact cTW rfl (bnd (spRows hp cols m) rfl)
theorem ssGood (p : Int) (s : SSt) : F_spec_ssGood p s = some (ssB p s) := by
  refine bnd (a := ssB p s) ?_ rfl
  unfold ssB
  simp only [Bool.and_assoc]
  refine bndB (fdGood p) (fun _ => rfl) (fun h => cTW rfl ?_)
  have hp := fdB_rng h
  refine bndB (l1In _ _ _) (fun _ => rfl) (fun _ => cTW rfl ?_)
  refine bndB (l1In _ _ _) (fun _ => rfl) (fun _ => cTW rfl ?_)
  refine bndB (l1In _ _ _) (fun _ => rfl) (fun _ => cTW rfl ?_)
  refine bndB (ssTable_ hp _ _ _) (fun _ => rfl) (fun _ => cTW rfl ?_)
  refine bndB (ssTable_ hp _ _ _) (fun _ => rfl) (fun _ => cTW rfl ?_)
  refine bndB (ssTable_ hp _ _ _) (fun _ => rfl) (fun _ => cTW rfl ?_)
  exact bnd (ssTable_ hp _ _ _) rfl
def shB (m : List (List Int)) (rows cols : Int) : Bool := decide ((m.length : Int) = rows) && m.all fun r => decide ((r.length : Int) = cols)
theorem tab_eq (p : Int) (rows cols : Int) (m : List (List Int)) : tabB p rows cols m = (shB m rows cols && rowsB p cols m) := by
  unfold tabB shB
  cases decide ((m.length : Int) = rows) with
  | false => rfl
  | true =>
    rw [Bool.true_and, Bool.true_and]
    cases h : rowsB p cols m with
    | false => rw [Bool.and_false]
    | true =>
      rw [Bool.and_true]
      symm
      unfold rowsB at h
      rw [List.all_eq_true] at h ⊢
      intro r hr
      have := h r hr
      rw [Bool.and_eq_true] at this
      exact this.1
theorem isSS (p : Int) (s : SSt) : F_impl_isStateSpace p s = some (ssB p s) := by
  have h1 : F_impl_isStateSpace p s = some ((fdB p && (rng s.1 0 24 && (rng s.2.1 0 8 && rng s.2.2.1 0 8))) && ((shB s.2.2.2.1 s.1 s.1 && (shB s.2.2.2.2.1 s.2.1 s.1 && (shB s.2.2.2.2.2.1 s.1 s.2.2.1 && shB s.2.2.2.2.2.2 s.2.1 s.2.2.1))) && (rowsB p s.1 s.2.2.2.1 && (rowsB p s.1 s.2.2.2.2.1 && (rowsB p s.2.2.1 s.2.2.2.2.2.1 && rowsB p s.2.2.1 s.2.2.2.2.2.2))))) := by
    refine bnd (a := !(fdB p && (rng s.1 0 24 && (rng s.2.1 0 8 && rng s.2.2.1 0 8)))) ?_ ?_
    · refine bndN (isField_ p) (fun _ => rfl) (fun _ => stp (cFW rfl ?_))
      refine bndN (within_ _ _ _) (fun _ => rfl) (fun _ => stp (cFW rfl ?_))
      refine bndN (within_ _ _ _) (fun _ => rfl) (fun _ => stp (cFW rfl ?_))
      exact bnd (within_ _ _ _) rfl
    · cases hb : (fdB p && (rng s.1 0 24 && (rng s.2.1 0 8 && rng s.2.2.1 0 8))) with
      | false => rfl
      | true =>
        simp only [Bool.and_eq_true, rng_true] at hb
        obtain ⟨_, g1, g2, g3⟩ := hb
        refine cFW rfl ?_
        rw [Bool.true_and]
        refine bnd (a := !(shB s.2.2.2.1 s.1 s.1 && (shB s.2.2.2.2.1 s.2.1 s.1 && (shB s.2.2.2.2.2.1 s.1 s.2.2.1 && shB s.2.2.2.2.2.2 s.2.1 s.2.2.1)))) ?_ ?_
        · refine bndN (hasShape_ _ _ _ (by omega)) (fun _ => rfl) (fun _ => stp (cFW rfl ?_))
          refine bndN (hasShape_ _ _ _ (by omega)) (fun _ => rfl) (fun _ => stp (cFW rfl ?_))
          refine bndN (hasShape_ _ _ _ (by omega)) (fun _ => rfl) (fun _ => stp (cFW rfl ?_))
          exact bnd (hasShape_ _ _ _ (by omega)) rfl
        · cases (shB s.2.2.2.1 s.1 s.1 && (shB s.2.2.2.2.1 s.2.1 s.1 && (shB s.2.2.2.2.2.1 s.1 s.2.2.1 && shB s.2.2.2.2.2.2 s.2.1 s.2.2.1))) with
          | false => rfl
          | true =>
            refine cFW rfl (bnd (a := _) ?_ rfl)
            rw [Bool.true_and]
            refine bndB (areVectors_ _ _ _) (fun _ => rfl) (fun _ => cTW rfl ?_)
            refine bndB (areVectors_ _ _ _) (fun _ => rfl) (fun _ => cTW rfl ?_)
            refine bndB (areVectors_ _ _ _) (fun _ => rfl) (fun _ => cTW rfl ?_)
            exact bnd (areVectors_ _ _ _) rfl
  rw [h1]
  unfold ssB
  rw [tab_eq, tab_eq, tab_eq, tab_eq]
  congr 1
  ac_rfl

/-- a state space that is valid -/
structure SSok (p : Int) (n k o : Nat) (s : SSt) : Prop where
  hp : 2 ≤ p ∧ p ≤ 97
  h1 : s.1 = n
  h2 : s.2.1 = k
  h3 : s.2.2.1 = o
  hn : n ≤ 24
  hk : k ≤ 8
  ho : o ≤ 8
  a : s.2.2.2.1.length = n ∧ rowsP p n s.2.2.2.1
  b : s.2.2.2.2.1.length = k ∧ rowsP p n s.2.2.2.2.1
  c : s.2.2.2.2.2.1.length = n ∧ rowsP p o s.2.2.2.2.2.1
  d : s.2.2.2.2.2.2.length = k ∧ rowsP p o s.2.2.2.2.2.2
theorem tab_true {p : Int} {r c : Nat} {m : List (List Int)} (h : tabB p r c m = true) : m.length = r ∧ rowsP p c m := by
  unfold tabB at h
  rw [Bool.and_eq_true] at h
  exact ⟨by have := of_decide_eq_true h.1; omega, rowsB_true.1 h.2⟩
theorem ssB_ok {p : Int} {s : SSt} (h : ssB p s = true) : ∃ n k o, SSok p n k o s := by
  unfold ssB at h
  simp only [Bool.and_eq_true, rng_true] at h
  obtain ⟨⟨⟨⟨⟨⟨⟨h0, h1⟩, h2⟩, h3⟩, h4⟩, h5⟩, h6⟩, h7⟩ := h
  have e1 : s.1 = (s.1.toNat : Int) := by omega
  have e2 : s.2.1 = (s.2.1.toNat : Int) := by omega
  have e3 : s.2.2.1 = (s.2.2.1.toNat : Int) := by omega
  rw [e1] at h4 h5 h6
  rw [e2] at h5 h7
  rw [e3] at h6 h7
  exact ⟨s.1.toNat, s.2.1.toNat, s.2.2.1.toNat, fdB_rng h0, e1, e2, e3, by omega, by omega, by omega, tab_true h4, tab_true h5, tab_true h6, tab_true h7⟩

theorem rowsP_len {p : Int} {n : Nat} {m : List (List Int)} (h : rowsP p n m) (hn : n ≤ 1048576) : ∀ r ∈ m, r.length ≤ maxN := by
  intro r hr; have := (h r hr).1; have hm : maxN = 1099511627776 := rfl; omega
end Go.Proofs.YteikcdofblclhaaDoor
