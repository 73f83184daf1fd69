/-
  Plain laws: state spaces and their Markov parameters. No program in sight. No condition.
-/
import Derived.Test.YteikcdofblclhaaDoorZP6
namespace Go.Proofs.YteikcdofblclhaaDoor

def tabB (p : Int) (rows cols : Int) (m : List (List Int)) : Bool := decide ((m.length : Int) = rows) && rowsB p cols m
def ssB (p : Int) (s : SSt) : Bool :=
  fdB p && rng s.1 0 24 && rng s.2.1 0 8 && rng s.2.2.1 0 8 && tabB p s.1 s.1 s.2.2.2.1 && tabB p s.2.1 s.1 s.2.2.2.2.1 && tabB p s.1 s.2.2.1 s.2.2.2.2.2.1 && tabB p s.2.1 s.2.2.1 s.2.2.2.2.2.2
theorem ssTable_ {p : Int} (hp : 2 ≤ p ∧ p ≤ 97) (rows cols : Int) (m : List (List Int)) : F_spec_ssTable p rows cols m = some (tabB p rows cols m) := by
  refine bnd (a := tabB p rows cols m) (stp ?_) rfl
  unfold tabB
  cases decide ((m.length : Int) = rows) with
  | false => rfl
  | true => exact cTW rfl (bnd (spRows hp cols m) rfl)
theorem ssGood (p : Int) (s : SSt) : F_spec_ssGood p s = some (ssB p s) := by
  refine bnd (a := ssB p s) ?_ rfl
  unfold ssB
  simp only [Bool.and_assoc]
  refine bndB (fdGood p) (fun _ => rfl) (fun h => cTW rfl ?_)
  have hp := fdB_rng h
  refine bndB (l1In _ _ _) (fun _ => rfl) (fun _ => cTW rfl ?_)
  refine bndB (l1In _ _ _) (fun _ => rfl) (fun _ => cTW rfl ?_)
  refine bndB (l1In _ _ _) (fun _ => rfl) (fun _ => cTW rfl ?_)
  refine bndB (ssTable_ hp _ _ _) (fun _ => rfl) (fun _ => cTW rfl ?_)
  refine bndB (ssTable_ hp _ _ _) (fun _ => rfl) (fun _ => cTW rfl ?_)
  refine bndB (ssTable_ hp _ _ _) (fun _ => rfl) (fun _ => cTW rfl ?_)
  exact bnd (ssTable_ hp _ _ _) rfl
def shB (m : List (List Int)) (rows cols : Int) : Bool := decide ((m.length : Int) = rows) && m.all fun r => decide ((r.length : Int) = cols)
theorem tab_eq (p : Int) (rows cols : Int) (m : List (List Int)) : tabB p rows cols m = (shB m rows cols && rowsB p cols m) := by
  unfold tabB shB
  cases decide ((m.length : Int) = rows) with
  | false => rfl
  | true =>
    rw [Bool.true_and, Bool.true_and]
    cases h : rowsB p cols m with
    | false => rw [Bool.and_false]
    | true =>
      rw [Bool.and_true]
      symm
      unfold rowsB at h
      rw [List.all_eq_true] at h ⊢
      intro r hr
      have := h r hr
      rw [Bool.and_eq_true] at this
      exact this.1
theorem isSS (p : Int) (s : SSt) : F_impl_isStateSpace p s = some (ssB p s) := by
  have h1 : F_impl_isStateSpace p s = some ((fdB p && (rng s.1 0 24 && (rng s.2.1 0 8 && rng s.2.2.1 0 8))) && ((shB s.2.2.2.1 s.1 s.1 && (shB s.2.2.2.2.1 s.2.1 s.1 && (shB s.2.2.2.2.2.1 s.1 s.2.2.1 && shB s.2.2.2.2.2.2 s.2.1 s.2.2.1))) && (rowsB p s.1 s.2.2.2.1 && (rowsB p s.1 s.2.2.2.2.1 && (rowsB p s.2.2.1 s.2.2.2.2.2.1 && rowsB p s.2.2.1 s.2.2.2.2.2.2))))) := by
    refine bnd (a := !(fdB p && (rng s.1 0 24 && (rng s.2.1 0 8 && rng s.2.2.1 0 8)))) ?_ ?_
    · refine bndN (isField_ p) (fun _ => rfl) (fun _ => stp (cFW rfl ?_))
      refine bndN (within_ _ _ _) (fun _ => rfl) (fun _ => stp (cFW rfl ?_))
      refine bndN (within_ _ _ _) (fun _ => rfl) (fun _ => stp (cFW rfl ?_))
      exact bnd (within_ _ _ _) rfl
    · cases hb : (fdB p && (rng s.1 0 24 && (rng s.2.1 0 8 && rng s.2.2.1 0 8))) with
      | false => rfl
      | true =>
        simp only [Bool.and_eq_true, rng_true] at hb
        obtain ⟨_, g1, g2, g3⟩ := hb
        refine cFW rfl ?_
        rw [Bool.true_and]
        refine bnd (a := !(shB s.2.2.2.1 s.1 s.1 && (shB s.2.2.2.2.1 s.2.1 s.1 && (shB s.2.2.2.2.2.1 s.1 s.2.2.1 && shB s.2.2.2.2.2.2 s.2.1 s.2.2.1)))) ?_ ?_
        · refine bndN (hasShape_ _ _ _ (by omega)) (fun _ => rfl) (fun _ => stp (cFW rfl ?_))
          refine bndN (hasShape_ _ _ _ (by omega)) (fun _ => rfl) (fun _ => stp (cFW rfl ?_))
          refine bndN (hasShape_ _ _ _ (by omega)) (fun _ => rfl) (fun _ => stp (cFW rfl ?_))
          exact bnd (hasShape_ _ _ _ (by omega)) rfl
        · cases (shB s.2.2.2.1 s.1 s.1 && (shB s.2.2.2.2.1 s.2.1 s.1 && (shB s.2.2.2.2.2.1 s.1 s.2.2.1 && shB s.2.2.2.2.2.2 s.2.1 s.2.2.1))) with
          | false => rfl
          | true =>
            refine cFW rfl (bnd (a := _) ?_ rfl)
            rw [Bool.true_and]
            refine bndB (areVectors_ _ _ _) (fun _ => rfl) (fun _ => cTW rfl ?_)
            refine bndB (areVectors_ _ _ _) (fun _ => rfl) (fun _ => cTW rfl ?_)
            refine bndB (areVectors_ _ _ _) (fun _ => rfl) (fun _ => cTW rfl ?_)
            exact bnd (areVectors_ _ _ _) rfl
  rw [h1]
  unfold ssB
  rw [tab_eq, tab_eq, tab_eq, tab_eq]
  congr 1
  ac_rfl

/-- a state space that is valid -/
structure SSok (p : Int) (n k o : Nat) (s : SSt) : Prop where
  hp : 2 ≤ p ∧ p ≤ 97
  h1 : s.1 = n
  h2 : s.2.1 = k
  h3 : s.2.2.1 = o
  hn : n ≤ 24
  hk : k ≤ 8
  ho : o ≤ 8
  a : s.2.2.2.1.length = n ∧ rowsP p n s.2.2.2.1
  b : s.2.2.2.2.1.length = k ∧ rowsP p n s.2.2.2.2.1
  c : s.2.2.2.2.2.1.length = n ∧ rowsP p o s.2.2.2.2.2.1
  d : s.2.2.2.2.2.2.length = k ∧ rowsP p o s.2.2.2.2.2.2
theorem tab_true {p : Int} {r c : Nat} {m : List (List Int)} (h : tabB p r c m = true) : m.length = r ∧ rowsP p c m := by
  unfold tabB at h
  rw [Bool.and_eq_true] at h
  exact ⟨by have := of_decide_eq_true h.1; omega, rowsB_true.1 h.2⟩
theorem ssB_ok {p : Int} {s : SSt} (h : ssB p s = true) : ∃ n k o, SSok p n k o s := by
  unfold ssB at h
  simp only [Bool.and_eq_true, rng_true] at h
  obtain ⟨⟨⟨⟨⟨⟨⟨h0, h1⟩, h2⟩, h3⟩, h4⟩, h5⟩, h6⟩, h7⟩ := h
  have e1 : s.1 = (s.1.toNat : Int) := by omega
  have e2 : s.2.1 = (s.2.1.toNat : Int) := by omega
  have e3 : s.2.2.1 = (s.2.2.1.toNat : Int) := by omega
  rw [e1] at h4 h5 h6
  rw [e2] at h5 h7
  rw [e3] at h6 h7
  exact ⟨s.1.toNat, s.2.1.toNat, s.2.2.1.toNat, fdB_rng h0, e1, e2, e3, by omega, by omega, by omega, tab_true h4, tab_true h5, tab_true h6, tab_true h7⟩

/-- the Markov parameters, and the states that are reached -/
def mkv (p : Int) (n o : Nat) (s : SSt) : Nat → List Mat × List (List Int)
  | 0 => ([], s.2.2.2.2.1)
  | k + 1 => if k = 0 then ((mkv p n o s k).1 ++ [((o : Int), s.2.2.2.2.2.2)], (mkv p n o s k).2)
    else ((mkv p n o s k).1 ++ [((o : Int), mulM p o (mkv p n o s k).2 s.2.2.2.2.2.1)], mulM p n (mkv p n o s k).2 s.2.2.2.1)
theorem mkv_succ (p : Int) (n o : Nat) (s : SSt) (k : Nat) : mkv p n o s (k + 1) = if k = 0 then ((mkv p n o s k).1 ++ [((o : Int), s.2.2.2.2.2.2)], (mkv p n o s k).2)
    else ((mkv p n o s k).1 ++ [((o : Int), mulM p o (mkv p n o s k).2 s.2.2.2.2.2.1)], mulM p n (mkv p n o s k).2 s.2.2.2.1) := rfl
theorem mkv_ok {p : Int} {n k o : Nat} {s : SSt} (h : SSok p n k o s) : ∀ j, (mkv p n o s j).1.length = j ∧ (mkv p n o s j).2.length = k ∧ rowsP p n (mkv p n o s j).2 ∧ ∀ m ∈ (mkv p n o s j).1, m.2.length = k ∧ rowsP p o m.2
  | 0 => ⟨rfl, h.b.1, h.b.2, by intro m hm; cases hm⟩
  | j + 1 => by
    obtain ⟨h1, h2, h3, h4⟩ := mkv_ok h j
    have hm : maxN = 1099511627776 := rfl
    have := h.hn
    have := h.ho
    rw [mkv_succ]
    by_cases hj : j = 0
    · rw [if_pos hj]
      refine ⟨by simp [h1], h2, h3, fun m hm' => ?_⟩
      rcases List.mem_append.1 hm' with hm' | hm'
      · exact h4 m hm'
      · rw [List.mem_singleton.1 hm']; exact h.d
    · rw [if_neg hj]
      refine ⟨by simp [h1], by rw [mulM_len, h2], mulM_ok h.hp (by omega) h.a.2 h3 (by rw [h.a.1]; exact Nat.le_refl _), fun m hm' => ?_⟩
      rcases List.mem_append.1 hm' with hm' | hm'
      · exact h4 m hm'
      · rw [List.mem_singleton.1 hm']
        exact ⟨by rw [mulM_len, h2], mulM_ok h.hp (by omega) h.c.2 h3 (by rw [h.c.1]; exact Nat.le_refl _)⟩
theorem rowsP_len {p : Int} {n : Nat} {m : List (List Int)} (h : rowsP p n m) (hn : n ≤ 1048576) : ∀ r ∈ m, r.length ≤ maxN := by
  intro r hr; have := (h r hr).1; have hm : maxN = 1099511627776 := rfl; omega
theorem ssMarkov_ {p : Int} {n k o : Nat} {s : SSt} (h : SSok p n k o s) (q : Nat) (hq : q ≤ 60) : F_spec_ssMarkov p s (q : Int) = some (mkv p n o s q).1 := by
  have hm : maxN = 1099511627776 := rfl
  have g1 := h.hn; have g2 := h.hk; have g3 := h.ho
  refine bnd (ssCopy_ (by rw [h.b.1]; omega) (rowsP_len h.b.2 (by omega))) (bnd (whileO_is (fun j => ((mkv p n o s j).1, (mkv p n o s j).2, (j : Int))) (t := (mkv p n o s q).1) q ?_ ?_) rfl)
  · intro j hj
    obtain ⟨h1, h2, h3, h4⟩ := mkv_ok h j
    dsimp only
    refine stp (cTW (dT (by omega)) (bnd (a := mkv p n o s (j + 1)) ?_ (bnd (addO_of (by omega) (by omega)) rfl)))
    refine stp ?_
    rw [mkv_succ, h.h3, h.h1]
    by_cases hj0 : j = 0
    · rw [if_pos hj0]
      exact cTW (dT (by omega)) (bnd (ssCopy_ (by rw [h.d.1]; omega) (rowsP_len h.d.2 (by omega))) (bnd (appO_of (by simp; omega)) rfl))
    · rw [if_neg hj0]
      exact cFW (dF (by omega)) (bnd (ssTimes_ h.hp (by omega) h.c.2 h3 (by rw [h.c.1]; exact Nat.le_refl _) (by omega)) (bnd (appO_of (by simp; omega)) (bnd (ssTimes_ h.hp (by omega) h.a.2 h3 (by rw [h.a.1]; exact Nat.le_refl _) (by omega)) rfl)))
  · dsimp only; exact stp (cFW (dF (by omega)) rfl)
theorem markov_ {p : Int} {n k o : Nat} {s : SSt} (h : SSok p n k o s) (q : Nat) (hq : q ≤ 60) : F_impl_StateSpace_markov s p (q : Int) = some (mkv p n o s q).1 := by
  have hm : maxN = 1099511627776 := rfl
  have g1 := h.hn; have g2 := h.hk; have g3 := h.ho
  refine bnd (clones_ (by rw [h.b.1]; omega) (rowsP_len h.b.2 (by omega))) (bnd (cI_of ⟨by omega, by omega⟩) (bnd (forS_is (fun j => mkv p n o s j) ?_) rfl))
  intro j hj
  obtain ⟨h1, h2, h3, h4⟩ := mkv_ok h j
  rw [Int.toNat_natCast] at hj
  refine bnd (a := mkv p n o s (j + 1)) (stp ?_) rfl
  rw [mkv_succ, h.h3, h.h1]
  by_cases hj0 : j = 0
  · rw [if_pos hj0]
    exact cTW (dT (by omega)) (bnd (clones_ (by rw [h.d.1]; omega) (rowsP_len h.d.2 (by omega))) (bnd (appO_of (by simp; omega)) rfl))
  · rw [if_neg hj0]
    exact cFW (dF (by omega)) (bnd (product_ h.hp (by omega) h.c.2 h3 (by rw [h.c.1]; exact Nat.le_refl _) (by omega)) (bnd (appO_of (by simp; omega)) (bnd (product_ h.hp (by omega) h.a.2 h3 (by rw [h.a.1]; exact Nat.le_refl _) (by omega)) rfl)))
end Go.Proofs.YteikcdofblclhaaDoor
