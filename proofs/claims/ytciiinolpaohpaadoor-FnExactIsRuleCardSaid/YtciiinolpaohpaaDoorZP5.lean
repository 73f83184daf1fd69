/-
  Plain laws: prime fields, vectors over them, sums of rows. No program in sight. No condition.
-/
import Derived.Test.YtciiinolpaohpaaDoorZP4
namespace Go.Proofs.YtciiinolpaohpaaDoor

def rng (n lo hi : Int) : Bool := decide (lo ≤ n) && decide (n ≤ hi)
theorem rng_true {n lo hi : Int} : rng n lo hi = true ↔ lo ≤ n ∧ n ≤ hi := by unfold rng; simp
theorem l1In (n lo hi : Int) : F_spec_l1In n lo hi = some (rng n lo hi) := by
  unfold F_spec_l1In rng
  by_cases h : lo ≤ n
  · rw [dT h]; rfl
  · rw [dF h]; rfl
theorem within_ (n lo hi : Int) : F_impl_within n lo hi = some (rng n lo hi) := by
  unfold F_impl_within rng
  by_cases h : lo ≤ n
  · rw [dT h]; rfl
  · rw [dF h]; rfl

def fdB (p : Int) : Bool := rng p 2 97 && [2, 3, 5, 7].all fun q => !(decide (p % q = 0) && !decide (p = q))
def fdBody (p : Int) (s : Int) : Option (Int ⊕ (Unit ⊕ Bool)) :=
  (mulO s s).bind fun a111 =>
        (some (decide (a111 ≤ p))).bind fun a113 =>
        cond a113
        ((remO p s).bind fun a118 =>
          (some (decide (a118 = 0))).bind fun a120 =>
          cond a120
          (some (.inr (.inr false)))
          ((addO s 1).bind fun a123 =>
            some (.inl a123)))
        (some (.inr (.inl ())))
def fdCheck (p : Nat) : Bool := decide (seqO (iterO (fdBody p) 10 2) (fun (_ : Unit) => some true) = some (fdB p)) || decide (p < 2)
theorem fd_all : ((List.range 98).all fdCheck) = true := by decide +kernel
theorem fdGood (p : Int) : F_spec_fdGood p = some (fdB p) := by
  unfold F_spec_fdGood
  refine bnd (l1In p 2 97) (stp ?_)
  cases h : rng p 2 97 with
  | false => refine cTW rfl ?_; unfold fdB; rw [h]; rfl
  | true =>
    refine cFW rfl ?_
    have hr := rng_true.1 h
    obtain ⟨k, rfl⟩ : ∃ k : Nat, p = (k : Int) := ⟨p.toNat, by omega⟩
    have hk := List.all_eq_true.1 fd_all k (List.mem_range.2 (by omega))
    unfold fdCheck at hk
    have h2 : decide (k < 2) = false := dF (by omega)
    rw [h2, Bool.or_false] at hk
    have hk := of_decide_eq_true hk
    rw [← hk]
    cases hi : iterO (fdBody k) 10 2 with
    | none => rw [hi] at hk; cases hk
    | some t => exact sqW (whileO_iff.2 ⟨10, hi⟩) rfl
theorem isField_ (p : Int) : F_impl_isField p = some (fdB p) := by
  unfold F_impl_isField fdB
  cases h : rng p 2 97 with
  | false =>
    refine bnd (a := true) (stp ?_) (cTW rfl rfl)
    by_cases h1 : p < 2
    · exact cTW (dT h1) rfl
    · refine cFW (dF h1) (stp ?_)
      rw [dT]
      apply Classical.byContradiction
      intro h3
      have : rng p 2 97 = true := rng_true.2 ⟨by omega, by omega⟩
      rw [h] at this; cases this
  | true =>
    have hr := rng_true.1 h
    refine bnd (a := false) (stp (cFW (dF (by omega)) (stp (by rw [dF (by omega)])))) (cFW rfl (bnd (cI_of (by decide)) ?_))
    refine sqW (forO_all (fun q : Int => !(decide (p % q = 0) && !decide (p = q))) [2, 3, 5, 7] 0 ?_ (t := false)) ?_
    · intro j q hj
      have hq : q ∈ [(2 : Int), 3, 5, 7] := mem_of_get hj
      have hq1 : q ≠ 0 ∧ 0 < q := by simp at hq; omega
      rw [Nat.zero_add]
      refine bnd (idxO_of hj) ?_
      refine bnd (a := decide (p % q = 0) && !decide (p = q)) ?_ ?_
      · refine bnd (remO_of hq1.1) (stp ?_)
        rw [Int.tmod_eq_emod_of_nonneg (by omega)]
        by_cases h1 : p % q = 0
        · rw [dT h1]; rfl
        · rw [dF h1]; rfl
      · cases (decide (p % q = 0) && !decide (p = q)) <;> rfl
    · cases ([2, 3, 5, 7].all fun q : Int => !(decide (p % q = 0) && !decide (p = q))) <;> rfl

theorem l1All (l : List Int) (lo hi : Int) : F_spec_l1All l lo hi = some (l.all fun x => rng x lo hi) := by
  refine sqW (forO_all (fun x => rng x lo hi) l 0 ?_ (t := false)) ?_
  · intro j x hj
    rw [Nat.zero_add]
    refine bnd (idxO_of hj) (bnd (l1In x lo hi) (stp ?_))
    cases rng x lo hi <;> rfl
  · cases (l.all fun x => rng x lo hi) <;> rfl
end Go.Proofs.YtciiinolpaohpaaDoor
