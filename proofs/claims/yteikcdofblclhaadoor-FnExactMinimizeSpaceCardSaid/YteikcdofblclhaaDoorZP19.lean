/-
  Plain laws: the reference's reduction of a matrix with its transforming matrix; linear equations. No program in sight. No condition.
-/
import Derived.Test.YteikcdofblclhaaDoorZP17
import Derived.Test.YteikcdofblclhaaDoorZP14
namespace Go.Proofs.YteikcdofblclhaaDoor
set_option linter.unusedVariables false

theorem fdNeg_ {p a : Int} (hp : 2 ≤ p ∧ p ≤ 97) (ha : 0 ≤ a ∧ a < p) : F_spec_fdNeg p a = some ((p - a) % p) := by
  refine bnd (subO_of (by omega) (by omega)) (bnd (remO_of (by omega)) ?_)
  rw [Int.tmod_eq_emod_of_nonneg (by omega)]

/-! ### identity matrices -/
def unitN (n i : Nat) : List Int := (List.replicate n 0).set i 1
def idN (n : Nat) : Rows := (List.range n).map (unitN n)
theorem unitN_ok {p : Int} (hp : 2 ≤ p) (n i : Nat) : okR p n (unitN n i) := by
  refine ⟨by simp [unitN], fun x hx => ?_⟩
  rcases List.mem_or_eq_of_mem_set hx with h | rfl
  · have := List.eq_of_mem_replicate h; omega
  · omega
theorem idN_len (n : Nat) : (idN n).length = n := by simp [idN]
theorem idN_ok {p : Int} (hp : 2 ≤ p) (n : Nat) : okM p n (idN n) := by
  intro x hx
  obtain ⟨i, hi, rfl⟩ := List.mem_map.1 hx
  exact unitN_ok hp n i
theorem unit_ {n i : Nat} (hi : i < n) (hn : n ≤ maxN) : F_impl_unit (n : Int) (i : Int) = some (unitN n i) :=
  bnd (zeros_ hn) (bnd (setO_of _ (by simpa using hi)) rfl)
theorem idN_succ (n k : Nat) : (List.range (k + 1)).map (unitN n) = (List.range k).map (unitN n) ++ [unitN n k] := by simp [List.range_succ]
theorem identityRows_ {n : Nat} (hn : n ≤ 1048576) : F_impl_identityRows (n : Int) = some (idN n) := by
  have hm : maxN = 1099511627776 := rfl
  refine bnd (cI_of ⟨by omega, by omega⟩) ?_
  rw [Int.toNat_natCast]
  refine bnd (forS_is (fun k => (List.range k).map (unitN n)) ?_) rfl
  intro k hk
  exact bnd (unit_ hk (by omega)) (bnd (appO_of (by simp; omega)) (by rw [idN_succ]))
/-- the reduction of a matrix of n columns with its transforming matrix -/
def redT (p : Int) (n : Nat) (m : Rows) : Rows × Rows × Nat := redLoop p n 0 m (idN m.length) 0

/-! ### linear equations -/
theorem redT_facts {p : Int} {n : Nat} {m : Rows} (hf : fdB p = true) (h : okM p n m) : (redT p n m).2.2 ≤ m.length ∧ (redT p n m).1.length = m.length ∧ (redT p n m).2.1.length = m.length ∧ okM p m.length (redT p n m).2.1 ∧ okM p n (redT p n m).1 ∧ Red p n ((redT p n m).1.take (redT p n m).2.2) := by
  have hp := fdB_rng hf
  obtain ⟨k1, k2, k3, k4, k5, k6, k7⟩ := redLoop_ok hp.1 n 0 m (idN m.length) 0 h (idN_ok hp.1 m.length) (idN_len _) (by omega)
  have e : (redT p n m).1.take (redT p n m).2.2 = redM p n m := by
    obtain ⟨e1, e2⟩ := redLoop_any p n 0 m (idN m.length) m 0
    unfold redT redM; rw [e1, e2]
  exact ⟨k6, k3, k4, k2, k1, by rw [e]; exact redM_red hf h⟩
end Go.Proofs.YteikcdofblclhaaDoor
