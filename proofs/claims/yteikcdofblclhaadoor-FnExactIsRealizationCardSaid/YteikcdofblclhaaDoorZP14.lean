/-
  Plain laws: matrices, responses, Hankel rows; the law of HankelRank. No program in sight. No condition.
-/
import Derived.Test.YteikcdofblclhaaDoorZP13
namespace Go.Proofs.YteikcdofblclhaaDoor

def mx0 : Mat := (0, [])
def gm (l : List Mat) (i : Nat) : Mat := l.getD i mx0
theorem gm_get {l : List Mat} {i : Nat} (h : i < l.length) : l[i]? = some (gm l i) := by unfold gm; rw [List.getD_eq_getElem?_getD, List.getElem?_eq_getElem h]; rfl
theorem idx_gm {l : List Mat} {i : Nat} (h : i < l.length) : idxO l (i : Int) = some (gm l i) := idxO_of (gm_get h)

/-! ### lists of matrices in the law -/
def matS (m : Mat) : Nat := rowsN m.2
def matsS (l : List Mat) : Nat := l.length + tot matS l
theorem szMatrix_ (m : Mat) (left : Int) (h0 : 0 ≤ left) (h1 : left ≤ bigN) (hl : lensOk m.2) : F_laws_szMatrix m left = some (if (matS m : Int) ≤ left then left - matS m else -1) := by
  refine bnd (szIntSS m.2 left h0 h1 hl) (stp ?_)
  unfold matS
  by_cases h : (rowsN m.2 : Int) ≤ left
  · rw [if_pos h]; exact cFW (dF (by omega)) rfl
  · rw [if_neg h]; exact cTW (dT (by omega)) rfl
theorem szMatrixS_ (a : List Mat) (left : Int) (h0 : 0 ≤ left) (h1 : left ≤ bigN) (hl1 : lenOk a) (hl : ∀ m ∈ a, lensOk m.2) : F_laws_szMatrixS a left = some (if (matsS a : Int) ≤ left then left - matsS a else -1) := by
  unfold lenOk at hl1; unfold bigN at h1
  unfold matsS
  refine bnd (subO_of (by omega) (by omega)) (stp ?_)
  by_cases h : (a.length : Int) ≤ left
  · refine cFW (dF (by omega)) (sqW (sz_loop matS a (left - a.length) ?_ ?_ a [] _ rfl ?_ (Int.le_refl _)) ?_)
    · intro j r s hj hjl hs hsB
      dsimp only
      refine stp (cTW (dT (by omega)) (bnd (idxO_of hj) (bnd (szMatrix_ r s hs (by unfold bigN; omega) (hl r (mem_of_get hj))) (stp ?_))))
      by_cases h2 : (matS r : Int) ≤ s
      · rw [if_pos h2, if_pos h2]; exact cFW (dF (by omega)) (bnd (addO_of (by omega) (by omega)) rfl)
      · rw [if_neg h2, if_neg h2]; exact cTW (dT (by omega)) rfl
    · intro s; dsimp only; exact stp (cFW (dF (by omega)) rfl)
    · omega
    · by_cases h2 : (tot matS a : Int) ≤ left - a.length
      · rw [if_pos h2, if_pos (by omega), seqO_l]; congr 1; omega
      · rw [if_neg h2, if_neg (by omega), seqO_r]
  · rw [if_neg (by omega)]; exact cTW (dT (by omega)) rfl
theorem mats_mem {a : List Mat} {m : Mat} (h : m ∈ a) : rowsN m.2 ≤ matsS a := by
  have := tot_mem (n := matS) h; unfold matsS; unfold matS at this ⊢; omega
theorem toMatrixS_ (a : List Mat) (h : matsS a ≤ 1048576) : F_laws_toMatrixS a = some a := by
  have hm : maxN = 1099511627776 := rfl
  have hl : a.length ≤ matsS a := by unfold matsS; omega
  refine bnd (makeO_of _ (by omega)) (bnd (to_loop mx0 a ?_ ?_ a [] rfl) rfl)
  · intro j x s hj hjl hs
    dsimp only
    have hx : rowsN x.2 ≤ 1048576 := Nat.le_trans (mats_mem (mem_of_get hj)) h
    exact stp (cTW (dT (by omega)) (bnd (idxO_of hj) (bnd (bnd (toIntSS_of _ hx) rfl) (bnd (setO_of _ (by omega)) (bnd (addO_of (by omega) (by omega)) rfl)))))
  · intro s hs; dsimp only; exact stp (cFW (dF (by omega)) rfl)

/-! ### matrices and responses -/
def matB (p : Int) (m : Mat) : Bool := fdB p && (rng m.1 0 24 && (decide ((m.2.length : Int) ≤ 24) && rowsB p m.1 m.2))
theorem isMatrix_ (p : Int) (m : Mat) : F_impl_isMatrix p m = some (matB p m) := by
  refine bnd (a := matB p m) ?_ rfl
  refine bndB (isField_ p) (fun _ => rfl) (fun _ => cTW rfl ?_)
  refine bndB (within_ _ _ _) (fun _ => rfl) (fun _ => cTW rfl (stp ?_))
  cases decide ((m.2.length : Int) ≤ 24) with
  | false => rfl
  | true => exact cTW rfl (bnd (areVectors_ p m.1 m.2) rfl)
theorem mxGood_ (p : Int) (m : Mat) : F_spec_mxGood p m = some (matB p m) := by
  unfold matB
  refine bnd (a := !(fdB p && (rng m.1 0 24 && decide ((m.2.length : Int) ≤ 24)))) ?_ ?_
  · refine bndN (fdGood p) (fun _ => rfl) (fun _ => stp (cFW rfl ?_))
    refine bndN (l1In _ _ _) (fun _ => rfl) (fun _ => stp (cFW rfl (stp ?_)))
    by_cases h : (m.2.length : Int) ≤ 24
    · rw [dT h, dF (by omega)]; rfl
    · rw [dF h, dT (by omega)]; rfl
  · cases hb : (fdB p && (rng m.1 0 24 && decide ((m.2.length : Int) ≤ 24))) with
    | false =>
      refine cTW rfl ?_
      rw [← Bool.and_assoc (rng m.1 0 24), ← Bool.and_assoc (fdB p), hb]; rfl
    | true =>
      refine cFW rfl ?_
      rw [← Bool.and_assoc (rng m.1 0 24), ← Bool.and_assoc (fdB p), hb, Bool.true_and]
      have hp := fdB_rng (by rw [Bool.and_eq_true] at hb; exact hb.1 : fdB p = true)
      refine sqW (forO_all (fun r : List Int => decide ((r.length : Int) = m.1) && inB p r) m.2 0 ?_ (t := false)) ?_
      · intro j r hj
        rw [Nat.zero_add]
        refine bnd (idxO_of hj) ?_
        refine bnd (a := !(decide ((r.length : Int) = m.1) && inB p r)) (stp ?_) ?_
        · cases decide ((r.length : Int) = m.1) with
          | false => rfl
          | true => exact cFW rfl (bnd (fdIn hp r) rfl)
        · cases (decide ((r.length : Int) = m.1) && inB p r) <;> rfl
      · show _ = some (m.2.all _)
        cases (m.2.all fun r => decide ((r.length : Int) = m.1) && inB p r) <;> rfl
def oneB (p : Int) (l : List Mat) (x : Mat) : Bool := matB p x && (decide ((x.2.length : Int) = ((gm l 0).2.length : Int)) && decide (x.1 = (gm l 0).1))
def respB (p : Int) (l : List Mat) : Bool := (fdB p && rng (l.length : Int) 1 60) && ((l.all (oneB p l)) && (decide (((gm l 0).2.length : Int) ≤ 8) && decide ((gm l 0).1 ≤ 8)))
theorem isResponse_ (p : Int) (l : List Mat) : F_impl_isResponse p l = some (respB p l) := by
  unfold respB
  refine bnd (a := !(fdB p && rng (l.length : Int) 1 60)) (bndN (isField_ p) (fun _ => rfl) (fun _ => stp (cFW rfl (bnd (within_ _ _ _) rfl)))) ?_
  cases hb : (fdB p && rng (l.length : Int) 1 60) with
  | false => rfl
  | true =>
    refine cFW rfl ?_
    have hl : 0 < l.length := by rw [Bool.and_eq_true, rng_true] at hb; omega
    have h0 := idx_gm hl
    refine sqW (forO_all (oneB p l) l 0 ?_ (t := false)) ?_
    · intro j x hj
      rw [Nat.zero_add]
      refine bnd (idxO_of hj) (bnd (a := !(oneB p l x)) ?_ ?_)
      · refine bndN (isMatrix_ p x) (fun _ => rfl) (fun _ => stp (cFW rfl (bnd h0 (stp ?_))))
        cases decide ((x.2.length : Int) = ((gm l 0).2.length : Int)) with
        | false => rfl
        | true => exact cFW rfl (bnd h0 rfl)
      · cases oneB p l x <;> rfl
    · cases l.all (oneB p l) with
      | false => rfl
      | true =>
        rw [if_pos rfl, seqO_l]
        refine bnd (bnd h0 (stp (?_ : _ = some (decide (((gm l 0).2.length : Int) ≤ 8) && decide ((gm l 0).1 ≤ 8))))) rfl
        cases decide (((gm l 0).2.length : Int) ≤ 8) with
        | false => rfl
        | true => exact cTW rfl (bnd h0 rfl)
theorem rzResponse_ (p : Int) (l : List Mat) : F_spec_rzResponse p l = some (respB p l) := by
  unfold respB
  refine bnd (a := !(fdB p && rng (l.length : Int) 1 60)) (bndN (fdGood p) (fun _ => rfl) (fun _ => stp (cFW rfl (bnd (l1In _ _ _) rfl)))) ?_
  cases hb : (fdB p && rng (l.length : Int) 1 60) with
  | false => rfl
  | true =>
    refine cFW rfl ?_
    have hl : 0 < l.length := by rw [Bool.and_eq_true, rng_true] at hb; omega
    have h0 := idx_gm hl
    refine sqW (forO_all (oneB p l) l 0 ?_ (t := false)) ?_
    · intro j x hj
      rw [Nat.zero_add]
      refine bnd (idxO_of hj) (bnd (a := !(oneB p l x)) ?_ ?_)
      · refine bndN (mxGood_ p x) (fun _ => rfl) (fun _ => stp (cFW rfl (bnd h0 (stp ?_))))
        cases decide ((x.2.length : Int) = ((gm l 0).2.length : Int)) with
        | false => rfl
        | true => exact cFW rfl (bnd h0 rfl)
      · cases oneB p l x <;> rfl
    · cases l.all (oneB p l) with
      | false => rfl
      | true =>
        rw [if_pos rfl, seqO_l]
        refine bnd (bnd h0 (stp (?_ : _ = some (decide (((gm l 0).2.length : Int) ≤ 8) && decide ((gm l 0).1 ≤ 8))))) rfl
        cases decide (((gm l 0).2.length : Int) ≤ 8) with
        | false => rfl
        | true => exact cTW rfl (bnd h0 rfl)
/-- a response that is valid: R rows, C columns -/
structure Resp (p : Int) (R C : Nat) (l : List Mat) : Prop where
  hf : fdB p = true
  len : 0 < l.length ∧ l.length ≤ 60
  R8 : R ≤ 8
  C8 : C ≤ 8
  mat : ∀ x ∈ l, x.1 = (C : Int) ∧ x.2.length = R ∧ okM p C x.2
theorem respB_ok {p : Int} {l : List Mat} (h : respB p l = true) : ∃ R C, Resp p R C l := by
  unfold respB at h
  simp only [Bool.and_eq_true, rng_true, decide_eq_true_eq] at h
  obtain ⟨⟨h1, h2⟩, h3, h4, h5⟩ := h
  have hl : 0 < l.length := by omega
  rw [List.all_eq_true] at h3
  have h0 := h3 (gm l 0) (mem_of_get (gm_get hl))
  have hc0 : 0 ≤ (gm l 0).1 := by
    unfold oneB matB at h0
    simp only [Bool.and_eq_true, rng_true] at h0
    exact h0.1.2.1.1
  refine ⟨(gm l 0).2.length, (gm l 0).1.toNat, h1, ⟨hl, by omega⟩, by omega, by omega, fun x hx => ?_⟩
  have h6 := h3 x hx
  unfold oneB matB at h6
  simp only [Bool.and_eq_true, rng_true, decide_eq_true_eq] at h6
  obtain ⟨⟨_, _, _, h7⟩, h8, h9⟩ := h6
  have e : x.1 = ((gm l 0).1.toNat : Int) := by omega
  rw [e] at h7
  exact ⟨e, by omega, rowsB_true.1 h7⟩
end Go.Proofs.YteikcdofblclhaaDoor
