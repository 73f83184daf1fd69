/-
  Plain laws: the law's helpers for state spaces and lists of matrices. No program in sight. No condition.
-/
import Derived.Test.YtnlbhdepagkjgaaDoorYP3
namespace Go.Proofs.YtnlbhdepagkjgaaDoor

abbrev Mat := Int × List (List Int)
abbrev SSt := Int × Int × Int × List (List Int) × List (List Int) × List (List Int) × List (List Int)
def ssN (s : SSt) : Nat := rowsN s.2.2.2.1 + rowsN s.2.2.2.2.1 + rowsN s.2.2.2.2.2.1 + rowsN s.2.2.2.2.2.2
def ssLens (s : SSt) : Prop := lensOk s.2.2.2.1 ∧ lensOk s.2.2.2.2.1 ∧ lensOk s.2.2.2.2.2.1 ∧ lensOk s.2.2.2.2.2.2
theorem rowsN_len (m : List (List Int)) (r : List Int) (h : r ∈ m) : r.length ≤ rowsN m := by
  have := tot_mem (n := rowN) h; unfold rowsN; unfold rowN at this ⊢; omega
theorem rowsN_len0 (m : List (List Int)) : m.length ≤ rowsN m := by unfold rowsN; omega
theorem rowsN_tot (m : List (List Int)) : m.length + tot rowN m = rowsN m := rfl
theorem lensOk_of {m : List (List Int)} (h : rowsN m ≤ 1048576) : lensOk m := by
  refine ⟨?_, fun r hr => ?_⟩
  · have := rowsN_len0 m; unfold lenOk; omega
  · have := rowsN_len m r hr; unfold lenOk; omega
theorem szSS (s : SSt) (left : Int) (h0 : 0 ≤ left) (h1 : left ≤ bigN) (hl : ssLens s) : F_laws_szStateSpace s left = some (if (ssN s : Int) ≤ left then left - ssN s else -1) := by
  obtain ⟨l1, l2, l3, l4⟩ := hl
  unfold bigN at h1
  refine bnd (szIntSS _ _ h0 (by unfold bigN; omega) l1) (stp ?_)
  unfold ssN
  by_cases g1 : (rowsN s.2.2.2.1 : Int) ≤ left
  · rw [if_pos g1]
    refine cFW (dF (by omega)) (bnd (szIntSS _ _ (by omega) (by unfold bigN; omega) l2) (stp ?_))
    by_cases g2 : (rowsN s.2.2.2.2.1 : Int) ≤ left - rowsN s.2.2.2.1
    · rw [if_pos g2]
      refine cFW (dF (by omega)) (bnd (szIntSS _ _ (by omega) (by unfold bigN; omega) l3) (stp ?_))
      by_cases g3 : (rowsN s.2.2.2.2.2.1 : Int) ≤ left - rowsN s.2.2.2.1 - rowsN s.2.2.2.2.1
      · rw [if_pos g3]
        refine cFW (dF (by omega)) (bnd (szIntSS _ _ (by omega) (by unfold bigN; omega) l4) (stp ?_))
        by_cases g4 : (rowsN s.2.2.2.2.2.2 : Int) ≤ left - rowsN s.2.2.2.1 - rowsN s.2.2.2.2.1 - rowsN s.2.2.2.2.2.1
        · rw [if_pos g4, if_pos (by omega)]
          refine cFW (dF (by omega)) ?_
          congr 1; omega
        · rw [if_neg g4, if_neg (by omega)]; exact cTW (dT (by omega)) rfl
      · rw [if_neg g3, if_neg (by omega)]; exact cTW (dT (by omega)) rfl
    · rw [if_neg g2, if_neg (by omega)]; exact cTW (dT (by omega)) rfl
  · rw [if_neg g1, if_neg (by omega)]; exact cTW (dT (by omega)) rfl
theorem toIntSS_of (m : List (List Int)) (h : rowsN m ≤ 1048576) : F_laws_toIntSS m = some m := by
  have hm : maxN = 1099511627776 := rfl
  exact toIntSS m (by have := rowsN_len0 m; omega) (fun r hr => by have := rowsN_len m r hr; omega)
theorem toSS (s : SSt) (h : ssN s ≤ 1048576) : F_laws_toStateSpace s = some s := by
  unfold ssN at h
  exact bnd (toIntSS_of _ (by omega)) (bnd (toIntSS_of _ (by omega)) (bnd (toIntSS_of _ (by omega)) (bnd (toIntSS_of _ (by omega)) rfl)))
theorem eqIntSS_same (m : List (List Int)) (h : lensOk m) : F_laws_eqIntSS m m = some true := by rw [eqIntSS m m h, show decide (m = m) = true from dT rfl]
theorem eqSS (s : SSt) (h : ssN s ≤ 1048576) : F_laws_eqStateSpace s s = some true := by
  unfold ssN at h
  refine stp (cFW (nT (dT rfl)) (stp (cFW (nT (dT rfl)) (stp (cFW (nT (dT rfl)) ?_)))))
  refine bnd (eqIntSS_same _ (lensOk_of (by omega))) (stp (cFW rfl ?_))
  refine bnd (eqIntSS_same _ (lensOk_of (by omega))) (stp (cFW rfl ?_))
  refine bnd (eqIntSS_same _ (lensOk_of (by omega))) (stp (cFW rfl ?_))
  exact bnd (eqIntSS_same _ (lensOk_of (by omega))) (stp (cFW rfl rfl))
theorem markSS (s : SSt) (k : Int) (h : ssN s ≤ 1048576) (h0 : 0 ≤ k) (h1 : k ≤ 1048576) : ∃ s' k', F_laws_markStateSpace s k = some (s', k') ∧ 0 ≤ k' := by
  unfold ssN rowsN at h
  refine ⟨_, _, bnd (markIntSS _ _ h0 (by unfold bigN; omega) (by unfold bigN; omega)) (bnd (markIntSS _ _ ?_ (by unfold bigN; omega) ?_) (bnd (markIntSS _ _ ?_ (by unfold bigN; omega) ?_) (bnd (markIntSS _ _ ?_ (by unfold bigN; omega) ?_) rfl))), ?_⟩
  all_goals simp only [mkSS_snd, bigN]; omega
theorem eqMatrix_same (m : Mat) (h : lensOk m.2) : F_laws_eqMatrix m m = some true :=
  stp (cFW (nT (dT rfl)) (bnd (eqIntSS_same _ h) (stp (cFW rfl rfl))))
theorem eqMatrixS_same (l : List Mat) (hl : lenOk l) (h : ∀ m ∈ l, lensOk m.2) : F_laws_eqMatrixS l l = some true := by
  unfold lenOk at hl
  refine stp (cFW (nT (dT rfl)) (sqW (whileO_is (fun j => (j : Int)) (t := .inl ()) l.length ?_ ?_) ?_))
  · intro j hj
    exact stp (cTW (dT (by omega)) (bnd (idxO_of (List.getElem?_eq_getElem hj)) (bnd (idxO_of (List.getElem?_eq_getElem hj)) (bnd (eqMatrix_same _ (h _ (List.getElem_mem hj))) (stp (cFW rfl (bnd (addO_of (by omega) (by omega)) rfl)))))))
  · exact stp (cFW (dF (by omega)) rfl)
  · rfl
def mkM (m : Mat) (k : Int) : Mat × Int := ((k, (mkSS m.2 (k + 1)).1), (mkSS m.2 (k + 1)).2)
def matN (m : Mat) : Nat := 1 + tot rowN m.2
theorem mkM_snd (m : Mat) (k : Int) : (mkM m k).2 = k + matN m := by
  show (mkSS m.2 (k + 1)).2 = _; rw [mkSS_snd]; unfold matN; omega
def mkMS : List Mat → Int → List Mat × Int := mkL mkM
theorem mkMS_snd (l : List Mat) (k : Int) : (mkMS l k).2 = k + tot matN l := mkL_snd mkM matN mkM_snd l k
theorem markMatrixS (l : List Mat) (k : Int) (h0 : 0 ≤ k) (hl : (l.length : Int) ≤ bigN) (hr : ∀ m ∈ l, (m.2.length : Int) ≤ bigN) (hb : k + tot matN l ≤ bigN) : F_laws_markMatrixS l k = some (mkMS l k) := by
  unfold bigN at hb hl
  refine bnd (mark_loop (fun m : Mat => (m.2.length : Int) ≤ bigN) mkM matN mkM_snd l.length 4611686018427387904 ?_ ?_ l [] k (by simp) hr h0 (by omega)) rfl
  · intro j x s q hj hx hs hjl hq hB
    dsimp only
    have h1 : (matN x : Int) = 1 + tot rowN x.2 := by unfold matN; omega
    have hg : ((s.set j (q, x.2))[j]?) = some (q, x.2) := by rw [List.getElem?_set_self (by omega)]
    refine stp (cTW (dT (by omega)) (bnd (idxO_of hj) (bnd (setO_of _ (by omega)) (bnd (addO_of (by omega) (by omega)) (bnd (idxO_of hg) (bnd (markIntSS _ _ (by omega) hx (by unfold bigN; dsimp only; omega)) (bnd (setO_of _ (by rw [List.length_set]; omega)) (bnd (addO_of (by omega) (by omega)) ?_))))))))
    rw [List.set_set]; rfl
  · intro s q hs; dsimp only; exact stp (cFW (dF (by omega)) rfl)
theorem heldMatrixS (l : List Mat) (k : Int) (h0 : 0 ≤ k) (hl : (l.length : Int) ≤ bigN) (hr : ∀ m ∈ l, (m.2.length : Int) ≤ bigN) (hb : k + tot matN l ≤ bigN) : F_laws_heldMatrixS (mkMS l k).1 k = some (k + tot matN l) := by
  unfold bigN at hb hl
  refine sqW (held_loop (fun m : Mat => (m.2.length : Int) ≤ bigN) mkM matN mkM_snd (mkMS l k).1 4611686018427387904 ?_ ?_ l [] k rfl hr h0 (by omega)) ?_
  · intro j x q hj hx hjl hq hB
    dsimp only
    have h1 : (matN x : Int) = 1 + tot rowN x.2 := by unfold matN; omega
    have h2 : (mkMS l k).1.length = l.length := mkL_len mkM l k
    refine stp (cTW (dT (by omega)) ?_)
    refine bnd (idxO_of hj) (stp (cFW (nT (dT rfl)) ?_))
    refine bnd (addO_of (by omega) (by omega)) (bnd (idxO_of hj) ?_)
    refine bnd (heldIntSS x.2 (q + 1) (by omega) hx (by unfold bigN; omega)) (stp (cFW (dF (by omega)) ?_))
    refine bnd (addO_of (by omega) (by omega)) ?_
    rw [h1]; simp only [Int.add_assoc]
  · intro q; dsimp only; exact stp (cFW (dF (by omega)) rfl)
  · rfl
end Go.Proofs.YtnlbhdepagkjgaaDoor
