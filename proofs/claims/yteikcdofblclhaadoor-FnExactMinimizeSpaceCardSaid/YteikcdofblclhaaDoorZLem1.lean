/-
  Plain laws: the law's helpers for struct types, printed by a program (wip/y/lem.py). No program in sight. No condition.
-/
import Derived.Test.YteikcdofblclhaaDoorZLem0
namespace Go.Proofs.YteikcdofblclhaaDoor

abbrev TyStateSpace := Int × Int × Int × (List (List Int)) × (List (List Int)) × (List (List Int)) × (List (List Int))
def nStateSpace (a : TyStateSpace) : Nat := nIntSS a.2.2.2.1 + nIntSS a.2.2.2.2.1 + nIntSS a.2.2.2.2.2.1 + nIntSS a.2.2.2.2.2.2
def lensStateSpace (a : TyStateSpace) : Prop := lensIntSS a.2.2.2.1 ∧ lensIntSS a.2.2.2.2.1 ∧ lensIntSS a.2.2.2.2.2.1 ∧ lensIntSS a.2.2.2.2.2.2
theorem z_StateSpace (a : TyStateSpace) (left : Int) (h0 : 0 ≤ left) (h1 : left ≤ bigN) (hl : lensStateSpace a) : F_laws_szStateSpace a left = some (if (nStateSpace a : Int) ≤ left then left - nStateSpace a else -1) := by
  unfold bigN at h1
  obtain ⟨l0, l1, l2, l3⟩ := hl
  unfold nStateSpace
  refine bnd (z_IntSS a.2.2.2.1 (left) (by omega) (by unfold bigN; omega) l0) (stp ?_)
  by_cases g0 : (nIntSS a.2.2.2.1 : Int) ≤ left
  case neg =>
    rw [if_neg g0]; try rw [if_neg (by omega)]
    exact cTW (dT (by omega)) rfl
  rw [if_pos g0]
  refine cFW (dF (by omega)) ?_
  refine bnd (z_IntSS a.2.2.2.2.1 (left - nIntSS a.2.2.2.1) (by omega) (by unfold bigN; omega) l1) (stp ?_)
  by_cases g1 : (nIntSS a.2.2.2.2.1 : Int) ≤ left - nIntSS a.2.2.2.1
  case neg =>
    rw [if_neg g1]; try rw [if_neg (by omega)]
    exact cTW (dT (by omega)) rfl
  rw [if_pos g1]
  refine cFW (dF (by omega)) ?_
  refine bnd (z_IntSS a.2.2.2.2.2.1 (left - nIntSS a.2.2.2.1 - nIntSS a.2.2.2.2.1) (by omega) (by unfold bigN; omega) l2) (stp ?_)
  by_cases g2 : (nIntSS a.2.2.2.2.2.1 : Int) ≤ left - nIntSS a.2.2.2.1 - nIntSS a.2.2.2.2.1
  case neg =>
    rw [if_neg g2]; try rw [if_neg (by omega)]
    exact cTW (dT (by omega)) rfl
  rw [if_pos g2]
  refine cFW (dF (by omega)) ?_
  refine bnd (z_IntSS a.2.2.2.2.2.2 (left - nIntSS a.2.2.2.1 - nIntSS a.2.2.2.2.1 - nIntSS a.2.2.2.2.2.1) (by omega) (by unfold bigN; omega) l3) (stp ?_)
  by_cases g3 : (nIntSS a.2.2.2.2.2.2 : Int) ≤ left - nIntSS a.2.2.2.1 - nIntSS a.2.2.2.2.1 - nIntSS a.2.2.2.2.2.1
  case neg =>
    rw [if_neg g3]; try rw [if_neg (by omega)]
    exact cTW (dT (by omega)) rfl
  rw [if_pos g3]
  try rw [if_pos (by omega)]
  refine cFW (dF (by omega)) ?_
  congr 1; try omega
theorem niceLensStateSpace {a : TyStateSpace} (h : Nice.ok a) : lensStateSpace a := by
  obtain ⟨h0, h1, h2, h3, h4, h5, h6⟩ := h
  exact ⟨niceLensIntSS h3, niceLensIntSS h4, niceLensIntSS h5, niceLensIntSS h6⟩
theorem t_StateSpace (a : TyStateSpace) (h : nStateSpace a ≤ 1048576) : F_laws_toStateSpace a = some a := by
  unfold nStateSpace at h
  exact bnd (t_IntSS a.2.2.2.1 (by omega)) (bnd (t_IntSS a.2.2.2.2.1 (by omega)) (bnd (t_IntSS a.2.2.2.2.2.1 (by omega)) (bnd (t_IntSS a.2.2.2.2.2.2 (by omega)) (rfl))))
theorem e_StateSpace (a : TyStateSpace) (h : nStateSpace a ≤ 1048576) : F_laws_eqStateSpace a a = some true := by
  unfold nStateSpace at h
  exact stp (cFW (nT (dT rfl)) (stp (cFW (nT (dT rfl)) (stp (cFW (nT (dT rfl)) (bnd (e_IntSS a.2.2.2.1 (by omega)) (stp (cFW rfl (bnd (e_IntSS a.2.2.2.2.1 (by omega)) (stp (cFW rfl (bnd (e_IntSS a.2.2.2.2.2.1 (by omega)) (stp (cFW rfl (bnd (e_IntSS a.2.2.2.2.2.2 (by omega)) (stp (cFW rfl (rfl))))))))))))))))))
def mk_StateSpace (a : TyStateSpace) (k : Int) : TyStateSpace × Int := ((a.1, a.2.1, a.2.2.1, (mk_IntSS a.2.2.2.1 k).1, (mk_IntSS a.2.2.2.2.1 (mk_IntSS a.2.2.2.1 k).2).1, (mk_IntSS a.2.2.2.2.2.1 (mk_IntSS a.2.2.2.2.1 (mk_IntSS a.2.2.2.1 k).2).2).1, (mk_IntSS a.2.2.2.2.2.2 (mk_IntSS a.2.2.2.2.2.1 (mk_IntSS a.2.2.2.2.1 (mk_IntSS a.2.2.2.1 k).2).2).2).1), (mk_IntSS a.2.2.2.2.2.2 (mk_IntSS a.2.2.2.2.2.1 (mk_IntSS a.2.2.2.2.1 (mk_IntSS a.2.2.2.1 k).2).2).2).2)
def cStateSpace (a : TyStateSpace) : Nat := cIntSS a.2.2.2.1 + cIntSS a.2.2.2.2.1 + cIntSS a.2.2.2.2.2.1 + cIntSS a.2.2.2.2.2.2
theorem cStateSpace_le (a : TyStateSpace) : cStateSpace a ≤ 8 * nStateSpace a := by
  unfold cStateSpace nStateSpace
  have h3 := cIntSS_le a.2.2.2.1
  have h4 := cIntSS_le a.2.2.2.2.1
  have h5 := cIntSS_le a.2.2.2.2.2.1
  have h6 := cIntSS_le a.2.2.2.2.2.2
  omega
theorem mk_StateSpace_snd (a : TyStateSpace) (k : Int) : (mk_StateSpace a k).2 = k + cStateSpace a := by
  unfold mk_StateSpace cStateSpace
  simp only [mk_IntSS_snd]
  try omega
theorem m_StateSpace (a : TyStateSpace) (k : Int) (h0 : 0 ≤ k) (h : k + 8 * nStateSpace a ≤ 1125899906842624) : F_laws_markStateSpace a k = some (mk_StateSpace a k) := by
  unfold nStateSpace at h
  have h3 := cIntSS_le a.2.2.2.1
  have h4 := cIntSS_le a.2.2.2.2.1
  have h5 := cIntSS_le a.2.2.2.2.2.1
  have h6 := cIntSS_le a.2.2.2.2.2.2
  exact bnd (m_IntSS _ _ h0 (by omega)) (bnd (m_IntSS _ _ (by simp only [mk_IntSS_snd]; omega) (by simp only [mk_IntSS_snd]; omega)) (bnd (m_IntSS _ _ (by simp only [mk_IntSS_snd]; omega) (by simp only [mk_IntSS_snd]; omega)) (bnd (m_IntSS _ _ (by simp only [mk_IntSS_snd]; omega) (by simp only [mk_IntSS_snd]; omega)) (rfl))))
theorem h_StateSpace (a : TyStateSpace) (k : Int) (h0 : 0 ≤ k) (h : k + 8 * nStateSpace a ≤ 1125899906842624) : F_laws_heldStateSpace (mk_StateSpace a k).1 k = some (k + cStateSpace a) := by
  unfold nStateSpace at h
  have h3 := cIntSS_le a.2.2.2.1
  have h4 := cIntSS_le a.2.2.2.2.1
  have h5 := cIntSS_le a.2.2.2.2.2.1
  have h6 := cIntSS_le a.2.2.2.2.2.2
  have e0 : F_laws_heldIntSS (mk_IntSS a.2.2.2.1 k).1 k = some (k + cIntSS a.2.2.2.1) := h_IntSS _ _ h0 (by omega)
  have e1 : F_laws_heldIntSS (mk_IntSS a.2.2.2.2.1 (mk_IntSS a.2.2.2.1 k).2).1 (mk_IntSS a.2.2.2.1 k).2 = some ((mk_IntSS a.2.2.2.1 k).2 + cIntSS a.2.2.2.2.1) := h_IntSS _ _ (by simp only [mk_IntS_snd, mk_IntSS_snd]; omega) (by simp only [mk_IntS_snd, mk_IntSS_snd]; omega)
  have e2 : F_laws_heldIntSS (mk_IntSS a.2.2.2.2.2.1 (mk_IntSS a.2.2.2.2.1 (mk_IntSS a.2.2.2.1 k).2).2).1 (mk_IntSS a.2.2.2.2.1 (mk_IntSS a.2.2.2.1 k).2).2 = some ((mk_IntSS a.2.2.2.2.1 (mk_IntSS a.2.2.2.1 k).2).2 + cIntSS a.2.2.2.2.2.1) := h_IntSS _ _ (by simp only [mk_IntS_snd, mk_IntSS_snd]; omega) (by simp only [mk_IntS_snd, mk_IntSS_snd]; omega)
  have e3 : F_laws_heldIntSS (mk_IntSS a.2.2.2.2.2.2 (mk_IntSS a.2.2.2.2.2.1 (mk_IntSS a.2.2.2.2.1 (mk_IntSS a.2.2.2.1 k).2).2).2).1 (mk_IntSS a.2.2.2.2.2.1 (mk_IntSS a.2.2.2.2.1 (mk_IntSS a.2.2.2.1 k).2).2).2 = some ((mk_IntSS a.2.2.2.2.2.1 (mk_IntSS a.2.2.2.2.1 (mk_IntSS a.2.2.2.1 k).2).2).2 + cIntSS a.2.2.2.2.2.2) := h_IntSS _ _ (by simp only [mk_IntS_snd, mk_IntSS_snd]; omega) (by simp only [mk_IntS_snd, mk_IntSS_snd]; omega)
  simp only [mk_IntS_snd, mk_IntSS_snd] at e1
  simp only [mk_IntS_snd, mk_IntSS_snd] at e2
  simp only [mk_IntS_snd, mk_IntSS_snd] at e3
  unfold cStateSpace mk_StateSpace
  refine bnd e0 (stp (cFW (dF (by omega)) ?_))
  refine bnd (by simp only [mk_IntS_snd, mk_IntSS_snd]; exact e1) (stp (cFW (dF (by omega)) ?_))
  refine bnd (by simp only [mk_IntS_snd, mk_IntSS_snd]; exact e2) (stp (cFW (dF (by omega)) ?_))
  refine bnd (by simp only [mk_IntS_snd, mk_IntSS_snd]; exact e3) (stp (cFW (dF (by omega)) ?_))
  refine congrArg some ?_
  try simp only [mk_IntS_snd, mk_IntSS_snd]
  try omega
end Go.Proofs.YteikcdofblclhaaDoor
