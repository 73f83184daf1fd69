/-
  Plain laws: the law's helpers for struct types, printed by a program (wip/y/lem.py). No program in sight. No condition.
-/
import Derived.Test.YteikcdofblclhaaDoorZLem0
namespace Go.Proofs.YteikcdofblclhaaDoor

abbrev TyRelation := Int × Int × (List (List Int))
def nRelation (a : TyRelation) : Nat := nIntSS a.2.2
theorem e_Relation (a : TyRelation) (h : nRelation a ≤ 1048576) : F_laws_eqRelation a a = some true := by
  unfold nRelation at h
  exact stp (cFW (nT (dT rfl)) (stp (cFW (nT (dT rfl)) (bnd (e_IntSS a.2.2 (by omega)) (stp (cFW rfl (rfl)))))))
def mk_Relation (a : TyRelation) (k : Int) : TyRelation × Int := ((a.1, a.2.1, (mk_IntSS a.2.2 k).1), (mk_IntSS a.2.2 k).2)
def cRelation (a : TyRelation) : Nat := cIntSS a.2.2
theorem cRelation_le (a : TyRelation) : cRelation a ≤ 8 * nRelation a := by
  unfold cRelation nRelation
  have h2 := cIntSS_le a.2.2
  omega
theorem mk_Relation_snd (a : TyRelation) (k : Int) : (mk_Relation a k).2 = k + cRelation a := by
  unfold mk_Relation cRelation
  simp only [mk_IntSS_snd]
  try omega
theorem m_Relation (a : TyRelation) (k : Int) (h0 : 0 ≤ k) (h : k + 8 * nRelation a ≤ 1125899906842624) : F_laws_markRelation a k = some (mk_Relation a k) := by
  unfold nRelation at h
  have h2 := cIntSS_le a.2.2
  exact bnd (m_IntSS _ _ h0 (by omega)) (rfl)
theorem h_Relation (a : TyRelation) (k : Int) (h0 : 0 ≤ k) (h : k + 8 * nRelation a ≤ 1125899906842624) : F_laws_heldRelation (mk_Relation a k).1 k = some (k + cRelation a) := by
  unfold nRelation at h
  have h2 := cIntSS_le a.2.2
  have e0 : F_laws_heldIntSS (mk_IntSS a.2.2 k).1 k = some (k + cIntSS a.2.2) := h_IntSS _ _ h0 (by omega)
  unfold cRelation mk_Relation
  refine bnd e0 (stp (cFW (dF (by omega)) ?_))
  refine congrArg some ?_
  try simp only [mk_IntS_snd, mk_IntSS_snd]
  try omega
abbrev TyMatrix := Int × (List (List Int))
def nMatrix (a : TyMatrix) : Nat := nIntSS a.2
def lensMatrix (a : TyMatrix) : Prop := lensIntSS a.2
theorem z_Matrix (a : TyMatrix) (left : Int) (h0 : 0 ≤ left) (h1 : left ≤ bigN) (hl : lensMatrix a) : F_laws_szMatrix a left = some (if (nMatrix a : Int) ≤ left then left - nMatrix a else -1) := by
  unfold bigN at h1
  have l0 := hl
  unfold nMatrix
  refine bnd (z_IntSS a.2 (left) (by omega) (by unfold bigN; omega) l0) (stp ?_)
  by_cases g0 : (nIntSS a.2 : Int) ≤ left
  case neg =>
    rw [if_neg g0]; try rw [if_neg (by omega)]
    exact cTW (dT (by omega)) rfl
  rw [if_pos g0]
  try rw [if_pos (by omega)]
  refine cFW (dF (by omega)) ?_
  congr 1; try omega
theorem niceLensMatrix {a : TyMatrix} (h : Nice.ok a) : lensMatrix a := by
  obtain ⟨h0, h1⟩ := h
  exact niceLensIntSS h1
theorem t_Matrix (a : TyMatrix) (h : nMatrix a ≤ 1048576) : F_laws_toMatrix a = some a := by
  unfold nMatrix at h
  exact bnd (t_IntSS a.2 (by omega)) (rfl)
theorem e_Matrix (a : TyMatrix) (h : nMatrix a ≤ 1048576) : F_laws_eqMatrix a a = some true := by
  unfold nMatrix at h
  exact stp (cFW (nT (dT rfl)) (bnd (e_IntSS a.2 (by omega)) (stp (cFW rfl (rfl)))))
def mk_Matrix (a : TyMatrix) (k : Int) : TyMatrix × Int := ((a.1, (mk_IntSS a.2 k).1), (mk_IntSS a.2 k).2)
def cMatrix (a : TyMatrix) : Nat := cIntSS a.2
theorem cMatrix_le (a : TyMatrix) : cMatrix a ≤ 8 * nMatrix a := by
  unfold cMatrix nMatrix
  have h1 := cIntSS_le a.2
  omega
theorem mk_Matrix_snd (a : TyMatrix) (k : Int) : (mk_Matrix a k).2 = k + cMatrix a := by
  unfold mk_Matrix cMatrix
  simp only [mk_IntSS_snd]
  try omega
theorem m_Matrix (a : TyMatrix) (k : Int) (h0 : 0 ≤ k) (h : k + 8 * nMatrix a ≤ 1125899906842624) : F_laws_markMatrix a k = some (mk_Matrix a k) := by
  unfold nMatrix at h
  have h1 := cIntSS_le a.2
  exact bnd (m_IntSS _ _ h0 (by omega)) (rfl)
end Go.Proofs.YteikcdofblclhaaDoor
