/-
  Plain laws: the law's helpers for struct types, printed by a program (wip/y/lem.py). No program in sight. No condition.
-/
import Derived.Test.YtnlbhdepagkjgaaDoorZLem0
namespace Go.Proofs.YtnlbhdepagkjgaaDoor

abbrev TyMatrix := Int × (List (List Int))
def nMatrix (a : TyMatrix) : Nat := nIntSS a.2
def lensMatrix (a : TyMatrix) : Prop := lensIntSS a.2
theorem z_Matrix (a : TyMatrix) (left : Int) (h0 : 0 ≤ left) (h1 : left ≤ bigN) (hl : lensMatrix a) : F_laws_szMatrix a left = some (if (nMatrix a : Int) ≤ left then left - nMatrix a else -1) := by
  unfold bigN at h1
  have l0 := hl
  unfold nMatrix
  refine bnd (z_IntSS a.2 (left) (by omega) (by unfold bigN; omega) l0) (stp ?_)
  by_cases g0 : (nIntSS a.2 : Int) ≤ left
  case neg =>
    rw [if_neg g0]; try rw [if_neg (by omega)]
    exact cTW (dT (by omega)) rfl
  rw [if_pos g0]
  try rw [if_pos (by omega)]
  refine cFW (dF (by omega)) ?_
  congr 1; try omega
theorem niceLensMatrix {a : TyMatrix} (h : Nice.ok a) : lensMatrix a := by
  obtain ⟨h0, h1⟩ := h
  exact niceLensIntSS h1
theorem t_Matrix (a : TyMatrix) (h : nMatrix a ≤ 1048576) : F_laws_toMatrix a = some a := by
  unfold nMatrix at h
  exact bnd (t_IntSS a.2 (by omega)) (rfl)
theorem e_Matrix (a : TyMatrix) (h : nMatrix a ≤ 1048576) : F_laws_eqMatrix a a = some true := by
  unfold nMatrix at h
  exact stp (cFW (nT (dT rfl)) (bnd (e_IntSS a.2 (by omega)) (stp (cFW rfl (rfl)))))
def mk_Matrix (a : TyMatrix) (k : Int) : TyMatrix × Int := ((a.1, (mk_IntSS a.2 k).1), (mk_IntSS a.2 k).2)
def cMatrix (a : TyMatrix) : Nat := cIntSS a.2
theorem cMatrix_le (a : TyMatrix) : cMatrix a ≤ 8 * nMatrix a := by
  unfold cMatrix nMatrix
  have h1 := cIntSS_le a.2
  omega
theorem mk_Matrix_snd (a : TyMatrix) (k : Int) : (mk_Matrix a k).2 = k + cMatrix a := by
  unfold mk_Matrix cMatrix
  simp only [mk_IntSS_snd]
  try omega
theorem m_Matrix (a : TyMatrix) (k : Int) (h0 : 0 ≤ k) (h : k + 8 * nMatrix a ≤ 1125899906842624) : F_laws_markMatrix a k = some (mk_Matrix a k) := by
  unfold nMatrix at h
  have h1 := cIntSS_le a.2
  exact bnd (m_IntSS _ _ h0 (by omega)) (rfl)
end Go.Proofs.YtnlbhdepagkjgaaDoor
