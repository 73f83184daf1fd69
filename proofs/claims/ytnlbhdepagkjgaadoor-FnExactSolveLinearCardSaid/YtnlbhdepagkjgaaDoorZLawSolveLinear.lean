/-
  Plain law of SolveLinear: the law's partial function yields true. Printed by a program (wip/y/law.py). No program in sight. No condition.
-/
import Derived.Test.YtnlbhdepagkjgaaDoorZP19
import Derived.Test.YtnlbhdepagkjgaaDoorZLem1
namespace Go.Proofs.YtnlbhdepagkjgaaDoor
set_option linter.unusedVariables false
theorem lawN_SolveLinear (a0 : Int) (a1 : TyMatrix) (a2 : List Int) (i0 : Nice.ok a0) (i1 : Nice.ok a1) (i2 : Nice.ok a2) : F_laws_FnExactSolveLinear a0 a1 a2 = some true := by
  have hbig : bigN = 4611686018427387904 := rfl
  refine stp ?_
  by_cases gaB : (1048576 : Int) < ((a2.length : Nat) : Int)
  · exact cTW (dT gaB) rfl
  refine cFW (dF gaB) ?_
  have haB : nIntS a2 ≤ 1048576 := by unfold nIntS; omega
  refine bnd (z_Matrix a1 1048576 (by omega) (by rw [hbig]; omega) (niceLensMatrix i1)) (stp ?_)
  by_cases gaM : (nMatrix a1 : Int) ≤ 1048576
  case neg => rw [if_neg gaM]; exact cTW (dT (by omega)) rfl
  rw [if_pos gaM]
  refine cFW (dF (by omega)) ?_
  have haM : nMatrix a1 ≤ 1048576 := by omega
  refine bnd (t_Matrix a1 haM) ?_
  refine bnd (t_IntS a2 haB) ?_
  refine bnd (specSolveLinear a0 a1 a2) ?_
  refine bnd (t_Matrix a1 haM) ?_
  refine bnd (t_IntS a2 haB) ?_
  refine bnd (implSolveLinear a0 a1 a2) ?_
  have b0 : nIntS (wSolveLinear a0 a1 a2).1 ≤ 1048576 := boundSolveLinear_0 a0 a1 a2
  have cb0 := cIntS_le (wSolveLinear a0 a1 a2).1
  refine bnd (a := false) (bnd (e_IntS _ b0) (stp (cFW rfl (stp (congrArg some (nT (dT rfl))))))) (cFW rfl ?_)
  refine bnd (t_Matrix _ haM) (bnd (e_Matrix _ haM) (stp (cFW rfl ?_)))
  refine bnd (t_IntS _ haB) (bnd (e_IntS _ haB) (stp (cFW rfl ?_)))
  have caM := cMatrix_le a1
  refine bnd (m_Matrix a1 _ (by omega) (by omega)) ?_
  have caB := cIntS_le a2
  refine bnd (m_IntS a2 _ (by simp only [mk_Matrix_snd]; omega) (by simp only [mk_Matrix_snd]; omega)) ?_
  refine bnd (a := false) (stp (cFW (dF (by simp only [mk_Matrix_snd, mk_IntS_snd]; omega)) (bnd (e_IntS _ b0) (stp (cFW rfl (stp (congrArg some (nT (dT rfl))))))))) (cFW rfl ?_)
  refine bnd (m_IntS (wSolveLinear a0 a1 a2).1 _ (by omega) (by omega)) ?_
  refine bnd (h_IntS (wSolveLinear a0 a1 a2).1 _ (by omega) (by omega)) (stp (cFW (dF (by omega)) ?_))
  refine stp (cFW (nT (dT (by simp only [mk_IntS_snd]))) ?_)
  refine bnd (t_Matrix a1 haM) ?_
  refine bnd (t_IntS a2 haB) ?_
  refine bnd (implSolveLinear a0 a1 a2) ?_
  refine bnd (a := false) (bnd (e_IntS _ b0) (stp (cFW rfl (stp (congrArg some (nT (dT rfl))))))) (cFW rfl ?_)
  refine bnd (h_IntS (wSolveLinear a0 a1 a2).1 _ (by omega) (by omega)) (stp (cFW (dF (by omega)) ?_))
  refine stp (cFW (nT (dT (by simp only [mk_IntS_snd]))) ?_)
  rfl
end Go.Proofs.YtnlbhdepagkjgaaDoor
