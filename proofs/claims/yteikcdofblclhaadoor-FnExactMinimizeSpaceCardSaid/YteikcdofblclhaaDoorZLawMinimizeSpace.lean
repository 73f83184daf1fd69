/-
  Plain law of MinimizeSpace: the law's partial function yields true. Printed by a program (wip/y/law.py). No program in sight. No condition.
-/
import Derived.Test.YteikcdofblclhaaDoorZP29
import Derived.Test.YteikcdofblclhaaDoorZLem1
namespace Go.Proofs.YteikcdofblclhaaDoor
set_option linter.unusedVariables false
theorem lawN_MinimizeSpace (a0 : Int) (a1 : TyStateSpace) (i0 : Nice.ok a0) (i1 : Nice.ok a1) : F_laws_FnExactMinimizeSpace a0 a1 = some true := by
  have hbig : bigN = 4611686018427387904 := rfl
  refine bnd (z_StateSpace a1 1048576 (by omega) (by rw [hbig]; omega) (niceLensStateSpace i1)) (stp ?_)
  by_cases gaS : (nStateSpace a1 : Int) ≤ 1048576
  case neg => rw [if_neg gaS]; exact cTW (dT (by omega)) rfl
  rw [if_pos gaS]
  refine cFW (dF (by omega)) ?_
  have haS : nStateSpace a1 ≤ 1048576 := by omega
  first
  | refine bnd (t_StateSpace a1 haS) (bnd (specMinimizeSpace a0 a1) ?_)
  | refine bnd (bnd (t_StateSpace a1 haS) (bnd (specMinimizeSpace a0 a1) rfl)) ?_
  refine bnd (t_StateSpace a1 haS) ?_
  refine bnd (implMinimizeSpace a0 a1) ?_
  have b0 : nStateSpace (wMinimizeSpace a0 a1).1 ≤ 1048576 := boundMinimizeSpace_0 a0 a1
  have cb0 := cStateSpace_le (wMinimizeSpace a0 a1).1
  refine bnd (a := false) (bnd (e_StateSpace _ b0) (stp (cFW rfl (stp (congrArg some (nT (dT rfl))))))) (cFW rfl ?_)
  refine bnd (t_StateSpace _ haS) (bnd (e_StateSpace _ haS) (stp (cFW rfl ?_)))
  have caS := cStateSpace_le a1
  refine bnd (m_StateSpace a1 _ (by omega) (by omega)) ?_
  refine bnd (a := false) (stp (cFW (dF (by simp only [mk_StateSpace_snd]; omega)) (bnd (e_StateSpace _ b0) (stp (cFW rfl (stp (congrArg some (nT (dT rfl))))))))) (cFW rfl ?_)
  refine bnd (m_StateSpace (wMinimizeSpace a0 a1).1 _ (by omega) (by omega)) ?_
  refine bnd (h_StateSpace (wMinimizeSpace a0 a1).1 _ (by omega) (by omega)) (stp (cFW (dF (by omega)) ?_))
  refine stp (cFW (nT (dT (by simp only [mk_StateSpace_snd]))) ?_)
  first
  | refine bnd (t_StateSpace a1 haS) (bnd (implMinimizeSpace a0 a1) ?_)
  | refine bnd (bnd (t_StateSpace a1 haS) (bnd (implMinimizeSpace a0 a1) rfl)) ?_
  refine bnd (a := false) (bnd (e_StateSpace _ b0) (stp (cFW rfl (stp (congrArg some (nT (dT rfl))))))) (cFW rfl ?_)
  refine bnd (h_StateSpace (wMinimizeSpace a0 a1).1 _ (by omega) (by omega)) (stp (cFW (dF (by omega)) ?_))
  refine stp (cFW (nT (dT (by simp only [mk_StateSpace_snd]))) ?_)
  rfl
end Go.Proofs.YteikcdofblclhaaDoor
