/-
  Plain law of CoordinatesOf: the law's partial function yields true. Printed by a program (wip/y/law.py). No program in sight. No condition.
-/
import Derived.Test.YtnlbhdepagkjgaaDoorZP17
import Derived.Test.YtnlbhdepagkjgaaDoorZLem1
namespace Go.Proofs.YtnlbhdepagkjgaaDoor
set_option linter.unusedVariables false
theorem lawN_CoordinatesOf (a0 : Int) (a1 : TySpace) (a2 : List Int) (i0 : Nice.ok a0) (i1 : Nice.ok a1) (i2 : Nice.ok a2) : F_laws_FnExactCoordinatesOf a0 a1 a2 = some true := by
  have hbig : bigN = 4611686018427387904 := rfl
  refine stp ?_
  by_cases gaV : (1048576 : Int) < ((a2.length : Nat) : Int)
  · exact cTW (dT gaV) rfl
  refine cFW (dF gaV) ?_
  have haV : nIntS a2 ≤ 1048576 := by unfold nIntS; omega
  refine bnd (z_Space a1 1048576 (by omega) (by rw [hbig]; omega) (niceLensSpace i1)) (stp ?_)
  by_cases gaS : (nSpace a1 : Int) ≤ 1048576
  case neg => rw [if_neg gaS]; exact cTW (dT (by omega)) rfl
  rw [if_pos gaS]
  refine cFW (dF (by omega)) ?_
  have haS : nSpace a1 ≤ 1048576 := by omega
  refine bnd (t_Space a1 haS) ?_
  refine bnd (t_IntS a2 haV) ?_
  refine bnd (specCoordinatesOf a0 a1 a2) ?_
  refine bnd (t_Space a1 haS) ?_
  refine bnd (t_IntS a2 haV) ?_
  refine bnd (implCoordinatesOf a0 a1 a2) ?_
  have b0 : nIntS (wCoordinatesOf a0 a1 a2).1 ≤ 1048576 := boundCoordinatesOf_0 a0 a1 a2
  have cb0 := cIntS_le (wCoordinatesOf a0 a1 a2).1
  refine bnd (a := false) (bnd (e_IntS _ b0) (stp (cFW rfl (stp (congrArg some (nT (dT rfl))))))) (cFW rfl ?_)
  refine bnd (t_Space _ haS) (bnd (e_Space _ haS) (stp (cFW rfl ?_)))
  refine bnd (t_IntS _ haV) (bnd (e_IntS _ haV) (stp (cFW rfl ?_)))
  have caS := cSpace_le a1
  refine bnd (m_Space a1 _ (by omega) (by omega)) ?_
  have caV := cIntS_le a2
  refine bnd (m_IntS a2 _ (by simp only [mk_Space_snd]; omega) (by simp only [mk_Space_snd]; omega)) ?_
  refine bnd (a := false) (stp (cFW (dF (by simp only [mk_Space_snd, mk_IntS_snd]; omega)) (bnd (e_IntS _ b0) (stp (cFW rfl (stp (congrArg some (nT (dT rfl))))))))) (cFW rfl ?_)
  refine bnd (m_IntS (wCoordinatesOf a0 a1 a2).1 _ (by omega) (by omega)) ?_
  refine bnd (h_IntS (wCoordinatesOf a0 a1 a2).1 _ (by omega) (by omega)) (stp (cFW (dF (by omega)) ?_))
  refine stp (cFW (nT (dT (by simp only [mk_IntS_snd]))) ?_)
  refine bnd (t_Space a1 haS) ?_
  refine bnd (t_IntS a2 haV) ?_
  refine bnd (implCoordinatesOf a0 a1 a2) ?_
  refine bnd (a := false) (bnd (e_IntS _ b0) (stp (cFW rfl (stp (congrArg some (nT (dT rfl))))))) (cFW rfl ?_)
  refine bnd (h_IntS (wCoordinatesOf a0 a1 a2).1 _ (by omega) (by omega)) (stp (cFW (dF (by omega)) ?_))
  refine stp (cFW (nT (dT (by simp only [mk_IntS_snd]))) ?_)
  rfl
end Go.Proofs.YtnlbhdepagkjgaaDoor
