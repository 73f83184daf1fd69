/-
  Plain law of ShortestRecurrence: the law's partial function yields true. Printed by a program (wip/y/law.py). No program in sight. No condition.
-/
import Derived.Test.YtnlbhdepagkjgaaDoorZP32
import Derived.Test.YtnlbhdepagkjgaaDoorZLem1
namespace Go.Proofs.YtnlbhdepagkjgaaDoor
set_option linter.unusedVariables false
theorem lawN_ShortestRecurrence (a0 : Int) (a1 : List Int) (i0 : Nice.ok a0) (i1 : Nice.ok a1) : F_laws_FnExactShortestRecurrence a0 a1 = some true := by
  have hbig : bigN = 4611686018427387904 := rfl
  refine stp ?_
  by_cases gaS : (1048576 : Int) < ((a1.length : Nat) : Int)
  · exact cTW (dT gaS) rfl
  refine cFW (dF gaS) ?_
  have haS : nIntS a1 ≤ 1048576 := by unfold nIntS; omega
  first
  | refine bnd (t_IntS a1 haS) (bnd (specShortestRecurrence a0 a1) ?_)
  | refine bnd (bnd (t_IntS a1 haS) (bnd (specShortestRecurrence a0 a1) rfl)) ?_
  refine bnd (t_IntS a1 haS) ?_
  refine bnd (implShortestRecurrence a0 a1) ?_
  have b0 : nIntS (wShortestRecurrence a0 a1).1 ≤ 1048576 := boundShortestRecurrence_0 a0 a1
  have cb0 := cIntS_le (wShortestRecurrence a0 a1).1
  refine bnd (a := false) (bnd (e_IntS _ b0) (stp (cFW rfl (stp (congrArg some (nT (dT rfl))))))) (cFW rfl ?_)
  refine bnd (t_IntS _ haS) (bnd (e_IntS _ haS) (stp (cFW rfl ?_)))
  have caS := cIntS_le a1
  refine bnd (m_IntS a1 _ (by omega) (by omega)) ?_
  refine bnd (a := false) (stp (cFW (dF (by simp only [mk_IntS_snd]; omega)) (bnd (e_IntS _ b0) (stp (cFW rfl (stp (congrArg some (nT (dT rfl))))))))) (cFW rfl ?_)
  refine bnd (m_IntS (wShortestRecurrence a0 a1).1 _ (by omega) (by omega)) ?_
  refine bnd (h_IntS (wShortestRecurrence a0 a1).1 _ (by omega) (by omega)) (stp (cFW (dF (by omega)) ?_))
  refine stp (cFW (nT (dT (by simp only [mk_IntS_snd]))) ?_)
  first
  | refine bnd (t_IntS a1 haS) (bnd (implShortestRecurrence a0 a1) ?_)
  | refine bnd (bnd (t_IntS a1 haS) (bnd (implShortestRecurrence a0 a1) rfl)) ?_
  refine bnd (a := false) (bnd (e_IntS _ b0) (stp (cFW rfl (stp (congrArg some (nT (dT rfl))))))) (cFW rfl ?_)
  refine bnd (h_IntS (wShortestRecurrence a0 a1).1 _ (by omega) (by omega)) (stp (cFW (dF (by omega)) ?_))
  refine stp (cFW (nT (dT (by simp only [mk_IntS_snd]))) ?_)
  rfl
end Go.Proofs.YtnlbhdepagkjgaaDoor
