/-
  Plain law of IsConvex: the law's partial function yields true. Printed by a program (wip/y/law.py). No program in sight. No condition.
-/
import Derived.Test.YtgfnophfoccamaaZP41
import Derived.Test.YtgfnophfoccamaaZLem3
namespace Go.Proofs.Ytgfnophfoccamaa
set_option linter.unusedVariables false
theorem lawN_IsConvex (a0 : TyGraph) (a1 : TyGraph) (a2 : TyMatch) (i0 : Nice.ok a0) (i1 : Nice.ok a1) (i2 : Nice.ok a2) : F_laws_FnExactIsConvex a0 a1 a2 = some true := by
  have hbig : bigN = 4611686018427387904 := rfl
  refine bnd (z_Graph a0 1048576 (by omega) (by rw [hbig]; omega) (niceLensGraph i0)) (stp ?_)
  by_cases gaG : (nGraph a0 : Int) ≤ 1048576
  case neg => rw [if_neg gaG]; exact cTW (dT (by omega)) rfl
  rw [if_pos gaG]
  refine cFW (dF (by omega)) ?_
  have haG : nGraph a0 ≤ 1048576 := by omega
  refine bnd (z_Graph a1 (1048576 - (nGraph a0 : Int)) (by omega) (by rw [hbig]; omega) (niceLensGraph i1)) (stp ?_)
  by_cases gaPattern : (nGraph a1 : Int) ≤ 1048576 - (nGraph a0 : Int)
  case neg => rw [if_neg gaPattern]; exact cTW (dT (by omega)) rfl
  rw [if_pos gaPattern]
  refine cFW (dF (by omega)) ?_
  have haPattern : nGraph a1 ≤ 1048576 := by omega
  refine bnd (z_Match a2 (1048576 - (nGraph a0 : Int) - (nGraph a1 : Int)) (by omega) (by rw [hbig]; omega) (niceLensMatch i2)) (stp ?_)
  by_cases gaM : (nMatch a2 : Int) ≤ 1048576 - (nGraph a0 : Int) - (nGraph a1 : Int)
  case neg => rw [if_neg gaM]; exact cTW (dT (by omega)) rfl
  rw [if_pos gaM]
  refine cFW (dF (by omega)) ?_
  have haM : nMatch a2 ≤ 1048576 := by omega
  first
  | refine bnd (t_Graph a0 haG) (bnd (t_Graph a1 haPattern) (bnd (t_Match a2 haM) (bnd (specIsConvex a0 a1 a2) ?_)))
  | refine bnd (bnd (t_Graph a0 haG) (bnd (t_Graph a1 haPattern) (bnd (t_Match a2 haM) (bnd (specIsConvex a0 a1 a2) rfl)))) ?_
  refine bnd (t_Graph a0 haG) ?_
  refine bnd (t_Graph a1 haPattern) ?_
  refine bnd (t_Match a2 haM) ?_
  refine bnd (implIsConvex a0 a1 a2) ?_
  refine bnd (a := false) (stp (cFW (nT (dT rfl)) (stp (congrArg some (nT (dT rfl)))))) (cFW rfl ?_)
  refine bnd (t_Graph _ haG) (bnd (e_Graph _ haG) (stp (cFW rfl ?_)))
  refine bnd (t_Graph _ haPattern) (bnd (e_Graph _ haPattern) (stp (cFW rfl ?_)))
  refine bnd (t_Match _ haM) (bnd (e_Match _ haM) (stp (cFW rfl ?_)))
  rfl
end Go.Proofs.Ytgfnophfoccamaa
