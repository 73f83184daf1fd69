/-
  Plain laws: the law's helpers for struct types with lists of structs and strings, printed by a program (wip/y/lem2.py). No program in sight. No condition.
-/
import Derived.Test.YtciiinolpaohpaaDoorZLem4
namespace Go.Proofs.YtciiinolpaohpaaDoor
set_option linter.unusedVariables false

abbrev TyRule := ByteArray × (List (Int × Int × ByteArray)) × (List (Int × Int × ByteArray))
def nRule (a : TyRule) : Nat := a.1.size + nTerm a.2.1 + nTerm a.2.2
def lensRule (a : TyRule) : Prop := (a.1.size : Int) ≤ 9223372036854775807 ∧ lensTerm a.2.1 ∧ lensTerm a.2.2
theorem z_Rule (a : TyRule) (left : Int) (h0 : 0 ≤ left) (h1 : left ≤ bigN) (hl : lensRule a) : F_laws_szRule a left = some (if (nRule a : Int) ≤ left then left - nRule a else -1) := by
  unfold bigN at h1
  obtain ⟨l0, l1, l2⟩ := hl
  unfold nRule
  refine bnd (subO_of (by omega) (by omega)) (stp ?_)
  by_cases g0 : (a.1.size : Int) ≤ left
  case neg =>
    rw [if_neg (by omega)]
    exact cTW (dT (by omega)) rfl
  refine cFW (dF (by omega)) ?_
  refine bnd (z_Term a.2.1 (left - a.1.size) (by omega) (by unfold bigN; omega) l1) (stp ?_)
  by_cases g1 : (nTerm a.2.1 : Int) ≤ left - a.1.size
  case neg =>
    rw [if_neg g1]; try rw [if_neg (by omega)]
    exact cTW (dT (by omega)) rfl
  rw [if_pos g1]
  refine cFW (dF (by omega)) ?_
  refine bnd (z_Term a.2.2 (left - a.1.size - nTerm a.2.1) (by omega) (by unfold bigN; omega) l2) (stp ?_)
  by_cases g2 : (nTerm a.2.2 : Int) ≤ left - a.1.size - nTerm a.2.1
  case neg =>
    rw [if_neg g2]; try rw [if_neg (by omega)]
    exact cTW (dT (by omega)) rfl
  rw [if_pos g2]
  try rw [if_pos (by omega)]
  refine cFW (dF (by omega)) ?_
  congr 1; try omega
theorem niceLensRule {a : TyRule} (h : Nice.ok a) : lensRule a := by
  obtain ⟨h0, h1, h2⟩ := h
  exact ⟨h0, niceLensTerm h1, niceLensTerm h2⟩
theorem t_Rule (a : TyRule) (h : nRule a ≤ 1048576) : F_laws_toRule a = some a := by
  unfold nRule at h
  exact bnd (t_Term a.2.1 (by omega)) (bnd (t_Term a.2.2 (by omega)) (rfl))
theorem e_Rule (a : TyRule) (h : nRule a ≤ 1048576) : F_laws_eqRule a a = some true := by
  unfold nRule at h
  exact stp (cFW (nT (dT rfl)) (bnd (e_Term a.2.1 (by omega)) (stp (cFW rfl (bnd (e_Term a.2.2 (by omega)) (stp (cFW rfl (rfl))))))))
end Go.Proofs.YtciiinolpaohpaaDoor
