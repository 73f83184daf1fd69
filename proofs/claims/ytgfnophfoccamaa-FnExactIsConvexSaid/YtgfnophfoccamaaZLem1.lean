/-
  Plain laws: the law's helpers for struct types, printed by a program (wip/y/lem.py). No program in sight. No condition.
-/
import Derived.Test.YtgfnophfoccamaaZLem0
namespace Go.Proofs.Ytgfnophfoccamaa

abbrev TyMatch := (List Int) × (List Int)
def nMatch (a : TyMatch) : Nat := nIntS a.1 + nIntS a.2
def lensMatch (a : TyMatch) : Prop := lensIntS a.1 ∧ lensIntS a.2
theorem z_Match (a : TyMatch) (left : Int) (h0 : 0 ≤ left) (h1 : left ≤ bigN) (hl : lensMatch a) : F_laws_szMatch a left = some (if (nMatch a : Int) ≤ left then left - nMatch a else -1) := by
  unfold bigN at h1
  obtain ⟨l0, l1⟩ := hl
  unfold nMatch
  refine bnd (z_IntS a.1 (left) (by omega) (by unfold bigN; omega) l0) (stp ?_)
  by_cases g0 : (nIntS a.1 : Int) ≤ left
  case neg =>
    rw [if_neg g0]; try rw [if_neg (by omega)]
    exact cTW (dT (by omega)) rfl
  rw [if_pos g0]
  refine cFW (dF (by omega)) ?_
  refine bnd (z_IntS a.2 (left - nIntS a.1) (by omega) (by unfold bigN; omega) l1) (stp ?_)
  by_cases g1 : (nIntS a.2 : Int) ≤ left - nIntS a.1
  case neg =>
    rw [if_neg g1]; try rw [if_neg (by omega)]
    exact cTW (dT (by omega)) rfl
  rw [if_pos g1]
  try rw [if_pos (by omega)]
  refine cFW (dF (by omega)) ?_
  congr 1; try omega
theorem niceLensMatch {a : TyMatch} (h : Nice.ok a) : lensMatch a := by
  obtain ⟨h0, h1⟩ := h
  exact ⟨niceLensIntS h0, niceLensIntS h1⟩
theorem t_Match (a : TyMatch) (h : nMatch a ≤ 1048576) : F_laws_toMatch a = some a := by
  unfold nMatch at h
  exact bnd (t_IntS a.1 (by omega)) (bnd (t_IntS a.2 (by omega)) (rfl))
theorem e_Match (a : TyMatch) (h : nMatch a ≤ 1048576) : F_laws_eqMatch a a = some true := by
  unfold nMatch at h
  exact bnd (e_IntS a.1 (by omega)) (stp (cFW rfl (bnd (e_IntS a.2 (by omega)) (stp (cFW rfl (rfl))))))
end Go.Proofs.Ytgfnophfoccamaa
