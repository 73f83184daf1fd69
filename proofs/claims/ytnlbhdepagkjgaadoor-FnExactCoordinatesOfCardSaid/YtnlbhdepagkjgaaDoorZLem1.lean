/-
  Plain laws: the law's helpers for struct types, printed by a program (wip/y/lem.py). No program in sight. No condition.
-/
import Derived.Test.YtnlbhdepagkjgaaDoorZLem0
namespace Go.Proofs.YtnlbhdepagkjgaaDoor

abbrev TySpace := Int × (List (List Int))
def nSpace (a : TySpace) : Nat := nIntSS a.2
def lensSpace (a : TySpace) : Prop := lensIntSS a.2
theorem z_Space (a : TySpace) (left : Int) (h0 : 0 ≤ left) (h1 : left ≤ bigN) (hl : lensSpace a) : F_laws_szSpace a left = some (if (nSpace a : Int) ≤ left then left - nSpace a else -1) := by
  unfold bigN at h1
  have l0 := hl
  unfold nSpace
  refine bnd (z_IntSS a.2 (left) (by omega) (by unfold bigN; omega) l0) (stp ?_)
  by_cases g0 : (nIntSS a.2 : Int) ≤ left
  case neg =>
    rw [if_neg g0]; try rw [if_neg (by omega)]
    exact cTW (dT (by omega)) rfl
  rw [if_pos g0]
  try rw [if_pos (by omega)]
  refine cFW (dF (by omega)) ?_
  congr 1; try omega
theorem niceLensSpace {a : TySpace} (h : Nice.ok a) : lensSpace a := by
  obtain ⟨h0, h1⟩ := h
  exact niceLensIntSS h1
theorem t_Space (a : TySpace) (h : nSpace a ≤ 1048576) : F_laws_toSpace a = some a := by
  unfold nSpace at h
  exact bnd (t_IntSS a.2 (by omega)) (rfl)
theorem e_Space (a : TySpace) (h : nSpace a ≤ 1048576) : F_laws_eqSpace a a = some true := by
  unfold nSpace at h
  exact stp (cFW (nT (dT rfl)) (bnd (e_IntSS a.2 (by omega)) (stp (cFW rfl (rfl)))))
def mk_Space (a : TySpace) (k : Int) : TySpace × Int := ((a.1, (mk_IntSS a.2 k).1), (mk_IntSS a.2 k).2)
def cSpace (a : TySpace) : Nat := cIntSS a.2
theorem cSpace_le (a : TySpace) : cSpace a ≤ 8 * nSpace a := by
  unfold cSpace nSpace
  have h1 := cIntSS_le a.2
  omega
theorem mk_Space_snd (a : TySpace) (k : Int) : (mk_Space a k).2 = k + cSpace a := by
  unfold mk_Space cSpace
  simp only [mk_IntSS_snd]
  try omega
theorem m_Space (a : TySpace) (k : Int) (h0 : 0 ≤ k) (h : k + 8 * nSpace a ≤ 1125899906842624) : F_laws_markSpace a k = some (mk_Space a k) := by
  unfold nSpace at h
  have h1 := cIntSS_le a.2
  exact bnd (m_IntSS _ _ h0 (by omega)) (rfl)
end Go.Proofs.YtnlbhdepagkjgaaDoor
