/-
  Plain laws: the law's helpers for lists of numbers and of rows, in the form in which wip/y/lem.py puts them together. No program in sight. No condition.
-/
import Derived.Test.YteikcdofblclhaaDoorZP4
namespace Go.Proofs.YteikcdofblclhaaDoor
def nIntS (a : List Int) : Nat := a.length
def nIntSS (a : List (List Int)) : Nat := rowsN a
def lensIntSS (a : List (List Int)) : Prop := lensOk a
theorem niceLensIntSS {a : List (List Int)} (h : Nice.ok a) : lensIntSS a := niceLens h
def cIntS (a : List Int) : Nat := rowN a
def cIntSS (a : List (List Int)) : Nat := tot rowN a
theorem cIntS_le (a : List Int) : cIntS a ≤ 8 * nIntS a := by unfold cIntS nIntS rowN; omega
theorem cIntSS_le (a : List (List Int)) : cIntSS a ≤ 8 * nIntSS a := by unfold cIntSS nIntSS rowsN; omega
def mk_IntS := mkS
def mk_IntSS := mkSS
theorem mk_IntS_snd (a : List Int) (k : Int) : (mk_IntS a k).2 = k + cIntS a := mkS_snd a k
theorem mk_IntSS_snd (a : List (List Int)) (k : Int) : (mk_IntSS a k).2 = k + cIntSS a := mkSS_snd a k
theorem z_IntSS (a : List (List Int)) (left : Int) (h0 : 0 ≤ left) (h1 : left ≤ bigN) (hl : lensIntSS a) : F_laws_szIntSS a left = some (if (nIntSS a : Int) ≤ left then left - nIntSS a else -1) := szIntSS a left h0 h1 hl
theorem t_IntS (a : List Int) (h : nIntS a ≤ 1048576) : F_laws_toIntS a = some a := by
  have hm : maxN = 1099511627776 := rfl
  exact toIntS a (by unfold nIntS at h; omega)
theorem t_IntSS (a : List (List Int)) (h : nIntSS a ≤ 1048576) : F_laws_toIntSS a = some a := toIntSS_of a h
theorem e_IntS (a : List Int) (h : nIntS a ≤ 1048576) : F_laws_eqIntS a a = some true := by rw [eqIntS a a (by unfold nIntS at h; unfold lenOk; omega), show decide (a = a) = true from dT rfl]
theorem e_IntSS (a : List (List Int)) (h : nIntSS a ≤ 1048576) : F_laws_eqIntSS a a = some true := eqIntSS_same a (lensOk_of h)
theorem m_IntS (a : List Int) (k : Int) (h0 : 0 ≤ k) (h : k + 8 * nIntS a ≤ 1125899906842624) : F_laws_markIntS a k = some (mk_IntS a k) := markIntS a k h0 (by unfold nIntS at h; unfold rowN bigN; omega)
theorem m_IntSS (a : List (List Int)) (k : Int) (h0 : 0 ≤ k) (h : k + 8 * nIntSS a ≤ 1125899906842624) : F_laws_markIntSS a k = some (mk_IntSS a k) := markIntSS a k h0 (by unfold nIntSS rowsN at h; unfold bigN; omega) (by unfold nIntSS rowsN at h; unfold bigN; omega)
theorem h_IntSS (a : List (List Int)) (k : Int) (h0 : 0 ≤ k) (h : k + 8 * nIntSS a ≤ 1125899906842624) : F_laws_heldIntSS (mk_IntSS a k).1 k = some (k + cIntSS a) := heldIntSS a k h0 (by unfold nIntSS rowsN at h; unfold bigN; omega) (by unfold nIntSS rowsN at h; unfold bigN; omega)
end Go.Proofs.YteikcdofblclhaaDoor
