/-
  Plain laws: the law's helpers for lists of numbers and of rows, in the form in which wip/y/lem.py puts them together. No program in sight. No condition.
-/
import Derived.Test.YtgfnophfoccamaaZP4
namespace Go.Proofs.Ytgfnophfoccamaa
def nIntS (a : List Int) : Nat := a.length
def cIntS (a : List Int) : Nat := rowN a
theorem cIntS_le (a : List Int) : cIntS a ≤ 8 * nIntS a := by unfold cIntS nIntS rowN; omega
def mk_IntS := mkS
theorem mk_IntS_snd (a : List Int) (k : Int) : (mk_IntS a k).2 = k + cIntS a := mkS_snd a k
theorem e_IntS (a : List Int) (h : nIntS a ≤ 1048576) : F_laws_eqIntS a a = some true := by rw [eqIntS a a (by unfold nIntS at h; unfold lenOk; omega), show decide (a = a) = true from dT rfl]
theorem m_IntS (a : List Int) (k : Int) (h0 : 0 ≤ k) (h : k + 8 * nIntS a ≤ 1125899906842624) : F_laws_markIntS a k = some (mk_IntS a k) := markIntS a k h0 (by unfold nIntS at h; unfold rowN bigN; omega)
theorem h_IntS (a : List Int) (k : Int) (h0 : 0 ≤ k) (h : k + 8 * nIntS a ≤ 1125899906842624) : F_laws_heldIntS (mk_IntS a k).1 k = some (k + cIntS a) := heldIntS a k h0 (by unfold nIntS at h; unfold rowN bigN; omega)
end Go.Proofs.Ytgfnophfoccamaa
