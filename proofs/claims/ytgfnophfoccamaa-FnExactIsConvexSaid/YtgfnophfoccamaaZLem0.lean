/-
  Plain laws: the law's helpers for lists of numbers and of rows, in the form in which wip/y/lem.py puts them together. No program in sight. No condition.
-/
import Derived.Test.YtgfnophfoccamaaZP4
namespace Go.Proofs.Ytgfnophfoccamaa
def nIntS (a : List Int) : Nat := a.length
def lensIntS (a : List Int) : Prop := lenOk a
theorem niceLensIntS {a : List Int} (h : Nice.ok a) : lensIntS a := h.1
theorem z_IntS (a : List Int) (left : Int) (h0 : 0 ≤ left) (h1 : left ≤ bigN) (hl : lensIntS a) : F_laws_szIntS a left = some (if (nIntS a : Int) ≤ left then left - nIntS a else -1) := szIntS a left h0 h1 hl
theorem t_IntS (a : List Int) (h : nIntS a ≤ 1048576) : F_laws_toIntS a = some a := by
  have hm : maxN = 1099511627776 := rfl
  exact toIntS a (by unfold nIntS at h; omega)
theorem e_IntS (a : List Int) (h : nIntS a ≤ 1048576) : F_laws_eqIntS a a = some true := by rw [eqIntS a a (by unfold nIntS at h; unfold lenOk; omega), show decide (a = a) = true from dT rfl]
end Go.Proofs.Ytgfnophfoccamaa
