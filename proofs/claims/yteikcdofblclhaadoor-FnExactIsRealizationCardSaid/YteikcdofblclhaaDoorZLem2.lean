/-
  Plain laws: the helpers of the statements for lists of matrices. No program in sight. No condition.
-/
import Derived.Test.YteikcdofblclhaaDoorZP14
import Derived.Test.YteikcdofblclhaaDoorZLem1
namespace Go.Proofs.YteikcdofblclhaaDoor
set_option linter.unusedVariables false

abbrev TyMatrixS := List TyMatrix
def nMatrixS (a : TyMatrixS) : Nat := matsS a
def lensMatrixS (a : TyMatrixS) : Prop := lenOk a ∧ ∀ m ∈ a, lensOk m.2
theorem niceLensMatrixS {a : TyMatrixS} (h : Nice.ok a) : lensMatrixS a := ⟨h.1, fun m hm => niceLens (h.2 m hm).2⟩
theorem z_MatrixS (a : TyMatrixS) (left : Int) (h0 : 0 ≤ left) (h1 : left ≤ bigN) (hl : lensMatrixS a) : F_laws_szMatrixS a left = some (if (nMatrixS a : Int) ≤ left then left - nMatrixS a else -1) := szMatrixS_ a left h0 h1 hl.1 hl.2
theorem t_MatrixS (a : TyMatrixS) (h : nMatrixS a ≤ 1048576) : F_laws_toMatrixS a = some a := toMatrixS_ a h
theorem e_MatrixS (a : TyMatrixS) (h : nMatrixS a ≤ 1048576) : F_laws_eqMatrixS a a = some true := by
  have hb : bigN = 4611686018427387904 := rfl
  refine eqMatrixS_same a (by unfold lenOk; unfold nMatrixS matsS at h; omega) (fun m hm => ?_)
  have h1 := mats_mem hm
  unfold nMatrixS at h
  refine ⟨?_, fun r hr => ?_⟩
  · have := rowsN_len0 m.2; unfold lenOk; omega
  · have := rowsN_len m.2 r hr; unfold lenOk; omega
end Go.Proofs.YteikcdofblclhaaDoor
