/-
  Plain laws: the law's helpers for state spaces and lists of matrices. No program in sight. No condition.
-/
import Derived.Test.YteikcdofblclhaaDoorZP3
namespace Go.Proofs.YteikcdofblclhaaDoor

abbrev Mat := Int × List (List Int)
theorem rowsN_len (m : List (List Int)) (r : List Int) (h : r ∈ m) : r.length ≤ rowsN m := by
  have := tot_mem (n := rowN) h; unfold rowsN; unfold rowN at this ⊢; omega
theorem rowsN_len0 (m : List (List Int)) : m.length ≤ rowsN m := by unfold rowsN; omega
theorem lensOk_of {m : List (List Int)} (h : rowsN m ≤ 1048576) : lensOk m := by
  refine ⟨?_, fun r hr => ?_⟩
  · have := rowsN_len0 m; unfold lenOk; omega
  · have := rowsN_len m r hr; unfold lenOk; omega
theorem toIntSS_of (m : List (List Int)) (h : rowsN m ≤ 1048576) : F_laws_toIntSS m = some m := by
  have hm : maxN = 1099511627776 := rfl
  exact toIntSS m (by have := rowsN_len0 m; omega) (fun r hr => by have := rowsN_len m r hr; omega)
theorem eqIntSS_same (m : List (List Int)) (h : lensOk m) : F_laws_eqIntSS m m = some true := by rw [eqIntSS m m h, show decide (m = m) = true from dT rfl]
end Go.Proofs.YteikcdofblclhaaDoor
