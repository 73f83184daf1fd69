/-
  Plain laws: the law's helpers for lists of numbers and lists of rows. No program in sight. No condition.
-/
import Derived.Test.YtgfnophfoccamaaZP2
import Derived.Test.YtgfnophfoccamaaZFn
namespace Go.Proofs.Ytgfnophfoccamaa

def one {α : Type} (_ : α) : Nat := 1
theorem tot_mem {α : Type} {n : α → Nat} {l : List α} {a : α} (h : a ∈ l) : n a ≤ tot n l := by
  induction l with
  | nil => cases h
  | cons b l ih =>
    rw [tot_cons]
    cases h with
    | head => omega
    | tail _ h => have := ih h; omega
theorem mem_of_get {α : Type} {l : List α} {j : Nat} {a : α} (h : l[j]? = some a) : a ∈ l := List.mem_of_getElem? h

/-- the length of a list is a number of Go -/
def lenOk {α : Type} (l : List α) : Prop := (l.length : Int) ≤ 9223372036854775807

theorem szIntS (a : List Int) (left : Int) (h0 : 0 ≤ left) (h1 : left ≤ bigN) (hl : lenOk a) : F_laws_szIntS a left = some (if (a.length : Int) ≤ left then left - a.length else -1) := by
  unfold lenOk at hl; unfold bigN at h1
  refine bnd (subO_of (by omega) (by omega)) (stp ?_)
  by_cases h : (a.length : Int) ≤ left
  · rw [if_pos h]; exact cFW (dF (by omega)) rfl
  · rw [if_neg h]; exact cTW (dT (by omega)) rfl
theorem toIntS (a : List Int) (hl : a.length ≤ maxN) : F_laws_toIntS a = some a := by
  have hm : maxN = 1099511627776 := rfl
  refine bnd (makeO_of _ hl) (bnd (to_loop (0 : Int) a ?_ ?_ a [] rfl) rfl)
  · intro j x s hj hjl hs
    dsimp only
    exact stp (cTW (dT (by omega)) (bnd (idxO_of hj) (bnd (setO_of _ (by omega)) (bnd (addO_of (by omega) (by omega)) rfl))))
  · intro s hs; dsimp only; exact stp (cFW (dF (by omega)) rfl)
theorem eqIntS (a b : List Int) (hl : lenOk a) : F_laws_eqIntS a b = some (decide (a = b)) := by
  unfold lenOk at hl
  refine stp ?_
  by_cases h : a.length = b.length
  · refine cFW (nT (dT (by omega))) (sqW (eq_loop a b ?_ ?_ a b [] [] rfl rfl rfl h) ?_)
    · intro j x y hx hy hj
      refine stp (cTW (dT (by omega)) (bnd (idxO_of hx) (bnd (idxO_of hy) (stp ?_))))
      by_cases h2 : x = y
      · rw [if_pos h2]; exact cFW (nT (dT h2)) (bnd (addO_of (by omega) (by omega)) rfl)
      · rw [if_neg h2]; exact cTW (nF (dF h2)) rfl
    · exact stp (cFW (dF (by omega)) rfl)
    · by_cases h2 : a = b
      · rw [if_pos h2, show decide (a = b) = true from dT h2]; rfl
      · rw [if_neg h2, show decide (a = b) = false from dF h2]; rfl
  · rw [show decide (a = b) = false from dF (fun h2 => h (by rw [h2]))]; exact cTW (nF (dF (by omega))) rfl
end Go.Proofs.Ytgfnophfoccamaa
