/-
  Plain laws: the law's helpers for lists of numbers and lists of rows. No program in sight. No condition.
-/
import Derived.Test.YtgfnophfoccamaaZP2
import Derived.Test.YtgfnophfoccamaaZFn
namespace Go.Proofs.Ytgfnophfoccamaa

def one {α : Type} (_ : α) : Nat := 1
theorem tot_one {α : Type} (l : List α) : tot one l = l.length := by
  induction l with
  | nil => rfl
  | cons a l ih => rw [tot_cons, ih, List.length_cons]; show 1 + _ = _; omega
theorem tot_mem {α : Type} {n : α → Nat} {l : List α} {a : α} (h : a ∈ l) : n a ≤ tot n l := by
  induction l with
  | nil => cases h
  | cons b l ih =>
    rw [tot_cons]
    cases h with
    | head => omega
    | tail _ h => have := ih h; omega
theorem mem_of_get {α : Type} {l : List α} {j : Nat} {a : α} (h : l[j]? = some a) : a ∈ l := List.mem_of_getElem? h

/-- the length of a list is a number of Go -/
def lenOk {α : Type} (l : List α) : Prop := (l.length : Int) ≤ 9223372036854775807

def rowN (r : List Int) : Nat := r.length
theorem eqIntS (a b : List Int) (hl : lenOk a) : F_laws_eqIntS a b = some (decide (a = b)) := by
  unfold lenOk at hl
  refine stp ?_
  by_cases h : a.length = b.length
  · refine cFW (nT (dT (by omega))) (sqW (eq_loop a b ?_ ?_ a b [] [] rfl rfl rfl h) ?_)
    · intro j x y hx hy hj
      refine stp (cTW (dT (by omega)) (bnd (idxO_of hx) (bnd (idxO_of hy) (stp ?_))))
      by_cases h2 : x = y
      · rw [if_pos h2]; exact cFW (nT (dT h2)) (bnd (addO_of (by omega) (by omega)) rfl)
      · rw [if_neg h2]; exact cTW (nF (dF h2)) rfl
    · exact stp (cFW (dF (by omega)) rfl)
    · by_cases h2 : a = b
      · rw [if_pos h2, show decide (a = b) = true from dT h2]; rfl
      · rw [if_neg h2, show decide (a = b) = false from dF h2]; rfl
  · rw [show decide (a = b) = false from dF (fun h2 => h (by rw [h2]))]; exact cTW (nF (dF (by omega))) rfl
def mkI (_ : Int) (k : Int) : Int × Int := (k, k + 1)
def mkS : List Int → Int → List Int × Int := mkL mkI
theorem mkI_snd (a k : Int) : (mkI a k).2 = k + one a := rfl
theorem mkS_snd (a : List Int) (k : Int) : (mkS a k).2 = k + rowN a := by
  rw [show (mkS a k).2 = k + tot one a from mkL_snd mkI one mkI_snd a k, tot_one]; rfl
theorem mkS_len (a : List Int) (k : Int) : (mkS a k).1.length = a.length := mkL_len mkI a k
theorem markIntS (a : List Int) (k : Int) (h0 : 0 ≤ k) (hb : k + rowN a ≤ bigN) : F_laws_markIntS a k = some (mkS a k) := by
  unfold rowN at hb; unfold bigN at hb
  refine bnd (mark_loop (fun _ => True) mkI one mkI_snd a.length 4611686018427387904 ?_ ?_ a [] k (by simp) (fun _ _ => trivial) h0 (by rw [tot_one]; omega)) rfl
  · intro j x s q hj _ hs hjl hq hB
    dsimp only
    have h1 : (one x : Int) = 1 := rfl
    exact stp (cTW (dT (by omega)) (bnd (setO_of _ (by omega)) (bnd (addO_of (by omega) (by omega)) (bnd (addO_of (by omega) (by omega)) rfl))))
  · intro s q hs; dsimp only; exact stp (cFW (dF (by omega)) rfl)
theorem heldIntS (a : List Int) (k : Int) (h0 : 0 ≤ k) (hb : k + rowN a ≤ bigN) : F_laws_heldIntS (mkS a k).1 k = some (k + rowN a) := by
  unfold rowN at hb ⊢; unfold bigN at hb
  refine sqW (held_loop (fun _ => True) mkI one mkI_snd (mkS a k).1 4611686018427387904 ?_ ?_ a [] k rfl (fun _ _ => trivial) h0 (by rw [tot_one]; omega)) ?_
  · intro j x q hj _ hjl hq hB
    dsimp only
    have h1 : (one x : Int) = 1 := rfl
    rw [mkS_len] at hjl
    have h2 := mkS_len a k
    exact stp (cTW (dT (by omega)) (bnd (idxO_of hj) (stp (cFW (nT (dT rfl)) (bnd (addO_of (by omega) (by omega)) (bnd (addO_of (by omega) (by omega)) rfl))))))
  · intro q; dsimp only; exact stp (cFW (dF (by omega)) rfl)
  · rw [tot_one]; rfl
end Go.Proofs.Ytgfnophfoccamaa
