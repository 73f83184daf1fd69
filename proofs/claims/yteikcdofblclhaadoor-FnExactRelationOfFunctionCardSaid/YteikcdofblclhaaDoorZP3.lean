/-
  Plain laws: the law's helpers for lists of numbers and lists of rows. No program in sight. No condition.
-/
import Derived.Test.YteikcdofblclhaaDoorZP2
import Derived.Test.YteikcdofblclhaaDoorZFn
namespace Go.Proofs.YteikcdofblclhaaDoor

def one {α : Type} (_ : α) : Nat := 1
theorem tot_one {α : Type} (l : List α) : tot one l = l.length := by
  induction l with
  | nil => rfl
  | cons a l ih => rw [tot_cons, ih, List.length_cons]; show 1 + _ = _; omega
theorem tot_mem {α : Type} {n : α → Nat} {l : List α} {a : α} (h : a ∈ l) : n a ≤ tot n l := by
  induction l with
  | nil => cases h
  | cons b l ih =>
    rw [tot_cons]
    cases h with
    | head => omega
    | tail _ h => have := ih h; omega
theorem mem_of_get {α : Type} {l : List α} {j : Nat} {a : α} (h : l[j]? = some a) : a ∈ l := List.mem_of_getElem? h

/-- the length of a list is a number of Go -/
def lenOk {α : Type} (l : List α) : Prop := (l.length : Int) ≤ 9223372036854775807

theorem szIntS (a : List Int) (left : Int) (h0 : 0 ≤ left) (h1 : left ≤ bigN) (hl : lenOk a) : F_laws_szIntS a left = some (if (a.length : Int) ≤ left then left - a.length else -1) := by
  unfold lenOk at hl; unfold bigN at h1
  refine bnd (subO_of (by omega) (by omega)) (stp ?_)
  by_cases h : (a.length : Int) ≤ left
  · rw [if_pos h]; exact cFW (dF (by omega)) rfl
  · rw [if_neg h]; exact cTW (dT (by omega)) rfl
def rowN (r : List Int) : Nat := r.length
def rowsN (m : List (List Int)) : Nat := m.length + tot rowN m
def lensOk (m : List (List Int)) : Prop := lenOk m ∧ ∀ r ∈ m, lenOk r
theorem niceLens {m : List (List Int)} (h : Nice.ok m) : lensOk m := ⟨h.1, fun r hr => (h.2 r hr).1⟩
theorem szIntSS (a : List (List Int)) (left : Int) (h0 : 0 ≤ left) (h1 : left ≤ bigN) (hl : lensOk a) : F_laws_szIntSS a left = some (if (rowsN a : Int) ≤ left then left - rowsN a else -1) := by
  have hl1 := hl.1; unfold lenOk at hl1; unfold bigN at h1
  unfold rowsN
  refine bnd (subO_of (by omega) (by omega)) (stp ?_)
  by_cases h : (a.length : Int) ≤ left
  · refine cFW (dF (by omega)) (sqW (sz_loop rowN a (left - a.length) ?_ ?_ a [] _ rfl ?_ (Int.le_refl _)) ?_)
    · intro j r s hj hjl hs hsB
      dsimp only
      refine stp (cTW (dT (by omega)) (bnd (idxO_of hj) (bnd (szIntS r s hs (by unfold bigN; omega) (hl.2 r (mem_of_get hj))) (stp ?_))))
      unfold rowN
      by_cases h2 : (r.length : Int) ≤ s
      · rw [if_pos h2, if_pos h2]; exact cFW (dF (by omega)) (bnd (addO_of (by omega) (by omega)) rfl)
      · rw [if_neg h2, if_neg h2]; exact cTW (dT (by omega)) rfl
    · intro s; dsimp only; exact stp (cFW (dF (by omega)) rfl)
    · omega
    · by_cases h2 : (tot rowN a : Int) ≤ left - a.length
      · rw [if_pos h2, if_pos (by omega), seqO_l]; congr 1; omega
      · rw [if_neg h2, if_neg (by omega), seqO_r]
  · rw [if_neg (by omega)]; exact cTW (dT (by omega)) rfl
theorem toIntS (a : List Int) (hl : a.length ≤ maxN) : F_laws_toIntS a = some a := by
  have hm : maxN = 1099511627776 := rfl
  refine bnd (makeO_of _ hl) (bnd (to_loop (0 : Int) a ?_ ?_ a [] rfl) rfl)
  · intro j x s hj hjl hs
    dsimp only
    exact stp (cTW (dT (by omega)) (bnd (idxO_of hj) (bnd (setO_of _ (by omega)) (bnd (addO_of (by omega) (by omega)) rfl))))
  · intro s hs; dsimp only; exact stp (cFW (dF (by omega)) rfl)
theorem toIntSS (a : List (List Int)) (hl : a.length ≤ maxN) (hr : ∀ r ∈ a, r.length ≤ maxN) : F_laws_toIntSS a = some a := by
  have hm : maxN = 1099511627776 := rfl
  refine bnd (makeO_of _ hl) (bnd (to_loop ([] : List Int) a ?_ ?_ a [] rfl) rfl)
  · intro j x s hj hjl hs
    dsimp only
    exact stp (cTW (dT (by omega)) (bnd (idxO_of hj) (bnd (toIntS x (hr x (mem_of_get hj))) (bnd (setO_of _ (by omega)) (bnd (addO_of (by omega) (by omega)) rfl)))))
  · intro s hs; dsimp only; exact stp (cFW (dF (by omega)) rfl)
theorem eqIntS (a b : List Int) (hl : lenOk a) : F_laws_eqIntS a b = some (decide (a = b)) := by
  unfold lenOk at hl
  refine stp ?_
  by_cases h : a.length = b.length
  · refine cFW (nT (dT (by omega))) (sqW (eq_loop a b ?_ ?_ a b [] [] rfl rfl rfl h) ?_)
    · intro j x y hx hy hj
      refine stp (cTW (dT (by omega)) (bnd (idxO_of hx) (bnd (idxO_of hy) (stp ?_))))
      by_cases h2 : x = y
      · rw [if_pos h2]; exact cFW (nT (dT h2)) (bnd (addO_of (by omega) (by omega)) rfl)
      · rw [if_neg h2]; exact cTW (nF (dF h2)) rfl
    · exact stp (cFW (dF (by omega)) rfl)
    · by_cases h2 : a = b
      · rw [if_pos h2, show decide (a = b) = true from dT h2]; rfl
      · rw [if_neg h2, show decide (a = b) = false from dF h2]; rfl
  · rw [show decide (a = b) = false from dF (fun h2 => h (by rw [h2]))]; exact cTW (nF (dF (by omega))) rfl
theorem eqIntSS (a b : List (List Int)) (hl : lensOk a) : F_laws_eqIntSS a b = some (decide (a = b)) := by
  have hl1 := hl.1; unfold lenOk at hl1
  refine stp ?_
  by_cases h : a.length = b.length
  · refine cFW (nT (dT (by omega))) (sqW (eq_loop a b ?_ ?_ a b [] [] rfl rfl rfl h) ?_)
    · intro j x y hx hy hj
      refine stp (cTW (dT (by omega)) (bnd (idxO_of hx) (bnd (idxO_of hy) (bnd (eqIntS x y (hl.2 x (mem_of_get hx))) (stp ?_)))))
      by_cases h2 : x = y
      · rw [if_pos h2]; exact cFW (nT (dT h2)) (bnd (addO_of (by omega) (by omega)) rfl)
      · rw [if_neg h2]; exact cTW (nF (dF h2)) rfl
    · exact stp (cFW (dF (by omega)) rfl)
    · by_cases h2 : a = b
      · rw [if_pos h2, show decide (a = b) = true from dT h2]; rfl
      · rw [if_neg h2, show decide (a = b) = false from dF h2]; rfl
  · rw [show decide (a = b) = false from dF (fun h2 => h (by rw [h2]))]; exact cTW (nF (dF (by omega))) rfl
def mkI (_ : Int) (k : Int) : Int × Int := (k, k + 1)
def mkS : List Int → Int → List Int × Int := mkL mkI
def mkSS : List (List Int) → Int → List (List Int) × Int := mkL mkS
theorem mkI_snd (a k : Int) : (mkI a k).2 = k + one a := rfl
theorem mkS_snd (a : List Int) (k : Int) : (mkS a k).2 = k + rowN a := by
  rw [show (mkS a k).2 = k + tot one a from mkL_snd mkI one mkI_snd a k, tot_one]; rfl
theorem mkSS_snd (a : List (List Int)) (k : Int) : (mkSS a k).2 = k + tot rowN a := mkL_snd mkS rowN mkS_snd a k
theorem mkS_len (a : List Int) (k : Int) : (mkS a k).1.length = a.length := mkL_len mkI a k
theorem mkSS_len (a : List (List Int)) (k : Int) : (mkSS a k).1.length = a.length := mkL_len mkS a k
theorem markIntS (a : List Int) (k : Int) (h0 : 0 ≤ k) (hb : k + rowN a ≤ bigN) : F_laws_markIntS a k = some (mkS a k) := by
  unfold rowN at hb; unfold bigN at hb
  refine bnd (mark_loop (fun _ => True) mkI one mkI_snd a.length 4611686018427387904 ?_ ?_ a [] k (by simp) (fun _ _ => trivial) h0 (by rw [tot_one]; omega)) rfl
  · intro j x s q hj _ hs hjl hq hB
    dsimp only
    have h1 : (one x : Int) = 1 := rfl
    exact stp (cTW (dT (by omega)) (bnd (setO_of _ (by omega)) (bnd (addO_of (by omega) (by omega)) (bnd (addO_of (by omega) (by omega)) rfl))))
  · intro s q hs; dsimp only; exact stp (cFW (dF (by omega)) rfl)
theorem markIntSS (a : List (List Int)) (k : Int) (h0 : 0 ≤ k) (ha : (a.length : Int) ≤ bigN) (hb : k + tot rowN a ≤ bigN) : F_laws_markIntSS a k = some (mkSS a k) := by
  unfold bigN at hb ha
  refine bnd (mark_loop (fun _ => True) mkS rowN mkS_snd a.length 4611686018427387904 ?_ ?_ a [] k (by simp) (fun _ _ => trivial) h0 (by omega)) rfl
  · intro j x s q hj _ hs hjl hq hB
    dsimp only
    exact stp (cTW (dT (by omega)) (bnd (idxO_of hj) (bnd (markIntS x q hq hB) (bnd (setO_of _ (by omega)) (bnd (addO_of (by omega) (by omega)) rfl)))))
  · intro s q hs; dsimp only; exact stp (cFW (dF (by omega)) rfl)
theorem heldIntS (a : List Int) (k : Int) (h0 : 0 ≤ k) (hb : k + rowN a ≤ bigN) : F_laws_heldIntS (mkS a k).1 k = some (k + rowN a) := by
  unfold rowN at hb ⊢; unfold bigN at hb
  refine sqW (held_loop (fun _ => True) mkI one mkI_snd (mkS a k).1 4611686018427387904 ?_ ?_ a [] k rfl (fun _ _ => trivial) h0 (by rw [tot_one]; omega)) ?_
  · intro j x q hj _ hjl hq hB
    dsimp only
    have h1 : (one x : Int) = 1 := rfl
    rw [mkS_len] at hjl
    have h2 := mkS_len a k
    exact stp (cTW (dT (by omega)) (bnd (idxO_of hj) (stp (cFW (nT (dT rfl)) (bnd (addO_of (by omega) (by omega)) (bnd (addO_of (by omega) (by omega)) rfl))))))
  · intro q; dsimp only; exact stp (cFW (dF (by omega)) rfl)
  · rw [tot_one]; rfl
theorem heldIntSS (a : List (List Int)) (k : Int) (h0 : 0 ≤ k) (ha : (a.length : Int) ≤ bigN) (hb : k + tot rowN a ≤ bigN) : F_laws_heldIntSS (mkSS a k).1 k = some (k + tot rowN a) := by
  unfold bigN at hb ha
  refine sqW (held_loop (fun _ => True) mkS rowN mkS_snd (mkSS a k).1 4611686018427387904 ?_ ?_ a [] k rfl (fun _ _ => trivial) h0 (by omega)) ?_
  · intro j x q hj _ hjl hq hB
    dsimp only
    rw [mkSS_len] at hjl
    have h2 := mkSS_len a k
    exact stp (cTW (dT (by omega)) (bnd (idxO_of hj) (bnd (heldIntS x q hq hB) (stp (cFW (dF (by omega)) (bnd (addO_of (by omega) (by omega)) rfl))))))
  · intro q; dsimp only; exact stp (cFW (dF (by omega)) rfl)
  · rfl
end Go.Proofs.YteikcdofblclhaaDoor
