/-
  Plain law of SameOutputs: the law's partial function yields true. No program in sight. No condition.
-/
import Derived.Test.YtnlbhdepagkjgaaDoorYP8
namespace Go.Proofs.YtnlbhdepagkjgaaDoor

theorem forO_eq {α : Type} [DecidableEq α] {f : Nat → Unit → Option (Unit ⊕ Bool)} : ∀ (L M : List α) (k : Nat), L.length = M.length →
    (∀ (j : Nat) (a b : α), L[j]? = some a → M[j]? = some b → f (k + j) () = some (if a = b then .inl () else .inr false)) → forO f L.length k () = some (if L = M then .inl () else .inr false)
  | [], [], _, _, _ => rfl
  | [], _ :: _, _, h, _ => by simp at h
  | _ :: _, [], _, h, _ => by simp at h
  | a :: L, b :: M, k, hl, h => by
    have h0 : f k () = _ := h 0 a b rfl rfl
    show (f k ()).bind _ = _
    rw [h0]
    by_cases hab : a = b
    · rw [if_pos hab]
      have ih := forO_eq L M (k + 1) (by simpa using hl) (fun j x y hx hy => by
        have := h (j + 1) x y (by simpa using hx) (by simpa using hy)
        rw [show k + 1 + j = k + (j + 1) by omega]; exact this)
      show forO f L.length (k + 1) () = _
      rw [ih]
      by_cases h2 : L = M
      · rw [if_pos h2, if_pos (by rw [hab, h2])]
      · rw [if_neg h2, if_neg (fun h3 => h2 (List.cons.inj h3).2)]
    · rw [if_neg hab, if_neg (fun h3 => hab (List.cons.inj h3).1)]; rfl
/-- a comparison by length and element -/
theorem same_of {α : Type} [DecidableEq α] {f : Nat → Unit → Option (Unit ⊕ Bool)} (L M : List α)
    (h : L.length = M.length → ∀ (j : Nat) (a b : α), L[j]? = some a → M[j]? = some b → f j () = some (if a = b then .inl () else .inr false)) :
    ((some (!decide (((L.length : Nat) : Int) = ((M.length : Nat) : Int)))).bind fun c => cond c (some false) (seqO (forO f L.length 0 ()) fun (_ : Unit) => some true)) = some (decide (L = M)) := by
  refine stp ?_
  by_cases hl : L.length = M.length
  · refine cFW (nT (dT (by omega))) (sqW (forO_eq L M 0 hl (fun j a b ha hb => by rw [Nat.zero_add]; exact h hl j a b ha hb)) ?_)
    by_cases h2 : L = M
    · rw [if_pos h2, show decide (L = M) = true from dT h2]; rfl
    · rw [if_neg h2, show decide (L = M) = false from dF h2]; rfl
  · rw [show decide (L = M) = false from dF (fun h2 => hl (by rw [h2]))]
    exact cTW (nF (dF (by omega))) rfl
theorem stepE {α : Type} {a b : α} [DecidableEq α] : (some (!decide (a = b))).bind (fun c => cond c (some (Sum.inr false)) (some (Sum.inl ()))) = some (if a = b then (.inl () : Unit ⊕ Bool) else .inr false) := by
  by_cases h : a = b
  · rw [if_pos h]; exact stp (cFW (nT (dT h)) rfl)
  · rw [if_neg h]; exact stp (cTW (nF (dF h)) rfl)
theorem l1Same (a b : List Int) : F_spec_l1Same a b = some (decide (a = b)) :=
  same_of a b (fun _ _ _ _ hx hy => bnd (idxO_of hx) (bnd (idxO_of hy) stepE))
theorem spSame (a b : List (List Int)) : F_spec_spSame a b = some (decide (a = b)) :=
  same_of a b (fun _ _ x y hx hy => bnd (idxO_of hx) (bnd (idxO_of hy) (bnd (l1Same x y) stepE)))
theorem slEqual (a b : List Int) : F_slices_Equal_int_int a b = some (decide (a = b)) :=
  same_of a b (fun _ _ _ _ hx hy => bnd (idxO_of hx) (bnd (idxO_of hy) stepE))
theorem slEqual2 (a b : List (List Int)) : F_slices_EqualFunc_int_int_int_int_slices_Equal_int_int a b = some (decide (a = b)) :=
  same_of a b (fun _ _ x y hx hy => bnd (idxO_of hx) (bnd (idxO_of hy) (bnd (slEqual x y) stepE)))
theorem equalMat (a b : Mat) : F_impl_equalMatrices a b = some (decide (a = b)) := by
  obtain ⟨c, m⟩ := a
  obtain ⟨d, n⟩ := b
  refine bnd (a := decide ((c, m) = (d, n))) (stp ?_) rfl
  by_cases h : c = d
  · refine cTW (dT h) (bnd (bnd (slEqual2 m n) rfl) ?_)
    subst h
    simp
  · refine cFW (dF h) ?_
    rw [dF (fun h2 => h (Prod.ext_iff.1 h2).1)]
theorem equalMats (a b : List Mat) : F_slices_EqualFunc_impl_Matrix_impl_Matrix_impl_Matrix_impl_Matrix_impl_equalMatrices a b = some (decide (a = b)) :=
  same_of a b (fun _ _ x y hx hy => bnd (idxO_of hx) (bnd (idxO_of hy) (bnd (equalMat x y) stepE)))
def twoB (p : Int) (a b : SSt) : Bool := ssB p a && (ssB p b && (decide (a.2.1 = b.2.1) && decide (a.2.2.1 = b.2.2.1)))
theorem ssTwo (p : Int) (a b : SSt) : F_spec_ssTwo p a b = some (twoB p a b) := by
  refine bnd (a := twoB p a b) ?_ rfl
  refine bndB (ssGood p a) (fun _ => rfl) (fun _ => cTW rfl ?_)
  refine bndB (ssGood p b) (fun _ => rfl) (fun _ => cTW rfl (stp ?_))
  cases decide (a.2.1 = b.2.1) <;> rfl
theorem twoSS (p : Int) (a b : SSt) : F_impl_twoStateSpaces p a b = some (twoB p a b) := by
  refine bnd (a := twoB p a b) ?_ rfl
  refine bndB (isSS p a) (fun _ => rfl) (fun _ => cTW rfl ?_)
  refine bndB (isSS p b) (fun _ => rfl) (fun _ => cTW rfl (stp ?_))
  cases decide (a.2.1 = b.2.1) <;> rfl
theorem mkv_fst (p : Int) (n o : Nat) (s : SSt) : ∀ j, ∀ m ∈ (mkv p n o s j).1, m.1 = o
  | 0, m, hm => by cases hm
  | j + 1, m, hm => by
    rw [mkv_succ] at hm
    split at hm
    all_goals
      rcases List.mem_append.1 hm with h | h
      · exact mkv_fst p n o s j m h
      · rw [List.mem_singleton.1 h]
def sameB (p : Int) (a b : SSt) : Bool := decide ((mkv p a.1.toNat a.2.2.1.toNat a (a.1 + b.1 + 1).toNat).1 = (mkv p b.1.toNat b.2.2.1.toNat b (a.1 + b.1 + 1).toNat).1)
theorem sameSpec {p : Int} {a b : SSt} (h : twoB p a b = true) : F_spec_ssSame p a b = some (sameB p a b) := by
  unfold twoB at h
  simp only [Bool.and_eq_true, decide_eq_true_eq] at h
  obtain ⟨ha, hb, h1, h2⟩ := h
  obtain ⟨n, k, o, sa⟩ := ssB_ok ha
  obtain ⟨n', k', o', sb⟩ := ssB_ok hb
  have e1 := sa.h1; have e2 := sb.h1; have e3 := sa.h3; have e4 := sb.h3
  have g1 := sa.hn; have g2 := sb.hn
  unfold sameB
  rw [show a.1.toNat = n by omega, show b.1.toNat = n' by omega, show a.2.2.1.toNat = o by omega, show b.2.2.1.toNat = o' by omega]
  obtain ⟨q, hq⟩ : ∃ q : Nat, a.1 + b.1 + 1 = (q : Int) := ⟨(a.1 + b.1 + 1).toNat, by omega⟩
  refine bnd (addO_of (by omega) (by omega)) (bnd (addO_of (by omega) (by omega)) ?_)
  rw [hq, Int.toNat_natCast]
  refine bnd (ssMarkov_ sa q (by omega)) (bnd (ssMarkov_ sb q (by omega)) ?_)
  refine sqW (forO_eq _ (mkv p n' o' b q).1 0 (by rw [(mkv_ok sa q).1, (mkv_ok sb q).1]) ?_) ?_
  · intro j x y hx hy
    rw [Nat.zero_add]
    refine bnd (idxO_of hx) (bnd (idxO_of hy) (bnd (spSame x.2 y.2) ?_))
    have f1 := mkv_fst p n o a q x (mem_of_get hx)
    have f2 := mkv_fst p n' o' b q y (mem_of_get hy)
    have hxy : (x.2 = y.2) ↔ x = y := ⟨fun h => Prod.ext (by omega) h, fun h => by rw [h]⟩
    rw [show decide (x.2 = y.2) = decide (x = y) from decide_eq_decide.2 hxy]
    exact stepE
  · by_cases h : (mkv p n o a q).1 = (mkv p n' o' b q).1
    · rw [if_pos h, dT h]; rfl
    · rw [if_neg h, dF h]; rfl
theorem sameImpl {p : Int} {a b : SSt} (h : twoB p a b = true) : F_impl_sameOutputs p a b = some (sameB p a b) := by
  unfold twoB at h
  simp only [Bool.and_eq_true, decide_eq_true_eq] at h
  obtain ⟨ha, hb, h1, h2⟩ := h
  obtain ⟨n, k, o, sa⟩ := ssB_ok ha
  obtain ⟨n', k', o', sb⟩ := ssB_ok hb
  have e1 := sa.h1; have e2 := sb.h1; have e3 := sa.h3; have e4 := sb.h3
  have g1 := sa.hn; have g2 := sb.hn
  unfold sameB
  rw [show a.1.toNat = n by omega, show b.1.toNat = n' by omega, show a.2.2.1.toNat = o by omega, show b.2.2.1.toNat = o' by omega]
  obtain ⟨q, hq⟩ : ∃ q : Nat, a.1 + b.1 + 1 = (q : Int) := ⟨(a.1 + b.1 + 1).toNat, by omega⟩
  refine bnd (addO_of (by omega) (by omega)) (bnd (addO_of (by omega) (by omega)) ?_)
  rw [hq, Int.toNat_natCast]
  exact bnd (markov_ sa q (by omega)) (bnd (markov_ sb q (by omega)) (bnd (equalMats _ _) rfl))
def sameL (p : Int) (a b : SSt) : Bool × Bool := if twoB p a b then (sameB p a b, true) else (false, false)
theorem specSame (p : Int) (a b : SSt) : F_spec_SameOutputs p a b = some (sameL p a b) := by
  refine bnd (ssTwo p a b) (stp ?_)
  unfold sameL
  cases h : twoB p a b with
  | false => rfl
  | true => exact cFW rfl (bnd (sameSpec h) rfl)
theorem implSame (p : Int) (a b : SSt) : F_impl_SameOutputs p a b = some (sameL p a b) := by
  refine bnd (twoSS p a b) (stp ?_)
  unfold sameL
  cases h : twoB p a b with
  | false => rfl
  | true => exact cFW rfl (bnd (sameImpl h) rfl)
theorem niceSS {s : SSt} (n1 : Nice.ok s) : ssLens s := ⟨niceLens n1.2.2.2.1, niceLens n1.2.2.2.2.1, niceLens n1.2.2.2.2.2.1, niceLens n1.2.2.2.2.2.2⟩
theorem lawN_SameOutputs (p : Int) (a b : SSt) (_ : Nice.ok p) (n1 : Nice.ok a) (n2 : Nice.ok b) : F_laws_FnExactSameOutputs p a b = some true := by
  refine bnd (szSS a 1048576 (by decide) (by decide) (niceSS n1)) (stp ?_)
  by_cases h : (ssN a : Int) ≤ 1048576
  · rw [if_pos h]
    refine cFW (dF (by omega)) (bnd (szSS b _ (by omega) (by unfold bigN; omega) (niceSS n2)) (stp ?_))
    by_cases h2 : (ssN b : Int) ≤ 1048576 - ssN a
    · rw [if_pos h2]
      have ha : ssN a ≤ 1048576 := by omega
      have hb : ssN b ≤ 1048576 := by omega
      refine cFW (dF (by omega)) ?_
      refine bnd (toSS a ha) (bnd (toSS b hb) (bnd (specSame p a b) ?_))
      refine bnd (toSS a ha) (bnd (toSS b hb) (bnd (implSame p a b) ?_))
      have e1 : (!decide ((sameL p a b).2 = (sameL p a b).2)) = false := nT (dT rfl)
      refine bnd (a := false) (stp (cFW (nT (dT rfl)) (stp (by rw [e1])))) (cFW rfl ?_)
      refine bnd (toSS a ha) (bnd (eqSS a ha) (stp (cFW rfl ?_)))
      exact bnd (toSS b hb) (bnd (eqSS b hb) (stp (cFW rfl rfl)))
    · rw [if_neg h2]; exact cTW (dT (by omega)) rfl
  · rw [if_neg h]; exact cTW (dT (by omega)) rfl
end Go.Proofs.YtnlbhdepagkjgaaDoor
