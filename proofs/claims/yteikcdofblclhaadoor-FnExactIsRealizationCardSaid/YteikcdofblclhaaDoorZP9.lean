/-
  Plain law of SameOutputs: the law's partial function yields true. No program in sight. No condition.
-/
import Derived.Test.YteikcdofblclhaaDoorZP8
namespace Go.Proofs.YteikcdofblclhaaDoor

theorem forO_eq9 {α : Type} [DecidableEq α] {f : Nat → Unit → Option (Unit ⊕ Bool)} : ∀ (L M : List α) (k : Nat), L.length = M.length →
    (∀ (j : Nat) (a b : α), L[j]? = some a → M[j]? = some b → f (k + j) () = some (if a = b then .inl () else .inr false)) → forO f L.length k () = some (if L = M then .inl () else .inr false)
  | [], [], _, _, _ => rfl
  | [], _ :: _, _, h, _ => by simp at h
  | _ :: _, [], _, h, _ => by simp at h
  | a :: L, b :: M, k, hl, h => by
    have h0 : f k () = _ := h 0 a b rfl rfl
    show (f k ()).bind _ = _
    rw [h0]
    by_cases hab : a = b
    · rw [if_pos hab]
      have ih := forO_eq9 L M (k + 1) (by simpa using hl) (fun j x y hx hy => by
        have := h (j + 1) x y (by simpa using hx) (by simpa using hy)
        rw [show k + 1 + j = k + (j + 1) by omega]; exact this)
      show forO f L.length (k + 1) () = _
      rw [ih]
      by_cases h2 : L = M
      · rw [if_pos h2, if_pos (by rw [hab, h2])]
      · rw [if_neg h2, if_neg (fun h3 => h2 (List.cons.inj h3).2)]
    · rw [if_neg hab, if_neg (fun h3 => hab (List.cons.inj h3).1)]; rfl
/-- a comparison by length and element -/
theorem same_of {α : Type} [DecidableEq α] {f : Nat → Unit → Option (Unit ⊕ Bool)} (L M : List α)
    (h : L.length = M.length → ∀ (j : Nat) (a b : α), L[j]? = some a → M[j]? = some b → f j () = some (if a = b then .inl () else .inr false)) :
    ((some (!decide (((L.length : Nat) : Int) = ((M.length : Nat) : Int)))).bind fun c => cond c (some false) (seqO (forO f L.length 0 ()) fun (_ : Unit) => some true)) = some (decide (L = M)) := by
  refine stp ?_
  by_cases hl : L.length = M.length
  · refine cFW (nT (dT (by omega))) (sqW (forO_eq9 L M 0 hl (fun j a b ha hb => by rw [Nat.zero_add]; exact h hl j a b ha hb)) ?_)
    by_cases h2 : L = M
    · rw [if_pos h2, show decide (L = M) = true from dT h2]; rfl
    · rw [if_neg h2, show decide (L = M) = false from dF h2]; rfl
  · rw [show decide (L = M) = false from dF (fun h2 => hl (by rw [h2]))]
    exact cTW (nF (dF (by omega))) rfl
theorem stepE {α : Type} {a b : α} [DecidableEq α] : (some (!decide (a = b))).bind (fun c => cond c (some (Sum.inr false)) (some (Sum.inl ()))) = some (if a = b then (.inl () : Unit ⊕ Bool) else .inr false) := by
  by_cases h : a = b
  · rw [if_pos h]; exact stp (cFW (nT (dT h)) rfl)
  · rw [if_neg h]; exact stp (cTW (nF (dF h)) rfl)
theorem l1Same (a b : List Int) : F_spec_l1Same a b = some (decide (a = b)) :=
  same_of a b (fun _ _ _ _ hx hy => bnd (idxO_of hx) (bnd (idxO_of hy) stepE))
theorem spSame (a b : List (List Int)) : F_spec_spSame a b = some (decide (a = b)) :=
  same_of a b (fun _ _ x y hx hy => bnd (idxO_of hx) (bnd (idxO_of hy) (bnd (l1Same x y) stepE)))
theorem slEqual (a b : List Int) : F_slices_Equal_int_int a b = some (decide (a = b)) :=
  same_of a b (fun _ _ _ _ hx hy => bnd (idxO_of hx) (bnd (idxO_of hy) stepE))
theorem slEqual2 (a b : List (List Int)) : F_slices_EqualFunc_int_int_int_int_slices_Equal_int_int a b = some (decide (a = b)) :=
  same_of a b (fun _ _ x y hx hy => bnd (idxO_of hx) (bnd (idxO_of hy) (bnd (slEqual x y) stepE)))
theorem equalMat (a b : Mat) : F_impl_equalMatrices a b = some (decide (a = b)) := by
  obtain ⟨c, m⟩ := a
  obtain ⟨d, n⟩ := b
  refine bnd (a := decide ((c, m) = (d, n))) (stp ?_) rfl
  by_cases h : c = d
  · refine cTW (dT h) (bnd (bnd (slEqual2 m n) rfl) ?_)
    subst h
    simp
  · refine cFW (dF h) ?_
    rw [dF (fun h2 => h (Prod.ext_iff.1 h2).1)]
theorem equalMats (a b : List Mat) : F_slices_EqualFunc_impl_Matrix_impl_Matrix_impl_Matrix_impl_Matrix_impl_equalMatrices a b = some (decide (a = b)) :=
  same_of a b (fun _ _ x y hx hy => bnd (idxO_of hx) (bnd (idxO_of hy) (bnd (equalMat x y) stepE)))
theorem mkv_fst (p : Int) (n o : Nat) (s : SSt) : ∀ j, ∀ m ∈ (mkv p n o s j).1, m.1 = o
  | 0, m, hm => by cases hm
  | j + 1, m, hm => by
    rw [mkv_succ] at hm
    split at hm
    all_goals
      rcases List.mem_append.1 hm with h | h
      · exact mkv_fst p n o s j m h
      · rw [List.mem_singleton.1 h]
end Go.Proofs.YteikcdofblclhaaDoor
