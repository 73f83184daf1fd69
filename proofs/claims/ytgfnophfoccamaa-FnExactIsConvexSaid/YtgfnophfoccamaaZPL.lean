/-
  Plain laws: lists searched and compared. No program in sight. No condition.
-/
import Derived.Test.YtgfnophfoccamaaZP6
namespace Go.Proofs.Ytgfnophfoccamaa
theorem index_ {l : List Int} {v : Int} : F_slices_Index_int_int l v = some (match l.findIdx? (fun a => decide (v = a)) with | some k => (k : Int) | none => -1) := by
  have key : ∀ (l : List Int) (k : Nat) {f : Nat → Unit → Option (Unit ⊕ Int)}, (∀ j a, l[j]? = some a → f (k + j) () = some (if v = a then .inr ((k + j : Nat) : Int) else .inl ())) →
      forO f l.length k () = some (match l.findIdx? (fun a => decide (v = a)) with | some q => .inr ((k + q : Nat) : Int) | none => .inl ()) := by
    intro l
    induction l with
    | nil => intro k f _; rfl
    | cons a l ih =>
      intro k f h
      show (f k ()).bind _ = _
      have h0 := h 0 a rfl
      rw [Nat.add_zero] at h0
      rw [h0, List.findIdx?_cons]
      by_cases hv : v = a
      · rw [if_pos hv, dT hv]; rfl
      · rw [if_neg hv, dF hv]
        have := ih (k + 1) (f := f) (fun j b hb => by
          have := h (j + 1) b (by simpa using hb)
          rw [show k + 1 + j = k + (j + 1) by omega]; exact this)
        show forO f l.length (k + 1) () = _
        rw [this]
        cases l.findIdx? (fun a => decide (v = a)) with
        | none => rfl
        | some q => simp only [Bool.false_eq_true, if_false, Option.map_some]; rw [show k + 1 + q = k + (q + 1) by omega]
  refine sqW (key l 0 ?_) ?_
  · intro j a hj
    rw [Nat.zero_add]
    refine bnd (idxO_of hj) (stp ?_)
    by_cases hv : v = a
    · rw [if_pos hv]; exact cTW (dT hv) rfl
    · rw [if_neg hv]; exact cFW (dF hv) rfl
  · cases l.findIdx? (fun a => decide (v = a)) with
    | none => rfl
    | some q => show some (((0 + q : Nat)) : Int) = some (q : Int); rw [Nat.zero_add]
theorem findIdx_mem {l : List Int} {v : Int} : (l.findIdx? (fun a => decide (v = a))).isSome = decide (v ∈ l) := by
  induction l with
  | nil => simp
  | cons a l ih =>
    rw [List.findIdx?_cons]
    by_cases h : v = a
    · simp [h]
    · simp only [dF h, Bool.false_eq_true, if_false, Option.isSome_map, ih]
      rw [decide_eq_decide]; simp [h]
theorem contains_ (l : List Int) (v : Int) : F_slices_Contains_int_int l v = some (decide (v ∈ l)) := by
  refine bnd index_ ?_
  rw [← findIdx_mem]
  cases l.findIdx? (fun a => decide (v = a)) with
  | none => rfl
  | some k =>
    show ((some (decide ((0 : Int) ≤ (k : Int)))).bind fun a5 => some a5) = some true
    rw [dT (by omega)]; rfl
theorem l1Has_ (l : List Int) (v : Int) : F_spec_l1Has l v = some (decide (v ∈ l)) := by
  refine sqW (forO_all (fun a => !decide (a = v)) l 0 ?_ (t := true)) ?_
  · intro j a hj
    rw [Nat.zero_add]
    refine bnd (idxO_of hj) (stp ?_)
    by_cases h : a = v
    · rw [dT h]; rfl
    · rw [dF h]; rfl
  · have : (l.all fun a => !decide (a = v)) = !decide (v ∈ l) := by
      rw [Bool.eq_iff_iff, List.all_eq_true]
      constructor
      · intro h
        simp only [Bool.not_eq_true', decide_eq_false_iff_not]
        intro hv
        have := h v hv
        simp at this
      · intro h a ha
        simp only [Bool.not_eq_true', decide_eq_false_iff_not] at h ⊢
        rintro rfl; exact h ha
    rw [this]
    cases decide (v ∈ l) <;> rfl
theorem forO_eq {α τ : Type} [DecidableEq α] {f : Nat → Unit → Option (Unit ⊕ τ)} {t : τ} : ∀ (l m : List α) (k : Nat), l.length = m.length → (∀ j a b, l[j]? = some a → m[j]? = some b → f (k + j) () = some (if a = b then .inl () else .inr t)) → forO f l.length k () = some (if l = m then .inl () else .inr t)
  | [], [], k, _, _ => rfl
  | [], _ :: _, _, h, _ => by simp at h
  | _ :: _, [], _, h, _ => by simp at h
  | a :: l, b :: m, k, hl, h => by
    show (f k ()).bind _ = _
    have h0 : f k () = _ := h 0 a b rfl rfl
    rw [h0]
    by_cases hab : a = b
    · rw [if_pos hab]
      have := forO_eq l m (k + 1) (by simpa using hl) (fun j x y hx hy => by
        have := h (j + 1) x y (by simpa using hx) (by simpa using hy)
        rw [show k + 1 + j = k + (j + 1) by omega]; exact this)
      show forO f l.length (k + 1) () = _
      rw [this]
      by_cases h2 : l = m
      · rw [if_pos h2, if_pos (by rw [hab, h2])]
      · rw [if_neg h2, if_neg (by intro h3; exact h2 (List.cons.inj h3).2)]
    · rw [if_neg hab, if_neg (by intro h3; exact hab (List.cons.inj h3).1)]; rfl
theorem l1Same_ (a b : List Int) : F_spec_l1Same a b = some (decide (a = b)) := by
  refine stp ?_
  by_cases h : a.length = b.length
  · refine cFW (nT (dT (by omega))) (sqW (forO_eq a b 0 h ?_ (t := false)) ?_)
    · intro j x y hx hy
      rw [Nat.zero_add]
      refine bnd (idxO_of hx) (bnd (idxO_of hy) (stp ?_))
      by_cases h2 : x = y
      · rw [if_pos h2]; exact cFW (nT (dT h2)) rfl
      · rw [if_neg h2]; exact cTW (nF (dF h2)) rfl
    · by_cases h2 : a = b
      · rw [if_pos h2, dT h2]; rfl
      · rw [if_neg h2, dF h2]; rfl
  · rw [show decide (a = b) = false from dF (fun h2 => h (by rw [h2]))]; exact cTW (nF (dF (by omega))) rfl
end Go.Proofs.Ytgfnophfoccamaa
