/-
  Plain laws: graphs with other wires, graphs beside each other; ParGraphs. No program in sight. No condition.
-/
import Derived.Test.YtgfnophfoccamaaZP35
namespace Go.Proofs.Ytgfnophfoccamaa

/-! ### tables that a loop fills -/

/-! ### other wires -/
def mp (t : Nat → Int) (l : List Int) : List Int := l.map fun x => t x.toNat
theorem hgList_ {n : Nat} {l : List Int} (t : Nat → Int) (h : inRg n l) (hl : l.length ≤ 1048576) : F_spec_hgList l (tabl n t) = some (mp t l) := by
  have hm : maxN = 1099511627776 := rfl
  refine bnd (forS_map (fun x => t x.toNat) l [] (by simp; omega) (fun j x s' hj hs => ?_)) rfl
  have hx := h x (mem_of_get hj)
  obtain ⟨k, rfl⟩ : ∃ k : Nat, x = (k : Int) := ⟨x.toNat, by omega⟩
  have hjl := (List.getElem?_eq_some_iff.1 hj).1
  refine bnd (idxO_of hj) (bnd (tabl_idx _ (by omega)) (bnd (appO_of (by simp at hs ⊢; omega)) ?_))
  rfl
theorem mapped_ {n : Nat} {l : List Int} (t : Nat → Int) (h : inRg n l) (hl : l.length ≤ 1048576) : F_impl_mapped l (tabl n t) = some (mp t l) := by
  have hm : maxN = 1099511627776 := rfl
  refine bnd (bnd (makeCO_of0 _ (by omega)) (bnd (forS_map (fun x => t x.toNat) l [] (by simp; omega) (fun j x s' hj hs => ?_)) rfl)) rfl
  have hx := h x (mem_of_get hj)
  obtain ⟨k, rfl⟩ : ∃ k : Nat, x = (k : Int) := ⟨x.toNat, by omega⟩
  have hjl := (List.getElem?_eq_some_iff.1 hj).1
  refine bnd (idxO_of hj) (bnd (tabl_idx _ (by omega)) (bnd (appO_of (by simp at hs ⊢; omega)) ?_))
  rfl
theorem len_tot {E : List Edg} {e : Edg} (s : Edg → List Int) (h : e ∈ E) : (s e).length ≤ totE E s := by
  unfold totE
  induction E with
  | nil => cases h
  | cons x E ih =>
    rw [List.map_cons, List.flatten_cons, List.length_append]
    rcases List.mem_cons.1 h with rfl | h
    · omega
    · have := ih h; omega

/-! ### beside each other -/
end Go.Proofs.Ytgfnophfoccamaa
