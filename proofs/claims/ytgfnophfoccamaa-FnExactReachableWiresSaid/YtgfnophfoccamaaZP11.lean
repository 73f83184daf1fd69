/-
  Plain laws: the steps of a reduction, in the reference and in the program. No program in sight. No condition.
-/
import Derived.Test.YtgfnophfoccamaaZP10
namespace Go.Proofs.Ytgfnophfoccamaa

abbrev Rows := List (List Int)
def gr (m : Rows) (i : Nat) : List Int := m.getD i []
def el (r : List Int) (c : Nat) : Int := r.getD c 0
theorem gr_get {m : Rows} {i : Nat} (h : i < m.length) : m[i]? = some (gr m i) := by unfold gr; rw [List.getD_eq_getElem?_getD, List.getElem?_eq_getElem h]; rfl
theorem el_get {r : List Int} {c : Nat} (h : c < r.length) : r[c]? = some (el r c) := by unfold el; rw [List.getD_eq_getElem?_getD, List.getElem?_eq_getElem h]; rfl
theorem gr_mem {m : Rows} {i : Nat} (h : i < m.length) : gr m i ∈ m := mem_of_get (gr_get h)
theorem el_mem {r : List Int} {c : Nat} (h : c < r.length) : el r c ∈ r := mem_of_get (el_get h)
theorem gr_set {m : Rows} {i j : Nat} {r : List Int} (h : i < m.length) : gr (m.set i r) j = if i = j then r else gr m j := by
  unfold gr
  rw [List.getD_eq_getElem?_getD, List.getD_eq_getElem?_getD, List.getElem?_set]
  split
  · rename_i e; subst e; simp
  · rfl

/-- rows of n numbers of a field -/
def okM (p : Int) (n : Nat) (m : Rows) : Prop := rowsP p n m
theorem okM_gr {p : Int} {n : Nat} {m : Rows} (h : okM p n m) {i : Nat} (hi : i < m.length) : (gr m i).length = n ∧ inP p (gr m i) := h _ (gr_mem hi)
theorem okM_el {p : Int} {n : Nat} {m : Rows} (h : okM p n m) {i c : Nat} (hi : i < m.length) (hc : c < n) : 0 ≤ el (gr m i) c ∧ el (gr m i) c < p := by
  have h1 := okM_gr h hi
  exact h1.2 _ (el_mem (by omega))
theorem okM_set {p : Int} {n : Nat} {m : Rows} (h : okM p n m) {i : Nat} {r : List Int} (hr : r.length = n ∧ inP p r) : okM p n (m.set i r) := by
  intro x hx
  rcases List.mem_or_eq_of_mem_set hx with hx | rfl
  · exact h x hx
  · exact hr

/-! ### one row -/
def mapR (g : Nat → Int → Int) (r : List Int) : List Int := r.mapIdx g
theorem mapR_len (g : Nat → Int → Int) (r : List Int) : (mapR g r).length = r.length := by simp [mapR]
def part (g : Nat → Int → Int) (r : List Int) (j : Nat) : List Int := (r.take j).mapIdx g ++ r.drop j
def scaleG (p k : Int) : Nat → Int → Int := fun _ a => (a * k) % p
def subG (p f : Int) (w : List Int) : Nat → Int → Int := fun j x => (x - f * el w j) % p

/-! ### the reference's and the program's steps -/
def swapM (m : Rows) (i j : Nat) : Rows := (m.set i (gr m j)).set j (gr m i)
theorem swapM_len (m : Rows) (i j : Nat) : (swapM m i j).length = m.length := by simp [swapM]
theorem swapM_ok {p : Int} {n : Nat} {m : Rows} (h : okM p n m) {i j : Nat} (hi : i < m.length) (hj : j < m.length) : okM p n (swapM m i j) :=
  okM_set (okM_set h (okM_gr h hj)) (okM_gr h hi)
theorem swapM_gr {m : Rows} {i j : Nat} (hi : i < m.length) (hj : j < m.length) : gr (swapM m i j) i = gr m j := by
  unfold swapM
  rw [gr_set (by rw [List.length_set]; exact hj)]
  split
  · rename_i e; subst e; rfl
  · rw [gr_set hi, if_pos rfl]
def scaleM (p k : Int) (m : Rows) (r : Nat) : Rows := m.set r (mapR (scaleG p k) (gr m r))
theorem scaleM_len (p k : Int) (m : Rows) (r : Nat) : (scaleM p k m r).length = m.length := by simp [scaleM]
end Go.Proofs.Ytgfnophfoccamaa
