/-
  Plain laws: the steps of a reduction, in the reference and in the program. No program in sight. No condition.
-/
import Derived.Test.YteikcdofblclhaaDoorZP10
namespace Go.Proofs.YteikcdofblclhaaDoor

abbrev Rows := List (List Int)
def gr (m : Rows) (i : Nat) : List Int := m.getD i []
def el (r : List Int) (c : Nat) : Int := r.getD c 0
theorem gr_get {m : Rows} {i : Nat} (h : i < m.length) : m[i]? = some (gr m i) := by unfold gr; rw [List.getD_eq_getElem?_getD, List.getElem?_eq_getElem h]; rfl
theorem el_get {r : List Int} {c : Nat} (h : c < r.length) : r[c]? = some (el r c) := by unfold el; rw [List.getD_eq_getElem?_getD, List.getElem?_eq_getElem h]; rfl
theorem idx_gr {m : Rows} {i : Nat} (h : i < m.length) : idxO m (i : Int) = some (gr m i) := idxO_of (gr_get h)
theorem idx_el {r : List Int} {c : Nat} (h : c < r.length) : idxO r (c : Int) = some (el r c) := idxO_of (el_get h)
theorem gr_mem {m : Rows} {i : Nat} (h : i < m.length) : gr m i ∈ m := mem_of_get (gr_get h)
theorem el_mem {r : List Int} {c : Nat} (h : c < r.length) : el r c ∈ r := mem_of_get (el_get h)
theorem gr_set {m : Rows} {i j : Nat} {r : List Int} (h : i < m.length) : gr (m.set i r) j = if i = j then r else gr m j := by
  unfold gr
  rw [List.getD_eq_getElem?_getD, List.getD_eq_getElem?_getD, List.getElem?_set]
  split
  · rename_i e; subst e; simp
  · rfl
theorem set_gr {m : Rows} {i : Nat} (h : i < m.length) : m.set i (gr m i) = m := by
  have h2 : gr m i = m[i] := by have := gr_get h; rw [List.getElem?_eq_getElem h] at this; exact (Option.some.inj this).symm
  rw [h2, List.set_getElem_self]

/-- rows of n numbers of a field -/
def okM (p : Int) (n : Nat) (m : Rows) : Prop := rowsP p n m
theorem okM_gr {p : Int} {n : Nat} {m : Rows} (h : okM p n m) {i : Nat} (hi : i < m.length) : (gr m i).length = n ∧ inP p (gr m i) := h _ (gr_mem hi)
theorem okM_el {p : Int} {n : Nat} {m : Rows} (h : okM p n m) {i c : Nat} (hi : i < m.length) (hc : c < n) : 0 ≤ el (gr m i) c ∧ el (gr m i) c < p := by
  have h1 := okM_gr h hi
  exact h1.2 _ (el_mem (by omega))
theorem okM_set {p : Int} {n : Nat} {m : Rows} (h : okM p n m) {i : Nat} {r : List Int} (hr : r.length = n ∧ inP p r) : okM p n (m.set i r) := by
  intro x hx
  rcases List.mem_or_eq_of_mem_set hx with hx | rfl
  · exact h x hx
  · exact hr

/-! ### one row -/
def mapR (g : Nat → Int → Int) (r : List Int) : List Int := r.mapIdx g
theorem mapR_len (g : Nat → Int → Int) (r : List Int) : (mapR g r).length = r.length := by simp [mapR]
theorem mapR_in {p : Int} (hp : 2 ≤ p) {g : Nat → Int → Int} (hg : ∀ j x, ∃ y, g j x = y % p) (r : List Int) : inP p (mapR g r) := by
  intro x hx
  obtain ⟨j, hj, rfl⟩ := List.mem_iff_getElem.1 hx
  simp only [mapR, List.getElem_mapIdx]
  obtain ⟨y, hy⟩ := hg j (r[j]'(by simpa [mapR] using hj))
  rw [hy]; exact emod_in hp
def part (g : Nat → Int → Int) (r : List Int) (j : Nat) : List Int := (r.take j).mapIdx g ++ r.drop j
theorem part0 (g : Nat → Int → Int) (r : List Int) : part g r 0 = r := by simp [part]
theorem partN (g : Nat → Int → Int) (r : List Int) : part g r r.length = mapR g r := by simp [part, mapR]
theorem part_len (g : Nat → Int → Int) (r : List Int) (j : Nat) : (part g r j).length = r.length := by simp [part]; omega
theorem part_get (g : Nat → Int → Int) (r : List Int) {j : Nat} (h : j < r.length) : (part g r j)[j]? = some (el r j) := by
  unfold part
  rw [List.getElem?_append_right (by simp; omega)]
  have : j - ((r.take j).mapIdx g).length = 0 := by simp; omega
  rw [this, List.getElem?_drop, Nat.add_zero, el_get h]
theorem part_set (g : Nat → Int → Int) (r : List Int) {j : Nat} (h : j < r.length) : (part g r j).set j (g j (el r j)) = part g r (j + 1) := by
  have h2 : el r j = r[j] := by have := el_get h; rw [List.getElem?_eq_getElem h] at this; exact (Option.some.inj this).symm
  rw [h2]
  exact set_take r g j h
def scaleG (p k : Int) : Nat → Int → Int := fun _ a => (a * k) % p
def subG (p f : Int) (w : List Int) : Nat → Int → Int := fun j x => (x - f * el w j) % p

/-! ### the reference's and the program's steps -/
theorem swapO_ {m : Rows} {i j : Nat} (hi : i < m.length) (hj : j < m.length) : swapO m (i : Int) (j : Int) = some ((m.set i (gr m j)).set j (gr m i)) := by
  unfold swapO
  refine bnd (idx_gr hi) (bnd (idx_gr hj) (bnd (setO_of _ hi) (setO_of _ (by rw [List.length_set]; exact hj))))
def swapM (m : Rows) (i j : Nat) : Rows := (m.set i (gr m j)).set j (gr m i)
theorem swapM_self {m : Rows} {i : Nat} (h : i < m.length) : swapM m i i = m := by
  unfold swapM; rw [List.set_set, set_gr h]
theorem swapM_len (m : Rows) (i j : Nat) : (swapM m i j).length = m.length := by simp [swapM]
theorem swapM_ok {p : Int} {n : Nat} {m : Rows} (h : okM p n m) {i j : Nat} (hi : i < m.length) (hj : j < m.length) : okM p n (swapM m i j) :=
  okM_set (okM_set h (okM_gr h hj)) (okM_gr h hi)
theorem swapM_gr {m : Rows} {i j : Nat} (hi : i < m.length) (hj : j < m.length) : gr (swapM m i j) i = gr m j := by
  unfold swapM
  rw [gr_set (by rw [List.length_set]; exact hj)]
  split
  · rename_i e; subst e; rfl
  · rw [gr_set hi, if_pos rfl]
def scaleM (p k : Int) (m : Rows) (r : Nat) : Rows := m.set r (mapR (scaleG p k) (gr m r))
theorem scaleM_len (p k : Int) (m : Rows) (r : Nat) : (scaleM p k m r).length = m.length := by simp [scaleM]
theorem scaleM_ok {p k : Int} {n : Nat} {m : Rows} (hp : 2 ≤ p) (h : okM p n m) {r : Nat} (hr : r < m.length) : okM p n (scaleM p k m r) :=
  okM_set h ⟨by rw [mapR_len]; exact (okM_gr h hr).1, mapR_in hp (fun j x => ⟨_, rfl⟩) _⟩
theorem fdMul_ {p a b : Int} (hp : 2 ≤ p ∧ p ≤ 97) (ha : 0 ≤ a ∧ a < p) (hb : 0 ≤ b ∧ b < p) : F_spec_fdMul p a b = some ((a * b) % p) := by
  have hm := mul_lt hp ha hb
  refine bnd (mulO_of (by omega) (by omega)) (bnd (remO_of (by omega)) ?_)
  rw [Int.tmod_eq_emod_of_nonneg hm.1]
theorem fdSub_ {p a b : Int} (hp : 2 ≤ p ∧ p ≤ 97) (ha : 0 ≤ a ∧ a < p) (hb : 0 ≤ b ∧ b < p) : F_spec_fdSub p a b = some ((a + p - b) % p) := by
  refine bnd (addO_of (by omega) (by omega)) (bnd (subO_of (by omega) (by omega)) (bnd (remO_of (by omega)) ?_))
  rw [Int.tmod_eq_emod_of_nonneg (by omega)]
/-- the row r divided, in the reference -/
theorem specScale {p k : Int} {n : Nat} {m : Rows} {r : Nat} (hp : 2 ≤ p ∧ p ≤ 97) (h : okM p n m) (hr : r < m.length) (hk : 0 ≤ k ∧ k < p) :
    forS (fun (j : Nat) (s : List (List Int)) =>
                (idxO s (r : Int)).bind fun a26854 =>
                (idxO s (r : Int)).bind fun a26863 =>
                (idxO a26863 ((j : Nat) : Int)).bind fun a26872 =>
                (F_spec_fdMul p a26872 k).bind fun y26874 =>
                (setO a26854 ((j : Nat) : Int) y26874).bind fun a26884 =>
                (setO s (r : Int) a26884).bind fun a26887 =>
                some a26887) (gr m r).length 0 m = some (scaleM p k m r) := by
  have hrow := okM_gr h hr
  have := forS_is (n := (gr m r).length) (fun j => m.set r (part (scaleG p k) (gr m r) j)) (f := fun (j : Nat) (s : List (List Int)) =>
                (idxO s (r : Int)).bind fun a26854 =>
                (idxO s (r : Int)).bind fun a26863 =>
                (idxO a26863 ((j : Nat) : Int)).bind fun a26872 =>
                (F_spec_fdMul p a26872 k).bind fun y26874 =>
                (setO a26854 ((j : Nat) : Int) y26874).bind fun a26884 =>
                (setO s (r : Int) a26884).bind fun a26887 =>
                some a26887) (by
    intro j hj
    have hl : r < (m.set r (part (scaleG p k) (gr m r) j)).length := by rw [List.length_set]; exact hr
    have hg : gr (m.set r (part (scaleG p k) (gr m r) j)) r = part (scaleG p k) (gr m r) j := by rw [gr_set hr, if_pos rfl]
    have h1 := idx_gr hl
    rw [hg] at h1
    refine bnd h1 (bnd h1 (bnd (idxO_of (part_get _ _ hj)) (bnd (fdMul_ hp (hrow.2 _ (el_mem hj)) hk) (bnd (setO_of _ (by rw [part_len]; exact hj)) (bnd (setO_of _ hl) ?_)))))
    rw [List.set_set]
    congr 2
    exact part_set (scaleG p k) (gr m r) hj)
  rw [part0, set_gr hr, partN] at this
  exact this
/-- the row r divided, in the program -/
theorem implScale {p k : Int} {r : List Int} (hp : 2 ≤ p ∧ p ≤ 97) (h : inP p r) (hk : 0 ≤ k ∧ k < p) :
    forS (fun (j : Nat) (s : List Int) =>
          (idxO s ((j : Nat) : Int)).bind fun a137 =>
          (mulO a137 k).bind fun a140 =>
          (remO a140 p).bind fun a142 =>
          (setO s ((j : Nat) : Int) a142).bind fun a156 =>
          some a156) r.length 0 r = some (mapR (scaleG p k) r) := by
  have := forS_is (n := r.length) (fun j => part (scaleG p k) r j) (f := fun (j : Nat) (s : List Int) =>
          (idxO s ((j : Nat) : Int)).bind fun a137 =>
          (mulO a137 k).bind fun a140 =>
          (remO a140 p).bind fun a142 =>
          (setO s ((j : Nat) : Int) a142).bind fun a156 =>
          some a156) (by
    intro j hj
    have hm := mul_lt hp (h _ (el_mem hj)) hk
    refine bnd (idxO_of (part_get _ _ hj)) (bnd (mulO_of (by omega) (by omega)) (bnd (remO_of (by omega)) (bnd (setO_of _ (by rw [part_len]; exact hj)) ?_)))
    rw [Int.tmod_eq_emod_of_nonneg hm.1]
    exact congrArg some (part_set (scaleG p k) r hj))
  rw [part0, partN] at this
  exact this
/-- f times the row w taken from the row i, in the reference -/
theorem specSub {p f : Int} {n : Nat} {m : Rows} {r i : Nat} (hp : 2 ≤ p ∧ p ≤ 97) (h : okM p n m) (hr : r < m.length) (hi : i < m.length) (hri : i ≠ r) (hf : 0 ≤ f ∧ f < p) :
    forS (fun (j : Nat) (s : List (List Int)) =>
                        (idxO s ((i : Nat) : Int)).bind fun a28591 =>
                        (idxO s ((i : Nat) : Int)).bind fun a28600 =>
                        (idxO s (r : Int)).bind fun a28609 =>
                        (idxO a28600 ((j : Nat) : Int)).bind fun a28618 =>
                        (idxO a28609 ((j : Nat) : Int)).bind fun a28626 =>
                        (F_spec_fdMul p f a28626).bind fun y28628 =>
                        (F_spec_fdSub p a28618 y28628).bind fun y28631 =>
                        (setO a28591 ((j : Nat) : Int) y28631).bind fun a28641 =>
                        (setO s ((i : Nat) : Int) a28641).bind fun a28644 =>
                        some a28644) (gr m i).length 0 m = some (m.set i (mapR (subG p f (gr m r)) (gr m i))) := by
  have hrow := okM_gr h hi
  have hrr := okM_gr h hr
  have := forS_is (n := (gr m i).length) (fun j => m.set i (part (subG p f (gr m r)) (gr m i) j)) (f := fun (j : Nat) (s : List (List Int)) =>
                        (idxO s ((i : Nat) : Int)).bind fun a28591 =>
                        (idxO s ((i : Nat) : Int)).bind fun a28600 =>
                        (idxO s (r : Int)).bind fun a28609 =>
                        (idxO a28600 ((j : Nat) : Int)).bind fun a28618 =>
                        (idxO a28609 ((j : Nat) : Int)).bind fun a28626 =>
                        (F_spec_fdMul p f a28626).bind fun y28628 =>
                        (F_spec_fdSub p a28618 y28628).bind fun y28631 =>
                        (setO a28591 ((j : Nat) : Int) y28631).bind fun a28641 =>
                        (setO s ((i : Nat) : Int) a28641).bind fun a28644 =>
                        some a28644) (by
    intro j hj
    have hl : i < (m.set i (part (subG p f (gr m r)) (gr m i) j)).length := by rw [List.length_set]; exact hi
    have hl2 : r < (m.set i (part (subG p f (gr m r)) (gr m i) j)).length := by rw [List.length_set]; exact hr
    have hg : gr (m.set i (part (subG p f (gr m r)) (gr m i) j)) i = part (subG p f (gr m r)) (gr m i) j := by rw [gr_set hi, if_pos rfl]
    have hg2 : gr (m.set i (part (subG p f (gr m r)) (gr m i) j)) r = gr m r := by rw [gr_set hi, if_neg hri]
    have h1 := idx_gr hl
    have h2 := idx_gr hl2
    rw [hg] at h1
    rw [hg2] at h2
    have hjr : j < (gr m r).length := by omega
    have hm := emod_in (p := p) (x := f * el (gr m r) j) hp.1
    refine bnd h1 (bnd h1 (bnd h2 (bnd (idxO_of (part_get _ _ hj)) (bnd (idx_el hjr) (bnd (fdMul_ hp hf (hrr.2 _ (el_mem hjr))) (bnd (fdSub_ hp (hrow.2 _ (el_mem hj)) hm) (bnd (setO_of _ (by rw [part_len]; exact hj)) (bnd (setO_of _ hl) ?_))))))))
    rw [List.set_set, sub_mod]
    congr 2
    exact part_set (subG p f (gr m r)) (gr m i) hj)
  rw [part0, set_gr hi, partN] at this
  exact this
theorem implSub {p f : Int} {v w : List Int} (hp : 2 ≤ p ∧ p ≤ 97) (hv : inP p v) (hw : inP p w) (hl : v.length = w.length) (hf : 0 ≤ f ∧ f < p) : F_impl_addTimes p v (0 - f) w = some (mapR (subG p f w) v) := by
  have := forS_is (n := w.length) (fun j => part (subG p f w) v j) (f := fun (k3 : Nat) (s72 : List Int) =>
      (idxO w ((k3 : Nat) : Int)).bind fun a87 =>
      (idxO s72 ((k3 : Nat) : Int)).bind fun a95 =>
      (mulO (0 - f) a87).bind fun a97 =>
      (addO a95 a97).bind fun a99 =>
      (F_impl_mod p a99).bind fun y101 =>
      (setO s72 ((k3 : Nat) : Int) y101).bind fun a110 =>
      some a110) (by
    intro j hj
    have hjv : j < v.length := by omega
    have h1 := mul_lt hp hf (hw _ (el_mem hj))
    have h2 := hv _ (el_mem hjv)
    have h3 : (0 - f) * el w j = -(f * el w j) := by rw [Int.zero_sub, Int.neg_mul]
    refine bnd (idx_el hj) (bnd (idxO_of (part_get _ _ hjv)) (bnd (mulO_of (by omega) (by omega)) (bnd (addO_of (by omega) (by omega)) (bnd (modG hp (by omega)) (bnd (setO_of _ (by rw [part_len]; exact hjv)) ?_)))))
    rw [h3, ← Int.sub_eq_add_neg]
    exact congrArg some (part_set (subG p f w) v hjv))
  rw [part0, ← hl, partN] at this
  rw [hl] at this
  exact bnd this rfl
end Go.Proofs.YteikcdofblclhaaDoor
