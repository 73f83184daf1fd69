/-
  Plain laws: the states that are hidden; minimal state spaces. No program in sight. No condition.
-/
import Derived.Test.YtnlbhdepagkjgaaDoorZP27
namespace Go.Proofs.YtnlbhdepagkjgaaDoor
set_option linter.unusedVariables false

theorem nuP_succ (p : Int) (n : Nat) (b : Rows) (j : Nat) : nuP p n b (j + 1) = if isL b j then nuP p n b j else nuP p n b j ++ [nvL p n b j b.length] := rfl
theorem spNull_ {p : Int} {n : Nat} {m : Rows} (hf : fdB p = true) (hn : n ≤ 1048576) (h : okM p n m) (hL : m.length ≤ 1048576) : F_spec_spNull p (n : Int) m = some (nulM p n m) := by
  have hm : maxN = 1099511627776 := rfl
  have hp := fdB_rng hf
  have hb := redM_red hf h
  have hbl := (redM_ok (n := n) hp.1 h).2.2
  refine bnd (spReduce_ hf (Nat.le_refl n) hn h hL) ?_
  unfold nulM
  generalize redM p n m = b at hb hbl ⊢
  refine bnd (makeO_of 0 (by omega)) ?_
  have hlen : (List.replicate n (0 : Int)).length = n := List.length_replicate
  refine bnd (a := ldL n b 0) ((forS_is (fun j => part (fun _ _ => -1) (List.replicate n 0) j) ?_).trans (by rw [partN]; rfl)) ?_
  · intro j hj
    refine bnd (setO_of _ (by rw [part_len]; exact hj)) ?_
    exact congrArg some (part_set (fun _ _ => -1) (List.replicate n 0) hj)
  refine bnd (forS_is (fun i => ldL n b i) ?_) ?_
  · intro i hi
    have hw := (okM_gr hb.ok hi).1
    exact bnd (idx_gr hi) (bnd (spLead_ (by omega)) (bnd (setO_of _ (by rw [ldL_len]; exact hb.lt i hi)) rfl))
  refine bnd (whileO_is (fun j => (nuP p n b j, (j : Int))) (t := nuP p n b n) n ?_ ?_) ?_
  · intro j hj
    dsimp only
    refine stp (cTW (dT (by omega)) (bnd (a := nuP p n b (j + 1)) ?_ (bnd (addO_of (by omega) (by omega)) rfl)))
    refine bnd (idx_el (by rw [ldL_len]; exact hj)) (stp ?_)
    have h1 := ldL_el hb.lt hj b.length (Nat.le_refl _)
    rw [← isL_iff] at h1
    rw [nuP_succ]
    by_cases h2 : isL b j = true
    · rw [if_pos h2]; exact cTW (dT (h1.2 h2)) rfl
    · rw [if_neg h2]
      refine cFW (dF (fun h3 => h2 (h1.1 h3))) (bnd (makeO_of 0 (by omega)) (bnd (setO_of _ (by rw [hlen]; exact hj)) (bnd (forS_is (fun i => nvL p n b j i) ?_) (bnd (appO_of (by have := (nuP_ok (n := n) (b := b) hp.1 j).2; show _ + 1 ≤ _; omega)) rfl))))
      intro i hi
      have hw := (okM_gr hb.ok hi).1
      exact bnd (idx_gr hi) (bnd (idx_gr hi) (bnd (idx_el (by omega)) (bnd (spLead_ (by omega)) (bnd (fdNeg_ hp (okM_el hb.ok hi hj)) (bnd (setO_of _ (by rw [(nvL_ok hp.1 i).1]; exact hb.lt i hi)) rfl)))))
  · dsimp only
    exact stp (cFW (dF (by omega)) rfl)
  exact bnd (spReduce_ hf (Nat.le_refl n) hn (nuP_ok hp.1 n).1 (by have := (nuP_ok (n := n) (b := b) hp.1 n).2; omega)) rfl

/-! ### rows and columns exchanged -/
def colM (m : Rows) (j : Nat) : List Int := m.map fun r => el r j
def trM (m : Rows) (cols : Nat) : Rows := (List.replicate cols ([] : List Int)).mapIdx fun j _ => colM m j
theorem trM_len (m : Rows) (cols : Nat) : (trM m cols).length = cols := by simp [trM]
theorem trM_gr {m : Rows} {cols j : Nat} (hj : j < cols) : gr (trM m cols) j = colM m j := by
  unfold trM gr
  rw [List.getD_eq_getElem?_getD, List.getElem?_mapIdx, List.getElem?_replicate, if_pos hj]
  rfl
theorem colM_el {m : Rows} {i j : Nat} (hi : i < m.length) : el (colM m j) i = el (gr m i) j := by
  have h1 := el_get (r := colM m j) (c := i) (by simp [colM]; exact hi)
  unfold colM at h1
  rw [List.getElem?_map, gr_get hi] at h1
  exact (Option.some.inj h1).symm
theorem trM_ok {p : Int} {w cols : Nat} {m : Rows} (h : okM p w m) (hc : cols ≤ w) : okM p m.length (trM m cols) := by
  intro r hr
  obtain ⟨j, hj, rfl⟩ := List.mem_iff_getElem.1 hr
  rw [trM_len] at hj
  have e : (trM m cols)[j] = colM m j := by
    rw [← trM_gr hj]
    have := gr_get (m := trM m cols) (i := j) (by rw [trM_len]; exact hj)
    rw [List.getElem?_eq_getElem (by rw [trM_len]; exact hj)] at this; exact Option.some.inj this
  rw [e]
  refine ⟨by simp [colM], fun x hx => ?_⟩
  obtain ⟨r, hr, rfl⟩ := List.mem_map.1 hx
  have h1 := h r hr
  exact h1.2 _ (el_mem (by omega))

/-! ### products with zero -/

/-! ### the states that are hidden -/
def cols (p : Int) (o : Nat) (A C : Rows) : Nat → Rows
  | 0 => C
  | k + 1 => mulM p o A (cols p o A C k)
section
variable {p : Int} {n o : Nat} {A C : Rows}
end
section
variable {p : Int} {n : Nat} {A B : Rows}
end
section
variable {p : Int} {n o : Nat} {A C : Rows}
end
end Go.Proofs.YtnlbhdepagkjgaaDoor
