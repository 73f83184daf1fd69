/-
  Plain laws: a reduction, in the reference and in the program, step by step alike. No program in sight. No condition.
-/
import Derived.Test.YtnlbhdepagkjgaaDoorZP11
namespace Go.Proofs.YtnlbhdepagkjgaaDoor

/-! ### lists changed at every place -/
def partG {α : Type} (g : Nat → α → α) (l : List α) (j : Nat) : List α := (l.take j).mapIdx g ++ l.drop j
theorem partG0 {α : Type} (g : Nat → α → α) (l : List α) : partG g l 0 = l := by simp [partG]
theorem partGN {α : Type} (g : Nat → α → α) (l : List α) : partG g l l.length = l.mapIdx g := by simp [partG]
theorem partG_len {α : Type} (g : Nat → α → α) (l : List α) (j : Nat) : (partG g l j).length = l.length := by simp [partG]; omega
theorem partG_get {α : Type} (g : Nat → α → α) (l : List α) (j k : Nat) : (partG g l j)[k]? = if k < j then l[k]?.map (g k) else l[k]? := by
  unfold partG
  by_cases h : k < ((l.take j).mapIdx g).length
  · rw [List.getElem?_append_left h]
    have h2 : k < j := by simp at h; omega
    rw [if_pos h2, List.getElem?_mapIdx, List.getElem?_take, if_pos h2]
  · rw [List.getElem?_append_right (by omega)]
    have h1 : ¬ k < min j l.length := by simpa using h
    by_cases h2 : k < j
    · rw [if_pos h2, List.getElem?_eq_none (by omega : l.length ≤ k)]
      rw [List.getElem?_drop, List.getElem?_eq_none (by simp; omega)]; rfl
    · rw [if_neg h2, List.getElem?_drop]
      by_cases h3 : l.length ≤ j
      · rw [List.getElem?_eq_none (by simp; omega), List.getElem?_eq_none (by omega)]
      · congr 1; simp; omega
theorem gr_part {g : Nat → List Int → List Int} {m : Rows} {j k : Nat} (hk : k < m.length) : gr (partG g m j) k = if k < j then g k (gr m k) else gr m k := by
  have h1 := gr_get (m := partG g m j) (i := k) (by rw [partG_len]; exact hk)
  rw [partG_get, gr_get hk] at h1
  split at h1
  · rename_i h; rw [if_pos h]; exact (Option.some.inj h1).symm
  · rename_i h; rw [if_neg h]; exact (Option.some.inj h1).symm
theorem part_setG {g : Nat → List Int → List Int} {m : Rows} {j : Nat} (hj : j < m.length) : (partG g m j).set j (g j (gr m j)) = partG g m (j + 1) := by
  have h2 : gr m j = m[j] := by have := gr_get hj; rw [List.getElem?_eq_getElem hj] at this; exact (Option.some.inj this).symm
  rw [h2]
  exact set_take m g j hj

/-! ### the steps -/
def scanN (m : Rows) (c : Nat) : Nat → Nat → Nat
  | 0, k => k
  | d + 1, k => if el (gr m k) c = 0 then scanN m c d (k + 1) else k
theorem scanN_spec (m : Rows) (c : Nat) : ∀ (d k : Nat), k + d = m.length → k ≤ scanN m c d k ∧ scanN m c d k ≤ m.length ∧ (scanN m c d k < m.length → el (gr m (scanN m c d k)) c ≠ 0)
  | 0, k, h => ⟨Nat.le_refl _, by simp only [scanN]; omega, fun h2 => by simp only [scanN] at h2; omega⟩
  | d + 1, k, h => by
    unfold scanN
    split
    · obtain ⟨h1, h2, h3⟩ := scanN_spec m c d (k + 1) (by omega)
      exact ⟨by omega, h2, h3⟩
    · rename_i hne
      exact ⟨Nat.le_refl _, by omega, fun _ => hne⟩
theorem scan_ {f : Int → Option (Int ⊕ Int)} {m : Rows} {c : Nat} (hf : ∀ k : Nat, k < m.length → f (k : Int) = some (if el (gr m k) c = 0 then .inl ((k : Int) + 1) else .inr (k : Int))) (he : f (m.length : Int) = some (.inr (m.length : Int))) :
    ∀ (d k : Nat), k + d = m.length → whileO f (k : Int) = some ((scanN m c d k : Nat) : Int)
  | 0, k, h => by
    have : k = m.length := by omega
    subst this
    rw [whileO_end he]; rfl
  | d + 1, k, h => by
    have h1 := hf k (by omega)
    unfold scanN
    by_cases h0 : el (gr m k) c = 0
    · rw [if_pos h0] at h1 ⊢
      rw [whileO_step h1]
      exact scan_ hf he d (k + 1) (by omega)
    · rw [if_neg h0] at h1 ⊢
      exact whileO_end h1
def elimG (p : Int) (c r : Nat) (m a : Rows) : Nat → List Int → List Int := fun i row => if i = r ∨ el (gr m i) c = 0 then row else mapR (subG p (el (gr m i) c) (gr a r)) row
def elimA (p : Int) (c r : Nat) (m a : Rows) : Rows := a.mapIdx (elimG p c r m a)
theorem elimA_len (p : Int) (c r : Nat) (m a : Rows) : (elimA p c r m a).length = a.length := by simp [elimA]
theorem elimA_gr {p : Int} {c r : Nat} {m a : Rows} {i : Nat} (h : i < a.length) : gr (elimA p c r m a) i = elimG p c r m a i (gr a i) := by
  have := gr_part (g := elimG p c r m a) (j := a.length) h
  rw [partGN, if_pos h] at this
  exact this
theorem elimG_ok {p : Int} {c r n : Nat} {m a : Rows} (hp : 2 ≤ p) {i : Nat} {row : List Int} (hr : row.length = n ∧ inP p row) : (elimG p c r m a i row).length = n ∧ inP p (elimG p c r m a i row) := by
  unfold elimG
  split
  · exact hr
  · exact ⟨by rw [mapR_len]; exact hr.1, mapR_in hp (fun j x => ⟨_, rfl⟩) _⟩
theorem elimA_ok {p : Int} {c r n : Nat} {m a : Rows} (hp : 2 ≤ p) (h : okM p n a) : okM p n (elimA p c r m a) := by
  intro x hx
  obtain ⟨i, hi, rfl⟩ := List.mem_iff_getElem.1 hx
  unfold elimA at hi ⊢
  rw [List.getElem_mapIdx]
  have hi' : i < a.length := by simpa using hi
  exact elimG_ok hp (h _ (List.getElem_mem hi'))
def pivA (p : Int) (c : Nat) (m a : Rows) (r k : Nat) : Rows := scaleM p (invF p (el (gr (swapM m r k) r) c)) (swapM a r k) r
def stepA (p : Int) (c : Nat) (m a : Rows) (r k : Nat) : Rows := elimA p c r (pivA p c m m r k) (pivA p c m a r k)
theorem pivA_len (p : Int) (c : Nat) (m a : Rows) (r k : Nat) : (pivA p c m a r k).length = a.length := by unfold pivA; rw [scaleM_len, swapM_len]
theorem stepA_len (p : Int) (c : Nat) (m a : Rows) (r k : Nat) : (stepA p c m a r k).length = a.length := by unfold stepA; rw [elimA_len, pivA_len]
theorem pivA_ok {p : Int} {c n : Nat} {m a : Rows} {r k : Nat} (hp : 2 ≤ p) (h : okM p n a) (hr : r < a.length) (hk : k < a.length) : okM p n (pivA p c m a r k) :=
  scaleM_ok hp (swapM_ok h hr hk) (by rw [swapM_len]; exact hr)
theorem stepA_ok {p : Int} {c n : Nat} {m a : Rows} {r k : Nat} (hp : 2 ≤ p) (h : okM p n a) (hr : r < a.length) (hk : k < a.length) : okM p n (stepA p c m a r k) := elimA_ok hp (pivA_ok hp h hr hk)
/-- the reduction of the columns c .. c + d - 1, from rank r on -/
def redLoop (p : Int) : Nat → Nat → Rows → Rows → Nat → Rows × Rows × Nat
  | 0, _, m, a, r => (m, a, r)
  | d + 1, c, m, a, r =>
    if r < m.length then
      if scanN m c (m.length - r) r = m.length then redLoop p d (c + 1) m a r
      else redLoop p d (c + 1) (stepA p c m m r (scanN m c (m.length - r) r)) (stepA p c m a r (scanN m c (m.length - r) r)) (r + 1)
    else (m, a, r)

/-! ### the reference -/
end Go.Proofs.YtnlbhdepagkjgaaDoor
