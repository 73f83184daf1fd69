/-
  Plain laws: a reduction, in the reference and in the program, step by step alike. No program in sight. No condition.
-/
import Derived.Test.YtgfnophfoccamaaZP11
namespace Go.Proofs.Ytgfnophfoccamaa

/-! ### lists changed at every place -/
def partG {α : Type} (g : Nat → α → α) (l : List α) (j : Nat) : List α := (l.take j).mapIdx g ++ l.drop j
theorem partGN {α : Type} (g : Nat → α → α) (l : List α) : partG g l l.length = l.mapIdx g := by simp [partG]
theorem partG_len {α : Type} (g : Nat → α → α) (l : List α) (j : Nat) : (partG g l j).length = l.length := by simp [partG]; omega
theorem partG_get {α : Type} (g : Nat → α → α) (l : List α) (j k : Nat) : (partG g l j)[k]? = if k < j then l[k]?.map (g k) else l[k]? := by
  unfold partG
  by_cases h : k < ((l.take j).mapIdx g).length
  · rw [List.getElem?_append_left h]
    have h2 : k < j := by simp at h; omega
    rw [if_pos h2, List.getElem?_mapIdx, List.getElem?_take, if_pos h2]
  · rw [List.getElem?_append_right (by omega)]
    have h1 : ¬ k < min j l.length := by simpa using h
    by_cases h2 : k < j
    · rw [if_pos h2, List.getElem?_eq_none (by omega : l.length ≤ k)]
      rw [List.getElem?_drop, List.getElem?_eq_none (by simp; omega)]; rfl
    · rw [if_neg h2, List.getElem?_drop]
      by_cases h3 : l.length ≤ j
      · rw [List.getElem?_eq_none (by simp; omega), List.getElem?_eq_none (by omega)]
      · congr 1; simp; omega
theorem gr_part {g : Nat → List Int → List Int} {m : Rows} {j k : Nat} (hk : k < m.length) : gr (partG g m j) k = if k < j then g k (gr m k) else gr m k := by
  have h1 := gr_get (m := partG g m j) (i := k) (by rw [partG_len]; exact hk)
  rw [partG_get, gr_get hk] at h1
  split at h1
  · rename_i h; rw [if_pos h]; exact (Option.some.inj h1).symm
  · rename_i h; rw [if_neg h]; exact (Option.some.inj h1).symm

/-! ### the steps -/
def scanN (m : Rows) (c : Nat) : Nat → Nat → Nat
  | 0, k => k
  | d + 1, k => if el (gr m k) c = 0 then scanN m c d (k + 1) else k
theorem scanN_spec (m : Rows) (c : Nat) : ∀ (d k : Nat), k + d = m.length → k ≤ scanN m c d k ∧ scanN m c d k ≤ m.length ∧ (scanN m c d k < m.length → el (gr m (scanN m c d k)) c ≠ 0)
  | 0, k, h => ⟨Nat.le_refl _, by simp only [scanN]; omega, fun h2 => by simp only [scanN] at h2; omega⟩
  | d + 1, k, h => by
    unfold scanN
    split
    · obtain ⟨h1, h2, h3⟩ := scanN_spec m c d (k + 1) (by omega)
      exact ⟨by omega, h2, h3⟩
    · rename_i hne
      exact ⟨Nat.le_refl _, by omega, fun _ => hne⟩
def elimG (p : Int) (c r : Nat) (m a : Rows) : Nat → List Int → List Int := fun i row => if i = r ∨ el (gr m i) c = 0 then row else mapR (subG p (el (gr m i) c) (gr a r)) row
def elimA (p : Int) (c r : Nat) (m a : Rows) : Rows := a.mapIdx (elimG p c r m a)
theorem elimA_len (p : Int) (c r : Nat) (m a : Rows) : (elimA p c r m a).length = a.length := by simp [elimA]
theorem elimA_gr {p : Int} {c r : Nat} {m a : Rows} {i : Nat} (h : i < a.length) : gr (elimA p c r m a) i = elimG p c r m a i (gr a i) := by
  have := gr_part (g := elimG p c r m a) (j := a.length) h
  rw [partGN, if_pos h] at this
  exact this
def pivA (p : Int) (c : Nat) (m a : Rows) (r k : Nat) : Rows := scaleM p (invF p (el (gr (swapM m r k) r) c)) (swapM a r k) r
def stepA (p : Int) (c : Nat) (m a : Rows) (r k : Nat) : Rows := elimA p c r (pivA p c m m r k) (pivA p c m a r k)
theorem pivA_len (p : Int) (c : Nat) (m a : Rows) (r k : Nat) : (pivA p c m a r k).length = a.length := by unfold pivA; rw [scaleM_len, swapM_len]
theorem stepA_len (p : Int) (c : Nat) (m a : Rows) (r k : Nat) : (stepA p c m a r k).length = a.length := by unfold stepA; rw [elimA_len, pivA_len]

/-! ### the reference -/
end Go.Proofs.Ytgfnophfoccamaa
