/-
  Plain laws: rows beside rows in a reduction; choices of inputs and their functions. No program in sight. No condition.
-/
import Derived.Test.YteikcdofblclhaaDoorZP21
namespace Go.Proofs.YteikcdofblclhaaDoor
set_option linter.unusedVariables false

/-! ### rows beside rows -/
def catM (m a : Rows) : Rows := List.zipWith (fun x y => x ++ y) m a
theorem catM_len {m a : Rows} (h : a.length = m.length) : (catM m a).length = m.length := by simp [catM, h]
theorem catM_gr : ∀ {m a : Rows} {i : Nat}, a.length = m.length → gr (catM m a) i = gr m i ++ gr a i
  | [], [], i, _ => by simp [catM, gr]
  | [], _ :: _, _, h => by simp at h
  | _ :: _, [], _, h => by simp at h
  | x :: m, y :: a, 0, _ => by rw [gr_zero, gr_zero]; rfl
  | x :: m, y :: a, i + 1, h => by
    rw [gr_succ, gr_succ]
    show gr ((x ++ y) :: catM m a) (i + 1) = _
    rw [gr_succ]
    exact catM_gr (by simpa using h)
theorem el_app {x y : List Int} {j : Nat} : el (x ++ y) j = if j < x.length then el x j else el y (j - x.length) := by
  unfold el
  rw [List.getD_eq_getElem?_getD, List.getD_eq_getElem?_getD, List.getD_eq_getElem?_getD]
  split
  · rename_i h; rw [List.getElem?_append_left h]
  · rename_i h; rw [List.getElem?_append_right (by omega)]
theorem catM_ok {p : Int} {k q : Nat} {m a : Rows} (hl : a.length = m.length) (h : okM p k m) (ha : okM p q a) : okM p (k + q) (catM m a) := by
  intro x hx
  obtain ⟨i, hi, rfl⟩ := List.mem_iff_getElem.1 hx
  rw [catM_len hl] at hi
  have e : gr (catM m a) i = (catM m a)[i]'(by rw [catM_len hl]; exact hi) := by have := gr_get (m := catM m a) (i := i) (by rw [catM_len hl]; exact hi); rw [List.getElem?_eq_getElem] at this; exact (Option.some.inj this).symm
  rw [← e, catM_gr hl]
  exact okR_app (okM_gr h hi) (okM_gr ha (by omega))
theorem catM_el {p : Int} {k : Nat} {m a : Rows} (hl : a.length = m.length) (h : okM p k m) {i c : Nat} (hi : i < m.length) (hc : c < k) : el (gr (catM m a) i) c = el (gr m i) c := by
  rw [catM_gr hl, el_app, if_pos (by rw [(okM_gr h hi).1]; exact hc)]
theorem catM_scan {p : Int} {k : Nat} {m a : Rows} (hl : a.length = m.length) (h : okM p k m) {c : Nat} (hc : c < k) : ∀ (d i : Nat), i + d ≤ m.length → scanN (catM m a) c d i = scanN m c d i
  | 0, _, _ => rfl
  | d + 1, i, hi => by
    unfold scanN
    rw [catM_el hl h (by omega) hc, catM_scan hl h hc d (i + 1) (by omega)]
theorem catM_swap {m a : Rows} {r k i : Nat} (hl : a.length = m.length) (hr : r < m.length) (hk : k < m.length) : gr (swapM (catM m a) r k) i = gr (swapM m r k) i ++ gr (swapM a r k) i := by
  have hcl := catM_len hl
  rw [swapM_gr2 (by rw [hcl]; exact hr) (by rw [hcl]; exact hk), swapM_gr2 hr hk, swapM_gr2 (m := a) (by omega) (by omega)]
  split
  · exact catM_gr hl
  · split <;> exact catM_gr hl
theorem catM_step {p : Int} {c r k w q : Nat} {m a : Rows} (hf : fdB p = true) (h : okM p w m) (ha : okM p q a) (hl : a.length = m.length) (hr : r < m.length) (hk : k < m.length) (hc : c < w) (hne : el (gr m k) c ≠ 0) :
    stepA p c (catM m a) (catM m a) r k = catM (stepA p c m m r k) (stepA p c m a r k) := by
  have hp := fdB_rng hf
  have hcl := catM_len hl
  have hco := catM_ok hl h ha
  have hne2 : el (gr (catM m a) k) c ≠ 0 := by rw [catM_el hl h hk hc]; exact hne
  obtain ⟨f1, f2, f3⟩ := stepA_el hf hco hco rfl (by rw [hcl]; exact hr) (by rw [hcl]; exact hk) (by omega) hne2
  obtain ⟨g1, g2, g3⟩ := stepA_el hf h h rfl hr hk hc hne
  obtain ⟨k1, k2, k3⟩ := stepA_el hf h ha hl hr hk hc hne
  have l1 : (stepA p c (catM m a) (catM m a) r k).length = m.length := by rw [stepA_len, hcl]
  have l2 : (stepA p c m m r k).length = m.length := stepA_len p c m m r k
  have l3 : (stepA p c m a r k).length = m.length := by rw [stepA_len, hl]
  have o1 : okM p (w + q) (stepA p c (catM m a) (catM m a) r k) := stepA_ok hp.1 hco (by rw [hcl]; exact hr) (by rw [hcl]; exact hk)
  have o2 : okM p w (stepA p c m m r k) := stepA_ok hp.1 h hr hk
  have o3 : okM p q (stepA p c m a r k) := stepA_ok hp.1 ha (by omega) (by omega)
  rw [hcl] at f3
  have hrow : ∀ j, j < w + q → el (gr (stepA p c (catM m a) (catM m a) r k) r) j = el (gr (stepA p c m m r k) r ++ gr (stepA p c m a r k) r) j := fun j hj => by
    rw [f2 j hj, catM_el hl h hk hc, catM_gr hl, el_app, el_app, (okM_gr h hk).1, (okM_gr o2 (i := r) (by omega)).1]
    split
    · rw [g2 j (by omega)]
    · rw [k2 _ (by omega)]
  refine ext_gr (by rw [catM_len (by rw [l3, l2]), l1, l2]) fun i hi => ?_
  rw [l1] at hi
  rw [catM_gr (by rw [l3, l2])]
  have wi := (okM_gr o2 (i := i) (by omega)).1
  refine ext_el (by rw [List.length_append, (okM_gr o1 (i := i) (by omega)).1, wi, (okM_gr o3 (i := i) (by omega)).1]) fun j hj => ?_
  rw [(okM_gr o1 (i := i) (by omega)).1] at hj
  by_cases hir : i = r
  · subst hir; exact hrow j hj
  · have hsm : okM p w (swapM m r k) := swapM_ok h hr hk
    have ws := (okM_gr hsm (i := i) (by rw [swapM_len]; exact hi)).1
    have wr := (okM_gr o2 (i := r) (by omega)).1
    rw [f3 i hi hir j hj, hrow j hj, catM_swap hl hr hk, el_app, el_app, el_app, el_app, ws, wr, wi, if_pos hc]
    split
    · rename_i hjw; rw [g3 i hi hir j hjw]
    · rename_i hjw; rw [k3 i hi hir _ (by omega)]
theorem catM_loop {p : Int} {w q : Nat} (hf : fdB p = true) : ∀ (d c : Nat) (m a : Rows) (r : Nat), c + d ≤ w → okM p w m → okM p q a → a.length = m.length → r ≤ m.length →
    redLoop p d c (catM m a) (catM m a) r = (catM (redLoop p d c m a r).1 (redLoop p d c m a r).2.1, catM (redLoop p d c m a r).1 (redLoop p d c m a r).2.1, (redLoop p d c m a r).2.2)
  | 0, _, _, _, _, _, _, _, _, _ => rfl
  | d + 1, c, m, a, r, hd, h, ha, hl, hr => by
    have hcl := catM_len hl
    unfold redLoop
    rw [hcl]
    by_cases hrl : r < m.length
    · rw [if_pos hrl, if_pos hrl, catM_scan hl h (by omega) (m.length - r) r (by omega)]
      obtain ⟨s1, s2, s3⟩ := scanN_spec m c (m.length - r) r (by omega)
      split
      · exact catM_loop hf d (c + 1) m a r (by omega) h ha hl hr
      · rename_i hk
        have hkl : scanN m c (m.length - r) r < m.length := by omega
        rw [catM_step hf h ha hl hrl hkl (by omega) (s3 hkl)]
        have ha2 : okM p q (stepA p c m a r (scanN m c (m.length - r) r)) := stepA_ok (fdB_rng hf).1 ha (by omega) (by omega)
        exact catM_loop hf d (c + 1) (stepA p c m m r (scanN m c (m.length - r) r)) (stepA p c m a r (scanN m c (m.length - r) r)) (r + 1) (by omega) (stepA_ok (fdB_rng hf).1 h hrl hkl) ha2 (by rw [stepA_len, stepA_len]; exact hl) (by rw [stepA_len]; omega)
    · rw [if_neg hrl, if_neg hrl]

/-! ### choices -/
end Go.Proofs.YteikcdofblclhaaDoor
