/-
  Plain laws: what rows span, rows that are independent, reduced lists are determined by what they span. No program in sight. No condition.
-/
import Derived.Test.YtgfnophfoccamaaZP17
namespace Go.Proofs.Ytgfnophfoccamaa
set_option linter.unusedVariables false

def Indep (p : Int) (n : Nat) (m : Rows) : Prop := ∀ x : Nat → Int, (∀ j, j < n → sg m.length (fun i => x i * el (gr m i) j) % p = 0) → ∀ i, i < m.length → x i % p = 0

/-! ### sums -/
theorem sg_mulr (c : Int) (f : Nat → Int) (k : Nat) : sg k (fun i => f i * c) = sg k f * c := by
  rw [sg_congr (g := fun i => c * f i) (fun i _ => Int.mul_comm _ _), sg_mul, Int.mul_comm]
theorem sg_neg (f : Nat → Int) (k : Nat) : sg k (fun i => - f i) = - sg k f := by
  rw [sg_congr (g := fun i => (-1) * f i) (fun i _ => by omega), sg_mul]; omega
theorem sg_sub (f g : Nat → Int) (k : Nat) : sg k (fun i => f i - g i) = sg k f - sg k g := by
  rw [sg_congr (g := fun i => f i + - g i) (fun i _ => Int.sub_eq_add_neg), sg_add, sg_neg]; omega
/-- one summand taken out -/
theorem sg_split {f : Nat → Int} {k r : Nat} (h : r < k) : sg k f = sg k (fun i => if i = r then 0 else f i) + f r := by
  have h1 : sg k (fun i => if i = r then f i else 0) = f r := by
    rw [sg_one h (fun i _ hn => if_neg hn), if_pos rfl]
  rw [← h1, ← sg_add]
  exact sg_congr fun i _ => by by_cases hi : i = r <;> simp [hi]
theorem mod_of_sub {p a b : Int} (h : (a - b) % p = 0) : a % p = b % p := by
  have h2 : a = (a - b) + b := by omega
  rw [h2, Int.add_emod, h, Int.zero_add, mod_mod]
theorem mul_mod_zero {p a b : Int} (h : a % p = 0) : (a * b) % p = 0 := by rw [← mul_mod1, h, Int.zero_mul]; exact Int.zero_emod p

/-! ### spans -/

/-! ### a step of the reduction -/
/-- what a step makes of rows that go along, by their elements -/
theorem stepA_el {p : Int} {c r k N q : Nat} {m a : Rows} (hf : fdB p = true) (h : okM p N m) (ha : okM p q a) (hl : a.length = m.length) (hr : r < m.length) (hk : k < m.length) (hc : c < N) (hne : el (gr m k) c ≠ 0) :
    let iv := invF p (el (gr m k) c)
    (el (gr m k) c * iv) % p = 1 ∧ (∀ j, j < q → el (gr (stepA p c m a r k) r) j = (el (gr a k) j * iv) % p) ∧
    ∀ i, i < m.length → i ≠ r → ∀ j, j < q → el (gr (stepA p c m a r k) i) j = (el (gr (swapM a r k) i) j - el (gr (swapM m r k) i) c * el (gr (stepA p c m a r k) r) j) % p := by
  intro iv
  have hp := fdB_rng hf
  have hel := okM_el h hk hc
  obtain ⟨_, i1, i2, i3⟩ := inverse_ hf (x := el (gr m k) c) ⟨by omega, hel.2⟩
  have hra : r < a.length := by omega
  have hka : k < a.length := by omega
  have hsr : gr (swapM m r k) r = gr m k := swapM_gr hr hk
  have hsra : gr (swapM a r k) r = gr a k := swapM_gr hra hka
  have hso : okM p q (swapM a r k) := swapM_ok ha hra hka
  have hpl : (pivA p c m a r k).length = a.length := pivA_len p c m a r k
  have hpr : gr (pivA p c m a r k) r = mapR (scaleG p iv) (gr a k) := by
    rw [pivA_gr hra, if_pos rfl, hsr, hsra]
  have hrow := okM_gr ha hka
  have hpe : ∀ j, j < q → el (gr (pivA p c m a r k) r) j = (el (gr a k) j * iv) % p := fun j hj => by
    rw [hpr, el_mapR (by omega)]; rfl
  have hst : ∀ i, i < m.length → gr (stepA p c m a r k) i = elimG p c r (pivA p c m m r k) (pivA p c m a r k) i (gr (pivA p c m a r k) i) := fun i hi => elimA_gr (by rw [hpl]; omega)
  have hstr : ∀ j, j < q → el (gr (stepA p c m a r k) r) j = (el (gr a k) j * iv) % p := fun j hj => by
    rw [hst r hr]
    unfold elimG
    rw [if_pos (.inl rfl)]
    exact hpe j hj
  refine ⟨i1, hstr, fun i hi hir j hj => ?_⟩
  rw [hstr j hj, hst i hi]
  have hpi : gr (pivA p c m a r k) i = gr (swapM a r k) i := by rw [pivA_gr hra, if_neg hir]
  have hpm : gr (pivA p c m m r k) i = gr (swapM m r k) i := by rw [pivA_gr hr, if_neg hir]
  have hsi := okM_gr hso (i := i) (by rw [swapM_len]; omega)
  have hb := okM_el hso (i := i) (by rw [swapM_len]; omega) hj
  unfold elimG
  by_cases h0 : el (gr (pivA p c m m r k) i) c = 0
  · rw [if_pos (.inr h0), hpi]
    rw [hpm] at h0
    rw [h0, Int.zero_mul, Int.sub_zero, emod_sm hb]
  · rw [if_neg (by intro h1; rcases h1 with h1 | h1; exact hir h1; exact h0 h1)]
    rw [el_mapR (by rw [hpi]; omega)]
    unfold subG
    rw [hpi, hpe j hj, hpm]

/-! ### independent rows -/
theorem Indep.swap {p : Int} {n : Nat} {m : Rows} {r k : Nat} (hr : r < m.length) (hk : k < m.length) (h : Indep p n m) : Indep p n (swapM m r k) := by
  intro x hx
  have hl := swapM_len m r k
  -- coefficients of m
  have key : ∀ f : List Int → Int, sg (swapM m r k).length (fun i => x i * f (gr (swapM m r k) i)) = sg m.length (fun i => (if i = r then x k else if i = k then x r else x i) * f (gr m i)) := by
    intro f
    rw [hl]
    by_cases hrk : r = k
    · subst hrk
      refine sg_congr fun i hi => ?_
      rw [swapM_gr2 hr hk]
      by_cases h1 : i = r
      · subst h1; simp
      · simp [h1]
    · rw [sg_split hr, sg_split (f := fun i => if i = r then 0 else _) hk, sg_split (f := fun i => (if i = r then x k else if i = k then x r else x i) * f (gr m i)) hr, sg_split (f := fun i => if i = r then 0 else (if i = r then x k else if i = k then x r else x i) * f (gr m i)) hk]
      have e1 : sg m.length (fun i => if i = k then 0 else if i = r then 0 else x i * f (gr (swapM m r k) i)) = sg m.length (fun i => if i = k then 0 else if i = r then 0 else (if i = r then x k else if i = k then x r else x i) * f (gr m i)) := by
        refine sg_congr fun i _ => ?_
        by_cases h1 : i = k
        · simp [h1]
        · by_cases h2 : i = r
          · simp [h2]
          · rw [swapM_gr2 hr hk]; simp [h1, h2]
      rw [e1, if_neg (Ne.symm hrk), if_neg (Ne.symm hrk), swapM_gr hr hk, swapM_gr2 hr hk, if_pos rfl]
      simp only [if_true, if_neg (Ne.symm hrk)]
      omega
  have h2 := h (fun i => if i = r then x k else if i = k then x r else x i) (fun j hj => by rw [← key (fun l => el l j)]; exact hx j hj)
  intro i hi
  rw [hl] at hi
  by_cases h1 : i = k
  · subst h1
    have := h2 r hr
    simpa using this
  · by_cases h3 : i = r
    · subst h3
      have := h2 k hk
      by_cases h4 : k = i
      · exact absurd h4.symm h1
      · simpa [h4] using this
    · have := h2 i hi
      simpa [h1, h3] using this
/-- sums over a step's rows -/
theorem step_sum {p : Int} {c r k N q : Nat} {m a : Rows} (hf : fdB p = true) (h : okM p N m) (ha : okM p q a) (hl : a.length = m.length) (hr : r < m.length) (hk : k < m.length) (hc : c < N) (hne : el (gr m k) c ≠ 0) (x : Nat → Int) {j : Nat} (hj : j < q) :
    sg m.length (fun i => x i * el (gr (stepA p c m a r k) i) j) % p = (sg m.length (fun i => if i = r then 0 else x i * el (gr (swapM a r k) i) j) + (x r - sg m.length (fun i => if i = r then 0 else x i * el (gr (swapM m r k) i) c)) * (invF p (el (gr m k) c) * el (gr a k) j)) % p := by
  obtain ⟨e1, e2, e3⟩ := stepA_el hf h ha hl hr hk hc hne
  rw [sg_split hr]
  have h1 : sg m.length (fun i => if i = r then 0 else x i * el (gr (stepA p c m a r k) i) j) % p = sg m.length (fun i => if i = r then 0 else x i * (el (gr (swapM a r k) i) j - el (gr (swapM m r k) i) c * el (gr (stepA p c m a r k) r) j)) % p := by
    refine sg_mod fun i hi => ?_
    by_cases hir : i = r
    · rw [if_pos hir, if_pos hir]
    · rw [if_neg hir, if_neg hir, e3 i hi hir j hj, mul_mod2]
  have h2 : sg m.length (fun i => if i = r then 0 else x i * (el (gr (swapM a r k) i) j - el (gr (swapM m r k) i) c * el (gr (stepA p c m a r k) r) j)) = sg m.length (fun i => if i = r then 0 else x i * el (gr (swapM a r k) i) j) - sg m.length (fun i => if i = r then 0 else x i * el (gr (swapM m r k) i) c) * el (gr (stepA p c m a r k) r) j := by
    rw [← sg_mulr, ← sg_sub]
    refine sg_congr fun i _ => ?_
    by_cases hir : i = r
    · simp [hir]
    · simp only [if_neg hir]; rw [Int.mul_sub, Int.mul_assoc]
  rw [Int.add_emod, h1, h2, ← Int.add_emod]
  generalize sg m.length (fun i => if i = r then 0 else x i * el (gr (swapM a r k) i) j) = A
  generalize sg m.length (fun i => if i = r then 0 else x i * el (gr (swapM m r k) i) c) = F
  have e4 : A - F * el (gr (stepA p c m a r k) r) j + x r * el (gr (stepA p c m a r k) r) j = A + (x r - F) * el (gr (stepA p c m a r k) r) j := by rw [Int.sub_mul]; omega
  rw [e4, e2 j hj, Int.add_emod, mul_mod2, ← Int.add_emod, Int.mul_comm (el (gr a k) j)]
theorem Indep.step {p : Int} {c r k N q : Nat} {m a : Rows} (hf : fdB p = true) (h : okM p N m) (ha : okM p q a) (hl : a.length = m.length) (hr : r < m.length) (hk : k < m.length) (hc : c < N) (hne : el (gr m k) c ≠ 0) (hi : Indep p q a) : Indep p q (stepA p c m a r k) := by
  obtain ⟨e1, e2, e3⟩ := stepA_el hf h ha hl hr hk hc hne
  have hsl : (stepA p c m a r k).length = m.length := by rw [stepA_len, hl]
  have hra : r < a.length := by omega
  have hka : k < a.length := by omega
  intro x hx
  rw [hsl] at hx ⊢
  have hs := Indep.swap hra hka hi (fun i => if i = r then (x r - sg m.length (fun i => if i = r then 0 else x i * el (gr (swapM m r k) i) c)) * invF p (el (gr m k) c) else x i) (fun j hj => by
    rw [swapM_len, hl, sg_split hr, if_pos rfl, swapM_gr hra hka]
    have := hx j hj
    rw [step_sum hf h ha hl hr hk hc hne x hj] at this
    refine Eq.trans ?_ this
    rw [Int.mul_assoc]
    refine congrArg (fun z => (z + _) % p) ?_
    refine sg_congr fun i _ => ?_
    by_cases hir : i = r
    · rw [if_pos hir, if_pos hir]
    · rw [if_neg hir, if_neg hir, if_neg hir])
  rw [swapM_len, hl] at hs
  have h0 : ∀ i, i < m.length → i ≠ r → x i % p = 0 := fun i h1 h2 => by
    have := hs i h1
    simpa only [if_neg h2] using this
  intro i h1
  by_cases h2 : i = r
  · subst h2
    have h3 := hs i hr
    simp only [if_true] at h3
    have hF : sg m.length (fun t => if t = i then 0 else x t * el (gr (swapM m i k) t) c) % p = 0 := by
      rw [sg_mod (g := fun _ => 0) (fun t ht => by
        by_cases hti : t = i
        · rw [if_pos hti]
        · rw [if_neg hti, mul_mod_zero (h0 t ht hti)]; exact (Int.zero_emod p).symm), sg_zero (fun _ _ => rfl)]
      exact Int.zero_emod p
    generalize sg m.length (fun t => if t = i then 0 else x t * el (gr (swapM m i k) t) c) = F at h3 hF
    have h4 : (x i - F) % p = 0 := by
      have h5 := mul_mod_zero (b := el (gr m k) c) h3
      rw [Int.mul_assoc, Int.mul_comm (invF p _), ← mul_mod2, e1, Int.mul_one] at h5
      exact h5
    rw [mod_of_sub h4, hF]
  · exact h0 i h1 h2

/-! ### reduced lists are determined -/
end Go.Proofs.Ytgfnophfoccamaa
