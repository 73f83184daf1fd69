/-
  Plain laws: what rows span, rows that are independent, reduced lists are determined by what they span. No program in sight. No condition.
-/
import Derived.Test.YteikcdofblclhaaDoorZP17
namespace Go.Proofs.YteikcdofblclhaaDoor
set_option linter.unusedVariables false

/-- v is a linear combination of the rows of m, n elements each -/
def inSpan (p : Int) (n : Nat) (m : Rows) (v : List Int) : Prop := ∃ x : Nat → Int, ∀ j, j < n → el v j % p = sg m.length (fun i => x i * el (gr m i) j) % p
def Indep (p : Int) (n : Nat) (m : Rows) : Prop := ∀ x : Nat → Int, (∀ j, j < n → sg m.length (fun i => x i * el (gr m i) j) % p = 0) → ∀ i, i < m.length → x i % p = 0
def subSpan (p : Int) (n : Nat) (a b : Rows) : Prop := ∀ i, i < a.length → inSpan p n b (gr a i)

/-! ### sums -/
theorem sg_mulr (c : Int) (f : Nat → Int) (k : Nat) : sg k (fun i => f i * c) = sg k f * c := by
  rw [sg_congr (g := fun i => c * f i) (fun i _ => Int.mul_comm _ _), sg_mul, Int.mul_comm]
theorem sg_neg (f : Nat → Int) (k : Nat) : sg k (fun i => - f i) = - sg k f := by
  rw [sg_congr (g := fun i => (-1) * f i) (fun i _ => by omega), sg_mul]; omega
theorem sg_sub (f g : Nat → Int) (k : Nat) : sg k (fun i => f i - g i) = sg k f - sg k g := by
  rw [sg_congr (g := fun i => f i + - g i) (fun i _ => Int.sub_eq_add_neg), sg_add, sg_neg]; omega
/-- one summand taken out -/
theorem sg_split {f : Nat → Int} {k r : Nat} (h : r < k) : sg k f = sg k (fun i => if i = r then 0 else f i) + f r := by
  have h1 : sg k (fun i => if i = r then f i else 0) = f r := by
    rw [sg_one h (fun i _ hn => if_neg hn), if_pos rfl]
  rw [← h1, ← sg_add]
  exact sg_congr fun i _ => by by_cases hi : i = r <;> simp [hi]
theorem mod_of_sub {p a b : Int} (h : (a - b) % p = 0) : a % p = b % p := by
  have h2 : a = (a - b) + b := by omega
  rw [h2, Int.add_emod, h, Int.zero_add, mod_mod]
theorem mul_mod_zero {p a b : Int} (h : a % p = 0) : (a * b) % p = 0 := by rw [← mul_mod1, h, Int.zero_mul]; exact Int.zero_emod p

/-! ### spans -/
theorem inSpan_row {p : Int} {n : Nat} {m : Rows} {i : Nat} (h : i < m.length) : inSpan p n m (gr m i) := by
  refine ⟨fun t => if t = i then 1 else 0, fun j _ => ?_⟩
  rw [sg_one h (fun t _ hn => by show (if t = i then (1 : Int) else 0) * _ = 0; rw [if_neg hn, Int.zero_mul])]
  show _ = (if i = i then (1 : Int) else 0) * _ % p
  rw [if_pos rfl, Int.one_mul]
/-- combinations of combinations -/
theorem inSpan_trans {p : Int} {n : Nat} {a b : Rows} {v : List Int} (hab : subSpan p n a b) (hv : inSpan p n a v) : inSpan p n b v := by
  obtain ⟨x, hx⟩ := hv
  have hY : ∃ Y : Nat → Nat → Int, ∀ i, i < a.length → ∀ j, j < n → el (gr a i) j % p = sg b.length (fun t => Y i t * el (gr b t) j) % p := by
    refine ⟨fun i => if h : i < a.length then Classical.choose (hab i h) else fun _ => 0, fun i hi => ?_⟩
    simp only [dif_pos hi]
    exact Classical.choose_spec (hab i hi)
  obtain ⟨Y, hY⟩ := hY
  refine ⟨fun t => sg a.length (fun i => x i * Y i t), fun j hj => ?_⟩
  rw [hx j hj]
  have e : sg b.length (fun t => sg a.length (fun i => x i * Y i t) * el (gr b t) j) = sg a.length (fun i => x i * sg b.length (fun t => Y i t * el (gr b t) j)) := by
    rw [sg_congr (g := fun t => sg a.length (fun i => x i * Y i t * el (gr b t) j)) (fun t _ => (sg_mulr _ _ _).symm), sg_comm]
    refine sg_congr fun i _ => ?_
    rw [← sg_mul]
    exact sg_congr fun t _ => Int.mul_assoc _ _ _
  rw [e]
  refine sg_mod fun i hi => ?_
  rw [← mul_mod2, hY i hi j hj, mul_mod2]
theorem subSpan_refl (p : Int) (n : Nat) (a : Rows) : subSpan p n a a := fun i hi => inSpan_row hi
theorem subSpan_trans {p : Int} {n : Nat} {a b c : Rows} (h : subSpan p n a b) (k : subSpan p n b c) : subSpan p n a c := fun i hi => inSpan_trans k (h i hi)
theorem inSpan_comb2 {p : Int} {n : Nat} {m : Rows} {u v w : List Int} (c d : Int) (hu : inSpan p n m u) (hv : inSpan p n m v) (h : ∀ j, j < n → el w j % p = (c * el u j + d * el v j) % p) : inSpan p n m w := by
  obtain ⟨x, hx⟩ := hu
  obtain ⟨y, hy⟩ := hv
  refine ⟨fun i => c * x i + d * y i, fun j hj => ?_⟩
  rw [h j hj, Int.add_emod, ← mul_mod2, ← mul_mod2 p d, hx j hj, hy j hj, mul_mod2, mul_mod2, ← Int.add_emod, ← sg_mul, ← sg_mul, ← sg_add]
  congr 1
  exact sg_congr fun i _ => by rw [Int.add_mul, Int.mul_assoc, Int.mul_assoc]
theorem inSpan_zero {p : Int} {n : Nat} {m : Rows} {v : List Int} (h : ∀ j, j < n → el v j % p = 0) : inSpan p n m v :=
  ⟨fun _ => 0, fun j hj => by rw [h j hj, sg_zero (fun i _ => Int.zero_mul _)]; exact (Int.zero_emod p).symm⟩

/-! ### a step of the reduction -/
theorem swap_span {p : Int} {n : Nat} {m : Rows} {r k : Nat} (hr : r < m.length) (hk : k < m.length) : subSpan p n (swapM m r k) m ∧ subSpan p n m (swapM m r k) := by
  have hl := swapM_len m r k
  constructor
  · intro i hi
    rw [hl] at hi
    rw [swapM_gr2 hr hk]
    split
    · exact inSpan_row hr
    · split
      · exact inSpan_row hk
      · exact inSpan_row hi
  · intro i hi
    by_cases h1 : i = k
    · subst h1
      have := inSpan_row (p := p) (n := n) (m := swapM m r i) (i := r) (by rw [hl]; exact hr)
      rw [swapM_gr2 hr hk] at this
      by_cases h2 : r = i
      · subst h2; rw [if_pos rfl] at this; exact this
      · rw [if_neg h2, if_pos rfl] at this; exact this
    · by_cases h2 : i = r
      · subst h2
        have := inSpan_row (p := p) (n := n) (m := swapM m i k) (i := k) (by rw [hl]; exact hk)
        rw [swapM_gr2 hr hk, if_pos rfl] at this; exact this
      · have := inSpan_row (p := p) (n := n) (m := swapM m r k) (i := i) (by rw [hl]; exact hi)
        rw [swapM_gr2 hr hk, if_neg h1, if_neg h2] at this; exact this
/-- what a step makes of rows that go along, by their elements -/
theorem stepA_el {p : Int} {c r k N q : Nat} {m a : Rows} (hf : fdB p = true) (h : okM p N m) (ha : okM p q a) (hl : a.length = m.length) (hr : r < m.length) (hk : k < m.length) (hc : c < N) (hne : el (gr m k) c ≠ 0) :
    let iv := invF p (el (gr m k) c)
    (el (gr m k) c * iv) % p = 1 ∧ (∀ j, j < q → el (gr (stepA p c m a r k) r) j = (el (gr a k) j * iv) % p) ∧
    ∀ i, i < m.length → i ≠ r → ∀ j, j < q → el (gr (stepA p c m a r k) i) j = (el (gr (swapM a r k) i) j - el (gr (swapM m r k) i) c * el (gr (stepA p c m a r k) r) j) % p := by
  intro iv
  have hp := fdB_rng hf
  have hel := okM_el h hk hc
  obtain ⟨_, i1, i2, i3⟩ := inverse_ hf (x := el (gr m k) c) ⟨by omega, hel.2⟩
  have hra : r < a.length := by omega
  have hka : k < a.length := by omega
  have hsr : gr (swapM m r k) r = gr m k := swapM_gr hr hk
  have hsra : gr (swapM a r k) r = gr a k := swapM_gr hra hka
  have hso : okM p q (swapM a r k) := swapM_ok ha hra hka
  have hpl : (pivA p c m a r k).length = a.length := pivA_len p c m a r k
  have hpr : gr (pivA p c m a r k) r = mapR (scaleG p iv) (gr a k) := by
    rw [pivA_gr hra, if_pos rfl, hsr, hsra]
  have hrow := okM_gr ha hka
  have hpe : ∀ j, j < q → el (gr (pivA p c m a r k) r) j = (el (gr a k) j * iv) % p := fun j hj => by
    rw [hpr, el_mapR (by omega)]; rfl
  have hst : ∀ i, i < m.length → gr (stepA p c m a r k) i = elimG p c r (pivA p c m m r k) (pivA p c m a r k) i (gr (pivA p c m a r k) i) := fun i hi => elimA_gr (by rw [hpl]; omega)
  have hstr : ∀ j, j < q → el (gr (stepA p c m a r k) r) j = (el (gr a k) j * iv) % p := fun j hj => by
    rw [hst r hr]
    unfold elimG
    rw [if_pos (.inl rfl)]
    exact hpe j hj
  refine ⟨i1, hstr, fun i hi hir j hj => ?_⟩
  rw [hstr j hj, hst i hi]
  have hpi : gr (pivA p c m a r k) i = gr (swapM a r k) i := by rw [pivA_gr hra, if_neg hir]
  have hpm : gr (pivA p c m m r k) i = gr (swapM m r k) i := by rw [pivA_gr hr, if_neg hir]
  have hsi := okM_gr hso (i := i) (by rw [swapM_len]; omega)
  have hb := okM_el hso (i := i) (by rw [swapM_len]; omega) hj
  unfold elimG
  by_cases h0 : el (gr (pivA p c m m r k) i) c = 0
  · rw [if_pos (.inr h0), hpi]
    rw [hpm] at h0
    rw [h0, Int.zero_mul, Int.sub_zero, emod_sm hb]
  · rw [if_neg (by intro h1; rcases h1 with h1 | h1; exact hir h1; exact h0 h1)]
    rw [el_mapR (by rw [hpi]; omega)]
    unfold subG
    rw [hpi, hpe j hj, hpm]
theorem step_span {p : Int} {c r k N q : Nat} {m a : Rows} (hf : fdB p = true) (h : okM p N m) (ha : okM p q a) (hl : a.length = m.length) (hr : r < m.length) (hk : k < m.length) (hc : c < N) (hne : el (gr m k) c ≠ 0) :
    subSpan p q (stepA p c m a r k) a ∧ subSpan p q a (stepA p c m a r k) := by
  obtain ⟨e1, e2, e3⟩ := stepA_el hf h ha hl hr hk hc hne
  have hsl : (stepA p c m a r k).length = m.length := by rw [stepA_len, hl]
  have hra : r < a.length := by omega
  have hka : k < a.length := by omega
  obtain ⟨w1, w2⟩ := swap_span (p := p) (n := q) (m := a) hra hka
  have hnr : inSpan p q a (gr (stepA p c m a r k) r) := by
    refine inSpan_comb2 (invF p (el (gr m k) c)) 0 (inSpan_row hka) (inSpan_row hka) fun j hj => ?_
    rw [e2 j hj, mod_mod, Int.zero_mul, Int.add_zero, Int.mul_comm]
  constructor
  · intro i hi
    rw [hsl] at hi
    by_cases hir : i = r
    · rw [hir]; exact hnr
    · refine inSpan_comb2 1 (- el (gr (swapM m r k) i) c) (w1 i (by rw [swapM_len]; omega)) hnr fun j hj => ?_
      rw [e3 i hi hir j hj, mod_mod, Int.one_mul, Int.neg_mul, Int.sub_eq_add_neg]
  · refine subSpan_trans w2 ?_
    have hrr : inSpan p q (stepA p c m a r k) (gr (stepA p c m a r k) r) := inSpan_row (by rw [hsl]; exact hr)
    intro i hi
    rw [swapM_len] at hi
    by_cases hir : i = r
    · rw [hir, swapM_gr hra hka]
      refine inSpan_comb2 (el (gr m k) c) 0 hrr hrr fun j hj => ?_
      rw [e2 j hj, Int.zero_mul, Int.add_zero, mul_mod2, ← Int.mul_assoc, Int.mul_comm (el (gr m k) c), Int.mul_assoc, ← mul_mod2, e1, Int.mul_one]
    · refine inSpan_comb2 1 (el (gr (swapM m r k) i) c) (inSpan_row (i := i) (by rw [hsl]; omega)) hrr fun j hj => ?_
      rw [e3 i (by omega) hir j hj, Int.one_mul, add_mod1]
      congr 1; omega
/-- the reduction keeps what is spanned, also by the rows that go along -/
theorem loop_span {p : Int} {N q : Nat} (hf : fdB p = true) : ∀ (d c : Nat) (m a : Rows) (r : Nat), c + d ≤ N → okM p N m → okM p q a → a.length = m.length → r ≤ m.length → subSpan p q (redLoop p d c m a r).2.1 a ∧ subSpan p q a (redLoop p d c m a r).2.1
  | 0, _, _, a, _, _, _, _, _, _ => ⟨subSpan_refl p q a, subSpan_refl p q a⟩
  | d + 1, c, m, a, r, hN, h, ha, hl, hr => by
    unfold redLoop
    by_cases hrl : r < m.length
    · rw [if_pos hrl]
      obtain ⟨s1, s2, s3⟩ := scanN_spec m c (m.length - r) r (by omega)
      split
      · exact loop_span hf d (c + 1) m a r (by omega) h ha hl hr
      · rename_i hk
        have hkl : scanN m c (m.length - r) r < m.length := by omega
        have ha2 : okM p q (stepA p c m a r (scanN m c (m.length - r) r)) := stepA_ok (fdB_rng hf).1 ha (by omega) (by omega)
        obtain ⟨k1, k2⟩ := loop_span hf d (c + 1) (stepA p c m m r (scanN m c (m.length - r) r)) (stepA p c m a r (scanN m c (m.length - r) r)) (r + 1) (by omega) (stepA_ok (fdB_rng hf).1 h hrl hkl) ha2 (by rw [stepA_len, stepA_len]; exact hl) (by rw [stepA_len]; omega)
        obtain ⟨w1, w2⟩ := step_span hf h ha hl hrl hkl (show c < N by omega) (s3 hkl)
        exact ⟨subSpan_trans k1 w1, subSpan_trans w2 k2⟩
    · rw [if_neg hrl]; exact ⟨subSpan_refl p q a, subSpan_refl p q a⟩
theorem redLoop_self (p : Int) : ∀ (d c : Nat) (m : Rows) (r : Nat), (redLoop p d c m m r).2.1 = (redLoop p d c m m r).1
  | 0, _, _, _ => rfl
  | d + 1, c, m, r => by
    unfold redLoop
    split
    · split
      · exact redLoop_self p d (c + 1) m r
      · exact redLoop_self p d (c + 1) _ (r + 1)
    · rfl
theorem take_span {p : Int} {n k : Nat} {m : Rows} (hz : ∀ i, k ≤ i → i < m.length → ∀ j, j < n → el (gr m i) j = 0) : subSpan p n (m.take k) m ∧ subSpan p n m (m.take k) := by
  constructor
  · intro i hi
    rw [List.length_take] at hi
    rw [gr_take (by omega)]
    exact inSpan_row (by omega)
  · intro i hi
    rcases Nat.lt_or_ge i k with h | h
    · have := inSpan_row (p := p) (n := n) (m := m.take k) (i := i) (by rw [List.length_take]; omega)
      rw [gr_take h] at this; exact this
    · exact inSpan_zero fun j hj => by rw [hz i h hi j hj]; exact Int.zero_emod p
/-- the reduced rows span what the rows span -/
theorem redM_span {p : Int} {n : Nat} {m : Rows} (hf : fdB p = true) (h : okM p n m) : subSpan p n (redM p n m) m ∧ subSpan p n m (redM p n m) := by
  obtain ⟨k1, k2⟩ := loop_span hf n 0 m m 0 (by omega) h h rfl (by omega)
  rw [redLoop_self] at k1 k2
  have h1 := redLoop_red hf n 0 m 0 (by omega) h (RedI.start m)
  rw [Nat.zero_add] at h1
  obtain ⟨w1, w2⟩ := take_span (p := p) (n := n) (m := (redLoop p n 0 m m 0).1) (k := (redLoop p n 0 m m 0).2.2) h1.rest
  exact ⟨subSpan_trans w1 k1, subSpan_trans k2 w2⟩

/-! ### independent rows -/
theorem Indep.swap {p : Int} {n : Nat} {m : Rows} {r k : Nat} (hr : r < m.length) (hk : k < m.length) (h : Indep p n m) : Indep p n (swapM m r k) := by
  intro x hx
  have hl := swapM_len m r k
  -- coefficients of m
  have key : ∀ f : List Int → Int, sg (swapM m r k).length (fun i => x i * f (gr (swapM m r k) i)) = sg m.length (fun i => (if i = r then x k else if i = k then x r else x i) * f (gr m i)) := by
    intro f
    rw [hl]
    by_cases hrk : r = k
    · subst hrk
      refine sg_congr fun i hi => ?_
      rw [swapM_gr2 hr hk]
      by_cases h1 : i = r
      · subst h1; simp
      · simp [h1]
    · rw [sg_split hr, sg_split (f := fun i => if i = r then 0 else _) hk, sg_split (f := fun i => (if i = r then x k else if i = k then x r else x i) * f (gr m i)) hr, sg_split (f := fun i => if i = r then 0 else (if i = r then x k else if i = k then x r else x i) * f (gr m i)) hk]
      have e1 : sg m.length (fun i => if i = k then 0 else if i = r then 0 else x i * f (gr (swapM m r k) i)) = sg m.length (fun i => if i = k then 0 else if i = r then 0 else (if i = r then x k else if i = k then x r else x i) * f (gr m i)) := by
        refine sg_congr fun i _ => ?_
        by_cases h1 : i = k
        · simp [h1]
        · by_cases h2 : i = r
          · simp [h2]
          · rw [swapM_gr2 hr hk]; simp [h1, h2]
      rw [e1, if_neg (Ne.symm hrk), if_neg (Ne.symm hrk), swapM_gr hr hk, swapM_gr2 hr hk, if_pos rfl]
      simp only [if_true, if_neg (Ne.symm hrk)]
      omega
  have h2 := h (fun i => if i = r then x k else if i = k then x r else x i) (fun j hj => by rw [← key (fun l => el l j)]; exact hx j hj)
  intro i hi
  rw [hl] at hi
  by_cases h1 : i = k
  · subst h1
    have := h2 r hr
    simpa using this
  · by_cases h3 : i = r
    · subst h3
      have := h2 k hk
      by_cases h4 : k = i
      · exact absurd h4.symm h1
      · simpa [h4] using this
    · have := h2 i hi
      simpa [h1, h3] using this
theorem swapM_swap {m : Rows} {r k : Nat} (hr : r < m.length) (hk : k < m.length) : swapM (swapM m r k) r k = m := by
  have hl := swapM_len m r k
  refine ext_gr (by rw [swapM_len, swapM_len]) fun i hi => ?_
  rw [swapM_gr2 (by rw [hl]; exact hr) (by rw [hl]; exact hk)]
  by_cases h1 : i = k
  · subst h1; rw [if_pos rfl, swapM_gr hr hk]
  · rw [if_neg h1]
    by_cases h2 : i = r
    · subst h2; rw [if_pos rfl, swapM_gr2 hr hk, if_pos rfl]
    · rw [if_neg h2, swapM_gr2 hr hk, if_neg h1, if_neg h2]
theorem Indep.unswap {p : Int} {n : Nat} {m : Rows} {r k : Nat} (hr : r < m.length) (hk : k < m.length) (h : Indep p n (swapM m r k)) : Indep p n m := by
  have := Indep.swap (r := r) (k := k) (by rw [swapM_len]; exact hr) (by rw [swapM_len]; exact hk) h
  rw [swapM_swap hr hk] at this; exact this
/-- sums over a step's rows -/
theorem step_sum {p : Int} {c r k N q : Nat} {m a : Rows} (hf : fdB p = true) (h : okM p N m) (ha : okM p q a) (hl : a.length = m.length) (hr : r < m.length) (hk : k < m.length) (hc : c < N) (hne : el (gr m k) c ≠ 0) (x : Nat → Int) {j : Nat} (hj : j < q) :
    sg m.length (fun i => x i * el (gr (stepA p c m a r k) i) j) % p = (sg m.length (fun i => if i = r then 0 else x i * el (gr (swapM a r k) i) j) + (x r - sg m.length (fun i => if i = r then 0 else x i * el (gr (swapM m r k) i) c)) * (invF p (el (gr m k) c) * el (gr a k) j)) % p := by
  obtain ⟨e1, e2, e3⟩ := stepA_el hf h ha hl hr hk hc hne
  rw [sg_split hr]
  have h1 : sg m.length (fun i => if i = r then 0 else x i * el (gr (stepA p c m a r k) i) j) % p = sg m.length (fun i => if i = r then 0 else x i * (el (gr (swapM a r k) i) j - el (gr (swapM m r k) i) c * el (gr (stepA p c m a r k) r) j)) % p := by
    refine sg_mod fun i hi => ?_
    by_cases hir : i = r
    · rw [if_pos hir, if_pos hir]
    · rw [if_neg hir, if_neg hir, e3 i hi hir j hj, mul_mod2]
  have h2 : sg m.length (fun i => if i = r then 0 else x i * (el (gr (swapM a r k) i) j - el (gr (swapM m r k) i) c * el (gr (stepA p c m a r k) r) j)) = sg m.length (fun i => if i = r then 0 else x i * el (gr (swapM a r k) i) j) - sg m.length (fun i => if i = r then 0 else x i * el (gr (swapM m r k) i) c) * el (gr (stepA p c m a r k) r) j := by
    rw [← sg_mulr, ← sg_sub]
    refine sg_congr fun i _ => ?_
    by_cases hir : i = r
    · simp [hir]
    · simp only [if_neg hir]; rw [Int.mul_sub, Int.mul_assoc]
  rw [Int.add_emod, h1, h2, ← Int.add_emod]
  generalize sg m.length (fun i => if i = r then 0 else x i * el (gr (swapM a r k) i) j) = A
  generalize sg m.length (fun i => if i = r then 0 else x i * el (gr (swapM m r k) i) c) = F
  have e4 : A - F * el (gr (stepA p c m a r k) r) j + x r * el (gr (stepA p c m a r k) r) j = A + (x r - F) * el (gr (stepA p c m a r k) r) j := by rw [Int.sub_mul]; omega
  rw [e4, e2 j hj, Int.add_emod, mul_mod2, ← Int.add_emod, Int.mul_comm (el (gr a k) j)]
theorem Indep.step {p : Int} {c r k N q : Nat} {m a : Rows} (hf : fdB p = true) (h : okM p N m) (ha : okM p q a) (hl : a.length = m.length) (hr : r < m.length) (hk : k < m.length) (hc : c < N) (hne : el (gr m k) c ≠ 0) (hi : Indep p q a) : Indep p q (stepA p c m a r k) := by
  obtain ⟨e1, e2, e3⟩ := stepA_el hf h ha hl hr hk hc hne
  have hsl : (stepA p c m a r k).length = m.length := by rw [stepA_len, hl]
  have hra : r < a.length := by omega
  have hka : k < a.length := by omega
  intro x hx
  rw [hsl] at hx ⊢
  have hs := Indep.swap hra hka hi (fun i => if i = r then (x r - sg m.length (fun i => if i = r then 0 else x i * el (gr (swapM m r k) i) c)) * invF p (el (gr m k) c) else x i) (fun j hj => by
    rw [swapM_len, hl, sg_split hr, if_pos rfl, swapM_gr hra hka]
    have := hx j hj
    rw [step_sum hf h ha hl hr hk hc hne x hj] at this
    refine Eq.trans ?_ this
    rw [Int.mul_assoc]
    refine congrArg (fun z => (z + _) % p) ?_
    refine sg_congr fun i _ => ?_
    by_cases hir : i = r
    · rw [if_pos hir, if_pos hir]
    · rw [if_neg hir, if_neg hir, if_neg hir])
  rw [swapM_len, hl] at hs
  have h0 : ∀ i, i < m.length → i ≠ r → x i % p = 0 := fun i h1 h2 => by
    have := hs i h1
    simpa only [if_neg h2] using this
  intro i h1
  by_cases h2 : i = r
  · subst h2
    have h3 := hs i hr
    simp only [if_true] at h3
    have hF : sg m.length (fun t => if t = i then 0 else x t * el (gr (swapM m i k) t) c) % p = 0 := by
      rw [sg_mod (g := fun _ => 0) (fun t ht => by
        by_cases hti : t = i
        · rw [if_pos hti]
        · rw [if_neg hti, mul_mod_zero (h0 t ht hti)]; exact (Int.zero_emod p).symm), sg_zero (fun _ _ => rfl)]
      exact Int.zero_emod p
    generalize sg m.length (fun t => if t = i then 0 else x t * el (gr (swapM m i k) t) c) = F at h3 hF
    have h4 : (x i - F) % p = 0 := by
      have h5 := mul_mod_zero (b := el (gr m k) c) h3
      rw [Int.mul_assoc, Int.mul_comm (invF p _), ← mul_mod2, e1, Int.mul_one] at h5
      exact h5
    rw [mod_of_sub h4, hF]
  · exact h0 i h1 h2
theorem Indep.unstep {p : Int} {c r k N q : Nat} {m a : Rows} (hf : fdB p = true) (h : okM p N m) (ha : okM p q a) (hl : a.length = m.length) (hr : r < m.length) (hk : k < m.length) (hc : c < N) (hne : el (gr m k) c ≠ 0) (hi : Indep p q (stepA p c m a r k)) : Indep p q a := by
  obtain ⟨e1, e2, e3⟩ := stepA_el hf h ha hl hr hk hc hne
  have hsl : (stepA p c m a r k).length = m.length := by rw [stepA_len, hl]
  have hra : r < a.length := by omega
  have hka : k < a.length := by omega
  refine Indep.unswap hra hka ?_
  intro y hy
  rw [swapM_len, hl] at hy ⊢
  have hs := hi (fun i => if i = r then y r * el (gr m k) c + sg m.length (fun i => if i = r then 0 else y i * el (gr (swapM m r k) i) c) else y i) (fun j hj => by
    rw [hsl, step_sum hf h ha hl hr hk hc hne _ hj]
    have e4 : sg m.length (fun i => if i = r then 0 else (if i = r then y r * el (gr m k) c + sg m.length (fun i => if i = r then 0 else y i * el (gr (swapM m r k) i) c) else y i) * el (gr (swapM a r k) i) j) = sg m.length (fun i => if i = r then 0 else y i * el (gr (swapM a r k) i) j) :=
      sg_congr fun i _ => by by_cases hir : i = r <;> simp [hir]
    have e5 : sg m.length (fun i => if i = r then 0 else (if i = r then y r * el (gr m k) c + sg m.length (fun i => if i = r then 0 else y i * el (gr (swapM m r k) i) c) else y i) * el (gr (swapM m r k) i) c) = sg m.length (fun i => if i = r then 0 else y i * el (gr (swapM m r k) i) c) :=
      sg_congr fun i _ => by by_cases hir : i = r <;> simp [hir]
    rw [e4, e5, if_pos rfl]
    have h1 := hy j hj
    rw [sg_split hr, swapM_gr hra hka] at h1
    refine Eq.trans ?_ h1
    generalize sg m.length (fun i => if i = r then 0 else y i * el (gr (swapM m r k) i) c) = F
    rw [show y r * el (gr m k) c + F - F = y r * el (gr m k) c by omega]
    rw [Int.add_emod, Int.mul_assoc, ← Int.mul_assoc (el (gr m k) c), ← mul_mod2 p (y r), ← mul_mod1 p (el (gr m k) c * _), e1, Int.one_mul, mul_mod2, ← Int.add_emod])
  rw [hsl] at hs
  have h0 : ∀ i, i < m.length → i ≠ r → y i % p = 0 := fun i h1 h2 => by
    have := hs i h1
    simpa only [if_neg h2] using this
  intro i h1
  by_cases h2 : i = r
  · subst h2
    have h3 := hs i hr
    simp only [if_true] at h3
    have hF : sg m.length (fun t => if t = i then 0 else y t * el (gr (swapM m i k) t) c) % p = 0 := by
      rw [sg_mod (g := fun _ => 0) (fun t ht => by
        by_cases hti : t = i
        · rw [if_pos hti]
        · rw [if_neg hti, mul_mod_zero (h0 t ht hti)]; exact (Int.zero_emod p).symm), sg_zero (fun _ _ => rfl)]
      exact Int.zero_emod p
    generalize sg m.length (fun t => if t = i then 0 else y t * el (gr (swapM m i k) t) c) = F at h3 hF
    have h4 : (y i * el (gr m k) c) % p = 0 := by
      rw [Int.add_emod, hF, Int.add_zero, mod_mod] at h3; exact h3
    have h5 := mul_mod_zero (b := invF p (el (gr m k) c)) h4
    rw [Int.mul_assoc, ← mul_mod2, e1, Int.mul_one] at h5
    exact h5
  · exact h0 i h1 h2
theorem loop_indep {p : Int} {N q : Nat} (hf : fdB p = true) : ∀ (d c : Nat) (m a : Rows) (r : Nat), c + d ≤ N → okM p N m → okM p q a → a.length = m.length → r ≤ m.length → (Indep p q a ↔ Indep p q (redLoop p d c m a r).2.1)
  | 0, _, _, a, _, _, _, _, _, _ => Iff.rfl
  | d + 1, c, m, a, r, hN, h, ha, hl, hr => by
    unfold redLoop
    by_cases hrl : r < m.length
    · rw [if_pos hrl]
      obtain ⟨s1, s2, s3⟩ := scanN_spec m c (m.length - r) r (by omega)
      split
      · exact loop_indep hf d (c + 1) m a r (by omega) h ha hl hr
      · rename_i hk
        have hkl : scanN m c (m.length - r) r < m.length := by omega
        have ha2 : okM p q (stepA p c m a r (scanN m c (m.length - r) r)) := stepA_ok (fdB_rng hf).1 ha (by omega) (by omega)
        have k1 := loop_indep hf d (c + 1) (stepA p c m m r (scanN m c (m.length - r) r)) (stepA p c m a r (scanN m c (m.length - r) r)) (r + 1) (by omega) (stepA_ok (fdB_rng hf).1 h hrl hkl) ha2 (by rw [stepA_len, stepA_len]; exact hl) (by rw [stepA_len]; omega)
        exact ⟨fun h1 => k1.1 (h1.step hf h ha hl hrl hkl (show c < N by omega) (s3 hkl)), fun h1 => Indep.unstep hf h ha hl hrl hkl (show c < N by omega) (s3 hkl) (k1.2 h1)⟩
    · rw [if_neg hrl]
theorem Red.indep {p : Int} {n : Nat} {b : Rows} (h : Red p n b) : Indep p n b := by
  intro x hx i hi
  have := hx _ (h.lt i hi)
  rw [sg_one hi (fun t ht hn => by rw [h.zero i t hi ht (Ne.symm hn), Int.mul_zero]), h.one i hi, Int.mul_one] at this
  exact this
/-- rows are independent if and only if the reduction leaves as many -/
theorem indep_iff {p : Int} {n : Nat} {m : Rows} (hf : fdB p = true) (h : okM p n m) : Indep p n m ↔ (redM p n m).length = m.length := by
  have hp := fdB_rng hf
  have k1 := loop_indep hf n 0 m m 0 (by omega) h h rfl (by omega)
  rw [redLoop_self] at k1
  have h1 := redLoop_red hf n 0 m 0 (by omega) h (RedI.start m)
  rw [Nat.zero_add] at h1
  obtain ⟨_, _, hlen, _⟩ := redLoop_ok hp.1 n 0 m m 0 h h rfl (by omega)
  have hle := h1.le
  have hred := redM_red hf h
  unfold redM at hred ⊢
  rw [List.length_take]
  rw [k1]
  generalize redLoop p n 0 m m 0 = t at k1 h1 hlen hle hred
  constructor
  · intro hi
    rcases Nat.lt_or_ge t.2.2 t.1.length with hlt | hge
    · exfalso
      have := hi (fun i => if i = t.2.2 then 1 else 0) (fun j hj => by
        rw [sg_zero]
        · exact Int.zero_emod p
        · intro i hi'
          by_cases he : i = t.2.2
          · rw [if_pos he, he, h1.rest t.2.2 (Nat.le_refl _) hlt j hj, Int.mul_zero]
          · rw [if_neg he, Int.zero_mul]) t.2.2 hlt
      simp only [if_true] at this
      rw [emod_sm (by omega)] at this
      omega
    · omega
  · intro he
    have : t.1.take t.2.2 = t.1 := List.take_of_length_le (by omega)
    rw [this] at hred
    exact hred.indep

/-! ### reduced lists are determined -/
/-- a vector of the span, by its elements at the leads -/
theorem span_leads {p : Int} {n : Nat} {b : Rows} {v : List Int} (hb : Red p n b) (hv : inSpan p n b v) : ∀ j, j < n → el v j % p = sg b.length (fun i => el v (leadN (gr b i)) * el (gr b i) j) % p := by
  obtain ⟨x, hx⟩ := hv
  intro j hj
  rw [hx j hj]
  refine sg_mod fun i hi => ?_
  have h1 := hx _ (hb.lt i hi)
  rw [sg_one hi (fun t ht hn => by rw [hb.zero i t hi ht (Ne.symm hn), Int.mul_zero]), hb.one i hi, Int.mul_one] at h1
  rw [← mul_mod1, ← h1, mul_mod1]
/-- the lead of a vector of the span is one of the leads -/
theorem span_lead {p : Int} {n : Nat} {b : Rows} {v : List Int} (hp : 2 ≤ p) (hb : Red p n b) (hv : okR p n v) (hs : inSpan p n b v) (h0 : leadN v < n) : ∃ i, i < b.length ∧ leadN (gr b i) = leadN v := by
  apply Classical.byContradiction
  intro hno
  have hno : ∀ i, i < b.length → leadN (gr b i) ≠ leadN v := fun i hi he => hno ⟨i, hi, he⟩
  have h1 := span_leads hb hs _ h0
  have h2 : sg b.length (fun i => el v (leadN (gr b i)) * el (gr b i) (leadN v)) = 0 := by
    refine sg_zero fun i hi => ?_
    rcases Nat.lt_trichotomy (leadN (gr b i)) (leadN v) with h | h | h
    · rw [leadN_z v _ h, Int.zero_mul]
    · exact absurd h (hno i hi)
    · rw [leadN_z (gr b i) _ h, Int.mul_zero]
  rw [h2, Int.zero_emod, emod_sm (hv.2 _ (el_mem (by rw [hv.1]; exact h0)))] at h1
  exact leadN_nz v (by rw [hv.1]; exact h0) h1
theorem leads_le {p : Int} {n : Nat} {b b' : Rows} (hp : 2 ≤ p) (hb : Red p n b) (hb' : Red p n b') (hs : subSpan p n b b') : ∀ k, k ≤ b.length → ∃ g : Nat → Nat, (∀ i, i < k → g i < b'.length ∧ leadN (gr b' (g i)) = leadN (gr b i)) ∧ (∀ i, i < k → i ≤ g i) := by
  intro k hk
  have hex : ∀ i, i < b.length → ∃ t, t < b'.length ∧ leadN (gr b' t) = leadN (gr b i) := fun i hi => span_lead hp hb' (okM_gr hb.ok hi) (hs i hi) (hb.lt i hi)
  refine ⟨fun i => if h : i < b.length then Classical.choose (hex i h) else 0, fun i hi => ?_, fun i hi => ?_⟩
  · simp only [dif_pos (Nat.lt_of_lt_of_le hi hk)]
    exact Classical.choose_spec (hex i (Nat.lt_of_lt_of_le hi hk))
  · induction i with
    | zero => exact Nat.zero_le _
    | succ i ih =>
      have h1 := ih (by omega)
      have hi1 : i < b.length := by omega
      have hi2 : i + 1 < b.length := by omega
      simp only [dif_pos hi1] at h1
      simp only [dif_pos hi2]
      have s1 := Classical.choose_spec (hex i hi1)
      have s2 := Classical.choose_spec (hex (i + 1) hi2)
      generalize Classical.choose (hex i hi1) = t1 at s1 h1
      generalize Classical.choose (hex (i + 1) hi2) = t2 at s2
      have hlt := hb.inc i (i + 1) (by omega) hi2
      have : t1 < t2 := by
        rcases Nat.lt_trichotomy t1 t2 with h | h | h
        · exact h
        · rw [h] at s1; omega
        · have := hb'.inc t2 t1 h s1.1; omega
      omega
/-- what lies in a space has no more rows -/
theorem red_len_le {p : Int} {n : Nat} {b b' : Rows} (hp : 2 ≤ p) (hb : Red p n b) (hb' : Red p n b') (hs : subSpan p n b b') : b.length ≤ b'.length := by
  obtain ⟨g, h1, h2⟩ := leads_le hp hb hb' hs b.length (Nat.le_refl _)
  rcases Nat.eq_zero_or_pos b.length with h0 | h0
  · omega
  · have := (h1 (b.length - 1) (by omega)).1
    have := h2 (b.length - 1) (by omega)
    omega
end Go.Proofs.YteikcdofblclhaaDoor
