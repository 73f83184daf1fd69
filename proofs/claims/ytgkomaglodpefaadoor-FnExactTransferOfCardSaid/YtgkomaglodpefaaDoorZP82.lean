/-
  Plain laws: what rows span, rows that are independent, reduced lists are determined by what they span. No program in sight. No condition.
-/
import Derived.Test.YtgkomaglodpefaaDoorZP17
import Derived.Test.YtgkomaglodpefaaDoorZFn
namespace Go.Proofs.YtgkomaglodpefaaDoor
set_option linter.unusedVariables false

/-- v is a linear combination of the rows of m, n elements each -/
def inSpan (p : Int) (n : Nat) (m : Rows) (v : List Int) : Prop := ∃ x : Nat → Int, ∀ j, j < n → el v j % p = sg m.length (fun i => x i * el (gr m i) j) % p
def subSpan (p : Int) (n : Nat) (a b : Rows) : Prop := ∀ i, i < a.length → inSpan p n b (gr a i)

/-! ### sums -/
theorem sg_mulr (c : Int) (f : Nat → Int) (k : Nat) : sg k (fun i => f i * c) = sg k f * c := by
  rw [sg_congr (g := fun i => c * f i) (fun i _ => Int.mul_comm _ _), sg_mul, Int.mul_comm]
theorem sg_neg (f : Nat → Int) (k : Nat) : sg k (fun i => - f i) = - sg k f := by
  rw [sg_congr (g := fun i => (-1) * f i) (fun i _ => by omega), sg_mul]; omega
/-- one summand taken out -/
theorem sg_split {f : Nat → Int} {k r : Nat} (h : r < k) : sg k f = sg k (fun i => if i = r then 0 else f i) + f r := by
  have h1 : sg k (fun i => if i = r then f i else 0) = f r := by
    rw [sg_one h (fun i _ hn => if_neg hn), if_pos rfl]
  rw [← h1, ← sg_add]
  exact sg_congr fun i _ => by by_cases hi : i = r <;> simp [hi]
theorem mod_of_sub {p a b : Int} (h : (a - b) % p = 0) : a % p = b % p := by
  have h2 : a = (a - b) + b := by omega
  rw [h2, Int.add_emod, h, Int.zero_add, mod_mod]
theorem mul_mod_zero {p a b : Int} (h : a % p = 0) : (a * b) % p = 0 := by rw [← mul_mod1, h, Int.zero_mul]; exact Int.zero_emod p
theorem mul_mod_zero2 {p a b : Int} (h : b % p = 0) : (a * b) % p = 0 := by rw [Int.mul_comm]; exact mul_mod_zero h

/-! ### spans -/
theorem inSpan_row {p : Int} {n : Nat} {m : Rows} {i : Nat} (h : i < m.length) : inSpan p n m (gr m i) := by
  refine ⟨fun t => if t = i then 1 else 0, fun j _ => ?_⟩
  rw [sg_one h (fun t _ hn => by show (if t = i then (1 : Int) else 0) * _ = 0; rw [if_neg hn, Int.zero_mul])]
  show _ = (if i = i then (1 : Int) else 0) * _ % p
  rw [if_pos rfl, Int.one_mul]
/-- combinations of combinations -/
theorem inSpan_trans {p : Int} {n : Nat} {a b : Rows} {v : List Int} (hab : subSpan p n a b) (hv : inSpan p n a v) : inSpan p n b v := by
  obtain ⟨x, hx⟩ := hv
  have hY : ∃ Y : Nat → Nat → Int, ∀ i, i < a.length → ∀ j, j < n → el (gr a i) j % p = sg b.length (fun t => Y i t * el (gr b t) j) % p := by
    refine ⟨fun i => if h : i < a.length then Classical.choose (hab i h) else fun _ => 0, fun i hi => ?_⟩
    simp only [dif_pos hi]
    exact Classical.choose_spec (hab i hi)
  obtain ⟨Y, hY⟩ := hY
  refine ⟨fun t => sg a.length (fun i => x i * Y i t), fun j hj => ?_⟩
  rw [hx j hj]
  have e : sg b.length (fun t => sg a.length (fun i => x i * Y i t) * el (gr b t) j) = sg a.length (fun i => x i * sg b.length (fun t => Y i t * el (gr b t) j)) := by
    rw [sg_congr (g := fun t => sg a.length (fun i => x i * Y i t * el (gr b t) j)) (fun t _ => (sg_mulr _ _ _).symm), sg_comm]
    refine sg_congr fun i _ => ?_
    rw [← sg_mul]
    exact sg_congr fun t _ => Int.mul_assoc _ _ _
  rw [e]
  refine sg_mod fun i hi => ?_
  rw [← mul_mod2, hY i hi j hj, mul_mod2]
theorem subSpan_refl (p : Int) (n : Nat) (a : Rows) : subSpan p n a a := fun i hi => inSpan_row hi
theorem subSpan_trans {p : Int} {n : Nat} {a b c : Rows} (h : subSpan p n a b) (k : subSpan p n b c) : subSpan p n a c := fun i hi => inSpan_trans k (h i hi)
theorem inSpan_comb2 {p : Int} {n : Nat} {m : Rows} {u v w : List Int} (c d : Int) (hu : inSpan p n m u) (hv : inSpan p n m v) (h : ∀ j, j < n → el w j % p = (c * el u j + d * el v j) % p) : inSpan p n m w := by
  obtain ⟨x, hx⟩ := hu
  obtain ⟨y, hy⟩ := hv
  refine ⟨fun i => c * x i + d * y i, fun j hj => ?_⟩
  rw [h j hj, Int.add_emod, ← mul_mod2, ← mul_mod2 p d, hx j hj, hy j hj, mul_mod2, mul_mod2, ← Int.add_emod, ← sg_mul, ← sg_mul, ← sg_add]
  congr 1
  exact sg_congr fun i _ => by rw [Int.add_mul, Int.mul_assoc, Int.mul_assoc]
theorem inSpan_zero {p : Int} {n : Nat} {m : Rows} {v : List Int} (h : ∀ j, j < n → el v j % p = 0) : inSpan p n m v :=
  ⟨fun _ => 0, fun j hj => by rw [h j hj, sg_zero (fun i _ => Int.zero_mul _)]; exact (Int.zero_emod p).symm⟩

/-! ### a step of the reduction -/
theorem swap_span {p : Int} {n : Nat} {m : Rows} {r k : Nat} (hr : r < m.length) (hk : k < m.length) : subSpan p n (swapM m r k) m ∧ subSpan p n m (swapM m r k) := by
  have hl := swapM_len m r k
  constructor
  · intro i hi
    rw [hl] at hi
    rw [swapM_gr2 hr hk]
    split
    · exact inSpan_row hr
    · split
      · exact inSpan_row hk
      · exact inSpan_row hi
  · intro i hi
    by_cases h1 : i = k
    · subst h1
      have := inSpan_row (p := p) (n := n) (m := swapM m r i) (i := r) (by rw [hl]; exact hr)
      rw [swapM_gr2 hr hk] at this
      by_cases h2 : r = i
      · subst h2; rw [if_pos rfl] at this; exact this
      · rw [if_neg h2, if_pos rfl] at this; exact this
    · by_cases h2 : i = r
      · subst h2
        have := inSpan_row (p := p) (n := n) (m := swapM m i k) (i := k) (by rw [hl]; exact hk)
        rw [swapM_gr2 hr hk, if_pos rfl] at this; exact this
      · have := inSpan_row (p := p) (n := n) (m := swapM m r k) (i := i) (by rw [hl]; exact hi)
        rw [swapM_gr2 hr hk, if_neg h1, if_neg h2] at this; exact this
/-- what a step makes of rows that go along, by their elements -/
theorem stepA_el {p : Int} {c r k N q : Nat} {m a : Rows} (hf : fdB p = true) (h : okM p N m) (ha : okM p q a) (hl : a.length = m.length) (hr : r < m.length) (hk : k < m.length) (hc : c < N) (hne : el (gr m k) c ≠ 0) :
    let iv := invF p (el (gr m k) c)
    (el (gr m k) c * iv) % p = 1 ∧ (∀ j, j < q → el (gr (stepA p c m a r k) r) j = (el (gr a k) j * iv) % p) ∧
    ∀ i, i < m.length → i ≠ r → ∀ j, j < q → el (gr (stepA p c m a r k) i) j = (el (gr (swapM a r k) i) j - el (gr (swapM m r k) i) c * el (gr (stepA p c m a r k) r) j) % p := by
  intro iv
  have hp := fdB_rng hf
  have hel := okM_el h hk hc
  obtain ⟨_, i1, i2, i3⟩ := inverse_ hf (x := el (gr m k) c) ⟨by omega, hel.2⟩
  have hra : r < a.length := by omega
  have hka : k < a.length := by omega
  have hsr : gr (swapM m r k) r = gr m k := swapM_gr hr hk
  have hsra : gr (swapM a r k) r = gr a k := swapM_gr hra hka
  have hso : okM p q (swapM a r k) := swapM_ok ha hra hka
  have hpl : (pivA p c m a r k).length = a.length := pivA_len p c m a r k
  have hpr : gr (pivA p c m a r k) r = mapR (scaleG p iv) (gr a k) := by
    rw [pivA_gr hra, if_pos rfl, hsr, hsra]
  have hrow := okM_gr ha hka
  have hpe : ∀ j, j < q → el (gr (pivA p c m a r k) r) j = (el (gr a k) j * iv) % p := fun j hj => by
    rw [hpr, el_mapR (by omega)]; rfl
  have hst : ∀ i, i < m.length → gr (stepA p c m a r k) i = elimG p c r (pivA p c m m r k) (pivA p c m a r k) i (gr (pivA p c m a r k) i) := fun i hi => elimA_gr (by rw [hpl]; omega)
  have hstr : ∀ j, j < q → el (gr (stepA p c m a r k) r) j = (el (gr a k) j * iv) % p := fun j hj => by
    rw [hst r hr]
    unfold elimG
    rw [if_pos (.inl rfl)]
    exact hpe j hj
  refine ⟨i1, hstr, fun i hi hir j hj => ?_⟩
  rw [hstr j hj, hst i hi]
  have hpi : gr (pivA p c m a r k) i = gr (swapM a r k) i := by rw [pivA_gr hra, if_neg hir]
  have hpm : gr (pivA p c m m r k) i = gr (swapM m r k) i := by rw [pivA_gr hr, if_neg hir]
  have hsi := okM_gr hso (i := i) (by rw [swapM_len]; omega)
  have hb := okM_el hso (i := i) (by rw [swapM_len]; omega) hj
  unfold elimG
  by_cases h0 : el (gr (pivA p c m m r k) i) c = 0
  · rw [if_pos (.inr h0), hpi]
    rw [hpm] at h0
    rw [h0, Int.zero_mul, Int.sub_zero, emod_sm hb]
  · rw [if_neg (by intro h1; rcases h1 with h1 | h1; exact hir h1; exact h0 h1)]
    rw [el_mapR (by rw [hpi]; omega)]
    unfold subG
    rw [hpi, hpe j hj, hpm]
theorem step_span {p : Int} {c r k N q : Nat} {m a : Rows} (hf : fdB p = true) (h : okM p N m) (ha : okM p q a) (hl : a.length = m.length) (hr : r < m.length) (hk : k < m.length) (hc : c < N) (hne : el (gr m k) c ≠ 0) :
    subSpan p q (stepA p c m a r k) a ∧ subSpan p q a (stepA p c m a r k) := by
  obtain ⟨e1, e2, e3⟩ := stepA_el hf h ha hl hr hk hc hne
  have hsl : (stepA p c m a r k).length = m.length := by rw [stepA_len, hl]
  have hra : r < a.length := by omega
  have hka : k < a.length := by omega
  obtain ⟨w1, w2⟩ := swap_span (p := p) (n := q) (m := a) hra hka
  have hnr : inSpan p q a (gr (stepA p c m a r k) r) := by
    refine inSpan_comb2 (invF p (el (gr m k) c)) 0 (inSpan_row hka) (inSpan_row hka) fun j hj => ?_
    rw [e2 j hj, mod_mod, Int.zero_mul, Int.add_zero, Int.mul_comm]
  constructor
  · intro i hi
    rw [hsl] at hi
    by_cases hir : i = r
    · rw [hir]; exact hnr
    · refine inSpan_comb2 1 (- el (gr (swapM m r k) i) c) (w1 i (by rw [swapM_len]; omega)) hnr fun j hj => ?_
      rw [e3 i hi hir j hj, mod_mod, Int.one_mul, Int.neg_mul, Int.sub_eq_add_neg]
  · refine subSpan_trans w2 ?_
    have hrr : inSpan p q (stepA p c m a r k) (gr (stepA p c m a r k) r) := inSpan_row (by rw [hsl]; exact hr)
    intro i hi
    rw [swapM_len] at hi
    by_cases hir : i = r
    · rw [hir, swapM_gr hra hka]
      refine inSpan_comb2 (el (gr m k) c) 0 hrr hrr fun j hj => ?_
      rw [e2 j hj, Int.zero_mul, Int.add_zero, mul_mod2, ← Int.mul_assoc, Int.mul_comm (el (gr m k) c), Int.mul_assoc, ← mul_mod2, e1, Int.mul_one]
    · refine inSpan_comb2 1 (el (gr (swapM m r k) i) c) (inSpan_row (i := i) (by rw [hsl]; omega)) hrr fun j hj => ?_
      rw [e3 i (by omega) hir j hj, Int.one_mul, add_mod1]
      congr 1; omega
/-- the reduction keeps what is spanned, also by the rows that go along -/
theorem loop_span {p : Int} {N q : Nat} (hf : fdB p = true) : ∀ (d c : Nat) (m a : Rows) (r : Nat), c + d ≤ N → okM p N m → okM p q a → a.length = m.length → r ≤ m.length → subSpan p q (redLoop p d c m a r).2.1 a ∧ subSpan p q a (redLoop p d c m a r).2.1
  | 0, _, _, a, _, _, _, _, _, _ => ⟨subSpan_refl p q a, subSpan_refl p q a⟩
  | d + 1, c, m, a, r, hN, h, ha, hl, hr => by
    unfold redLoop
    by_cases hrl : r < m.length
    · rw [if_pos hrl]
      obtain ⟨s1, s2, s3⟩ := scanN_spec m c (m.length - r) r (by omega)
      split
      · exact loop_span hf d (c + 1) m a r (by omega) h ha hl hr
      · rename_i hk
        have hkl : scanN m c (m.length - r) r < m.length := by omega
        have ha2 : okM p q (stepA p c m a r (scanN m c (m.length - r) r)) := stepA_ok (fdB_rng hf).1 ha (by omega) (by omega)
        obtain ⟨k1, k2⟩ := loop_span hf d (c + 1) (stepA p c m m r (scanN m c (m.length - r) r)) (stepA p c m a r (scanN m c (m.length - r) r)) (r + 1) (by omega) (stepA_ok (fdB_rng hf).1 h hrl hkl) ha2 (by rw [stepA_len, stepA_len]; exact hl) (by rw [stepA_len]; omega)
        obtain ⟨w1, w2⟩ := step_span hf h ha hl hrl hkl (show c < N by omega) (s3 hkl)
        exact ⟨subSpan_trans k1 w1, subSpan_trans w2 k2⟩
    · rw [if_neg hrl]; exact ⟨subSpan_refl p q a, subSpan_refl p q a⟩
theorem redLoop_self (p : Int) : ∀ (d c : Nat) (m : Rows) (r : Nat), (redLoop p d c m m r).2.1 = (redLoop p d c m m r).1
  | 0, _, _, _ => rfl
  | d + 1, c, m, r => by
    unfold redLoop
    split
    · split
      · exact redLoop_self p d (c + 1) m r
      · exact redLoop_self p d (c + 1) _ (r + 1)
    · rfl
theorem take_span {p : Int} {n k : Nat} {m : Rows} (hz : ∀ i, k ≤ i → i < m.length → ∀ j, j < n → el (gr m i) j = 0) : subSpan p n (m.take k) m ∧ subSpan p n m (m.take k) := by
  constructor
  · intro i hi
    rw [List.length_take] at hi
    rw [gr_take (by omega)]
    exact inSpan_row (by omega)
  · intro i hi
    rcases Nat.lt_or_ge i k with h | h
    · have := inSpan_row (p := p) (n := n) (m := m.take k) (i := i) (by rw [List.length_take]; omega)
      rw [gr_take h] at this; exact this
    · exact inSpan_zero fun j hj => by rw [hz i h hi j hj]; exact Int.zero_emod p
/-- the reduced rows span what the rows span -/
theorem redM_span {p : Int} {n : Nat} {m : Rows} (hf : fdB p = true) (h : okM p n m) : subSpan p n (redM p n m) m ∧ subSpan p n m (redM p n m) := by
  obtain ⟨k1, k2⟩ := loop_span hf n 0 m m 0 (by omega) h h rfl (by omega)
  rw [redLoop_self] at k1 k2
  have h1 := redLoop_red hf n 0 m 0 (by omega) h (RedI.start m)
  rw [Nat.zero_add] at h1
  obtain ⟨w1, w2⟩ := take_span (p := p) (n := n) (m := (redLoop p n 0 m m 0).1) (k := (redLoop p n 0 m m 0).2.2) h1.rest
  exact ⟨subSpan_trans w1 k1, subSpan_trans k2 w2⟩

/-! ### independent rows -/

/-! ### reduced lists are determined -/
end Go.Proofs.YtgkomaglodpefaaDoor
namespace Go.Proofs.YtgkomaglodpefaaDoor

/-! ### lists of matrices in the law -/

/-! ### matrices and responses -/
end Go.Proofs.YtgkomaglodpefaaDoor
namespace Go.Proofs.YtgkomaglodpefaaDoor

def tabB (p : Int) (rows cols : Int) (m : List (List Int)) : Bool := decide ((m.length : Int) = rows) && rowsB p cols m
def ssB (p : Int) (s : SSt) : Bool :=
  fdB p && rng s.1 0 24 && rng s.2.1 0 8 && rng s.2.2.1 0 8 && tabB p s.1 s.1 s.2.2.2.1 && tabB p s.2.1 s.1 s.2.2.2.2.1 && tabB p s.1 s.2.2.1 s.2.2.2.2.2.1 && tabB p s.2.1 s.2.2.1 s.2.2.2.2.2.2
theorem ssTable_ {p : Int} (hp : 2 ≤ p ∧ p ≤ 97) (rows cols : Int) (m : List (List Int)) : F_spec_ssTable p rows cols m = some (tabB p rows cols m) := by
  refine bnd (a := tabB p rows cols m) (stp ?_) rfl
  unfold tabB
  cases decide ((m.length : Int) = rows) with
  | false => rfl
  | true => exact cTW rfl (bnd (spRows hp cols m) rfl)
theorem ssGood (p : Int) (s : SSt) : F_spec_ssGood p s = some (ssB p s) := by
  refine bnd (a := ssB p s) ?_ rfl
  unfold ssB
  simp only [Bool.and_assoc]
  refine bndB (fdGood p) (fun _ => rfl) (fun h => cTW rfl ?_)
  have hp := fdB_rng h
  refine bndB (l1In _ _ _) (fun _ => rfl) (fun _ => cTW rfl ?_)
  refine bndB (l1In _ _ _) (fun _ => rfl) (fun _ => cTW rfl ?_)
  refine bndB (l1In _ _ _) (fun _ => rfl) (fun _ => cTW rfl ?_)
  refine bndB (ssTable_ hp _ _ _) (fun _ => rfl) (fun _ => cTW rfl ?_)
  refine bndB (ssTable_ hp _ _ _) (fun _ => rfl) (fun _ => cTW rfl ?_)
  refine bndB (ssTable_ hp _ _ _) (fun _ => rfl) (fun _ => cTW rfl ?_)
  exact bnd (ssTable_ hp _ _ _) rfl
def shB (m : List (List Int)) (rows cols : Int) : Bool := decide ((m.length : Int) = rows) && m.all fun r => decide ((r.length : Int) = cols)
theorem tab_eq (p : Int) (rows cols : Int) (m : List (List Int)) : tabB p rows cols m = (shB m rows cols && rowsB p cols m) := by
  unfold tabB shB
  cases decide ((m.length : Int) = rows) with
  | false => rfl
  | true =>
    rw [Bool.true_and, Bool.true_and]
    cases h : rowsB p cols m with
    | false => rw [Bool.and_false]
    | true =>
      rw [Bool.and_true]
      symm
      unfold rowsB at h
      rw [List.all_eq_true] at h ⊢
      intro r hr
      have := h r hr
      rw [Bool.and_eq_true] at this
      exact this.1
theorem isSS (p : Int) (s : SSt) : F_impl_isStateSpace p s = some (ssB p s) := by
  have h1 : F_impl_isStateSpace p s = some ((fdB p && (rng s.1 0 24 && (rng s.2.1 0 8 && rng s.2.2.1 0 8))) && ((shB s.2.2.2.1 s.1 s.1 && (shB s.2.2.2.2.1 s.2.1 s.1 && (shB s.2.2.2.2.2.1 s.1 s.2.2.1 && shB s.2.2.2.2.2.2 s.2.1 s.2.2.1))) && (rowsB p s.1 s.2.2.2.1 && (rowsB p s.1 s.2.2.2.2.1 && (rowsB p s.2.2.1 s.2.2.2.2.2.1 && rowsB p s.2.2.1 s.2.2.2.2.2.2))))) := by
    refine bnd (a := !(fdB p && (rng s.1 0 24 && (rng s.2.1 0 8 && rng s.2.2.1 0 8)))) ?_ ?_
    · refine bndN (isField_ p) (fun _ => rfl) (fun _ => stp (cFW rfl ?_))
      refine bndN (within_ _ _ _) (fun _ => rfl) (fun _ => stp (cFW rfl ?_))
      refine bndN (within_ _ _ _) (fun _ => rfl) (fun _ => stp (cFW rfl ?_))
      exact bnd (within_ _ _ _) rfl
    · cases hb : (fdB p && (rng s.1 0 24 && (rng s.2.1 0 8 && rng s.2.2.1 0 8))) with
      | false => rfl
      | true =>
        simp only [Bool.and_eq_true, rng_true] at hb
        obtain ⟨_, g1, g2, g3⟩ := hb
        refine cFW rfl ?_
        rw [Bool.true_and]
        refine bnd (a := !(shB s.2.2.2.1 s.1 s.1 && (shB s.2.2.2.2.1 s.2.1 s.1 && (shB s.2.2.2.2.2.1 s.1 s.2.2.1 && shB s.2.2.2.2.2.2 s.2.1 s.2.2.1)))) ?_ ?_
        · refine bndN (hasShape_ _ _ _ (by omega)) (fun _ => rfl) (fun _ => stp (cFW rfl ?_))
          refine bndN (hasShape_ _ _ _ (by omega)) (fun _ => rfl) (fun _ => stp (cFW rfl ?_))
          refine bndN (hasShape_ _ _ _ (by omega)) (fun _ => rfl) (fun _ => stp (cFW rfl ?_))
          exact bnd (hasShape_ _ _ _ (by omega)) rfl
        · cases (shB s.2.2.2.1 s.1 s.1 && (shB s.2.2.2.2.1 s.2.1 s.1 && (shB s.2.2.2.2.2.1 s.1 s.2.2.1 && shB s.2.2.2.2.2.2 s.2.1 s.2.2.1))) with
          | false => rfl
          | true =>
            refine cFW rfl (bnd (a := _) ?_ rfl)
            rw [Bool.true_and]
            refine bndB (areVectors_ _ _ _) (fun _ => rfl) (fun _ => cTW rfl ?_)
            refine bndB (areVectors_ _ _ _) (fun _ => rfl) (fun _ => cTW rfl ?_)
            refine bndB (areVectors_ _ _ _) (fun _ => rfl) (fun _ => cTW rfl ?_)
            exact bnd (areVectors_ _ _ _) rfl
  rw [h1]
  unfold ssB
  rw [tab_eq, tab_eq, tab_eq, tab_eq]
  congr 1
  ac_rfl

/-- a state space that is valid -/
structure SSok (p : Int) (n k o : Nat) (s : SSt) : Prop where
  hp : 2 ≤ p ∧ p ≤ 97
  h1 : s.1 = n
  h2 : s.2.1 = k
  h3 : s.2.2.1 = o
  hn : n ≤ 24
  hk : k ≤ 8
  ho : o ≤ 8
  a : s.2.2.2.1.length = n ∧ rowsP p n s.2.2.2.1
  b : s.2.2.2.2.1.length = k ∧ rowsP p n s.2.2.2.2.1
  c : s.2.2.2.2.2.1.length = n ∧ rowsP p o s.2.2.2.2.2.1
  d : s.2.2.2.2.2.2.length = k ∧ rowsP p o s.2.2.2.2.2.2
theorem tab_true {p : Int} {r c : Nat} {m : List (List Int)} (h : tabB p r c m = true) : m.length = r ∧ rowsP p c m := by
  unfold tabB at h
  rw [Bool.and_eq_true] at h
  exact ⟨by have := of_decide_eq_true h.1; omega, rowsB_true.1 h.2⟩
theorem ssB_ok {p : Int} {s : SSt} (h : ssB p s = true) : ∃ n k o, SSok p n k o s := by
  unfold ssB at h
  simp only [Bool.and_eq_true, rng_true] at h
  obtain ⟨⟨⟨⟨⟨⟨⟨h0, h1⟩, h2⟩, h3⟩, h4⟩, h5⟩, h6⟩, h7⟩ := h
  have e1 : s.1 = (s.1.toNat : Int) := by omega
  have e2 : s.2.1 = (s.2.1.toNat : Int) := by omega
  have e3 : s.2.2.1 = (s.2.2.1.toNat : Int) := by omega
  rw [e1] at h4 h5 h6
  rw [e2] at h5 h7
  rw [e3] at h6 h7
  exact ⟨s.1.toNat, s.2.1.toNat, s.2.2.1.toNat, fdB_rng h0, e1, e2, e3, by omega, by omega, by omega, tab_true h4, tab_true h5, tab_true h6, tab_true h7⟩

/-- the Markov parameters, and the states that are reached -/
def mkv (p : Int) (n o : Nat) (s : SSt) : Nat → List Mat × List (List Int)
  | 0 => ([], s.2.2.2.2.1)
  | k + 1 => if k = 0 then ((mkv p n o s k).1 ++ [((o : Int), s.2.2.2.2.2.2)], (mkv p n o s k).2)
    else ((mkv p n o s k).1 ++ [((o : Int), mulM p o (mkv p n o s k).2 s.2.2.2.2.2.1)], mulM p n (mkv p n o s k).2 s.2.2.2.1)
theorem mkv_succ (p : Int) (n o : Nat) (s : SSt) (k : Nat) : mkv p n o s (k + 1) = if k = 0 then ((mkv p n o s k).1 ++ [((o : Int), s.2.2.2.2.2.2)], (mkv p n o s k).2)
    else ((mkv p n o s k).1 ++ [((o : Int), mulM p o (mkv p n o s k).2 s.2.2.2.2.2.1)], mulM p n (mkv p n o s k).2 s.2.2.2.1) := rfl
theorem mkv_ok {p : Int} {n k o : Nat} {s : SSt} (h : SSok p n k o s) : ∀ j, (mkv p n o s j).1.length = j ∧ (mkv p n o s j).2.length = k ∧ rowsP p n (mkv p n o s j).2 ∧ ∀ m ∈ (mkv p n o s j).1, m.2.length = k ∧ rowsP p o m.2
  | 0 => ⟨rfl, h.b.1, h.b.2, by intro m hm; cases hm⟩
  | j + 1 => by
    obtain ⟨h1, h2, h3, h4⟩ := mkv_ok h j
    have hm : maxN = 1099511627776 := rfl
    have := h.hn
    have := h.ho
    rw [mkv_succ]
    by_cases hj : j = 0
    · rw [if_pos hj]
      refine ⟨by simp [h1], h2, h3, fun m hm' => ?_⟩
      rcases List.mem_append.1 hm' with hm' | hm'
      · exact h4 m hm'
      · rw [List.mem_singleton.1 hm']; exact h.d
    · rw [if_neg hj]
      refine ⟨by simp [h1], by rw [mulM_len, h2], mulM_ok h.hp (by omega) h.a.2 h3 (by rw [h.a.1]; exact Nat.le_refl _), fun m hm' => ?_⟩
      rcases List.mem_append.1 hm' with hm' | hm'
      · exact h4 m hm'
      · rw [List.mem_singleton.1 hm']
        exact ⟨by rw [mulM_len, h2], mulM_ok h.hp (by omega) h.c.2 h3 (by rw [h.c.1]; exact Nat.le_refl _)⟩
theorem rowsP_len {p : Int} {n : Nat} {m : List (List Int)} (h : rowsP p n m) (hn : n ≤ 1048576) : ∀ r ∈ m, r.length ≤ maxN := by
  intro r hr; have := (h r hr).1; have hm : maxN = 1099511627776 := rfl; omega
theorem ssMarkov_ {p : Int} {n k o : Nat} {s : SSt} (h : SSok p n k o s) (q : Nat) (hq : q ≤ 60) : F_spec_ssMarkov p s (q : Int) = some (mkv p n o s q).1 := by
  have hm : maxN = 1099511627776 := rfl
  have g1 := h.hn; have g2 := h.hk; have g3 := h.ho
  refine bnd (ssCopy_ (by rw [h.b.1]; omega) (rowsP_len h.b.2 (by omega))) (bnd (whileO_is (fun j => ((mkv p n o s j).1, (mkv p n o s j).2, (j : Int))) (t := (mkv p n o s q).1) q ?_ ?_) rfl)
  · intro j hj
    obtain ⟨h1, h2, h3, h4⟩ := mkv_ok h j
    dsimp only
    refine stp (cTW (dT (by omega)) (bnd (a := mkv p n o s (j + 1)) ?_ (bnd (addO_of (by omega) (by omega)) rfl)))
    refine stp ?_
    rw [mkv_succ, h.h3, h.h1]
    by_cases hj0 : j = 0
    · rw [if_pos hj0]
      exact cTW (dT (by omega)) (bnd (ssCopy_ (by rw [h.d.1]; omega) (rowsP_len h.d.2 (by omega))) (bnd (appO_of (by simp; omega)) rfl))
    · rw [if_neg hj0]
      exact cFW (dF (by omega)) (bnd (ssTimes_ h.hp (by omega) h.c.2 h3 (by rw [h.c.1]; exact Nat.le_refl _) (by omega)) (bnd (appO_of (by simp; omega)) (bnd (ssTimes_ h.hp (by omega) h.a.2 h3 (by rw [h.a.1]; exact Nat.le_refl _) (by omega)) rfl)))
  · dsimp only; exact stp (cFW (dF (by omega)) rfl)
theorem markov_ {p : Int} {n k o : Nat} {s : SSt} (h : SSok p n k o s) (q : Nat) (hq : q ≤ 60) : F_impl_StateSpace_markov s p (q : Int) = some (mkv p n o s q).1 := by
  have hm : maxN = 1099511627776 := rfl
  have g1 := h.hn; have g2 := h.hk; have g3 := h.ho
  refine bnd (clones_ (by rw [h.b.1]; omega) (rowsP_len h.b.2 (by omega))) (bnd (cI_of ⟨by omega, by omega⟩) (bnd (forS_is (fun j => mkv p n o s j) ?_) rfl))
  intro j hj
  obtain ⟨h1, h2, h3, h4⟩ := mkv_ok h j
  rw [Int.toNat_natCast] at hj
  refine bnd (a := mkv p n o s (j + 1)) (stp ?_) rfl
  rw [mkv_succ, h.h3, h.h1]
  by_cases hj0 : j = 0
  · rw [if_pos hj0]
    exact cTW (dT (by omega)) (bnd (clones_ (by rw [h.d.1]; omega) (rowsP_len h.d.2 (by omega))) (bnd (appO_of (by simp; omega)) rfl))
  · rw [if_neg hj0]
    exact cFW (dF (by omega)) (bnd (product_ h.hp (by omega) h.c.2 h3 (by rw [h.c.1]; exact Nat.le_refl _) (by omega)) (bnd (appO_of (by simp; omega)) (bnd (product_ h.hp (by omega) h.a.2 h3 (by rw [h.a.1]; exact Nat.le_refl _) (by omega)) rfl)))
end Go.Proofs.YtgkomaglodpefaaDoor
namespace Go.Proofs.YtgkomaglodpefaaDoor

theorem tot_le {α : Type} {n : α → Nat} {c : Nat} {l : List α} (h : ∀ a ∈ l, n a ≤ c) : tot n l ≤ l.length * c := by
  induction l with
  | nil => simp [tot]
  | cons a l ih =>
    rw [tot_cons, List.length_cons, Nat.succ_mul]
    have := ih (fun x hx => h x (List.mem_cons_of_mem _ hx))
    have := h a (List.mem_cons_self ..)
    omega

end Go.Proofs.YtgkomaglodpefaaDoor
namespace Go.Proofs.YtgkomaglodpefaaDoor

end Go.Proofs.YtgkomaglodpefaaDoor
namespace Go.Proofs.YtgkomaglodpefaaDoor
def nIntS (a : List Int) : Nat := a.length
def nIntSS (a : List (List Int)) : Nat := rowsN a
def lensIntSS (a : List (List Int)) : Prop := lensOk a
theorem niceLensIntSS {a : List (List Int)} (h : Nice.ok a) : lensIntSS a := niceLens h
def cIntS (a : List Int) : Nat := rowN a
def cIntSS (a : List (List Int)) : Nat := tot rowN a
theorem cIntS_le (a : List Int) : cIntS a ≤ 8 * nIntS a := by unfold cIntS nIntS rowN; omega
theorem cIntSS_le (a : List (List Int)) : cIntSS a ≤ 8 * nIntSS a := by unfold cIntSS nIntSS rowsN; omega
def mk_IntS := mkS
def mk_IntSS := mkSS
theorem mk_IntS_snd (a : List Int) (k : Int) : (mk_IntS a k).2 = k + cIntS a := mkS_snd a k
theorem mk_IntSS_snd (a : List (List Int)) (k : Int) : (mk_IntSS a k).2 = k + cIntSS a := mkSS_snd a k
theorem z_IntSS (a : List (List Int)) (left : Int) (h0 : 0 ≤ left) (h1 : left ≤ bigN) (hl : lensIntSS a) : F_laws_szIntSS a left = some (if (nIntSS a : Int) ≤ left then left - nIntSS a else -1) := szIntSS a left h0 h1 hl
theorem t_IntSS (a : List (List Int)) (h : nIntSS a ≤ 1048576) : F_laws_toIntSS a = some a := toIntSS_of a h
theorem e_IntS (a : List Int) (h : nIntS a ≤ 1048576) : F_laws_eqIntS a a = some true := by rw [eqIntS a a (by unfold nIntS at h; unfold lenOk; omega), show decide (a = a) = true from dT rfl]
theorem e_IntSS (a : List (List Int)) (h : nIntSS a ≤ 1048576) : F_laws_eqIntSS a a = some true := eqIntSS_same a (lensOk_of h)
theorem m_IntS (a : List Int) (k : Int) (h0 : 0 ≤ k) (h : k + 8 * nIntS a ≤ 1125899906842624) : F_laws_markIntS a k = some (mk_IntS a k) := markIntS a k h0 (by unfold nIntS at h; unfold rowN bigN; omega)
theorem m_IntSS (a : List (List Int)) (k : Int) (h0 : 0 ≤ k) (h : k + 8 * nIntSS a ≤ 1125899906842624) : F_laws_markIntSS a k = some (mk_IntSS a k) := markIntSS a k h0 (by unfold nIntSS rowsN at h; unfold bigN; omega) (by unfold nIntSS rowsN at h; unfold bigN; omega)
theorem h_IntS (a : List Int) (k : Int) (h0 : 0 ≤ k) (h : k + 8 * nIntS a ≤ 1125899906842624) : F_laws_heldIntS (mk_IntS a k).1 k = some (k + cIntS a) := heldIntS a k h0 (by unfold nIntS at h; unfold rowN bigN; omega)
end Go.Proofs.YtgkomaglodpefaaDoor
namespace Go.Proofs.YtgkomaglodpefaaDoor

abbrev TyStateSpace := Int × Int × Int × (List (List Int)) × (List (List Int)) × (List (List Int)) × (List (List Int))
def nStateSpace (a : TyStateSpace) : Nat := nIntSS a.2.2.2.1 + nIntSS a.2.2.2.2.1 + nIntSS a.2.2.2.2.2.1 + nIntSS a.2.2.2.2.2.2
def lensStateSpace (a : TyStateSpace) : Prop := lensIntSS a.2.2.2.1 ∧ lensIntSS a.2.2.2.2.1 ∧ lensIntSS a.2.2.2.2.2.1 ∧ lensIntSS a.2.2.2.2.2.2
theorem z_StateSpace (a : TyStateSpace) (left : Int) (h0 : 0 ≤ left) (h1 : left ≤ bigN) (hl : lensStateSpace a) : F_laws_szStateSpace a left = some (if (nStateSpace a : Int) ≤ left then left - nStateSpace a else -1) := by
  unfold bigN at h1
  obtain ⟨l0, l1, l2, l3⟩ := hl
  unfold nStateSpace
  refine bnd (z_IntSS a.2.2.2.1 (left) (by omega) (by unfold bigN; omega) l0) (stp ?_)
  by_cases g0 : (nIntSS a.2.2.2.1 : Int) ≤ left
  case neg =>
    rw [if_neg g0]; try rw [if_neg (by omega)]
    exact cTW (dT (by omega)) rfl
  rw [if_pos g0]
  refine cFW (dF (by omega)) ?_
  refine bnd (z_IntSS a.2.2.2.2.1 (left - nIntSS a.2.2.2.1) (by omega) (by unfold bigN; omega) l1) (stp ?_)
  by_cases g1 : (nIntSS a.2.2.2.2.1 : Int) ≤ left - nIntSS a.2.2.2.1
  case neg =>
    rw [if_neg g1]; try rw [if_neg (by omega)]
    exact cTW (dT (by omega)) rfl
  rw [if_pos g1]
  refine cFW (dF (by omega)) ?_
  refine bnd (z_IntSS a.2.2.2.2.2.1 (left - nIntSS a.2.2.2.1 - nIntSS a.2.2.2.2.1) (by omega) (by unfold bigN; omega) l2) (stp ?_)
  by_cases g2 : (nIntSS a.2.2.2.2.2.1 : Int) ≤ left - nIntSS a.2.2.2.1 - nIntSS a.2.2.2.2.1
  case neg =>
    rw [if_neg g2]; try rw [if_neg (by omega)]
    exact cTW (dT (by omega)) rfl
  rw [if_pos g2]
  refine cFW (dF (by omega)) ?_
  refine bnd (z_IntSS a.2.2.2.2.2.2 (left - nIntSS a.2.2.2.1 - nIntSS a.2.2.2.2.1 - nIntSS a.2.2.2.2.2.1) (by omega) (by unfold bigN; omega) l3) (stp ?_)
  by_cases g3 : (nIntSS a.2.2.2.2.2.2 : Int) ≤ left - nIntSS a.2.2.2.1 - nIntSS a.2.2.2.2.1 - nIntSS a.2.2.2.2.2.1
  case neg =>
    rw [if_neg g3]; try rw [if_neg (by omega)]
    exact cTW (dT (by omega)) rfl
  rw [if_pos g3]
  try rw [if_pos (by omega)]
  refine cFW (dF (by omega)) ?_
  congr 1; try omega
theorem niceLensStateSpace {a : TyStateSpace} (h : Nice.ok a) : lensStateSpace a := by
  obtain ⟨h0, h1, h2, h3, h4, h5, h6⟩ := h
  exact ⟨niceLensIntSS h3, niceLensIntSS h4, niceLensIntSS h5, niceLensIntSS h6⟩
theorem t_StateSpace (a : TyStateSpace) (h : nStateSpace a ≤ 1048576) : F_laws_toStateSpace a = some a := by
  unfold nStateSpace at h
  exact bnd (t_IntSS a.2.2.2.1 (by omega)) (bnd (t_IntSS a.2.2.2.2.1 (by omega)) (bnd (t_IntSS a.2.2.2.2.2.1 (by omega)) (bnd (t_IntSS a.2.2.2.2.2.2 (by omega)) (rfl))))
theorem e_StateSpace (a : TyStateSpace) (h : nStateSpace a ≤ 1048576) : F_laws_eqStateSpace a a = some true := by
  unfold nStateSpace at h
  exact stp (cFW (nT (dT rfl)) (stp (cFW (nT (dT rfl)) (stp (cFW (nT (dT rfl)) (bnd (e_IntSS a.2.2.2.1 (by omega)) (stp (cFW rfl (bnd (e_IntSS a.2.2.2.2.1 (by omega)) (stp (cFW rfl (bnd (e_IntSS a.2.2.2.2.2.1 (by omega)) (stp (cFW rfl (bnd (e_IntSS a.2.2.2.2.2.2 (by omega)) (stp (cFW rfl (rfl))))))))))))))))))
def mk_StateSpace (a : TyStateSpace) (k : Int) : TyStateSpace × Int := ((a.1, a.2.1, a.2.2.1, (mk_IntSS a.2.2.2.1 k).1, (mk_IntSS a.2.2.2.2.1 (mk_IntSS a.2.2.2.1 k).2).1, (mk_IntSS a.2.2.2.2.2.1 (mk_IntSS a.2.2.2.2.1 (mk_IntSS a.2.2.2.1 k).2).2).1, (mk_IntSS a.2.2.2.2.2.2 (mk_IntSS a.2.2.2.2.2.1 (mk_IntSS a.2.2.2.2.1 (mk_IntSS a.2.2.2.1 k).2).2).2).1), (mk_IntSS a.2.2.2.2.2.2 (mk_IntSS a.2.2.2.2.2.1 (mk_IntSS a.2.2.2.2.1 (mk_IntSS a.2.2.2.1 k).2).2).2).2)
def cStateSpace (a : TyStateSpace) : Nat := cIntSS a.2.2.2.1 + cIntSS a.2.2.2.2.1 + cIntSS a.2.2.2.2.2.1 + cIntSS a.2.2.2.2.2.2
theorem cStateSpace_le (a : TyStateSpace) : cStateSpace a ≤ 8 * nStateSpace a := by
  unfold cStateSpace nStateSpace
  have h3 := cIntSS_le a.2.2.2.1
  have h4 := cIntSS_le a.2.2.2.2.1
  have h5 := cIntSS_le a.2.2.2.2.2.1
  have h6 := cIntSS_le a.2.2.2.2.2.2
  omega
theorem mk_StateSpace_snd (a : TyStateSpace) (k : Int) : (mk_StateSpace a k).2 = k + cStateSpace a := by
  unfold mk_StateSpace cStateSpace
  simp only [mk_IntSS_snd]
  try omega
theorem m_StateSpace (a : TyStateSpace) (k : Int) (h0 : 0 ≤ k) (h : k + 8 * nStateSpace a ≤ 1125899906842624) : F_laws_markStateSpace a k = some (mk_StateSpace a k) := by
  unfold nStateSpace at h
  have h3 := cIntSS_le a.2.2.2.1
  have h4 := cIntSS_le a.2.2.2.2.1
  have h5 := cIntSS_le a.2.2.2.2.2.1
  have h6 := cIntSS_le a.2.2.2.2.2.2
  exact bnd (m_IntSS _ _ h0 (by omega)) (bnd (m_IntSS _ _ (by simp only [mk_IntSS_snd]; omega) (by simp only [mk_IntSS_snd]; omega)) (bnd (m_IntSS _ _ (by simp only [mk_IntSS_snd]; omega) (by simp only [mk_IntSS_snd]; omega)) (bnd (m_IntSS _ _ (by simp only [mk_IntSS_snd]; omega) (by simp only [mk_IntSS_snd]; omega)) (rfl))))
end Go.Proofs.YtgkomaglodpefaaDoor
namespace Go.Proofs.YtgkomaglodpefaaDoor
set_option linter.unusedVariables false

/-! ### rows after rows -/
theorem gr_app1 {a b : Rows} {i : Nat} (h : i < a.length) : gr (a ++ b) i = gr a i := by
  unfold gr; rw [List.getD_eq_getElem?_getD, List.getD_eq_getElem?_getD, List.getElem?_append_left h]
theorem gr_app2 {a b : Rows} (i : Nat) : gr (a ++ b) (a.length + i) = gr b i := by
  unfold gr; rw [List.getD_eq_getElem?_getD, List.getD_eq_getElem?_getD, List.getElem?_append_right (by omega), Nat.add_sub_cancel_left]
theorem okM_app {p : Int} {n : Nat} {a b : Rows} (h1 : okM p n a) (h2 : okM p n b) : okM p n (a ++ b) :=
  fun r hr => (List.mem_append.1 hr).elim (h1 r) (h2 r)

/-! ### the states that are reached -/
section
variable {p : Int} {n : Nat} {A B : Rows}
end

/-! ### realizations -/
end Go.Proofs.YtgkomaglodpefaaDoor
namespace Go.Proofs.YtgkomaglodpefaaDoor

/-! ### inclusion -/

/-! ### ports that are never inputs -/
end Go.Proofs.YtgkomaglodpefaaDoor
namespace Go.Proofs.YtgkomaglodpefaaDoor
set_option linter.unusedVariables false

theorem fdNeg_ {p a : Int} (hp : 2 ≤ p ∧ p ≤ 97) (ha : 0 ≤ a ∧ a < p) : F_spec_fdNeg p a = some ((p - a) % p) := by
  refine bnd (subO_of (by omega) (by omega)) (bnd (remO_of (by omega)) ?_)
  rw [Int.tmod_eq_emod_of_nonneg (by omega)]

/-! ### identity matrices -/
def unitN (n i : Nat) : List Int := (List.replicate n 0).set i 1
theorem unitN_ok {p : Int} (hp : 2 ≤ p) (n i : Nat) : okR p n (unitN n i) := by
  refine ⟨by simp [unitN], fun x hx => ?_⟩
  rcases List.mem_or_eq_of_mem_set hx with h | rfl
  · have := List.eq_of_mem_replicate h; omega
  · omega

/-! ### linear equations -/
end Go.Proofs.YtgkomaglodpefaaDoor
namespace Go.Proofs.YtgkomaglodpefaaDoor
set_option linter.unusedVariables false

/-! ### lists of ports -/

/-! ### the other ports -/

/-! ### rows at ports -/

/-! ### ports that are always inputs -/
end Go.Proofs.YtgkomaglodpefaaDoor
namespace Go.Proofs.YtgkomaglodpefaaDoor
set_option linter.unusedVariables false

/-! ### rows beside rows -/

/-! ### choices -/
end Go.Proofs.YtgkomaglodpefaaDoor
namespace Go.Proofs.YtgkomaglodpefaaDoor
set_option linter.unusedVariables false

/-! ### sums and functionals -/
theorem sg_app (f : Nat → Int) (a : Nat) : ∀ b, sg (a + b) f = sg a f + sg b (fun t => f (a + t))
  | 0 => by show sg a f = sg a f + 0; omega
  | b + 1 => by
    show sg (a + b) f + f (a + b) = sg a f + (sg b (fun t => f (a + t)) + f (a + b))
    rw [sg_app f a b]; omega
theorem dot_span {p : Int} {n : Nat} {m : Rows} {v : List Int} (f : Nat → Int) (h : ∀ i, i < m.length → sg n (fun j => f j * el (gr m i) j) % p = 0) (hv : inSpan p n m v) : sg n (fun j => f j * el v j) % p = 0 := by
  obtain ⟨x, hx⟩ := hv
  have e1 : sg n (fun j => f j * el v j) % p = sg n (fun j => f j * sg m.length (fun i => x i * el (gr m i) j)) % p :=
    sg_mod fun j hj => by rw [← mul_mod2, hx j hj, mul_mod2]
  rw [e1]
  have e2 : sg n (fun j => f j * sg m.length (fun i => x i * el (gr m i) j)) = sg m.length (fun i => x i * sg n (fun j => f j * el (gr m i) j)) := by
    rw [sg_congr (g := fun j => sg m.length (fun i => f j * (x i * el (gr m i) j))) (fun j _ => (sg_mul _ _ _).symm), sg_comm]
    refine sg_congr fun i _ => ?_
    rw [← sg_mul]
    exact sg_congr fun j _ => Int.mul_left_comm _ _ _
  rw [e2, sg_mod (g := fun _ => 0) (fun i hi => by rw [mul_mod_zero2 (h i hi)]; exact (Int.zero_emod p).symm), sg_zero (fun _ _ => rfl)]
  exact Int.zero_emod p
/-- x is orthogonal to each row -/
def perp (p : Int) (n : Nat) (m : Rows) (x : List Int) : Prop := ∀ i, i < m.length → sg n (fun j => el (gr m i) j * el x j) % p = 0
theorem perp_span {p : Int} {n : Nat} {m : Rows} {x v : List Int} (h : perp p n m x) (hv : inSpan p n m v) : sg n (fun j => el v j * el x j) % p = 0 := by
  have := dot_span (m := m) (v := v) (fun j => el x j) (fun i hi => by rw [← h i hi]; exact congrArg (· % p) (sg_congr fun j _ => Int.mul_comm _ _)) hv
  rw [← this]; exact congrArg (· % p) (sg_congr fun j _ => Int.mul_comm _ _)
theorem perp_sub {p : Int} {n : Nat} {a b : Rows} {x : List Int} (h : perp p n b x) (hs : subSpan p n a b) : perp p n a x := fun i hi => perp_span h (hs i hi)

/-! ### by the steps of a reduction -/
theorem unit_elN {n i j : Nat} (hi : i < n) : el (unitN n i) j = if i = j then 1 else 0 := by
  unfold unitN el
  rw [List.getD_eq_getElem?_getD, List.getElem?_set]
  by_cases h : i = j
  · subst h; rw [if_pos rfl, if_pos (by rw [List.length_replicate]; exact hi), if_pos rfl]; rfl
  · rw [if_neg h, if_neg h, ← List.getD_eq_getElem?_getD]; exact el_rep n j
end Go.Proofs.YtgkomaglodpefaaDoor
namespace Go.Proofs.YtgkomaglodpefaaDoor
set_option linter.unusedVariables false

/-! ### by the leading indices -/
def isL (b : Rows) (j : Nat) : Bool := b.any fun r => decide (leadN r = j)
theorem isL_iff {b : Rows} {j : Nat} : isL b j = true ↔ ∃ t, t < b.length ∧ leadN (gr b t) = j := by
  unfold isL
  rw [List.any_eq_true]
  constructor
  · rintro ⟨r, hr, h⟩
    obtain ⟨t, ht, rfl⟩ := List.mem_iff_getElem.1 hr
    refine ⟨t, ht, ?_⟩
    have e : gr b t = b[t] := by have := gr_get ht; rw [List.getElem?_eq_getElem ht] at this; exact (Option.some.inj this).symm
    rw [e]; exact of_decide_eq_true h
  · rintro ⟨t, ht, h⟩
    exact ⟨gr b t, gr_mem ht, decide_eq_true h⟩
def ldL (n : Nat) (b : Rows) : Nat → List Int
  | 0 => mapR (fun _ _ => -1) (List.replicate n 0)
  | i + 1 => (ldL n b i).set (leadN (gr b i)) (i : Int)
theorem ldL_len (n : Nat) (b : Rows) : ∀ i, (ldL n b i).length = n
  | 0 => by unfold ldL; rw [mapR_len, List.length_replicate]
  | i + 1 => by unfold ldL; rw [List.length_set]; exact ldL_len n b i
theorem el_setN {z : List Int} {i j : Nat} {v : Int} (h : i < z.length) : el (z.set i v) j = if i = j then v else el z j := by
  unfold el
  rw [List.getD_eq_getElem?_getD, List.getD_eq_getElem?_getD, List.getElem?_set]
  by_cases hij : i = j
  · rw [if_pos hij, if_pos hij, if_pos (by omega)]; rfl
  · rw [if_neg hij, if_neg hij]
theorem ldL_el {n : Nat} {b : Rows} (hlt : ∀ i, i < b.length → leadN (gr b i) < n) {j : Nat} (hj : j < n) : ∀ i, i ≤ b.length → (0 ≤ el (ldL n b i) j ↔ ∃ t, t < i ∧ leadN (gr b t) = j)
  | 0, _ => by
    unfold ldL
    rw [el_mapR (by rw [List.length_replicate]; exact hj)]
    exact ⟨fun h => by omega, fun ⟨t, ht, _⟩ => by omega⟩
  | i + 1, hi => by
    have ih := ldL_el hlt hj i (by omega)
    show 0 ≤ el ((ldL n b i).set (leadN (gr b i)) (i : Int)) j ↔ _
    rw [el_setN (by rw [ldL_len]; exact hlt i (by omega))]
    by_cases h : leadN (gr b i) = j
    · rw [if_pos h]; exact ⟨fun _ => ⟨i, by omega, h⟩, fun _ => by omega⟩
    · rw [if_neg h, ih]
      constructor
      · rintro ⟨t, ht, h2⟩; exact ⟨t, by omega, h2⟩
      · rintro ⟨t, ht, h2⟩
        by_cases hti : t = i
        · rw [hti] at h2; exact absurd h2 h
        · exact ⟨t, by omega, h2⟩
def nvL (p : Int) (n : Nat) (b : Rows) (j : Nat) : Nat → List Int
  | 0 => (List.replicate n 0).set j 1
  | i + 1 => (nvL p n b j i).set (leadN (gr b i)) ((p - el (gr b i) j) % p)
theorem nvL_ok {p : Int} {n : Nat} {b : Rows} {j : Nat} (hp : 2 ≤ p) : ∀ i, okR p n (nvL p n b j i)
  | 0 => unitN_ok hp n j
  | i + 1 => by
    have ih := nvL_ok (n := n) (b := b) (j := j) hp i
    unfold nvL
    refine ⟨by rw [List.length_set]; exact ih.1, fun x hx => ?_⟩
    rcases List.mem_or_eq_of_mem_set hx with h | rfl
    · exact ih.2 x h
    · exact ⟨Int.emod_nonneg _ (by omega), Int.emod_lt_of_pos _ (by omega)⟩
theorem nvL_miss {p : Int} {n : Nat} {b : Rows} {j : Nat} (hp : 2 ≤ p) (hlt : ∀ i, i < b.length → leadN (gr b i) < n) (hj : j < n) {c : Nat} : ∀ i, i ≤ b.length → (∀ t, t < i → leadN (gr b t) ≠ c) → el (nvL p n b j i) c = if j = c then 1 else 0
  | 0, _, _ => unit_elN hj
  | i + 1, hi, h => by
    unfold nvL
    rw [el_setN (by rw [(nvL_ok hp i).1]; exact hlt i (by omega)), if_neg (h i (by omega))]
    exact nvL_miss hp hlt hj i (by omega) (fun t ht => h t (by omega))
theorem nvL_hit {p : Int} {n : Nat} {b : Rows} {j : Nat} (hp : 2 ≤ p) (hb : Red p n b) {t : Nat} (ht : t < b.length) : ∀ i, i ≤ b.length → t < i → el (nvL p n b j i) (leadN (gr b t)) = (p - el (gr b t) j) % p
  | 0, _, h => by omega
  | i + 1, hi, h => by
    unfold nvL
    rw [el_setN (by rw [(nvL_ok hp i).1]; exact hb.lt i (by omega))]
    by_cases hti : t = i
    · subst hti; rw [if_pos rfl]
    · have := hb.inc t i (by omega) (by omega)
      rw [if_neg (by omega)]
      exact nvL_hit hp hb ht i (by omega) (by omega)
def nuP (p : Int) (n : Nat) (b : Rows) : Nat → Rows
  | 0 => []
  | j + 1 => if isL b j then nuP p n b j else nuP p n b j ++ [nvL p n b j b.length]
theorem nuP_ok {p : Int} {n : Nat} {b : Rows} (hp : 2 ≤ p) : ∀ j, okM p n (nuP p n b j) ∧ (nuP p n b j).length ≤ j
  | 0 => ⟨(fun r hr => nomatch hr), Nat.le_refl _⟩
  | j + 1 => by
    obtain ⟨h1, h2⟩ := nuP_ok (n := n) (b := b) hp j
    unfold nuP
    split
    · exact ⟨h1, by omega⟩
    · refine ⟨okM_app h1 (fun r hr => ?_), by rw [List.length_append]; show _ + 1 ≤ _; omega⟩
      rw [List.mem_singleton.1 hr]; exact nvL_ok hp _
theorem nuP_mem {p : Int} {n : Nat} {b : Rows} {v : List Int} : ∀ k, v ∈ nuP p n b k → ∃ j, j < k ∧ isL b j = false ∧ v = nvL p n b j b.length
  | 0, h => nomatch h
  | k + 1, h => by
    unfold nuP at h
    split at h
    · obtain ⟨j, h1, h2⟩ := nuP_mem k h; exact ⟨j, by omega, h2⟩
    · rename_i hn
      rcases List.mem_append.1 h with h | h
      · obtain ⟨j, h1, h2⟩ := nuP_mem k h; exact ⟨j, by omega, h2⟩
      · exact ⟨k, by omega, by cases hk : isL b k with | false => rfl | true => exact absurd hk hn, List.mem_singleton.1 h⟩
theorem nuP_sum {p : Int} {n : Nat} {b : Rows} (x : Nat → Int) : ∀ k, ∃ X : Nat → Int, ∀ c, sg (nuP p n b k).length (fun i => X i * el (gr (nuP p n b k) i) c) = sg k (fun j => if isL b j = true then 0 else x j * el (nvL p n b j b.length) c)
  | 0 => ⟨fun _ => 0, fun c => rfl⟩
  | k + 1 => by
    obtain ⟨X, hX⟩ := nuP_sum (p := p) (n := n) (b := b) x k
    unfold nuP
    split
    · rename_i h
      refine ⟨X, fun c => ?_⟩
      show _ = sg k _ + (if isL b k = true then 0 else _)
      rw [if_pos h, hX c]; omega
    · rename_i h
      refine ⟨fun i => if i < (nuP p n b k).length then X i else x k, fun c => ?_⟩
      rw [List.length_append, show [nvL p n b k b.length].length = 1 from rfl, sg_app]
      show _ = sg k _ + (if isL b k = true then 0 else _)
      rw [if_neg h, ← hX c]
      congr 1
      · exact sg_congr fun i hi => by dsimp only; rw [if_pos hi, gr_app1 hi]
      · show 0 + _ = _
        dsimp only
        rw [if_neg (by omega), gr_app2, Int.zero_add]
        rfl
def nulM (p : Int) (n : Nat) (m : Rows) : Rows := redM p n (nuP p n (redM p n m) n)
theorem nulM_red {p : Int} {n : Nat} {m : Rows} (hf : fdB p = true) : Red p n (nulM p n m) := redM_red hf (nuP_ok (fdB_rng hf).1 n).1
theorem nulM_iff {p : Int} {n : Nat} {m : Rows} (hf : fdB p = true) (h : okM p n m) (x : List Int) : inSpan p n (nulM p n m) x ↔ perp p n m x := by
  have hp := fdB_rng hf
  have hb := redM_red hf h
  have hs := redM_span hf h
  have hn := redM_span hf (nuP_ok (n := n) (b := redM p n m) hp.1 n).1
  unfold nulM
  generalize redM p n m = b at hb hs hn ⊢
  constructor
  · intro hx
    refine perp_sub ?_ hs.2
    intro i hi
    refine dot_span (m := nuP p n b n) (fun c => el (gr b i) c) (fun k hk => ?_) (inSpan_trans hn.1 hx)
    obtain ⟨j, hj, hl, e⟩ := nuP_mem n (gr_mem hk)
    have hnl : ∀ t, t < b.length → leadN (gr b t) ≠ j := fun t ht he => by
      have := isL_iff.2 ⟨t, ht, he⟩
      rw [this] at hl; cases hl
    rw [e, sg_split (hb.lt i hi), sg_one (i0 := j) hj (fun c hc hne => by
      by_cases h1 : c = leadN (gr b i)
      · rw [if_pos h1]
      · rw [if_neg h1]
        by_cases h2 : isL b c = true
        · obtain ⟨t, ht, h3⟩ := isL_iff.1 h2
          rw [← h3, hb.zero t i ht hi (fun h4 => h1 (by rw [← h3, h4])), Int.zero_mul]
        · rw [nvL_miss hp.1 hb.lt hj b.length (Nat.le_refl _) (fun t ht he => h2 (isL_iff.2 ⟨t, ht, he⟩)), if_neg (fun h4 => hne h4.symm), Int.mul_zero])]
    rw [if_neg (fun h1 => hnl i hi h1.symm), nvL_miss hp.1 hb.lt hj b.length (Nat.le_refl _) hnl, if_pos rfl, hb.one i hi, nvL_hit hp.1 hb hi b.length (Nat.le_refl _) hi, Int.mul_one, Int.one_mul, Int.add_emod, mod_mod, ← Int.add_emod, show el (gr b i) j + (p - el (gr b i) j) = p by omega]
    exact Int.emod_self
  · intro hx
    have hx' : perp p n b x := perp_sub hx hs.1
    refine inSpan_trans hn.2 ?_
    obtain ⟨X, hX⟩ := nuP_sum (p := p) (n := n) (b := b) (fun j => el x j) n
    refine ⟨X, fun c hc => ?_⟩
    rw [hX c]
    by_cases h2 : isL b c = true
    · obtain ⟨t, ht, h3⟩ := isL_iff.1 h2
      have h4 := hx' t ht
      rw [sg_split (hb.lt t ht), hb.one t ht, Int.one_mul] at h4
      rw [← h3]
      have e1 : sg n (fun j => if isL b j = true then 0 else el x j * el (nvL p n b j b.length) (leadN (gr b t))) % p = sg n (fun j => - (if j = leadN (gr b t) then 0 else el (gr b t) j * el x j)) % p := by
        refine sg_mod fun j hj => ?_
        by_cases h5 : isL b j = true
        · rw [if_pos h5]
          by_cases h6 : j = leadN (gr b t)
          · rw [if_pos h6]; rfl
          · obtain ⟨t', ht', h7⟩ := isL_iff.1 h5
            rw [if_neg h6, ← h7, hb.zero t' t ht' ht (fun h8 => h6 (by rw [← h7, h8])), Int.zero_mul]; rfl
        · have h6 : j ≠ leadN (gr b t) := fun h7 => h5 (isL_iff.2 ⟨t, ht, h7.symm⟩)
          rw [if_neg h5, if_neg h6, nvL_hit hp.1 hb ht b.length (Nat.le_refl _) ht, mul_mod2]
          refine mod_of_sub ?_
          rw [show el x j * (p - el (gr b t) j) - -(el (gr b t) j * el x j) = el x j * p from by rw [Int.mul_sub, Int.mul_comm (el (gr b t) j)]; omega]
          exact Int.mul_emod_left _ _
      rw [e1, sg_neg]
      refine mod_of_sub ?_
      rw [Int.sub_neg, Int.add_comm]
      exact h4
    · rw [sg_one (i0 := c) hc (fun j hj hne => by
        by_cases h3 : isL b j = true
        · rw [if_pos h3]
        · rw [if_neg h3, nvL_miss hp.1 hb.lt hj b.length (Nat.le_refl _) (fun t ht he => h2 (isL_iff.2 ⟨t, ht, he⟩)), if_neg hne, Int.mul_zero]), if_neg h2, nvL_miss hp.1 hb.lt hc b.length (Nat.le_refl _) (fun t ht he => h2 (isL_iff.2 ⟨t, ht, he⟩)), if_pos rfl, Int.mul_one]
end Go.Proofs.YtgkomaglodpefaaDoor
namespace Go.Proofs.YtgkomaglodpefaaDoor
set_option linter.unusedVariables false

theorem nuP_succ (p : Int) (n : Nat) (b : Rows) (j : Nat) : nuP p n b (j + 1) = if isL b j then nuP p n b j else nuP p n b j ++ [nvL p n b j b.length] := rfl
theorem spNull_ {p : Int} {n : Nat} {m : Rows} (hf : fdB p = true) (hn : n ≤ 1048576) (h : okM p n m) (hL : m.length ≤ 1048576) : F_spec_spNull p (n : Int) m = some (nulM p n m) := by
  have hm : maxN = 1099511627776 := rfl
  have hp := fdB_rng hf
  have hb := redM_red hf h
  have hbl := (redM_ok (n := n) hp.1 h).2.2
  refine bnd (spReduce_ hf (Nat.le_refl n) hn h hL) ?_
  unfold nulM
  generalize redM p n m = b at hb hbl ⊢
  refine bnd (makeO_of 0 (by omega)) ?_
  have hlen : (List.replicate n (0 : Int)).length = n := List.length_replicate
  refine bnd (a := ldL n b 0) ((forS_is (fun j => part (fun _ _ => -1) (List.replicate n 0) j) ?_).trans (by rw [partN]; rfl)) ?_
  · intro j hj
    refine bnd (setO_of _ (by rw [part_len]; exact hj)) ?_
    exact congrArg some (part_set (fun _ _ => -1) (List.replicate n 0) hj)
  refine bnd (forS_is (fun i => ldL n b i) ?_) ?_
  · intro i hi
    have hw := (okM_gr hb.ok hi).1
    exact bnd (idx_gr hi) (bnd (spLead_ (by omega)) (bnd (setO_of _ (by rw [ldL_len]; exact hb.lt i hi)) rfl))
  refine bnd (whileO_is (fun j => (nuP p n b j, (j : Int))) (t := nuP p n b n) n ?_ ?_) ?_
  · intro j hj
    dsimp only
    refine stp (cTW (dT (by omega)) (bnd (a := nuP p n b (j + 1)) ?_ (bnd (addO_of (by omega) (by omega)) rfl)))
    refine bnd (idx_el (by rw [ldL_len]; exact hj)) (stp ?_)
    have h1 := ldL_el hb.lt hj b.length (Nat.le_refl _)
    rw [← isL_iff] at h1
    rw [nuP_succ]
    by_cases h2 : isL b j = true
    · rw [if_pos h2]; exact cTW (dT (h1.2 h2)) rfl
    · rw [if_neg h2]
      refine cFW (dF (fun h3 => h2 (h1.1 h3))) (bnd (makeO_of 0 (by omega)) (bnd (setO_of _ (by rw [hlen]; exact hj)) (bnd (forS_is (fun i => nvL p n b j i) ?_) (bnd (appO_of (by have := (nuP_ok (n := n) (b := b) hp.1 j).2; show _ + 1 ≤ _; omega)) rfl))))
      intro i hi
      have hw := (okM_gr hb.ok hi).1
      exact bnd (idx_gr hi) (bnd (idx_gr hi) (bnd (idx_el (by omega)) (bnd (spLead_ (by omega)) (bnd (fdNeg_ hp (okM_el hb.ok hi hj)) (bnd (setO_of _ (by rw [(nvL_ok hp.1 i).1]; exact hb.lt i hi)) rfl)))))
  · dsimp only
    exact stp (cFW (dF (by omega)) rfl)
  exact bnd (spReduce_ hf (Nat.le_refl n) hn (nuP_ok hp.1 n).1 (by have := (nuP_ok (n := n) (b := b) hp.1 n).2; omega)) rfl

/-! ### rows and columns exchanged -/

/-! ### products with zero -/

/-! ### the states that are hidden -/
section
variable {p : Int} {n o : Nat} {A C : Rows}
end
section
variable {p : Int} {n : Nat} {A B : Rows}
end
section
variable {p : Int} {n o : Nat} {A C : Rows}
end
end Go.Proofs.YtgkomaglodpefaaDoor
namespace Go.Proofs.YtgkomaglodpefaaDoor
set_option linter.unusedVariables false

section
variable {K : Nat} [NeZero K]
def dg (f : Ser K) (n : Nat) : Prop := ∀ i, n ≤ i → f i = 0
def fin (f : Ser K) : Prop := ∃ n, dg f n
theorem dg.mono {f : Ser K} {n m : Nat} (h : dg f n) (hm : n ≤ m) : dg f m := fun i hi => h i (by omega)
theorem dg.add {f g : Ser K} {n : Nat} (h : dg f n) (k : dg g n) : dg (f + g) n := fun i hi => by rw [ser_add, h i hi, k i hi]; grind
theorem dg.sub {f g : Ser K} {n : Nat} (h : dg f n) (k : dg g n) : dg (f - g) n := fun i hi => by rw [ser_sub, h i hi, k i hi]; grind
theorem dg.mul {f g : Ser K} {n m : Nat} (h : dg f n) (k : dg g m) : dg (f * g) (n + m) := fun i hi => pr_zero i f g fun j hj => by
  by_cases hn : n ≤ j
  · exact .inl (h j hn)
  · exact .inr (k _ (by omega))
theorem fin.add {f g : Ser K} : fin f → fin g → fin (f + g) := fun ⟨n, h⟩ ⟨m, k⟩ => ⟨n + m, (h.mono (by omega)).add (k.mono (by omega))⟩
theorem fin.sub {f g : Ser K} : fin f → fin g → fin (f - g) := fun ⟨n, h⟩ ⟨m, k⟩ => ⟨n + m, (h.mono (by omega)).sub (k.mono (by omega))⟩
theorem fin.mul {f g : Ser K} : fin f → fin g → fin (f * g) := fun ⟨n, h⟩ ⟨m, k⟩ => ⟨n + m, h.mul k⟩
theorem ser_top {f g : Ser K} {a b : Nat} (h : dg f (a + 1)) (k : dg g (b + 1)) : (f * g) (a + b) = f a * g b := by
  have := pr_one (a + b) a f g (by omega) (fun i hi hne => by
    by_cases hn : a + 1 ≤ i
    · exact .inl (h i hn)
    · exact .inr (k _ (by omega)))
  rw [ser_mul, this, Nat.add_sub_cancel_left]
def unK (c : Fin K) : Prop := ∃ y, c * y = 1
theorem unit_zero {c a : Fin K} (h : unK c) (ha : a * c = 0) : a = 0 := by
  obtain ⟨y, hy⟩ := h
  have : a = a * c * y := by grind
  rw [this, ha]; grind
theorem dg_div {w h : Ser K} {m t : Nat} (hw : fin w) (hh : dg h (m + 1)) (hu : unK (h m)) (hd : dg (w * h) (m + t)) : dg w t := by
  obtain ⟨N, hN⟩ := hw
  induction N with
  | zero => exact hN.mono (by omega)
  | succ N ih =>
    by_cases ht : N + 1 ≤ t
    · exact hN.mono ht
    · refine ih fun i hi => ?_
      by_cases he : i = N
      · subst he
        have h1 := ser_top hN hh
        rw [hd (i + m) (by omega)] at h1
        exact unit_zero hu h1.symm
      · exact hN i (by omega)
theorem dg_zero {f : Ser K} (h : dg f 0) : f = 0 := ser_ext fun i => by rw [h i (by omega), ser_zero]
theorem zero_dg (n : Nat) : dg (0 : Ser K) n := fun i _ => ser_zero i
def cst (c : Fin K) : Ser K := fun i => if i = 0 then c else 0
theorem cst_mul (c : Fin K) (f : Ser K) (i : Nat) : (cst c * f) i = c * f i := by
  rw [ser_mul, pr_one i 0 (cst c) f (by omega) (fun j hj hne => .inl (if_neg hne))]; rfl
theorem cst_dg (c : Fin K) : dg (cst c) 1 := fun i hi => if_neg (by omega)
theorem cst_cst (c d : Fin K) : cst c * cst d = cst (c * d) := ser_ext fun i => by
  rw [cst_mul]
  unfold cst
  by_cases h : i = 0
  · rw [if_pos h, if_pos h]
  · rw [if_neg h, if_neg h]; grind
theorem cst_one : cst (1 : Fin K) = 1 := ser_ext fun i => by rw [ser_one]; rfl
theorem cst_of {f : Ser K} (h : dg f 1) : f = cst (f 0) := ser_ext fun i => by
  unfold cst
  by_cases hi : i = 0
  · rw [if_pos hi, hi]
  · rw [if_neg hi]; exact h i (by omega)
/-- the power x^k -/
def xk (k : Nat) : Ser K := fun i => if i = k then 1 else 0
theorem xk_lo {k n : Nat} (f : Ser K) (h : n < k) : (xk k * f : Ser K) n = 0 := pr_zero n _ _ fun i hi => .inl (if_neg (by omega))
theorem xk_hi {k n : Nat} (f : Ser K) (h : k ≤ n) : (xk k * f : Ser K) n = f (n - k) := by
  rw [ser_mul, pr_one n k (xk k) f h (fun j hj hne => .inl (if_neg hne)), show xk k k = (1 : Fin K) from if_pos rfl]; grind
end

/-- the numbers mod p -/
structure HomP (K : Nat) [NeZero K] (p : Int) where
  φ : Int → Fin K
  add : ∀ a b, φ (a + b) = φ a + φ b
  mul : ∀ a b, φ (a * b) = φ a * φ b
  one : φ 1 = 1
  ker : ∀ a, φ a = 0 ↔ a % p = 0
  sur : ∀ a, ∃ z, φ z = a
theorem homP_ex {p : Int} (hp : 2 ≤ p) : ∃ (K : Nat) (_ : NeZero K), Nonempty (HomP K p) := by
  have hz : NeZero p.toNat := ⟨by omega⟩
  have hlt : ∀ a : Int, (a % p).toNat < p.toNat := fun a => by
    have h1 := Int.emod_nonneg a (show p ≠ 0 by omega)
    have h2 := Int.emod_lt_of_pos a (show 0 < p by omega)
    omega
  have hc : ∀ a : Int, (((a % p).toNat : Nat) : Int) = a % p := fun a => Int.toNat_of_nonneg (Int.emod_nonneg a (by omega))
  have hpc : ((p.toNat : Nat) : Int) = p := by omega
  refine ⟨p.toNat, hz, ⟨⟨fun a => ⟨(a % p).toNat, hlt a⟩, fun a b => Fin.ext (Int.ofNat.inj ?_), fun a b => Fin.ext (Int.ofNat.inj ?_), Fin.ext ?_, fun a => ?_, fun a => ⟨((a.val : Nat) : Int), Fin.ext ?_⟩⟩⟩⟩
  · show ((((a + b) % p).toNat : Nat) : Int) = ((((a % p).toNat + (b % p).toNat) % p.toNat : Nat) : Int)
    rw [Int.natCast_emod, Int.natCast_add, hc, hc, hc, hpc, add_mod1, add_mod2]
  · show ((((a * b) % p).toNat : Nat) : Int) = ((((a % p).toNat * (b % p).toNat) % p.toNat : Nat) : Int)
    rw [Int.natCast_emod, Int.natCast_mul, hc, hc, hc, hpc, mul_mod1, mul_mod2]
  · show (1 % p).toNat = 1 % p.toNat
    rw [Nat.mod_eq_of_lt (by omega), Int.emod_eq_of_lt (by omega) (by omega)]; rfl
  · have h1 := Int.emod_nonneg a (show p ≠ 0 by omega)
    rw [Fin.ext_iff]
    show (a % p).toNat = 0 % p.toNat ↔ _
    rw [Nat.zero_mod]
    omega
  · show (((a.val : Nat) : Int) % p).toNat = a.val
    have := a.isLt
    rw [Int.emod_eq_of_lt (by omega) (by omega)]; rfl

section
variable {K : Nat} [NeZero K] {p : Int} (H : HomP K p)
include H
theorem HomP.zero : H.φ 0 = 0 := (H.ker 0).2 (Int.zero_emod p)
theorem HomP.neg (a : Int) : H.φ (-a) = - H.φ a := by
  have h := H.add (-a) a
  rw [Int.add_left_neg, H.zero] at h
  grind
theorem HomP.sub (a b : Int) : H.φ (a - b) = H.φ a - H.φ b := by
  rw [Int.sub_eq_add_neg, H.add, H.neg]; grind
theorem HomP.mod (a : Int) : H.φ (a % p) = H.φ a := by
  have h : H.φ (a % p - a) = 0 := (H.ker _).2 (by rw [sub_mod1, Int.sub_self, Int.zero_emod])
  rw [H.sub] at h
  grind
theorem HomP.inj {a b : Int} (ha : 0 ≤ a ∧ a < p) (hb : 0 ≤ b ∧ b < p) (h : H.φ a = H.φ b) : a = b := by
  have h1 : H.φ (a - b) = 0 := by rw [H.sub, h]; grind
  have h2 := (H.ker _).1 h1
  have h3 := mod_of_sub h2
  rwa [emod_sm ha, emod_sm hb] at h3
theorem HomP.unit {a : Int} (hf : fdB p = true) (ha : 0 < a ∧ a < p) : H.φ a * H.φ (invF p a) = 1 := by
  have h := (inverse_ hf ha).2.1
  have hp := fdB_rng hf
  have : H.φ (a * invF p a - 1) = 0 := (H.ker _).2 (by rw [← sub_mod1, h, Int.sub_self, Int.zero_emod])
  rw [H.sub, H.mul, H.one] at this
  grind
theorem HomP.inv {a : Fin K} (hf : fdB p = true) (ha : a ≠ 0) : ∃ y, a * y = 1 := by
  obtain ⟨z, rfl⟩ := H.sur a
  have hp := fdB_rng hf
  refine ⟨H.φ (invF p (z % p)), ?_⟩
  rw [← H.mod z]
  have h0 := emod_in (x := z) hp.1
  refine H.unit hf ⟨?_, h0.2⟩
  have : z % p ≠ 0 := fun h => ha ((H.ker z).2 h)
  omega
def cf (f : List Int) : Ser K := fun i => H.φ (el f i)
theorem cf_dg (f : List Int) : dg (cf H f) f.length := fun i hi => by unfold cf; rw [el_out hi]; exact H.zero
theorem cf_fin (f : List Int) : fin (cf H f) := ⟨_, cf_dg H f⟩
end
/-- a polynomial: its coefficients are elements, the last one is not zero -/
def gd (p : Int) (f : List Int) : Prop := inP p f ∧ (f.length = 0 ∨ el f (f.length - 1) ≠ 0)
theorem gd_el {p : Int} {f : List Int} (hp : 0 < p) (h : inP p f) (i : Nat) : 0 ≤ el f i ∧ el f i < p := by
  by_cases hi : i < f.length
  · exact h _ (el_mem hi)
  · rw [el_out (by omega)]; omega
theorem gd_len {p : Int} {f g : List Int} (hf : gd p f) (h : ∀ i, el f i = el g i) : f.length ≤ g.length := by
  rcases hf.2 with h0 | h0
  · omega
  · by_cases hl : f.length = 0
    · omega
    · refine Decidable.byContradiction fun hn => h0 ?_
      rw [h, el_out (by omega)]
theorem gd_ext {p : Int} {f g : List Int} (hf : gd p f) (hg : gd p g) (h : ∀ i, el f i = el g i) : f = g :=
  ext_el (Nat.le_antisymm (gd_len hf h) (gd_len hg fun i => (h i).symm)) fun j _ => h j
section
variable {K : Nat} [NeZero K] {p : Int} (H : HomP K p)
include H
theorem cf_inj {f g : List Int} (hp : 0 < p) (hf : gd p f) (hg : gd p g) (h : cf H f = cf H g) : f = g :=
  gd_ext hf hg fun i => H.inj (gd_el hp hf.1 i) (gd_el hp hg.1 i) (congrFun h i)
theorem cf_lead {f : List Int} (hf : fdB p = true) (h : gd p f) (hl : 0 < f.length) : unK (cf H f (f.length - 1)) := by
  have hp := fdB_rng hf
  have h1 := gd_el (by omega) h.1 (f.length - 1)
  rcases h.2 with h0 | h0
  · omega
  · exact ⟨_, H.unit hf ⟨by omega, h1.2⟩⟩
theorem cf_nil : cf H [] = 0 := ser_ext fun i => by unfold cf; rw [el_nil, ser_zero, H.zero]
theorem cf_zero {f : List Int} (hp : 0 < p) (h : gd p f) (hz : cf H f = 0) : f = [] :=
  cf_inj H hp h ⟨(fun _ hx => nomatch hx), .inl rfl⟩ (by rw [hz, cf_nil])
theorem gd_short {f : List Int} {n : Nat} (hf : fdB p = true) (h : gd p f) (hd : dg (cf H f) n) (hu : unK (cf H f (f.length - 1)) → (1 : Fin K) ≠ 0) : f.length ≤ n := by
  refine Decidable.byContradiction fun hn => ?_
  obtain ⟨y, hy⟩ := cf_lead H hf h (by omega)
  rw [hd _ (by omega)] at hy
  exact hu ⟨y, by rw [hd _ (by omega)]; exact hy⟩ (by grind)
theorem HomP.ne (hp : 2 ≤ p) : (1 : Fin K) ≠ 0 := fun h => by
  have := (H.ker 1).1 (by rw [H.one]; exact h)
  rw [Int.emod_eq_of_lt (by omega) (by omega)] at this
  omega

/-- quotient and rest -/
structure DivF (f g q r : List Int) : Prop where
  e : cf H f = cf H q * cf H g + cf H r
  gq : gd p q
  gr : gd p r
  l : r.length < g.length
  ql : q.length ≤ f.length
  rl : r.length ≤ f.length
theorem DivF.uniq {f g q r q' r' : List Int} (hf : fdB p = true) (hg : gd p g) (h : DivF H f g q r) (h' : DivF H f g q' r') : q = q' ∧ r = r' := by
  have hp := fdB_rng hf
  have hl := h.l
  have hl' := h'.l
  have e1 : (cf H q - cf H q') * cf H g = cf H r' - cf H r := cr2 h.e.symm h'.e (rg [cf H f, cf H q, cf H q', cf H g, cf H r, cf H r'])
  have d0 : dg (cf H q - cf H q') 0 := by
    refine dg_div (m := g.length - 1) (h := cf H g) ((cf_fin H q).sub (cf_fin H q')) ((cf_dg H g).mono (by omega)) (cf_lead H hf hg (by omega)) ?_
    rw [e1]
    exact ((cf_dg H r').mono (by omega)).sub ((cf_dg H r).mono (by omega))
  have e0 := dg_zero d0
  have eq : cf H q = cf H q' := cr1 e0 (rg [cf H q, cf H q'])
  refine ⟨cf_inj H (by omega) h.gq h'.gq eq, cf_inj H (by omega) h.gr h'.gr ?_⟩
  have a1 : cf H q' * cf H g + cf H r = cf H q' * cf H g + cf H r' := by
    rw [← h'.e, ← eq]; exact h.e.symm
  exact cr1 a1 (rg [cf H q', cf H g, cf H r, cf H r'])
/-- what divides leaves no rest -/
theorem DivF.exact {f g q r : List Int} {u : Ser K} (hf : fdB p = true) (hg : gd p g) (h : DivF H f g q r) (hu : fin u) (e : cf H f = u * cf H g) : cf H f = cf H q * cf H g := by
  have hl := h.l
  have e1 : (u - cf H q) * cf H g = cf H r := cr2 e.symm h.e (rg [u, cf H q, cf H g, cf H r, cf H f])
  have d0 : dg (u - cf H q) 0 := by
    refine dg_div (m := g.length - 1) (h := cf H g) (hu.sub (cf_fin H q)) ((cf_dg H g).mono (by omega)) (cf_lead H hf hg (by omega)) ?_
    rw [e1]
    exact (cf_dg H r).mono (by omega)
  have e0 := dg_zero d0
  have hu2 : u = cf H q := cr1 e0 (rg [u, cf H q])
  rw [e, hu2]
/-- a common divisor that is a combination -/
structure GcdF (f g : Ser K) (E : List Int) : Prop where
  gd : gd p E
  pos : 0 < E.length
  comb : ∃ a b : Ser K, fin a ∧ fin b ∧ cf H E = a * f + b * g
  fst : ∃ u : Ser K, fin u ∧ f = u * cf H E
  snd : ∃ u : Ser K, fin u ∧ g = u * cf H E
theorem GcdF.start {f : List Int} (h : _root_.Go.Proofs.YtgkomaglodpefaaDoor.gd p f) (hl : 0 < f.length) : GcdF H (cf H f) (cf H []) f :=
  ⟨h, hl, ⟨1, 0, ⟨1, fun i hi => by rw [ser_one, if_neg (by omega)]⟩, ⟨0, zero_dg 0⟩, rg [cf H f, cf H []]⟩, ⟨1, ⟨1, fun i hi => by rw [ser_one, if_neg (by omega)]⟩, rg [cf H f]⟩, ⟨0, ⟨0, zero_dg 0⟩, by rw [cf_nil]; exact rg [cf H f]⟩⟩
theorem GcdF.step {f g q r E : List Int} (hd : DivF H f g q r) (h : GcdF H (cf H g) (cf H r) E) : GcdF H (cf H f) (cf H g) E := by
  obtain ⟨a, b, fa, fb, ec⟩ := h.comb
  obtain ⟨u, fu, eu⟩ := h.fst
  obtain ⟨v, fv, ev⟩ := h.snd
  have e := hd.e
  have fq := cf_fin H q
  exact ⟨h.gd, h.pos, ⟨b, a - b * cf H q, fb, fa.sub (fb.mul fq), by rw [ec, e]; exact rg [a, b, cf H g, cf H r, cf H q]⟩, ⟨cf H q * u + v, (fq.mul fu).add fv, by rw [e, eu, ev]; exact rg [cf H q, u, v, cf H E]⟩, ⟨u, fu, eu⟩⟩
/-- divided by their common divisor they have none -/
theorem GcdF.low {f g n m n' m' : Ser K} {E d E' : List Int} {c k c' k' : Fin K} (hf : fdB p = true) (h : GcdF H f g E) (hc : c * c' = 1) (hk : k * k' = 1) (ed : cf H d = cst c * cf H E) (e1 : f = n * cf H d) (e2 : g = m * cf H d) (en : n' = cst k * n) (em : m' = cst k * m) (h' : GcdF H n' m' E') : E'.length = 1 := by
  have hp := fdB_rng hf
  obtain ⟨a, b, fa, fb, ec⟩ := h.comb
  obtain ⟨u, fu, eu⟩ := h'.fst
  obtain ⟨v, fv, ev⟩ := h'.snd
  have hl := h.pos
  have hl' := h'.pos
  have k1 : cst k * cst k' = (1 : Ser K) := by rw [cst_cst, hk, cst_one]
  have c1 : cst c * cst c' = (1 : Ser K) := by rw [cst_cst, hc, cst_one]
  have fk : fin (cst k' : Ser K) := ⟨1, cst_dg _⟩
  have fc : fin (cst c : Ser K) := ⟨1, cst_dg _⟩
  -- w = c (a n + b m) = (c k' (a u + b v)) E'
  have ew : (cst c * (cst k' * (a * u + b * v)) * cf H E') * cf H E = cf H E := by
    have x1 : cst k' * n' = n := by rw [en, ← ser_assoc, ser_comm (cst k'), k1, ser_comm, ser_mul1]
    have x2 : cst k' * m' = m := by rw [em, ← ser_assoc, ser_comm (cst k'), k1, ser_comm, ser_mul1]
    have x3 : cst c * (cst k' * (a * u + b * v)) * cf H E' = cst c * (a * n + b * m) := by
      rw [← x1, ← x2, eu, ev]; exact rg [cst c, cst k', a, b, u, v, cf H E']
    rw [x3]
    have : cst c * (a * n + b * m) * cf H E = a * (n * (cst c * cf H E)) + b * (m * (cst c * cf H E)) := rg [cst c, a, b, n, m, cf H E]
    rw [this, ← ed, ← e1, ← e2, ← ec]
  have fs : fin (cst c * (cst k' * (a * u + b * v))) := fc.mul (fk.mul ((fa.mul fu).add (fb.mul fv)))
  have dw : dg (cst c * (cst k' * (a * u + b * v)) * cf H E') 1 := by
    refine dg_div (m := E.length - 1) (h := cf H E) (fs.mul (cf_fin H E')) ((cf_dg H E).mono (by omega)) (cf_lead H hf h.gd hl) ?_
    rw [ew]
    exact (cf_dg H E).mono (by omega)
  refine Decidable.byContradiction fun hne => ?_
  have d0 := dg_div (m := E'.length - 1) (t := 0) (h := cf H E') fs ((cf_dg H E').mono (by omega)) (cf_lead H hf h'.gd hl') (dw.mono (by omega))
  rw [dg_zero d0] at ew
  have e0 : cf H E = 0 := ew.symm.trans (rg [cf H E', cf H E])
  have := cf_zero H (by omega) h.gd e0
  rw [this] at hl
  exact absurd hl (by simp)
end

end Go.Proofs.YtgkomaglodpefaaDoor
namespace Go.Proofs.YtgkomaglodpefaaDoor

/-! ### tables -/

/-! ### edges -/

/-! ### how often a wire occurs -/

/-! ### valid graphs -/

/-! ### the program's test -/
end Go.Proofs.YtgkomaglodpefaaDoor
namespace Go.Proofs.YtgkomaglodpefaaDoor

/-! ### loops by what holds in them -/
theorem whileO_num {σ τ : Type} {f : σ → Option (σ ⊕ τ)} (I : Nat → σ → Prop) (Q : τ → Prop) (N : Nat) (h : ∀ j s, j ≤ N → I j s → (∃ s', f s = some (.inl s') ∧ I (j + 1) s' ∧ j < N) ∨ (∃ t, f s = some (.inr t) ∧ Q t)) {s : σ} (hs : I 0 s) : ∃ t, whileO f s = some t ∧ Q t := by
  have key : ∀ d j s, j + d = N → I j s → ∃ t, whileO f s = some t ∧ Q t := by
    intro d
    induction d with
    | zero =>
      intro j s hj hI
      rcases h j s (by omega) hI with ⟨s', h1, h2, h3⟩ | ⟨t, h1, h2⟩
      · omega
      · exact ⟨t, whileO_end h1, h2⟩
    | succ d ih =>
      intro j s hj hI
      rcases h j s (by omega) hI with ⟨s', h1, h2, h3⟩ | ⟨t, h1, h2⟩
      · obtain ⟨t, k1, k2⟩ := ih (j + 1) s' (by omega) h2
        exact ⟨t, by rw [whileO_step h1]; exact k1, k2⟩
      · exact ⟨t, whileO_end h1, h2⟩
  exact key N 0 s (by omega) hs
theorem forS_inv {σ : Type} {f : Nat → σ → Option σ} (I : Nat → σ → Prop) : ∀ (n k : Nat) (s : σ), I k s → (∀ j s, k ≤ j → j < k + n → I j s → ∃ s', f j s = some s' ∧ I (j + 1) s') → ∃ r, forS f n k s = some r ∧ I (k + n) r
  | 0, k, s, h0, _ => ⟨s, rfl, h0⟩
  | n + 1, k, s, h0, h => by
    obtain ⟨s', h1, h2⟩ := h k s (Nat.le_refl _) (by omega) h0
    obtain ⟨r, h3, h4⟩ := forS_inv I n (k + 1) s' h2 (fun j s hj hl hi => h j s (by omega) (by omega) hi)
    refine ⟨r, ?_, by rwa [show k + 1 + n = k + (n + 1) by omega] at h4⟩
    show (f k s).bind _ = _
    rw [h1]; exact h3
theorem forS_rel {σ : Type} {f : Nat → σ → Option σ} {n : Nat} {s : σ} (I : Nat → σ → Prop) (h0 : I 0 s) (h : ∀ j s, j < n → I j s → ∃ s', f j s = some s' ∧ I (j + 1) s') : ∃ r, forS f n 0 s = some r ∧ I n r := by
  obtain ⟨r, h1, h2⟩ := forS_inv (f := f) I n 0 s h0 (fun j s _ hl hi => h j s (by omega) hi)
  exact ⟨r, h1, by rwa [Nat.zero_add] at h2⟩
theorem forO_inv {σ τ : Type} {f : Nat → σ → Option (σ ⊕ τ)} (I : Nat → σ → Prop) (Q : τ → Prop) : ∀ (n k : Nat) (s : σ), I k s → (∀ j s, k ≤ j → j < k + n → I j s → (∃ s', f j s = some (.inl s') ∧ I (j + 1) s') ∨ (∃ t, f j s = some (.inr t) ∧ Q t)) → (∃ r, forO f n k s = some (.inl r) ∧ I (k + n) r) ∨ (∃ t, forO f n k s = some (.inr t) ∧ Q t)
  | 0, k, s, h0, _ => .inl ⟨s, rfl, h0⟩
  | n + 1, k, s, h0, h => by
    rcases h k s (Nat.le_refl _) (by omega) h0 with ⟨s', h1, h2⟩ | ⟨t, h1, h2⟩
    · rcases forO_inv I Q n (k + 1) s' h2 (fun j s hj hl hi => h j s (by omega) (by omega) hi) with ⟨r, h3, h4⟩ | ⟨t, h3, h4⟩
      · refine .inl ⟨r, ?_, by rwa [show k + 1 + n = k + (n + 1) by omega] at h4⟩
        show (f k s).bind _ = _
        rw [h1]; exact h3
      · refine .inr ⟨t, ?_, h4⟩
        show (f k s).bind _ = _
        rw [h1]; exact h3
    · refine .inr ⟨t, ?_, h2⟩
      show (f k s).bind _ = _
      rw [h1]; rfl
theorem forO_rel {σ τ : Type} {f : Nat → σ → Option (σ ⊕ τ)} {n : Nat} {s : σ} (I : Nat → σ → Prop) (Q : τ → Prop) (h0 : I 0 s) (h : ∀ j s, j < n → I j s → (∃ s', f j s = some (.inl s') ∧ I (j + 1) s') ∨ (∃ t, f j s = some (.inr t) ∧ Q t)) : (∃ r, forO f n 0 s = some (.inl r) ∧ I n r) ∨ (∃ t, forO f n 0 s = some (.inr t) ∧ Q t) := by
  rcases forO_inv (f := f) I Q n 0 s h0 (fun j s _ hl hi => h j s (by omega) hi) with ⟨r, h1, h2⟩ | h
  · exact .inl ⟨r, h1, by rwa [Nat.zero_add] at h2⟩
  · exact .inr h

/-! ### tables of marks -/

/-! ### what can be reached -/

/-! ### the reference's search -/

/-! ### the program's search -/
end Go.Proofs.YtgkomaglodpefaaDoor
namespace Go.Proofs.YtgkomaglodpefaaDoor
set_option linter.unusedVariables false

/-! ### without zeros at the end -/
def trN (l : List Int) : Nat → Nat
  | 0 => 0
  | n + 1 => if el l n = 0 then trN l n else n + 1
def trimL (l : List Int) : List Int := l.take (trN l l.length)
theorem trN_le (l : List Int) : ∀ n, trN l n ≤ n
  | 0 => Nat.le_refl _
  | n + 1 => by
    unfold trN
    split
    · exact Nat.le_succ_of_le (trN_le l n)
    · exact Nat.le_refl _
theorem trN_z (l : List Int) : ∀ n i, trN l n ≤ i → i < n → el l i = 0
  | 0, i, _, h => by omega
  | n + 1, i, h1, h2 => by
    unfold trN at h1
    by_cases h : el l n = 0
    · rw [if_pos h] at h1
      by_cases hi : i = n
      · rw [hi]; exact h
      · exact trN_z l n i h1 (by omega)
    · rw [if_neg h] at h1; omega
theorem trN_nz (l : List Int) : ∀ n, trN l n = 0 ∨ el l (trN l n - 1) ≠ 0
  | 0 => .inl rfl
  | n + 1 => by
    unfold trN
    by_cases h : el l n = 0
    · rw [if_pos h]; exact trN_nz l n
    · rw [if_neg h]; exact .inr h
theorem trN_out {l : List Int} {m : Nat} (h : ∀ i, m ≤ i → el l i = 0) : ∀ n, trN l n ≤ m
  | 0 => Nat.zero_le _
  | n + 1 => by
    unfold trN
    by_cases hz : el l n = 0
    · rw [if_pos hz]; exact trN_out h n
    · rw [if_neg hz]
      refine Decidable.byContradiction fun hn => hz (h n (by omega))
theorem trimL_len (l : List Int) : (trimL l).length = trN l l.length := by
  unfold trimL
  rw [List.length_take]
  have := trN_le l l.length
  omega
theorem el_take {l : List Int} {n i : Nat} (h : i < n) : el (l.take n) i = el l i := by
  unfold el; rw [List.getD_eq_getElem?_getD, List.getD_eq_getElem?_getD, List.getElem?_take, if_pos h]
theorem trimL_el (l : List Int) (i : Nat) : el (trimL l) i = el l i := by
  by_cases h : i < trN l l.length
  · exact el_take h
  · rw [el_out (by rw [trimL_len]; omega)]
    by_cases hi : i < l.length
    · exact (trN_z l l.length i (by omega) hi).symm
    · exact (el_out (by omega)).symm
theorem trimL_gd {p : Int} {l : List Int} (h : inP p l) : gd p (trimL l) := by
  refine ⟨fun x hx => h x (List.mem_of_mem_take hx), ?_⟩
  rw [trimL_len]
  rcases trN_nz l l.length with h | h
  · exact .inl h
  · by_cases h0 : trN l l.length = 0
    · exact .inl h0
    · refine .inr ?_
      rw [trimL_el]; exact h
theorem trimL_le (l : List Int) : (trimL l).length ≤ l.length := by rw [trimL_len]; exact trN_le _ _
theorem trimL_out {l : List Int} {m : Nat} (h : ∀ i, m ≤ i → el l i = 0) : (trimL l).length ≤ m := by rw [trimL_len]; exact trN_out h _
theorem trim_loop {l : List Int} {f : Int → Option (Int ⊕ Int)} (h0 : f 0 = some (.inr 0)) (h : ∀ n : Nat, n < l.length → f ((n : Int) + 1) = some (if el l n = 0 then .inl (n : Int) else .inr ((n : Int) + 1))) : ∀ n : Nat, n ≤ l.length → whileO f (n : Int) = some (trN l n : Int)
  | 0, _ => whileO_end h0
  | n + 1, hn => by
    have hs := h n (by omega)
    unfold trN
    rw [show ((n + 1 : Nat) : Int) = (n : Int) + 1 by omega]
    by_cases hz : el l n = 0
    · rw [if_pos hz] at hs ⊢
      rw [whileO_step hs]; exact trim_loop h0 h n (by omega)
    · rw [if_neg hz] at hs ⊢
      rw [whileO_end hs]; rfl
theorem poTrim_ {l : List Int} (hl : l.length ≤ 1048576) : F_spec_poTrim l = some (trimL l) := by
  have hN : (maxN : Nat) = 1099511627776 := rfl
  refine bnd (trim_loop (l := l) rfl ?_ l.length (Nat.le_refl _)) ?_
  · intro n hn
    refine bnd (a := decide (el l n = 0)) (stp (cTW (dT (by omega)) (bnd (a := (n : Int)) ?_ (bnd (idx_el hn) rfl)))) ?_
    · rw [subO_of (by omega) (by omega)]; congr 1; omega
    · by_cases hz : el l n = 0
      · rw [if_pos hz]
        refine cTW (dT hz) (bnd (a := (n : Int)) ?_ rfl)
        rw [subO_of (by omega) (by omega)]; congr 1; omega
      · rw [if_neg hz]; exact cFW (dF hz) rfl
  · have e : sliceO l 0 (trN l l.length : Int) = some (trimL l) := by
      have := trN_le l l.length
      unfold sliceO
      rw [if_pos ⟨by omega, by omega, by omega⟩]; simp [trimL]
    exact bnd e (bnd (own_ (by have := trimL_le l; omega)) rfl)
theorem trimmed_ {l : List Int} (hl : l.length ≤ 1048576) : F_impl_trimmed_int l 0 = some (trimL l) := by
  have hN : (maxN : Nat) = 1099511627776 := rfl
  refine bnd (trim_loop (l := l) rfl ?_ l.length (Nat.le_refl _)) ?_
  · intro n hn
    refine bnd (a := decide (el l n = 0)) (stp (cTW (dT (by omega)) (bnd (a := (n : Int)) ?_ (bnd (idx_el hn) rfl)))) ?_
    · rw [subO_of (by omega) (by omega)]; congr 1; omega
    · by_cases hz : el l n = 0
      · rw [if_pos hz]
        refine cTW (dT hz) (bnd (a := (n : Int)) ?_ rfl)
        rw [subO_of (by omega) (by omega)]; congr 1; omega
      · rw [if_neg hz]; exact cFW (dF hz) rfl
  · have e : sliceO l 0 (trN l l.length : Int) = some (trimL l) := by
      have := trN_le l l.length
      unfold sliceO
      rw [if_pos ⟨by omega, by omega, by omega⟩]; simp [trimL]
    exact bnd e rfl

/-! ### sums and multiples -/
theorem inP_set {p v : Int} {l : List Int} {i : Nat} (h : inP p l) (hv : 0 ≤ v ∧ v < p) : inP p (l.set i v) := fun x hx => by
  rcases List.mem_or_eq_of_mem_set hx with h1 | rfl
  · exact h x h1
  · exact hv
theorem inP_rep {p : Int} (hp : 0 < p) (n : Nat) : inP p (List.replicate n 0) := fun x hx => by
  have := List.eq_of_mem_replicate hx; omega
theorem mul_by {a b : Int} (ha : 0 ≤ a ∧ a ≤ 97) (hb : -9999 ≤ b ∧ b ≤ 9999) : -969903 ≤ b * a ∧ b * a ≤ 969903 := by
  have h1 := Int.mul_le_mul_of_nonneg_right hb.1 ha.1
  have h2 := Int.mul_le_mul_of_nonneg_right hb.2 ha.1
  omega
theorem addT_ {p b : Int} {v w : List Int} (hp : 2 ≤ p ∧ p ≤ 97) (hb : -9999 ≤ b ∧ b ≤ 9999) (hv : inP p v) (hw : inP p w) (hl : w.length ≤ v.length) : ∃ r, F_impl_addTimes p v b w = some r ∧ r.length = v.length ∧ inP p r ∧ ∀ i, el r i = (el v i + b * el w i) % p := by
  have hg := gd_el (show 0 < p by omega) hv
  have hgw := gd_el (show 0 < p by omega) hw
  suffices h : ∃ r, F_impl_addTimes p v b w = some r ∧ r.length = v.length ∧ inP p r ∧ ∀ i, el r i = if i < w.length then (el v i + b * el w i) % p else el v i by
    obtain ⟨r, h1, h2, h3, h4⟩ := h
    refine ⟨r, h1, h2, h3, fun i => ?_⟩
    rw [h4]
    by_cases hi : i < w.length
    · rw [if_pos hi]
    · rw [if_neg hi, el_out (r := w) (by omega), Int.mul_zero, Int.add_zero, emod_sm (hg i)]
  obtain ⟨r, h1, h2⟩ := forS_rel (n := w.length) (s := v) (f := fun (k3 : Nat) (s72 : List Int) =>
      (idxO w ((k3 : Nat) : Int)).bind fun a87 =>
      (idxO s72 ((k3 : Nat) : Int)).bind fun a95 =>
      (mulO b a87).bind fun a97 =>
      (addO a95 a97).bind fun a99 =>
      (F_impl_mod p a99).bind fun y101 =>
      (setO s72 ((k3 : Nat) : Int) y101).bind fun a110 =>
      some a110) (fun j r => r.length = v.length ∧ inP p r ∧ ∀ i, el r i = if i < j then (el v i + b * el w i) % p else el v i) ⟨rfl, hv, fun i => rfl⟩ (by
    intro j s hj ⟨hs, hi, he⟩
    have hj2 : j < s.length := by omega
    have h3 := hg j
    have h4 := hgw j
    have h5 := mul_by (a := el w j) (b := b) (by omega) hb
    have e1 : el s j = el v j := by rw [he j, if_neg (by omega)]
    refine ⟨s.set j ((el s j + b * el w j) % p), bnd (idx_el hj) (bnd (idx_el hj2) (bnd (mulO_of (by omega) (by omega)) (bnd (addO_of (by omega) (by omega)) (bnd (modG hp (by omega)) (bnd (setO_of _ hj2) rfl))))), by rw [List.length_set]; exact hs, inP_set hi ⟨Int.emod_nonneg _ (by omega), Int.emod_lt_of_pos _ (by omega)⟩, fun i => ?_⟩
    rw [el_setN hj2]
    by_cases hij : j = i
    · subst hij; rw [if_pos rfl, if_pos (by omega), e1]
    · rw [if_neg hij, he i]
      by_cases hlt : i < j
      · rw [if_pos hlt, if_pos (by omega)]
      · rw [if_neg hlt, if_neg (by omega)])
  exact ⟨r, bnd h1 rfl, h2⟩
theorem el_app_lt {a b : List Int} {i : Nat} (h : i < a.length) : el (a ++ b) i = el a i := by
  unfold el; rw [List.getD_eq_getElem?_getD, List.getD_eq_getElem?_getD, List.getElem?_append_left h]
theorem el_app_ge {a b : List Int} {i : Nat} (h : a.length ≤ i) : el (a ++ b) i = el b (i - a.length) := by
  unfold el; rw [List.getD_eq_getElem?_getD, List.getD_eq_getElem?_getD, List.getElem?_append_right h]
theorem copL_el {n : Nat} {f : List Int} (h : f.length ≤ n) : (copL (List.replicate n 0) f).length = n ∧ ∀ i, el (copL (List.replicate n 0) f) i = el f i := by
  unfold copL
  rw [List.length_replicate, List.take_of_length_le h, List.drop_replicate]
  refine ⟨by rw [List.length_append, List.length_replicate]; omega, fun i => ?_⟩
  by_cases hi : i < f.length
  · exact el_app_lt hi
  · rw [el_app_ge (by omega), el_rep, el_out (by omega)]
theorem inP_app {p : Int} {a b : List Int} (ha : inP p a) (hb : inP p b) : inP p (a ++ b) := fun x hx => by
  rcases List.mem_append.1 hx with h | h
  · exact ha x h
  · exact hb x h
theorem inP_copL {p : Int} (hp : 0 < p) {n : Nat} {f : List Int} (hf : inP p f) : inP p (copL (List.replicate n 0) f) :=
  inP_app (fun x hx => hf x (List.mem_of_mem_take hx)) (fun x hx => inP_rep hp n x (List.mem_of_mem_drop hx))
theorem polyAdd_ {p b : Int} {f g : List Int} (hp : 2 ≤ p ∧ p ≤ 97) (hb : -9999 ≤ b ∧ b ≤ 9999) (hf : inP p f) (hg : inP p g) (hlf : f.length ≤ 1000) (hlg : g.length ≤ 1000) : ∃ t, F_impl_polyAdd p f b g = some t ∧ gd p t ∧ (t.length ≤ f.length ∨ t.length ≤ g.length) ∧ ∀ i, el t i = (el f i + b * el g i) % p := by
  have hN : (maxN : Nat) = 1099511627776 := rfl
  obtain ⟨n, hn, h1, h2, h3⟩ : ∃ n : Nat, maxI2 ((f.length : Nat) : Int) ((g.length : Nat) : Int) = (n : Int) ∧ f.length ≤ n ∧ g.length ≤ n ∧ (n ≤ f.length ∨ n ≤ g.length) := by
    unfold maxI2
    by_cases h : ((g.length : Nat) : Int) > ((f.length : Nat) : Int)
    · exact ⟨g.length, if_pos h, by omega, by omega, .inr (Nat.le_refl _)⟩
    · exact ⟨f.length, if_neg h, by omega, by omega, .inl (Nat.le_refl _)⟩
  obtain ⟨c1, c2⟩ := copL_el (n := n) (f := f) h1
  obtain ⟨r, e1, e2, e3, e4⟩ := addT_ (v := copL (List.replicate n 0) f) (w := g) hp hb (inP_copL (by omega) hf) hg (by omega)
  have e5 := trimL_le r
  refine ⟨trimL r, stp (bnd (a := List.replicate n 0) ?_ (stp (bnd e1 (bnd (trimmed_ (by omega)) rfl)))), trimL_gd e3, ?_, fun i => ?_⟩
  · rw [hn]; exact zeros_ (by omega)
  · rcases h3 with h3 | h3
    · exact .inl (by omega)
    · exact .inr (by omega)
  · rw [trimL_el, e4, c2]
/-- a multiple -/
def mulL (p k : Int) (f : List Int) : List Int := trimL (f.map fun x => k * x % p)
theorem el_map {f : List Int} {g : Int → Int} (h0 : g 0 = 0) (i : Nat) : el (f.map g) i = g (el f i) := by
  by_cases h : i < f.length
  · unfold el; rw [List.getD_eq_getElem?_getD, List.getD_eq_getElem?_getD, List.getElem?_map, List.getElem?_eq_getElem h]; rfl
  · rw [el_out (by rw [List.length_map]; omega), el_out (by omega), h0]
theorem mulL_el (p k : Int) (f : List Int) (i : Nat) : el (mulL p k f) i = k * el f i % p := by
  unfold mulL
  rw [trimL_el, el_map (by rw [Int.mul_zero]; exact Int.zero_emod p)]
theorem mulL_in {p k : Int} (hp : 0 < p) (f : List Int) : inP p (f.map fun x => k * x % p) := fun x hx => by
  obtain ⟨y, _, rfl⟩ := List.mem_map.1 hx
  exact ⟨Int.emod_nonneg _ (by omega), Int.emod_lt_of_pos _ hp⟩
theorem mulL_gd {p k : Int} (hp : 0 < p) (f : List Int) : gd p (mulL p k f) := trimL_gd (mulL_in hp f)
theorem mulL_le (p k : Int) (f : List Int) : (mulL p k f).length ≤ f.length := by
  have := trimL_le (f.map fun x => k * x % p)
  rw [List.length_map] at this; exact this
theorem poTimes_ {p k : Int} {f : List Int} (hp : 2 ≤ p ∧ p ≤ 97) (hk : 0 ≤ k ∧ k < p) (hf : inP p f) (hl : f.length ≤ 1000) : F_spec_poTimes p k f = some (mulL p k f) := by
  have hN : (maxN : Nat) = 1099511627776 := rfl
  have hg := gd_el (show 0 < p by omega) hf
  obtain ⟨r, h1, h2, h3⟩ := forS_rel (n := f.length) (s := List.replicate f.length (0 : Int)) (f := fun (k7 : Nat) (s52 : List Int) =>
      (idxO f ((k7 : Nat) : Int)).bind fun a67 =>
      (F_spec_fdMul p k a67).bind fun y69 =>
      (setO s52 ((k7 : Nat) : Int) y69).bind fun a78 =>
      some a78) (fun j r => r.length = f.length ∧ ∀ i, i < j → el r i = k * el f i % p) ⟨by simp, fun i h => by omega⟩ (by
    intro j s hj ⟨hs, he⟩
    refine ⟨s.set j (k * el f j % p), bnd (idx_el hj) (bnd (fdMul_ hp hk (hg j)) (bnd (setO_of _ (by omega)) rfl)), by rw [List.length_set]; exact hs, fun i hi => ?_⟩
    rw [el_setN (by omega)]
    by_cases hij : j = i
    · subst hij; rw [if_pos rfl]
    · rw [if_neg hij]; exact he i (by omega))
  have e : r = f.map fun x => k * x % p := ext_el (by rw [h2, List.length_map]) fun j hj => by
    rw [h3 j (by omega), el_map (by rw [Int.mul_zero]; exact Int.zero_emod p)]
  refine bnd (makeO_of _ (by omega)) (bnd h1 ?_)
  rw [e]
  exact bnd (poTrim_ (by rw [List.length_map]; omega)) rfl
theorem scaled_ {p k : Int} {f : List Int} (hp : 2 ≤ p ∧ p ≤ 97) (hk : 0 ≤ k ∧ k < p) (hf : inP p f) (hl : f.length ≤ 1000) : F_impl_scaled p f k = some (mulL p k f) := by
  obtain ⟨t, h1, h2, h3, h4⟩ := polyAdd_ (b := k) (f := []) (g := f) hp (by omega) (fun _ h => nomatch h) hf (by simp) hl
  refine bnd h1 ?_
  rw [gd_ext h2 (mulL_gd (k := k) (by omega) f) fun i => by rw [h4, mulL_el, el_nil, Int.zero_add]]
section
variable {K : Nat} [NeZero K] {p : Int} (H : HomP K p)
include H
theorem cf_mulL (k : Int) (f : List Int) : cf H (mulL p k f) = cst (H.φ k) * cf H f := ser_ext fun i => by
  rw [cst_mul]
  show H.φ (el (mulL p k f) i) = _
  rw [mulL_el, H.mod, H.mul]; rfl
end
theorem mulL_len {p k : Int} {f : List Int} (hf : fdB p = true) (hk : 0 < k ∧ k < p) (h : gd p f) : (mulL p k f).length = f.length := by
  have hp := fdB_rng hf
  obtain ⟨K, _, ⟨H⟩⟩ := homP_ex (p := p) (by omega)
  refine Nat.le_antisymm (mulL_le p k f) ?_
  refine Decidable.byContradiction fun hn => ?_
  have e : cf H f = cst (H.φ (invF p k)) * cf H (mulL p k f) := by
    have : cst (H.φ (invF p k)) * cst (H.φ k) = (1 : Ser K) := by rw [cst_cst, ← cst_one, km_comm, H.unit hf hk]
    rw [cf_mulL, ← ser_assoc, this, ser_comm, ser_mul1]
  have := gd_short H hf h (n := (mulL p k f).length) (by
    rw [e]
    intro i hi
    rw [cst_mul, cf_dg H _ i hi]; grind) (fun _ => H.ne (by omega))
  omega

end Go.Proofs.YtgkomaglodpefaaDoor
namespace Go.Proofs.YtgkomaglodpefaaDoor
set_option linter.unusedVariables false

theorem subR_ {p k : Int} (hp : 0 < p) (a x : Int) : (a + p - (k * x) % p) % p = (a - k * x) % p := sub_mod a p (k * x)
/-- a quotient's loop -/
theorem div_loop {K : Nat} [NeZero K] {p v : Int} (H : HomP K p) (hf : fdB p = true) {f g : List Int} {L : Nat} (hL : f.length + 1 = L + g.length) (hg : gd p g) (hl : 0 < g.length) (hv : v = invF p (el g (g.length - 1)))
    (hF : inP p f) {F : List Int × List Int × Int → Option ((List Int × List Int × Int) ⊕ (List Int × List Int))}
    (hs : ∀ (q r : List Int) (i : Nat), i < L → q.length = L → r.length = f.length → inP p r → ∃ r', F (q, r, (i : Int)) = some (.inl (q.set i (el r (i + g.length - 1) * v % p), r', (i : Int) - 1)) ∧ r'.length = r.length ∧ inP p r' ∧ ∀ t, el r' t = if i ≤ t ∧ t < i + g.length then (el r t - (el r (i + g.length - 1) * v % p) * el g (t - i)) % p else el r t)
    (he : ∀ q r : List Int, F (q, r, -1) = some (.inr (q, r))) :
    ∃ q r, whileO F (List.replicate L 0, f, (L : Int) - 1) = some (q, r) ∧ q.length = L ∧ r.length = f.length ∧ DivF H f g (trimL q) (trimL r) := by
  have hp := fdB_rng hf
  have hu : H.φ (el g (g.length - 1)) * H.φ v = 1 := by
    have h1 := gd_el (show 0 < p by omega) hg.1 (g.length - 1)
    rcases hg.2 with h0 | h0
    · omega
    · rw [hv]; exact H.unit hf ⟨by omega, h1.2⟩
  obtain ⟨⟨q, r⟩, h1, h2, h3, h4, h5, h6, h7⟩ := whileO_num (f := F) (s := (List.replicate L 0, f, (L : Int) - 1))
    (fun j s => s.2.2 = (L : Int) - 1 - j ∧ s.1.length = L ∧ s.2.1.length = f.length ∧ inP p s.1 ∧ inP p s.2.1 ∧ cf H f = cf H s.1 * cf H g + cf H s.2.1 ∧ (∀ t, t + j < L → el s.1 t = 0) ∧ ∀ t, L + g.length ≤ t + j + 1 → el s.2.1 t = 0)
    (fun t => t.1.length = L ∧ t.2.length = f.length ∧ inP p t.1 ∧ inP p t.2 ∧ cf H f = cf H t.1 * cf H g + cf H t.2 ∧ ∀ i, g.length ≤ i + 1 → el t.2 i = 0) L (by
    rintro j ⟨q, r, i⟩ hj ⟨a0, a1, a2, a3, a4, a5, a6, a7⟩
    dsimp only at a0 a1 a2 a3 a4 a5 a6 a7
    by_cases hjL : j = L
    · right
      refine ⟨(q, r), ?_, a1, a2, a3, a4, a5, fun i hi => a7 i (by omega)⟩
      rw [show i = -1 by omega]; exact he q r
    · left
      obtain ⟨i', hi'⟩ : ∃ i' : Nat, i = (i' : Int) := ⟨L - 1 - j, by omega⟩
      subst hi'
      have hiL : i' + j + 1 = L := by omega
      obtain ⟨r', b1, b2, b3, b4⟩ := hs q r i' (by omega) a1 a2 a4
      refine ⟨_, b1, ⟨by dsimp only; omega, by dsimp only; rw [List.length_set]; exact a1, by dsimp only; omega, inP_set a3 ⟨Int.emod_nonneg _ (by omega), Int.emod_lt_of_pos _ (by omega)⟩, b3, ?_, ?_, ?_⟩, by omega⟩
      · dsimp only
        have e1 : cf H (q.set i' (el r (i' + g.length - 1) * v % p)) = cf H q + cst (H.φ (el r (i' + g.length - 1) * v % p)) * xk i' := ser_ext fun t => by
          rw [ser_add, cst_mul]
          show H.φ (el _ t) = H.φ (el q t) + _
          rw [el_setN (by omega)]
          by_cases ht : i' = t
          · subst ht
            rw [if_pos rfl, a6 i' (by omega), H.zero, show xk i' i' = (1 : Fin K) from if_pos rfl]; grind
          · rw [if_neg ht, show xk i' t = (0 : Fin K) from if_neg (fun h => ht h.symm)]; grind
        have e2 : cf H r' = cf H r - cst (H.φ (el r (i' + g.length - 1) * v % p)) * (xk i' * cf H g) := ser_ext fun t => by
          rw [ser_sub, cst_mul]
          show H.φ (el r' t) = H.φ (el r t) - _
          rw [b4]
          by_cases ht : i' ≤ t
          · rw [xk_hi _ ht]
            show _ = _ - _ * H.φ (el g (t - i'))
            by_cases ht2 : t < i' + g.length
            · rw [if_pos ⟨ht, ht2⟩, H.mod, H.sub, H.mul]
            · rw [if_neg (by omega), el_out (r := g) (by omega), H.zero]; grind
          · rw [if_neg (by omega), xk_lo _ (by omega)]; grind
        rw [e1, e2, a5]; exact rg [cf H q, cf H g, cf H r, cst (H.φ (el r (i' + g.length - 1) * v % p)), xk i']
      · dsimp only
        intro t ht
        rw [el_setN (by omega), if_neg (by omega)]
        exact a6 t (by omega)
      · dsimp only
        intro t ht
        rw [b4]
        by_cases ht2 : t = i' + g.length - 1
        · rw [if_pos (by omega)]
          refine (H.ker _).1 ?_
          rw [H.sub, H.mul, H.mod, H.mul, show t - i' = g.length - 1 by omega, ht2]
          grind
        · rw [if_neg (by omega)]
          exact a7 t (by omega)) (by
    refine ⟨by dsimp only; omega, by simp, rfl, inP_rep (by omega) L, hF, ?_, fun t _ => el_rep L t, fun t ht => el_out (by dsimp only; omega)⟩
    have : cf H (List.replicate L 0) = 0 := ser_ext fun t => by
      show H.φ (el _ t) = _
      rw [el_rep, H.zero, ser_zero]
    dsimp only
    rw [this]; exact rg [cf H g, cf H f])
  dsimp only at h2 h3 h4 h5 h6 h7
  have t1 : cf H (trimL q) = cf H q := ser_ext fun t => by show H.φ _ = H.φ _; rw [trimL_el]
  have t2 : cf H (trimL r) = cf H r := ser_ext fun t => by show H.φ _ = H.φ _; rw [trimL_el]
  have t3 := trimL_le q
  have t4 := trimL_le r
  have t5 := trimL_out (l := r) (m := g.length - 1) (fun i hi => h7 i (by omega))
  exact ⟨q, r, h1, h2, h3, ⟨by rw [t1, t2]; exact h6, trimL_gd h4, trimL_gd h5, by omega, by omega, by omega⟩⟩

theorem subP_ {p k : Int} {g r : List Int} (hp : 2 ≤ p ∧ p ≤ 97) (i : Nat) (hk : 0 ≤ k ∧ k < p) (hg : inP p g) (hr : inP p r) (hi : i + g.length ≤ r.length) (hl : r.length ≤ 1000) :
    ∃ r', forS (fun (k904 : Nat) (s981 : List Int) =>
            (idxO g ((k904 : Nat) : Int)).bind fun a996 =>
            (addO (i : Int) ((k904 : Nat) : Int)).bind fun a999 =>
            (addO (i : Int) ((k904 : Nat) : Int)).bind fun a1001 =>
            (idxO s981 a1001).bind fun a1009 =>
            (F_spec_fdMul p k a996).bind fun y1011 =>
            (F_spec_fdSub p a1009 y1011).bind fun y1014 =>
            (setO s981 a999 y1014).bind fun a1023 =>
            some a1023) g.length 0 r = some r' ∧ r'.length = r.length ∧ inP p r' ∧ ∀ t, el r' t = if i ≤ t ∧ t < i + g.length then (el r t - k * el g (t - i)) % p else el r t := by
  have hgm := gd_el (show 0 < p by omega) hg
  refine forS_rel (fun j r' => r'.length = r.length ∧ inP p r' ∧ ∀ t, el r' t = if i ≤ t ∧ t < i + j then (el r t - k * el g (t - i)) % p else el r t) ⟨rfl, hr, fun t => by rw [if_neg (by omega)]⟩ ?_
  intro j s hj ⟨h1, h2, h3⟩
  have hsm := gd_el (show 0 < p by omega) h2
  have e0 : ((i : Int) + (j : Int)) = ((i + j : Nat) : Int) := by omega
  refine ⟨s.set (i + j) ((el s (i + j) + p - (k * el g j) % p) % p), ?_, by rw [List.length_set]; exact h1, inP_set h2 ⟨Int.emod_nonneg _ (by omega), Int.emod_lt_of_pos _ (by omega)⟩, fun t => ?_⟩
  · refine bnd (idx_el hj) (bnd (addO_of (by omega) (by omega)) (bnd (addO_of (by omega) (by omega)) ?_))
    rw [e0]
    exact bnd (idx_el (by omega)) (bnd (fdMul_ hp hk (hgm j)) (bnd (fdSub_ hp (hsm _) ⟨Int.emod_nonneg _ (by omega), Int.emod_lt_of_pos _ (by omega)⟩) (bnd (setO_of _ (by omega)) rfl)))
  · rw [el_setN (by omega)]
    by_cases ht : i + j = t
    · subst ht
      rw [if_pos rfl, if_pos (by omega), subR_ (by omega), h3, if_neg (by omega), show i + j - i = j by omega]
    · rw [if_neg ht, h3]
      by_cases hin : i ≤ t ∧ t < i + j
      · rw [if_pos hin, if_pos (by omega)]
      · rw [if_neg hin, if_neg (by omega)]
theorem poDivS {K : Nat} [NeZero K] {p : Int} (H : HomP K p) (hf : fdB p = true) {f g : List Int} (hF : gd p f) (hg : gd p g) (hl : 0 < g.length) (hlf : f.length ≤ 1000) (hlg : g.length ≤ 1000) :
    ∃ q r, F_spec_poDiv p f g = some (q, r) ∧ DivF H f g q r := by
  have hp := fdB_rng hf
  have hN : (maxN : Nat) = 1099511627776 := rfl
  have hld : 0 < el g (g.length - 1) ∧ el g (g.length - 1) < p := by
    have h1 := gd_el (show 0 < p by omega) hg.1 (g.length - 1)
    rcases hg.2 with h0 | h0
    · omega
    · exact ⟨by omega, h1.2⟩
  obtain ⟨_, _, v1, v2⟩ := inverse_ hf hld
  have hidx : idxO g (((g.length : Nat) : Int) - 1) = some (el g (g.length - 1)) := by
    rw [show ((g.length : Nat) : Int) - 1 = ((g.length - 1 : Nat) : Int) by omega]; exact idx_el (by omega)
  by_cases hsh : f.length < g.length
  · have hd : DivF H f g [] f := ⟨by rw [cf_nil]; exact rg [cf H g, cf H f], ⟨(fun _ h => nomatch h), .inl rfl⟩, hF, hsh, by simp, Nat.le_refl _⟩
    have et : trimL f = f := gd_ext (trimL_gd hF.1) hF (trimL_el f)
    refine ⟨[], f, ?_, hd⟩
    refine bnd (own_ (by omega)) (bnd (a := []) (stp (cFW (dF (by omega)) rfl)) (bnd (subO_of (by omega) (by omega)) (bnd hidx (bnd (fdInv_ hf hld) ?_))))
    refine bnd (a := ([], f)) (bnd (a := -1) rfl (whileO_end rfl)) ?_
    refine bnd (poTrim_ (by simp)) (bnd (poTrim_ (by simp only []; omega)) ?_)
    simp only []
    rw [et]; rfl
  · obtain ⟨L, hL⟩ : ∃ L : Nat, f.length + 1 = L + g.length := ⟨f.length + 1 - g.length, by omega⟩
    obtain ⟨q, r, h1, h2, h3, h4⟩ := div_loop H hf hL hg hl rfl hF.1 (F := fun (s866 : List Int × List Int × Int) =>
      (some (decide ((0 : Int) ≤ s866.2.2))).bind fun a875 =>
      cond a875
      ((addO s866.2.2 ((g.length : Nat) : Int)).bind fun a880 =>
        (subO a880 1).bind fun a882 =>
        (idxO s866.2.1 a882).bind fun a890 =>
        (F_spec_fdMul p a890 (invF p (el g (g.length - 1)))).bind fun y892 =>
        (setO s866.1 s866.2.2 y892).bind fun a901 =>
        (forS (fun (k904 : Nat) (s981 : List Int) =>
            (idxO g ((k904 : Nat) : Int)).bind fun a996 =>
            (addO s866.2.2 ((k904 : Nat) : Int)).bind fun a999 =>
            (addO s866.2.2 ((k904 : Nat) : Int)).bind fun a1001 =>
            (idxO s981 a1001).bind fun a1009 =>
            (F_spec_fdMul p y892 a996).bind fun y1011 =>
            (F_spec_fdSub p a1009 y1011).bind fun y1014 =>
            (setO s981 a999 y1014).bind fun a1023 =>
            some a1023) g.length 0 s866.2.1).bind fun (s1028 : List Int) =>
        (subO s866.2.2 1).bind fun a1030 =>
        some (.inl (a901, s1028, a1030)))
      (some (.inr (s866.1, s866.2.1)))) (by
        intro q r i hi hq hr hri
        have hrm := gd_el (show 0 < p by omega) hri
        obtain ⟨r', b1, b2, b3, b4⟩ := subP_ (k := el r (i + g.length - 1) * invF p (el g (g.length - 1)) % p) (r := r) hp i ⟨Int.emod_nonneg _ (by omega), Int.emod_lt_of_pos _ (by omega)⟩ hg.1 hri (by omega) (by omega)
        refine ⟨r', ?_, b2, b3, b4⟩
        refine stp (cTW (dT (by dsimp only; omega)) (bnd (addO_of (by dsimp only; omega) (by dsimp only; omega)) (bnd (subO_of (by dsimp only; omega) (by dsimp only; omega)) ?_)))
        dsimp only
        rw [show (i : Int) + ((g.length : Nat) : Int) - 1 = ((i + g.length - 1 : Nat) : Int) by omega]
        refine bnd (idx_el (by omega)) (bnd (fdMul_ hp (hrm _) ⟨v1, v2⟩) (bnd (setO_of _ (by omega)) (bnd b1 (bnd (subO_of (by omega) (by omega)) rfl))))) (fun q r => rfl)
    refine ⟨trimL q, trimL r, ?_, h4⟩
    refine bnd (own_ (by omega)) (bnd (a := List.replicate L 0) (stp (cTW (dT (by omega)) (bnd (subO_of (by omega) (by omega)) (bnd (addO_of (by omega) (by omega)) ?_)))) (bnd (subO_of (by omega) (by omega)) (bnd hidx (bnd (fdInv_ hf hld) ?_))))
    · rw [show ((f.length : Nat) : Int) - ((g.length : Nat) : Int) + 1 = (L : Int) by omega]
      exact bnd (makeO_of _ (by omega)) rfl
    · refine bnd (a := (q, r)) (bnd (a := (L : Int) - 1) ?_ h1) (bnd (poTrim_ (by dsimp only; omega)) (bnd (poTrim_ (by dsimp only; omega)) rfl))
      rw [List.length_replicate]
      exact subO_of (by omega) (by omega)
theorem poDivI {K : Nat} [NeZero K] {p : Int} (H : HomP K p) (hf : fdB p = true) {f g : List Int} (hF : gd p f) (hg : gd p g) (hl : 0 < g.length) (hlf : f.length ≤ 1000) (hlg : g.length ≤ 1000) :
    ∃ q r, F_impl_polyDivide p f g = some (q, r) ∧ DivF H f g q r := by
  have hp := fdB_rng hf
  have hN : (maxN : Nat) = 1099511627776 := rfl
  have hld : 0 < el g (g.length - 1) ∧ el g (g.length - 1) < p := by
    have h1 := gd_el (show 0 < p by omega) hg.1 (g.length - 1)
    rcases hg.2 with h0 | h0
    · omega
    · exact ⟨by omega, h1.2⟩
  obtain ⟨v0, _, v1, v2⟩ := inverse_ hf hld
  have hidx : idxO g (((g.length : Nat) : Int) - 1) = some (el g (g.length - 1)) := by
    rw [show ((g.length : Nat) : Int) - 1 = ((g.length - 1 : Nat) : Int) by omega]; exact idx_el (by omega)
  by_cases hsh : f.length < g.length
  · have hd : DivF H f g [] f := ⟨by rw [cf_nil]; exact rg [cf H g, cf H f], ⟨(fun _ h => nomatch h), .inl rfl⟩, hF, hsh, by simp, Nat.le_refl _⟩
    exact ⟨[], f, bnd (clone_ (by omega)) (stp (cTW (dT (by omega)) rfl)), hd⟩
  · obtain ⟨L, hL⟩ : ∃ L : Nat, f.length + 1 = L + g.length := ⟨f.length + 1 - g.length, by omega⟩
    obtain ⟨q, r, h1, h2, h3, h4⟩ := div_loop H hf hL hg hl rfl hF.1 (F := fun (s301 : List Int × List Int × Int) =>
        (some (decide ((0 : Int) ≤ s301.2.2))).bind fun a310 =>
        cond a310
        ((addO s301.2.2 ((g.length : Nat) : Int)).bind fun a315 =>
          (subO a315 1).bind fun a317 =>
          (idxO s301.2.1 a317).bind fun a325 =>
          (mulO a325 (invF p (el g (g.length - 1)))).bind fun a327 =>
          (remO a327 p).bind fun a329 =>
          (setO s301.1 s301.2.2 a329).bind fun a337 =>
          (sliceO s301.2.1 s301.2.2 ((s301.2.1.length : Nat) : Int)).bind fun a341 =>
          (idxO a337 s301.2.2).bind fun a350 =>
          (negO a350).bind fun a352 =>
          (F_impl_addTimes_win p a341 a352 g).bind fun y354 =>
          (subO s301.2.2 1).bind fun a357 =>
          some (.inl (a337, ((s301.2.1.take (s301.2.2).toNat) ++ y354), a357)))
        (some (.inr (s301.1, s301.2.1)))) (by
        intro q r i hi hq hr hri
        have hrm := gd_el (show 0 < p by omega) hri
        have hm := mul_lt hp (hrm (i + g.length - 1)) ⟨v1, v2⟩
        have hk : 0 ≤ el r (i + g.length - 1) * invF p (el g (g.length - 1)) % p ∧ el r (i + g.length - 1) * invF p (el g (g.length - 1)) % p < p := ⟨Int.emod_nonneg _ (by omega), Int.emod_lt_of_pos _ (by omega)⟩
        generalize ek : el r (i + g.length - 1) * invF p (el g (g.length - 1)) % p = k at hk
        obtain ⟨r', b1, b2, b3, b4⟩ := addT_ (v := r.drop i) (w := g) (b := 0 - k) hp (by omega) (fun x hx => hri x (List.mem_of_mem_drop hx)) hg.1 (by rw [List.length_drop]; omega)
        rw [List.length_drop] at b2
        have hti : (r.take i).length = i := by rw [List.length_take]; omega
        have edr : ∀ t, el (r.drop i) t = el r (i + t) := fun t => by
          unfold el; rw [List.getD_eq_getElem?_getD, List.getD_eq_getElem?_getD, List.getElem?_drop]
        refine ⟨r.take i ++ r', ?_, by rw [List.length_append, hti, b2]; omega, inP_app (fun x hx => hri x (List.mem_of_mem_take hx)) b3, fun t => ?_⟩
        · refine stp (cTW (dT (by dsimp only; omega)) (bnd (addO_of (by dsimp only; omega) (by dsimp only; omega)) (bnd (subO_of (by dsimp only; omega) (by dsimp only; omega)) ?_)))
          dsimp only
          rw [show (i : Int) + ((g.length : Nat) : Int) - 1 = ((i + g.length - 1 : Nat) : Int) by omega]
          have es : sliceO r (i : Int) ((r.length : Nat) : Int) = some (r.drop i) := by
            unfold sliceO
            rw [if_pos ⟨by omega, by omega, by omega⟩, Int.toNat_natCast, Int.toNat_natCast, List.take_of_length_le (by rw [List.length_drop]; omega)]
          refine bnd (idx_el (by omega)) (bnd (mulO_of (by omega) (by omega)) (bnd (a := k) ?_ (bnd (setO_of _ (by omega)) (bnd es (bnd (a := k) ?_ (bnd (a := 0 - k) (cI_of ⟨by omega, by omega⟩) (bnd b1 (bnd (subO_of (by omega) (by omega)) ?_))))))))
          · rw [remO_of (by omega), Int.tmod_eq_emod_of_nonneg hm.1, ek]
          · rw [idx_el (by rw [List.length_set]; omega), el_setN (by omega), if_pos rfl]
          · rw [Int.toNat_natCast]
        · by_cases ht : t < i
          · rw [el_app_lt (by omega), el_take ht, if_neg (by omega)]
          · rw [el_app_ge (by omega), hti, b4, edr, show i + (t - i) = t by omega]
            by_cases hin : t < i + g.length
            · rw [if_pos ⟨by omega, hin⟩]
              congr 1
              rw [Int.sub_mul, Int.zero_mul, Int.zero_sub, Int.sub_eq_add_neg]
            · rw [if_neg (by omega), el_out (r := g) (by omega), Int.mul_zero, Int.add_zero, emod_sm (hrm t)]) (fun q r => rfl)
    refine ⟨trimL q, trimL r, ?_, h4⟩
    refine bnd (clone_ (by omega)) (stp (cFW (dF (by omega)) (bnd (subO_of (by omega) (by omega)) (bnd (addO_of (by omega) (by omega)) ?_))))
    rw [show ((f.length : Nat) : Int) - ((g.length : Nat) : Int) + 1 = (L : Int) by omega]
    refine bnd (zeros_ (by omega)) (bnd (subO_of (by omega) (by omega)) (bnd hidx (bnd v0 ?_)))
    refine bnd (a := (q, r)) (bnd (a := (L : Int) - 1) ?_ h1) (bnd (trimmed_ (by dsimp only; omega)) (bnd (trimmed_ (by dsimp only; omega)) rfl))
    rw [List.length_replicate]
    exact subO_of (by omega) (by omega)
/-- both programs divide -/
theorem poDiv_ {K : Nat} [NeZero K] {p : Int} (H : HomP K p) (hf : fdB p = true) {f g : List Int} (hF : gd p f) (hg : gd p g) (hl : 0 < g.length) (hlf : f.length ≤ 1000) (hlg : g.length ≤ 1000) :
    ∃ q r, F_spec_poDiv p f g = some (q, r) ∧ F_impl_polyDivide p f g = some (q, r) ∧ DivF H f g q r := by
  obtain ⟨q, r, h1, h2⟩ := poDivS H hf hF hg hl hlf hlg
  obtain ⟨q', r', h3, h4⟩ := poDivI H hf hF hg hl hlf hlg
  obtain ⟨rfl, rfl⟩ := h2.uniq H hf hg h4
  exact ⟨q, r, h1, h3, h2⟩

/-! ### common divisors -/
def GcdBody (p : Int) (D : Int → List Int → List Int → Option (List Int × List Int)) (b : List Int × List Int → Option ((List Int × List Int) ⊕ List Int)) : Prop :=
  (∀ f, b (f, []) = some (.inr f)) ∧ ∀ f g q r, 0 < g.length → g.length ≤ 1000 → D p f g = some (q, r) → b (f, g) = some (.inl (g, r))
theorem gcd_loop {K : Nat} [NeZero K] {p : Int} (H : HomP K p) (hf : fdB p = true) : ∀ (n : Nat) (f g : List Int), g.length ≤ n → gd p f → gd p g → (0 < f.length ∨ 0 < g.length) → f.length ≤ 1000 → g.length ≤ 1000 →
    ∃ E, (∀ b, GcdBody p F_spec_poDiv b → whileO b (f, g) = some E) ∧ (∀ b, GcdBody p F_impl_polyDivide b → whileO b (f, g) = some E) ∧ GcdF H (cf H f) (cf H g) E ∧ E.length ≤ 1000
  | n, f, [], _, hF, _, hp, hlf, _ => by
    have hp : 0 < f.length := by rcases hp with h | h; exact h; exact absurd h (by simp)
    exact ⟨f, fun b hb => whileO_end (hb.1 f), fun b hb => whileO_end (hb.1 f), GcdF.start H hF hp, hlf⟩
  | 0, f, x :: g, hn, _, _, _, _, _ => absurd hn (by simp)
  | n + 1, f, x :: g, hn, hF, hG, _, hlf, hlg => by
    obtain ⟨q, r, h1, h2, h3⟩ := poDiv_ H hf hF hG (by simp) hlf hlg
    have hl := h3.l
    obtain ⟨E, e1, e2, e3, e4⟩ := gcd_loop H hf n (x :: g) r (by omega) hG h3.gr (.inl (by simp)) hlg (by omega)
    exact ⟨E, fun b hb => by rw [whileO_step (hb.2 f (x :: g) q r (by simp) hlg h1)]; exact e1 b hb, fun b hb => by rw [whileO_step (hb.2 f (x :: g) q r (by simp) hlg h2)]; exact e2 b hb, e3.step H h3, e4⟩
/-- both programs' greatest common divisor -/
theorem poGcd_ {K : Nat} [NeZero K] {p : Int} (H : HomP K p) (hf : fdB p = true) {f g : List Int} (hF : gd p f) (hg : gd p g) (hl : 0 < f.length ∨ 0 < g.length) (hlf : f.length ≤ 1000) (hlg : g.length ≤ 1000) :
    ∃ d E, F_spec_poGcd p f g = some d ∧ F_impl_polyGcd p f g = some d ∧ GcdF H (cf H f) (cf H g) E ∧ gd p d ∧ 0 < d.length ∧ d.length ≤ 1000 ∧ d.length = E.length ∧ el d (d.length - 1) = 1 ∧ ∃ c c' : Fin K, c * c' = 1 ∧ cf H d = cst c * cf H E := by
  have hp := fdB_rng hf
  obtain ⟨E, h1, h2, h3, h4⟩ := gcd_loop H hf g.length f g (Nat.le_refl _) hF hg hl hlf hlg
  have hpos := h3.pos
  have hld : 0 < el E (E.length - 1) ∧ el E (E.length - 1) < p := by
    have h1 := gd_el (show 0 < p by omega) h3.gd.1 (E.length - 1)
    rcases h3.gd.2 with h0 | h0
    · omega
    · exact ⟨by omega, h1.2⟩
  obtain ⟨v0, v3, v1, v2⟩ := inverse_ hf hld
  have vp : 0 < invF p (el E (E.length - 1)) := by
    refine Decidable.byContradiction fun hn => ?_
    rw [show invF p (el E (E.length - 1)) = 0 by omega, Int.mul_zero, Int.zero_emod] at v3
    cases v3
  have hidx : idxO E (((E.length : Nat) : Int) - 1) = some (el E (E.length - 1)) := by
    rw [show ((E.length : Nat) : Int) - 1 = ((E.length - 1 : Nat) : Int) by omega]; exact idx_el (by omega)
  have hlen := mulL_len (k := invF p (el E (E.length - 1))) hf ⟨vp, v2⟩ h3.gd
  refine ⟨mulL p (invF p (el E (E.length - 1))) E, E, ?_, ?_, h3, mulL_gd (by omega) E, by omega, by omega, hlen, ?_, H.φ (invF p (el E (E.length - 1))), H.φ (el E (E.length - 1)), ?_, cf_mulL H _ E⟩
  · refine bnd (h1 _ ⟨fun f => rfl, fun f g q r hg hgl hd => ?_⟩) (bnd (bnd (subO_of (by omega) (by omega)) (bnd hidx (bnd (fdInv_ hf hld) (bnd (poTimes_ hp ⟨v1, v2⟩ h3.gd.1 h4) rfl)))) rfl)
    exact stp (cTW (dT (by dsimp only; omega)) (bnd hd rfl))
  · refine bnd (h2 _ ⟨fun f => rfl, fun f g q r hg hgl hd => ?_⟩) (stp (cFW (dF (by omega)) (bnd (bnd (subO_of (by omega) (by omega)) (bnd hidx (bnd v0 (bnd (scaled_ hp ⟨v1, v2⟩ h3.gd.1 h4) rfl)))) rfl)))
    exact stp (cTW (dT (by dsimp only; omega)) (bnd hd rfl))
  · rw [hlen, mulL_el, Int.mul_comm]; exact v3
  · rw [km_comm]; exact H.unit hf hld

end Go.Proofs.YtgkomaglodpefaaDoor
namespace Go.Proofs.YtgkomaglodpefaaDoor
set_option linter.unusedVariables false

/-- a fraction that is in lowest terms: making it once more yields the same -/
structure LowF (p : Int) (nl dl : Nat) (x : List Int × List Int) : Prop where
  n : gd p x.1
  d : gd p x.2
  nl : x.1.length ≤ nl
  dl : x.2.length ≤ dl
  pos : 0 < x.2.length
  again : F_impl_lowest p x.1 x.2 = some x
theorem fr_core {K : Nat} [NeZero K] {p : Int} (H : HomP K p) (hf : fdB p = true) {f g : List Int} (hF : gd p f) (hg : gd p g) (hl : 0 < g.length) (hlf : f.length ≤ 1000) (hlg : g.length ≤ 1000) :
    ∃ (n m d E : List Int) (c c' : Fin K) (k : Int), F_spec_frMake p f g = some (mulL p k n, mulL p k m) ∧ (0 < f.length → F_impl_lowest p f g = some (mulL p k n, mulL p k m)) ∧ GcdF H (cf H f) (cf H g) E ∧ c * c' = 1 ∧ cf H d = cst c * cf H E ∧ d.length = E.length ∧ cf H f = cf H n * cf H d ∧ cf H g = cf H m * cf H d ∧ gd p n ∧ gd p m ∧ n.length ≤ f.length ∧ m.length ≤ g.length ∧ 0 < m.length ∧ 0 < k ∧ k < p ∧ el m (m.length - 1) * k % p = 1 ∧ gd p d ∧ 0 < d.length := by
  have hp := fdB_rng hf
  obtain ⟨d, E, g1, g2, g3, g4, g5, g6, g7, g8, c, c', g9, g10⟩ := poGcd_ H hf hF hg (.inr hl) hlf hlg
  obtain ⟨n, r1, a1, a2, a3⟩ := poDiv_ H hf hF g4 g5 hlf g6
  obtain ⟨m, r2, b1, b2, b3⟩ := poDiv_ H hf hg g4 g5 hlg g6
  obtain ⟨u, fu, eu⟩ := g3.fst
  obtain ⟨v, fv, ev⟩ := g3.snd
  have cc : cst c * cst c' = (1 : Ser K) := by rw [cst_cst, g9, cst_one]
  have fc : fin (cst c' : Ser K) := ⟨1, cst_dg _⟩
  have eE : cf H E = cst c' * cf H d := by rw [g10, ← ser_assoc, ser_comm (cst c'), cc, ser_comm, ser_mul1]
  have en := a3.exact H hf g4 (u := u * cst c') (fu.mul fc) (by rw [eu, eE]; exact rg [u, cst c', cf H d])
  have em := b3.exact H hf g4 (u := v * cst c') (fv.mul fc) (by rw [ev, eE]; exact rg [v, cst c', cf H d])
  have hm : 0 < m.length := by
    refine Decidable.byContradiction fun hn => ?_
    have : m = [] := List.eq_nil_of_length_eq_zero (by omega)
    rw [this, cf_nil] at em
    have h0 : cf H g = 0 := em.trans (ser_mul0 _)
    have := cf_zero H (by omega) hg h0
    rw [this] at hl
    exact absurd hl (by simp)
  have hld : 0 < el m (m.length - 1) ∧ el m (m.length - 1) < p := by
    have h1 := gd_el (show 0 < p by omega) b3.gq.1 (m.length - 1)
    rcases b3.gq.2 with h0 | h0
    · omega
    · exact ⟨by omega, h1.2⟩
  obtain ⟨v0, v3, v1, v2⟩ := inverse_ hf hld
  have vp : 0 < invF p (el m (m.length - 1)) := by
    refine Decidable.byContradiction fun hn => ?_
    rw [show invF p (el m (m.length - 1)) = 0 by omega, Int.mul_zero, Int.zero_emod] at v3
    cases v3
  have hidx : idxO m (((m.length : Nat) : Int) - 1) = some (el m (m.length - 1)) := by
    rw [show ((m.length : Nat) : Int) - 1 = ((m.length - 1 : Nat) : Int) by omega]; exact idx_el (by omega)
  have l1 := a3.ql
  have l2 := b3.ql
  have hN : (maxN : Nat) = 1099511627776 := rfl
  have q1 := mulL_le p (invF p (el m (m.length - 1))) n
  have q2 := mulL_le p (invF p (el m (m.length - 1))) m
  refine ⟨n, m, d, E, c, c', invF p (el m (m.length - 1)), ?_, fun hpos => ?_, g3, g9, g10, g7, en, em, a3.gq, b3.gq, l1, l2, hm, vp, v2, v3, g4, g5⟩
  · have p1 := poTimes_ hp ⟨v1, v2⟩ a3.gq.1 (f := n) (by omega)
    have p2 := poTimes_ hp ⟨v1, v2⟩ b3.gq.1 (f := m) (by omega)
    have o1 := own_ (l := mulL p (invF p (el m (m.length - 1))) n) (by omega)
    have o2 := own_ (l := mulL p (invF p (el m (m.length - 1))) m) (by omega)
    exact bnd g1 (bnd a1 (bnd b1 (bnd (subO_of (by dsimp only; omega) (by dsimp only; omega)) (bnd hidx (bnd (fdInv_ hf hld) (bnd p1 (bnd o1 (bnd p2 (bnd o2 rfl)))))))))
  · have p1 := scaled_ hp ⟨v1, v2⟩ a3.gq.1 (f := n) (by omega)
    have p2 := scaled_ hp ⟨v1, v2⟩ b3.gq.1 (f := m) (by omega)
    exact stp (cFW (dF (by omega)) (bnd g2 (bnd a2 (bnd b2 (bnd (subO_of (by dsimp only; omega) (by dsimp only; omega)) (bnd hidx (bnd v0 (bnd p1 (bnd p2 rfl)))))))))
theorem one_gd {p : Int} (hp : 2 ≤ p) : gd p [1] := ⟨fun x hx => by rw [List.mem_singleton] at hx; omega, .inr (by decide)⟩
theorem cf_one {K : Nat} [NeZero K] {p : Int} (H : HomP K p) : cf H [1] = 1 := ser_ext fun i => by
  rw [ser_one]
  show H.φ (el [1] i) = _
  cases i with
  | zero => rw [if_pos rfl]; exact H.one
  | succ i => rw [if_neg (by omega), el_out (by simp), H.zero]
/-- both programs make the same fraction of lowest terms -/
theorem frMake_ {p : Int} (hf : fdB p = true) {f g : List Int} (hF : gd p f) (hg : gd p g) (hl : 0 < g.length) (hlf : f.length ≤ 1000) (hlg : g.length ≤ 1000) :
    ∃ x, F_spec_frMake p f g = some x ∧ F_impl_lowest p f g = some x ∧ LowF p f.length g.length x := by
  have hp := fdB_rng hf
  obtain ⟨K, _, ⟨H⟩⟩ := homP_ex (p := p) (by omega)
  obtain ⟨n, m, d, E, c, c', k, h1, h2, h3, h4, h5, h6, h7, h8, h9, h10, h11, h12, h13, h14, h15, h16, h17, h18⟩ := fr_core H hf hF hg hl hlf hlg
  have gn := mulL_gd (k := k) (show 0 < p by omega) n
  have gm := mulL_gd (k := k) (show 0 < p by omega) m
  have ln := mulL_len hf ⟨h14, h15⟩ h9
  have lm := mulL_len hf ⟨h14, h15⟩ h10
  have em1 : el (mulL p k m) ((mulL p k m).length - 1) = 1 := by rw [lm, mulL_el, Int.mul_comm]; exact h16
  have lE := h3.pos
  have hdu := cf_lead H hf h17 h18
  by_cases hz : f.length = 0
  · have e0 : f = [] := List.eq_nil_of_length_eq_zero hz
    have en : n = [] := List.eq_nil_of_length_eq_zero (by omega)
    -- den is a multiple of the divisor by a constant
    obtain ⟨a, b, fa, fb, ec⟩ := h3.comb
    have ew : (cst c * (b * cf H m)) * cf H E = cf H E := by
      have : cst c * (b * cf H m) * cf H E = b * (cf H m * (cst c * cf H E)) := rg [cst c, b, cf H m, cf H E]
      rw [this, ← h5, ← h8]
      have e1 : cf H E = a * cf H f + b * cf H g := ec
      rw [e0, cf_nil] at e1
      rw [e1]; exact rg [a, b, cf H g]
    have dw : dg (cst c * (b * cf H m)) 1 := by
      refine dg_div (m := E.length - 1) (h := cf H E) (fin.mul ⟨1, cst_dg _⟩ (fb.mul (cf_fin H m))) ((cf_dg H E).mono (by omega)) (cf_lead H hf h3.gd lE) ?_
      rw [ew]; exact (cf_dg H E).mono (by omega)
    have lm1 : m.length = 1 := by
      refine Decidable.byContradiction fun hne => ?_
      have e3 : cst c * (b * cf H m) = (cst c * b) * cf H m := rg [cst c, b, cf H m]
      rw [e3] at dw
      have d0 := dg_div (m := m.length - 1) (t := 0) (h := cf H m) (fin.mul ⟨1, cst_dg _⟩ fb) ((cf_dg H m).mono (by omega)) (cf_lead H hf h10 h13) (dw.mono (by omega))
      rw [e3, dg_zero d0] at ew
      have e0 : cf H E = 0 := ew.symm.trans (rg [cf H m, cf H E])
      have := cf_zero H (by omega) h3.gd e0
      rw [this] at lE
      exact absurd lE (by simp)
    have e4 : mulL p k m = [1] := gd_ext gm (one_gd (by omega)) fun i => by
      cases i with
      | zero => rw [lm, lm1] at em1; exact em1
      | succ i => rw [el_out (by omega), el_out (by simp)]
    have e5 : mulL p k n = [] := List.eq_nil_of_length_eq_zero (by omega)
    rw [e4, e5] at h1
    refine ⟨([], [1]), h1, stp (cTW (dT (by omega)) rfl), ⟨⟨(fun _ h => nomatch h), .inl rfl⟩, one_gd (by omega), by simp, by simp only [List.length_singleton]; omega, by simp, stp (cTW (dT (by simp)) rfl)⟩⟩
  · have hn0 : 0 < n.length := by
      refine Decidable.byContradiction fun hn => ?_
      have : n = [] := List.eq_nil_of_length_eq_zero (by omega)
      rw [this, cf_nil] at h7
      have h0 : cf H f = 0 := h7.trans (ser_mul0 _)
      have := cf_zero H (by omega) hF h0
      rw [this] at hz
      exact hz rfl
    refine ⟨_, h1, h2 (by omega), ⟨gn, gm, by dsimp only; omega, by dsimp only; omega, by dsimp only; omega, ?_⟩⟩
    obtain ⟨n2, m2, d2, E2, c2, c2', k2, i1, i2, i3, i4, i5, i6, i7, i8, i9, i10, i11, i12, i13, i14, i15, i16, i17, i18⟩ := fr_core H hf gn gm (by omega) (by omega) (by omega)
    have hE2 : E2.length = 1 := by
      have hk : H.φ k * H.φ (invF p k) = 1 := H.unit hf ⟨h14, h15⟩
      exact h3.low H hf h4 hk h5 h7 h8 (cf_mulL H k n) (cf_mulL H k m) i3
    -- the divisor is constant
    have hd2 : d2.length = 1 := by omega
    have ed2 : cf H d2 = cst (cf H d2 0) := cst_of ((cf_dg H d2).mono (by omega))
    obtain ⟨y, hy⟩ := cf_lead H hf i17 i18
    rw [hd2] at hy
    have hy : cf H d2 0 * y = 1 := hy
    have hy2 : cst (cf H d2 0) * cst y = (1 : Ser K) := by rw [cst_cst, hy, cst_one]
    -- m2 k2 is monic and a multiple of m by a constant: so it is m
    have l3 : m2.length = m.length := by
      refine Nat.le_antisymm (by omega) ?_
      have := gd_short H hf gm (n := m2.length) (by
        rw [i8, ed2, ser_comm]
        intro i hi
        rw [cst_mul, cf_dg H m2 i hi]; grind) (fun _ => H.ne (by omega))
      omega
    have s1 : H.φ (el m2 (m2.length - 1)) * cf H d2 0 = 1 := by
      have e1 : cf H (mulL p k m) (m2.length - 1) = 1 := by
        show H.φ _ = 1
        rw [l3, ← lm, em1, H.one]
      rw [i8, ed2, ser_comm, cst_mul] at e1
      rw [km_comm]; exact e1
    have s2 : H.φ (el m2 (m2.length - 1)) * H.φ k2 = 1 := by
      rw [← H.mul, ← H.mod, i16, H.one]
    have s3 : H.φ k2 = cf H d2 0 := by
      have : H.φ k2 = H.φ k2 * (H.φ (el m2 (m2.length - 1)) * cf H d2 0) := by rw [s1]; grind
      rw [this]
      have : H.φ k2 * (H.φ (el m2 (m2.length - 1)) * cf H d2 0) = (H.φ (el m2 (m2.length - 1)) * H.φ k2) * cf H d2 0 := by grind
      rw [this, s2]; grind
    have t1 : mulL p k2 n2 = mulL p k n := cf_inj H (by omega) (mulL_gd (by omega) _) gn (by rw [cf_mulL, s3, i7, ed2]; exact ser_comm _ _)
    have t2 : mulL p k2 m2 = mulL p k m := cf_inj H (by omega) (mulL_gd (by omega) _) gm (by rw [cf_mulL, s3, i8, ed2]; exact ser_comm _ _)
    have := i2 (by omega)
    rw [t1, t2] at this
    exact this

end Go.Proofs.YtgkomaglodpefaaDoor
