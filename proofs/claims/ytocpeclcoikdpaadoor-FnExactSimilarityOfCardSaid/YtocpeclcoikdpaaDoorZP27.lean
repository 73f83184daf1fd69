/-
  Plain laws: sums, combinations of rows by their elements, coordinates in a reduced list. No program in sight. No condition.
-/
import Derived.Test.YtocpeclcoikdpaaDoorZP16
namespace Go.Proofs.YtocpeclcoikdpaaDoor

/-! ### sums -/
def sg : Nat → (Nat → Int) → Int
  | 0, _ => 0
  | k + 1, f => sg k f + f k
theorem sg_congr {f g : Nat → Int} : ∀ {k : Nat}, (∀ i, i < k → f i = g i) → sg k f = sg k g
  | 0, _ => rfl
  | k + 1, h => by
    show sg k f + f k = sg k g + g k
    rw [sg_congr (fun i hi => h i (by omega)), h k (by omega)]
theorem sg_zero {f : Nat → Int} {k : Nat} (h : ∀ i, i < k → f i = 0) : sg k f = 0 := by
  induction k with
  | zero => rfl
  | succ k ih =>
    show sg k f + f k = 0
    rw [ih (fun i hi => h i (by omega)), h k (by omega)]; rfl
theorem sg_one {f : Nat → Int} {k i0 : Nat} (h0 : i0 < k) (h : ∀ i, i < k → i ≠ i0 → f i = 0) : sg k f = f i0 := by
  induction k with
  | zero => omega
  | succ k ih =>
    show sg k f + f k = f i0
    by_cases hk : k = i0
    · subst hk
      rw [sg_zero (fun i hi => h i (by omega) (by omega)), Int.zero_add]
    · rw [ih (by omega) (fun i hi hn => h i (by omega) hn), h k (by omega) hk, Int.add_zero]
theorem sg_shift (f : Nat → Int) : ∀ k, sg (k + 1) f = f 0 + sg k (fun i => f (i + 1))
  | 0 => by show 0 + f 0 = f 0 + 0; omega
  | k + 1 => by
    show sg (k + 1) f + f (k + 1) = f 0 + (sg k (fun i => f (i + 1)) + f (k + 1))
    rw [sg_shift f k]; omega
theorem sg_add (f g : Nat → Int) : ∀ k, sg k (fun i => f i + g i) = sg k f + sg k g
  | 0 => rfl
  | k + 1 => by
    show sg k (fun i => f i + g i) + (f k + g k) = (sg k f + f k) + (sg k g + g k)
    rw [sg_add f g k]; omega
theorem sg_mul (c : Int) (f : Nat → Int) : ∀ k, sg k (fun i => c * f i) = c * sg k f
  | 0 => by show (0 : Int) = c * 0; rw [Int.mul_zero]
  | k + 1 => by
    show sg k (fun i => c * f i) + c * f k = c * (sg k f + f k)
    rw [sg_mul c f k, Int.mul_add]
theorem sg_comm (f : Nat → Nat → Int) (n : Nat) : ∀ k, sg k (fun i => sg n (fun j => f i j)) = sg n (fun j => sg k (fun i => f i j))
  | 0 => by
    show (0 : Int) = _
    rw [sg_zero (k := n) (f := fun j => sg 0 fun i => f i j) (fun _ _ => rfl)]
  | k + 1 => by
    show sg k (fun i => sg n (fun j => f i j)) + sg n (fun j => f k j) = sg n (fun j => sg k (fun i => f i j) + f k j)
    rw [sg_comm f n k, sg_add]
theorem sg_mod {p : Int} {f g : Nat → Int} : ∀ {k : Nat}, (∀ i, i < k → f i % p = g i % p) → sg k f % p = sg k g % p
  | 0, _ => rfl
  | k + 1, h => by
    show (sg k f + f k) % p = (sg k g + g k) % p
    rw [Int.add_emod, sg_mod (fun i hi => h i (by omega)), h k (by omega), ← Int.add_emod]
theorem add_mod1 (p a b : Int) : (a % p + b) % p = (a + b) % p := by rw [Int.add_emod, Int.emod_emod_of_dvd _ (Int.dvd_refl p), ← Int.add_emod]
theorem mod_mod (p a : Int) : a % p % p = a % p := Int.emod_emod_of_dvd _ (Int.dvd_refl p)
theorem mul_mod1 (p a b : Int) : (a % p * b) % p = (a * b) % p := by rw [Int.mul_emod, mod_mod, ← Int.mul_emod]
theorem mul_mod2 (p a b : Int) : (a * (b % p)) % p = (a * b) % p := by rw [Int.mul_emod, mod_mod, ← Int.mul_emod]

/-! ### combinations -/
theorem el_zipWith {g : Int → Int → Int} : ∀ {a b : List Int} {j : Nat}, j < a.length → a.length = b.length → el (List.zipWith g a b) j = g (el a j) (el b j)
  | [], _, _, h, _ => by simp at h
  | _ :: _, [], _, _, h => by simp at h
  | x :: a, y :: b, 0, _, _ => by rw [List.zipWith_cons_cons, el_zero, el_zero, el_zero]
  | x :: a, y :: b, j + 1, h, hl => by rw [List.zipWith_cons_cons, el_succ, el_succ, el_succ]; exact el_zipWith (by simpa using h) (by simpa using hl)
theorem el_addR {p c : Int} {acc row : List Int} {j : Nat} (h : j < acc.length) (hl : row.length = acc.length) : el (addR p c acc row) j = (el acc j + c * el row j) % p := by
  unfold addR; exact el_zipWith (by omega) hl
theorem gr_zero (x : List Int) (xs : Rows) : gr (x :: xs) 0 = x := by unfold gr; simp
theorem gr_succ (x : List Int) (xs : Rows) (j : Nat) : gr (x :: xs) (j + 1) = gr xs j := by unfold gr; simp
theorem el_fold2 {p : Int} {n : Nat} (hp : 2 ≤ p) : ∀ (rows : Rows) (cs : List Int) (acc : List Int) (j : Nat), okR p n acc → rowsP p n rows → rows.length ≤ cs.length → j < n →
    el (fold2 (fun acc row c => addR p c acc row) rows cs acc) j = (el acc j + sg rows.length (fun i => el cs i * el (gr rows i) j)) % p
  | [], cs, acc, j, ha, _, _, hj => by
    have : fold2 (fun acc row c => addR p c acc row) [] cs acc = acc := by cases cs <;> rfl
    have hb := ha.2 _ (el_mem (r := acc) (c := j) (by rw [ha.1]; exact hj))
    rw [this]
    show el acc j = (el acc j + 0) % p
    rw [Int.add_zero, emod_sm hb]
  | r :: rows, [], acc, j, _, _, h, _ => by simp at h
  | r :: rows, c :: cs, acc, j, ha, hr, hl, hj => by
    have h1 := hr r (List.mem_cons_self ..)
    have ha2 : okR p n (addR p c acc r) := ⟨by rw [addR_len (by rw [h1.1, ha.1]), ha.1], zip_in hp c r acc⟩
    show el (fold2 _ rows cs (addR p c acc r)) j = _
    rw [el_fold2 hp rows cs _ j ha2 (fun x hx => hr x (List.mem_cons_of_mem _ hx)) (by simpa using hl) hj, el_addR (by rw [ha.1]; exact hj) (by rw [h1.1, ha.1]), add_mod1, List.length_cons, sg_shift, el_zero, gr_zero]
    congr 1
    rw [Int.add_assoc]
    congr 2
theorem el_rep (n j : Nat) : el (List.replicate n 0) j = 0 := by
  unfold el; rw [List.getD_eq_getElem?_getD, List.getElem?_replicate]; split <;> rfl
theorem el_combR {p : Int} {n : Nat} (hp : 2 ≤ p) {rows : Rows} {cs : List Int} {j : Nat} (hr : rowsP p n rows) (hl : rows.length ≤ cs.length) (hj : j < n) :
    el (combR p n rows cs) j = sg rows.length (fun i => el cs i * el (gr rows i) j) % p := by
  unfold combR
  rw [el_fold2 hp rows cs _ j (okR_zero hp n) hr hl hj, el_rep, Int.zero_add]
theorem fold2_ok {p : Int} {n : Nat} (hp : 2 ≤ p) : ∀ (rows : Rows) (cs : List Int) (acc : List Int), okR p n acc → rowsP p n rows → okR p n (fold2 (fun acc row c => addR p c acc row) rows cs acc)
  | [], cs, acc, ha, _ => by cases cs <;> exact ha
  | r :: rows, [], acc, ha, _ => ha
  | r :: rows, c :: cs, acc, ha, hr => by
    have h1 := hr r (List.mem_cons_self ..)
    exact fold2_ok hp rows cs _ ⟨by rw [addR_len (by rw [h1.1, ha.1]), ha.1], zip_in hp c r acc⟩ (fun x hx => hr x (List.mem_cons_of_mem _ hx))
theorem combR_ok {p : Int} {n : Nat} (hp : 2 ≤ p) {rows : Rows} {cs : List Int} (hr : rowsP p n rows) : okR p n (combR p n rows cs) := fold2_ok hp rows cs _ (okR_zero hp n) hr

/-! ### coordinates -/

/-! ### has a vector -/

/-! ### relations -/

/-! ### the first choice -/
end Go.Proofs.YtocpeclcoikdpaaDoor
namespace Go.Proofs.YtocpeclcoikdpaaDoor
set_option linter.unusedVariables false

/-- v is a linear combination of the rows of m, n elements each -/
def inSpan (p : Int) (n : Nat) (m : Rows) (v : List Int) : Prop := ∃ x : Nat → Int, ∀ j, j < n → el v j % p = sg m.length (fun i => x i * el (gr m i) j) % p
def Indep (p : Int) (n : Nat) (m : Rows) : Prop := ∀ x : Nat → Int, (∀ j, j < n → sg m.length (fun i => x i * el (gr m i) j) % p = 0) → ∀ i, i < m.length → x i % p = 0
def subSpan (p : Int) (n : Nat) (a b : Rows) : Prop := ∀ i, i < a.length → inSpan p n b (gr a i)

/-! ### sums -/
theorem sg_mulr (c : Int) (f : Nat → Int) (k : Nat) : sg k (fun i => f i * c) = sg k f * c := by
  rw [sg_congr (g := fun i => c * f i) (fun i _ => Int.mul_comm _ _), sg_mul, Int.mul_comm]
theorem sg_neg (f : Nat → Int) (k : Nat) : sg k (fun i => - f i) = - sg k f := by
  rw [sg_congr (g := fun i => (-1) * f i) (fun i _ => by omega), sg_mul]; omega
theorem sg_sub (f g : Nat → Int) (k : Nat) : sg k (fun i => f i - g i) = sg k f - sg k g := by
  rw [sg_congr (g := fun i => f i + - g i) (fun i _ => Int.sub_eq_add_neg), sg_add, sg_neg]; omega
/-- one summand taken out -/
theorem sg_split {f : Nat → Int} {k r : Nat} (h : r < k) : sg k f = sg k (fun i => if i = r then 0 else f i) + f r := by
  have h1 : sg k (fun i => if i = r then f i else 0) = f r := by
    rw [sg_one h (fun i _ hn => if_neg hn), if_pos rfl]
  rw [← h1, ← sg_add]
  exact sg_congr fun i _ => by by_cases hi : i = r <;> simp [hi]
theorem mod_of_sub {p a b : Int} (h : (a - b) % p = 0) : a % p = b % p := by
  have h2 : a = (a - b) + b := by omega
  rw [h2, Int.add_emod, h, Int.zero_add, mod_mod]
theorem mul_mod_zero {p a b : Int} (h : a % p = 0) : (a * b) % p = 0 := by rw [← mul_mod1, h, Int.zero_mul]; exact Int.zero_emod p
theorem mul_mod_zero2 {p a b : Int} (h : b % p = 0) : (a * b) % p = 0 := by rw [Int.mul_comm]; exact mul_mod_zero h

/-! ### spans -/
theorem inSpan_row {p : Int} {n : Nat} {m : Rows} {i : Nat} (h : i < m.length) : inSpan p n m (gr m i) := by
  refine ⟨fun t => if t = i then 1 else 0, fun j _ => ?_⟩
  rw [sg_one h (fun t _ hn => by show (if t = i then (1 : Int) else 0) * _ = 0; rw [if_neg hn, Int.zero_mul])]
  show _ = (if i = i then (1 : Int) else 0) * _ % p
  rw [if_pos rfl, Int.one_mul]
/-- combinations of combinations -/
theorem inSpan_trans {p : Int} {n : Nat} {a b : Rows} {v : List Int} (hab : subSpan p n a b) (hv : inSpan p n a v) : inSpan p n b v := by
  obtain ⟨x, hx⟩ := hv
  have hY : ∃ Y : Nat → Nat → Int, ∀ i, i < a.length → ∀ j, j < n → el (gr a i) j % p = sg b.length (fun t => Y i t * el (gr b t) j) % p := by
    refine ⟨fun i => if h : i < a.length then Classical.choose (hab i h) else fun _ => 0, fun i hi => ?_⟩
    simp only [dif_pos hi]
    exact Classical.choose_spec (hab i hi)
  obtain ⟨Y, hY⟩ := hY
  refine ⟨fun t => sg a.length (fun i => x i * Y i t), fun j hj => ?_⟩
  rw [hx j hj]
  have e : sg b.length (fun t => sg a.length (fun i => x i * Y i t) * el (gr b t) j) = sg a.length (fun i => x i * sg b.length (fun t => Y i t * el (gr b t) j)) := by
    rw [sg_congr (g := fun t => sg a.length (fun i => x i * Y i t * el (gr b t) j)) (fun t _ => (sg_mulr _ _ _).symm), sg_comm]
    refine sg_congr fun i _ => ?_
    rw [← sg_mul]
    exact sg_congr fun t _ => Int.mul_assoc _ _ _
  rw [e]
  refine sg_mod fun i hi => ?_
  rw [← mul_mod2, hY i hi j hj, mul_mod2]
theorem subSpan_refl (p : Int) (n : Nat) (a : Rows) : subSpan p n a a := fun i hi => inSpan_row hi
theorem subSpan_trans {p : Int} {n : Nat} {a b c : Rows} (h : subSpan p n a b) (k : subSpan p n b c) : subSpan p n a c := fun i hi => inSpan_trans k (h i hi)
theorem inSpan_comb2 {p : Int} {n : Nat} {m : Rows} {u v w : List Int} (c d : Int) (hu : inSpan p n m u) (hv : inSpan p n m v) (h : ∀ j, j < n → el w j % p = (c * el u j + d * el v j) % p) : inSpan p n m w := by
  obtain ⟨x, hx⟩ := hu
  obtain ⟨y, hy⟩ := hv
  refine ⟨fun i => c * x i + d * y i, fun j hj => ?_⟩
  rw [h j hj, Int.add_emod, ← mul_mod2, ← mul_mod2 p d, hx j hj, hy j hj, mul_mod2, mul_mod2, ← Int.add_emod, ← sg_mul, ← sg_mul, ← sg_add]
  congr 1
  exact sg_congr fun i _ => by rw [Int.add_mul, Int.mul_assoc, Int.mul_assoc]
theorem inSpan_zero {p : Int} {n : Nat} {m : Rows} {v : List Int} (h : ∀ j, j < n → el v j % p = 0) : inSpan p n m v :=
  ⟨fun _ => 0, fun j hj => by rw [h j hj, sg_zero (fun i _ => Int.zero_mul _)]; exact (Int.zero_emod p).symm⟩

/-! ### a step of the reduction -/
theorem swap_span {p : Int} {n : Nat} {m : Rows} {r k : Nat} (hr : r < m.length) (hk : k < m.length) : subSpan p n (swapM m r k) m ∧ subSpan p n m (swapM m r k) := by
  have hl := swapM_len m r k
  constructor
  · intro i hi
    rw [hl] at hi
    rw [swapM_gr2 hr hk]
    split
    · exact inSpan_row hr
    · split
      · exact inSpan_row hk
      · exact inSpan_row hi
  · intro i hi
    by_cases h1 : i = k
    · subst h1
      have := inSpan_row (p := p) (n := n) (m := swapM m r i) (i := r) (by rw [hl]; exact hr)
      rw [swapM_gr2 hr hk] at this
      by_cases h2 : r = i
      · subst h2; rw [if_pos rfl] at this; exact this
      · rw [if_neg h2, if_pos rfl] at this; exact this
    · by_cases h2 : i = r
      · subst h2
        have := inSpan_row (p := p) (n := n) (m := swapM m i k) (i := k) (by rw [hl]; exact hk)
        rw [swapM_gr2 hr hk, if_pos rfl] at this; exact this
      · have := inSpan_row (p := p) (n := n) (m := swapM m r k) (i := i) (by rw [hl]; exact hi)
        rw [swapM_gr2 hr hk, if_neg h1, if_neg h2] at this; exact this
/-- what a step makes of rows that go along, by their elements -/
theorem stepA_el {p : Int} {c r k N q : Nat} {m a : Rows} (hf : fdB p = true) (h : okM p N m) (ha : okM p q a) (hl : a.length = m.length) (hr : r < m.length) (hk : k < m.length) (hc : c < N) (hne : el (gr m k) c ≠ 0) :
    let iv := invF p (el (gr m k) c)
    (el (gr m k) c * iv) % p = 1 ∧ (∀ j, j < q → el (gr (stepA p c m a r k) r) j = (el (gr a k) j * iv) % p) ∧
    ∀ i, i < m.length → i ≠ r → ∀ j, j < q → el (gr (stepA p c m a r k) i) j = (el (gr (swapM a r k) i) j - el (gr (swapM m r k) i) c * el (gr (stepA p c m a r k) r) j) % p := by
  intro iv
  have hp := fdB_rng hf
  have hel := okM_el h hk hc
  obtain ⟨_, i1, i2, i3⟩ := inverse_ hf (x := el (gr m k) c) ⟨by omega, hel.2⟩
  have hra : r < a.length := by omega
  have hka : k < a.length := by omega
  have hsr : gr (swapM m r k) r = gr m k := swapM_gr hr hk
  have hsra : gr (swapM a r k) r = gr a k := swapM_gr hra hka
  have hso : okM p q (swapM a r k) := swapM_ok ha hra hka
  have hpl : (pivA p c m a r k).length = a.length := pivA_len p c m a r k
  have hpr : gr (pivA p c m a r k) r = mapR (scaleG p iv) (gr a k) := by
    rw [pivA_gr hra, if_pos rfl, hsr, hsra]
  have hrow := okM_gr ha hka
  have hpe : ∀ j, j < q → el (gr (pivA p c m a r k) r) j = (el (gr a k) j * iv) % p := fun j hj => by
    rw [hpr, el_mapR (by omega)]; rfl
  have hst : ∀ i, i < m.length → gr (stepA p c m a r k) i = elimG p c r (pivA p c m m r k) (pivA p c m a r k) i (gr (pivA p c m a r k) i) := fun i hi => elimA_gr (by rw [hpl]; omega)
  have hstr : ∀ j, j < q → el (gr (stepA p c m a r k) r) j = (el (gr a k) j * iv) % p := fun j hj => by
    rw [hst r hr]
    unfold elimG
    rw [if_pos (.inl rfl)]
    exact hpe j hj
  refine ⟨i1, hstr, fun i hi hir j hj => ?_⟩
  rw [hstr j hj, hst i hi]
  have hpi : gr (pivA p c m a r k) i = gr (swapM a r k) i := by rw [pivA_gr hra, if_neg hir]
  have hpm : gr (pivA p c m m r k) i = gr (swapM m r k) i := by rw [pivA_gr hr, if_neg hir]
  have hsi := okM_gr hso (i := i) (by rw [swapM_len]; omega)
  have hb := okM_el hso (i := i) (by rw [swapM_len]; omega) hj
  unfold elimG
  by_cases h0 : el (gr (pivA p c m m r k) i) c = 0
  · rw [if_pos (.inr h0), hpi]
    rw [hpm] at h0
    rw [h0, Int.zero_mul, Int.sub_zero, emod_sm hb]
  · rw [if_neg (by intro h1; rcases h1 with h1 | h1; exact hir h1; exact h0 h1)]
    rw [el_mapR (by rw [hpi]; omega)]
    unfold subG
    rw [hpi, hpe j hj, hpm]
theorem step_span {p : Int} {c r k N q : Nat} {m a : Rows} (hf : fdB p = true) (h : okM p N m) (ha : okM p q a) (hl : a.length = m.length) (hr : r < m.length) (hk : k < m.length) (hc : c < N) (hne : el (gr m k) c ≠ 0) :
    subSpan p q (stepA p c m a r k) a ∧ subSpan p q a (stepA p c m a r k) := by
  obtain ⟨e1, e2, e3⟩ := stepA_el hf h ha hl hr hk hc hne
  have hsl : (stepA p c m a r k).length = m.length := by rw [stepA_len, hl]
  have hra : r < a.length := by omega
  have hka : k < a.length := by omega
  obtain ⟨w1, w2⟩ := swap_span (p := p) (n := q) (m := a) hra hka
  have hnr : inSpan p q a (gr (stepA p c m a r k) r) := by
    refine inSpan_comb2 (invF p (el (gr m k) c)) 0 (inSpan_row hka) (inSpan_row hka) fun j hj => ?_
    rw [e2 j hj, mod_mod, Int.zero_mul, Int.add_zero, Int.mul_comm]
  constructor
  · intro i hi
    rw [hsl] at hi
    by_cases hir : i = r
    · rw [hir]; exact hnr
    · refine inSpan_comb2 1 (- el (gr (swapM m r k) i) c) (w1 i (by rw [swapM_len]; omega)) hnr fun j hj => ?_
      rw [e3 i hi hir j hj, mod_mod, Int.one_mul, Int.neg_mul, Int.sub_eq_add_neg]
  · refine subSpan_trans w2 ?_
    have hrr : inSpan p q (stepA p c m a r k) (gr (stepA p c m a r k) r) := inSpan_row (by rw [hsl]; exact hr)
    intro i hi
    rw [swapM_len] at hi
    by_cases hir : i = r
    · rw [hir, swapM_gr hra hka]
      refine inSpan_comb2 (el (gr m k) c) 0 hrr hrr fun j hj => ?_
      rw [e2 j hj, Int.zero_mul, Int.add_zero, mul_mod2, ← Int.mul_assoc, Int.mul_comm (el (gr m k) c), Int.mul_assoc, ← mul_mod2, e1, Int.mul_one]
    · refine inSpan_comb2 1 (el (gr (swapM m r k) i) c) (inSpan_row (i := i) (by rw [hsl]; omega)) hrr fun j hj => ?_
      rw [e3 i (by omega) hir j hj, Int.one_mul, add_mod1]
      congr 1; omega
/-- the reduction keeps what is spanned, also by the rows that go along -/
theorem loop_span {p : Int} {N q : Nat} (hf : fdB p = true) : ∀ (d c : Nat) (m a : Rows) (r : Nat), c + d ≤ N → okM p N m → okM p q a → a.length = m.length → r ≤ m.length → subSpan p q (redLoop p d c m a r).2.1 a ∧ subSpan p q a (redLoop p d c m a r).2.1
  | 0, _, _, a, _, _, _, _, _, _ => ⟨subSpan_refl p q a, subSpan_refl p q a⟩
  | d + 1, c, m, a, r, hN, h, ha, hl, hr => by
    unfold redLoop
    by_cases hrl : r < m.length
    · rw [if_pos hrl]
      obtain ⟨s1, s2, s3⟩ := scanN_spec m c (m.length - r) r (by omega)
      split
      · exact loop_span hf d (c + 1) m a r (by omega) h ha hl hr
      · rename_i hk
        have hkl : scanN m c (m.length - r) r < m.length := by omega
        have ha2 : okM p q (stepA p c m a r (scanN m c (m.length - r) r)) := stepA_ok (fdB_rng hf).1 ha (by omega) (by omega)
        obtain ⟨k1, k2⟩ := loop_span hf d (c + 1) (stepA p c m m r (scanN m c (m.length - r) r)) (stepA p c m a r (scanN m c (m.length - r) r)) (r + 1) (by omega) (stepA_ok (fdB_rng hf).1 h hrl hkl) ha2 (by rw [stepA_len, stepA_len]; exact hl) (by rw [stepA_len]; omega)
        obtain ⟨w1, w2⟩ := step_span hf h ha hl hrl hkl (show c < N by omega) (s3 hkl)
        exact ⟨subSpan_trans k1 w1, subSpan_trans w2 k2⟩
    · rw [if_neg hrl]; exact ⟨subSpan_refl p q a, subSpan_refl p q a⟩
theorem redLoop_self (p : Int) : ∀ (d c : Nat) (m : Rows) (r : Nat), (redLoop p d c m m r).2.1 = (redLoop p d c m m r).1
  | 0, _, _, _ => rfl
  | d + 1, c, m, r => by
    unfold redLoop
    split
    · split
      · exact redLoop_self p d (c + 1) m r
      · exact redLoop_self p d (c + 1) _ (r + 1)
    · rfl
theorem take_span {p : Int} {n k : Nat} {m : Rows} (hz : ∀ i, k ≤ i → i < m.length → ∀ j, j < n → el (gr m i) j = 0) : subSpan p n (m.take k) m ∧ subSpan p n m (m.take k) := by
  constructor
  · intro i hi
    rw [List.length_take] at hi
    rw [gr_take (by omega)]
    exact inSpan_row (by omega)
  · intro i hi
    rcases Nat.lt_or_ge i k with h | h
    · have := inSpan_row (p := p) (n := n) (m := m.take k) (i := i) (by rw [List.length_take]; omega)
      rw [gr_take h] at this; exact this
    · exact inSpan_zero fun j hj => by rw [hz i h hi j hj]; exact Int.zero_emod p
/-- the reduced rows span what the rows span -/
theorem redM_span {p : Int} {n : Nat} {m : Rows} (hf : fdB p = true) (h : okM p n m) : subSpan p n (redM p n m) m ∧ subSpan p n m (redM p n m) := by
  obtain ⟨k1, k2⟩ := loop_span hf n 0 m m 0 (by omega) h h rfl (by omega)
  rw [redLoop_self] at k1 k2
  have h1 := redLoop_red hf n 0 m 0 (by omega) h (RedI.start m)
  rw [Nat.zero_add] at h1
  obtain ⟨w1, w2⟩ := take_span (p := p) (n := n) (m := (redLoop p n 0 m m 0).1) (k := (redLoop p n 0 m m 0).2.2) h1.rest
  exact ⟨subSpan_trans w1 k1, subSpan_trans k2 w2⟩

/-! ### independent rows -/
theorem Indep.swap {p : Int} {n : Nat} {m : Rows} {r k : Nat} (hr : r < m.length) (hk : k < m.length) (h : Indep p n m) : Indep p n (swapM m r k) := by
  intro x hx
  have hl := swapM_len m r k
  -- coefficients of m
  have key : ∀ f : List Int → Int, sg (swapM m r k).length (fun i => x i * f (gr (swapM m r k) i)) = sg m.length (fun i => (if i = r then x k else if i = k then x r else x i) * f (gr m i)) := by
    intro f
    rw [hl]
    by_cases hrk : r = k
    · subst hrk
      refine sg_congr fun i hi => ?_
      rw [swapM_gr2 hr hk]
      by_cases h1 : i = r
      · subst h1; simp
      · simp [h1]
    · rw [sg_split hr, sg_split (f := fun i => if i = r then 0 else _) hk, sg_split (f := fun i => (if i = r then x k else if i = k then x r else x i) * f (gr m i)) hr, sg_split (f := fun i => if i = r then 0 else (if i = r then x k else if i = k then x r else x i) * f (gr m i)) hk]
      have e1 : sg m.length (fun i => if i = k then 0 else if i = r then 0 else x i * f (gr (swapM m r k) i)) = sg m.length (fun i => if i = k then 0 else if i = r then 0 else (if i = r then x k else if i = k then x r else x i) * f (gr m i)) := by
        refine sg_congr fun i _ => ?_
        by_cases h1 : i = k
        · simp [h1]
        · by_cases h2 : i = r
          · simp [h2]
          · rw [swapM_gr2 hr hk]; simp [h1, h2]
      rw [e1, if_neg (Ne.symm hrk), if_neg (Ne.symm hrk), swapM_gr hr hk, swapM_gr2 hr hk, if_pos rfl]
      simp only [if_true, if_neg (Ne.symm hrk)]
      omega
  have h2 := h (fun i => if i = r then x k else if i = k then x r else x i) (fun j hj => by rw [← key (fun l => el l j)]; exact hx j hj)
  intro i hi
  rw [hl] at hi
  by_cases h1 : i = k
  · subst h1
    have := h2 r hr
    simpa using this
  · by_cases h3 : i = r
    · subst h3
      have := h2 k hk
      by_cases h4 : k = i
      · exact absurd h4.symm h1
      · simpa [h4] using this
    · have := h2 i hi
      simpa [h1, h3] using this
theorem swapM_swap {m : Rows} {r k : Nat} (hr : r < m.length) (hk : k < m.length) : swapM (swapM m r k) r k = m := by
  have hl := swapM_len m r k
  refine ext_gr (by rw [swapM_len, swapM_len]) fun i hi => ?_
  rw [swapM_gr2 (by rw [hl]; exact hr) (by rw [hl]; exact hk)]
  by_cases h1 : i = k
  · subst h1; rw [if_pos rfl, swapM_gr hr hk]
  · rw [if_neg h1]
    by_cases h2 : i = r
    · subst h2; rw [if_pos rfl, swapM_gr2 hr hk, if_pos rfl]
    · rw [if_neg h2, swapM_gr2 hr hk, if_neg h1, if_neg h2]
theorem Indep.unswap {p : Int} {n : Nat} {m : Rows} {r k : Nat} (hr : r < m.length) (hk : k < m.length) (h : Indep p n (swapM m r k)) : Indep p n m := by
  have := Indep.swap (r := r) (k := k) (by rw [swapM_len]; exact hr) (by rw [swapM_len]; exact hk) h
  rw [swapM_swap hr hk] at this; exact this
/-- sums over a step's rows -/
theorem step_sum {p : Int} {c r k N q : Nat} {m a : Rows} (hf : fdB p = true) (h : okM p N m) (ha : okM p q a) (hl : a.length = m.length) (hr : r < m.length) (hk : k < m.length) (hc : c < N) (hne : el (gr m k) c ≠ 0) (x : Nat → Int) {j : Nat} (hj : j < q) :
    sg m.length (fun i => x i * el (gr (stepA p c m a r k) i) j) % p = (sg m.length (fun i => if i = r then 0 else x i * el (gr (swapM a r k) i) j) + (x r - sg m.length (fun i => if i = r then 0 else x i * el (gr (swapM m r k) i) c)) * (invF p (el (gr m k) c) * el (gr a k) j)) % p := by
  obtain ⟨e1, e2, e3⟩ := stepA_el hf h ha hl hr hk hc hne
  rw [sg_split hr]
  have h1 : sg m.length (fun i => if i = r then 0 else x i * el (gr (stepA p c m a r k) i) j) % p = sg m.length (fun i => if i = r then 0 else x i * (el (gr (swapM a r k) i) j - el (gr (swapM m r k) i) c * el (gr (stepA p c m a r k) r) j)) % p := by
    refine sg_mod fun i hi => ?_
    by_cases hir : i = r
    · rw [if_pos hir, if_pos hir]
    · rw [if_neg hir, if_neg hir, e3 i hi hir j hj, mul_mod2]
  have h2 : sg m.length (fun i => if i = r then 0 else x i * (el (gr (swapM a r k) i) j - el (gr (swapM m r k) i) c * el (gr (stepA p c m a r k) r) j)) = sg m.length (fun i => if i = r then 0 else x i * el (gr (swapM a r k) i) j) - sg m.length (fun i => if i = r then 0 else x i * el (gr (swapM m r k) i) c) * el (gr (stepA p c m a r k) r) j := by
    rw [← sg_mulr, ← sg_sub]
    refine sg_congr fun i _ => ?_
    by_cases hir : i = r
    · simp [hir]
    · simp only [if_neg hir]; rw [Int.mul_sub, Int.mul_assoc]
  rw [Int.add_emod, h1, h2, ← Int.add_emod]
  generalize sg m.length (fun i => if i = r then 0 else x i * el (gr (swapM a r k) i) j) = A
  generalize sg m.length (fun i => if i = r then 0 else x i * el (gr (swapM m r k) i) c) = F
  have e4 : A - F * el (gr (stepA p c m a r k) r) j + x r * el (gr (stepA p c m a r k) r) j = A + (x r - F) * el (gr (stepA p c m a r k) r) j := by rw [Int.sub_mul]; omega
  rw [e4, e2 j hj, Int.add_emod, mul_mod2, ← Int.add_emod, Int.mul_comm (el (gr a k) j)]
theorem Indep.step {p : Int} {c r k N q : Nat} {m a : Rows} (hf : fdB p = true) (h : okM p N m) (ha : okM p q a) (hl : a.length = m.length) (hr : r < m.length) (hk : k < m.length) (hc : c < N) (hne : el (gr m k) c ≠ 0) (hi : Indep p q a) : Indep p q (stepA p c m a r k) := by
  obtain ⟨e1, e2, e3⟩ := stepA_el hf h ha hl hr hk hc hne
  have hsl : (stepA p c m a r k).length = m.length := by rw [stepA_len, hl]
  have hra : r < a.length := by omega
  have hka : k < a.length := by omega
  intro x hx
  rw [hsl] at hx ⊢
  have hs := Indep.swap hra hka hi (fun i => if i = r then (x r - sg m.length (fun i => if i = r then 0 else x i * el (gr (swapM m r k) i) c)) * invF p (el (gr m k) c) else x i) (fun j hj => by
    rw [swapM_len, hl, sg_split hr, if_pos rfl, swapM_gr hra hka]
    have := hx j hj
    rw [step_sum hf h ha hl hr hk hc hne x hj] at this
    refine Eq.trans ?_ this
    rw [Int.mul_assoc]
    refine congrArg (fun z => (z + _) % p) ?_
    refine sg_congr fun i _ => ?_
    by_cases hir : i = r
    · rw [if_pos hir, if_pos hir]
    · rw [if_neg hir, if_neg hir, if_neg hir])
  rw [swapM_len, hl] at hs
  have h0 : ∀ i, i < m.length → i ≠ r → x i % p = 0 := fun i h1 h2 => by
    have := hs i h1
    simpa only [if_neg h2] using this
  intro i h1
  by_cases h2 : i = r
  · subst h2
    have h3 := hs i hr
    simp only [if_true] at h3
    have hF : sg m.length (fun t => if t = i then 0 else x t * el (gr (swapM m i k) t) c) % p = 0 := by
      rw [sg_mod (g := fun _ => 0) (fun t ht => by
        by_cases hti : t = i
        · rw [if_pos hti]
        · rw [if_neg hti, mul_mod_zero (h0 t ht hti)]; exact (Int.zero_emod p).symm), sg_zero (fun _ _ => rfl)]
      exact Int.zero_emod p
    generalize sg m.length (fun t => if t = i then 0 else x t * el (gr (swapM m i k) t) c) = F at h3 hF
    have h4 : (x i - F) % p = 0 := by
      have h5 := mul_mod_zero (b := el (gr m k) c) h3
      rw [Int.mul_assoc, Int.mul_comm (invF p _), ← mul_mod2, e1, Int.mul_one] at h5
      exact h5
    rw [mod_of_sub h4, hF]
  · exact h0 i h1 h2
theorem Indep.unstep {p : Int} {c r k N q : Nat} {m a : Rows} (hf : fdB p = true) (h : okM p N m) (ha : okM p q a) (hl : a.length = m.length) (hr : r < m.length) (hk : k < m.length) (hc : c < N) (hne : el (gr m k) c ≠ 0) (hi : Indep p q (stepA p c m a r k)) : Indep p q a := by
  obtain ⟨e1, e2, e3⟩ := stepA_el hf h ha hl hr hk hc hne
  have hsl : (stepA p c m a r k).length = m.length := by rw [stepA_len, hl]
  have hra : r < a.length := by omega
  have hka : k < a.length := by omega
  refine Indep.unswap hra hka ?_
  intro y hy
  rw [swapM_len, hl] at hy ⊢
  have hs := hi (fun i => if i = r then y r * el (gr m k) c + sg m.length (fun i => if i = r then 0 else y i * el (gr (swapM m r k) i) c) else y i) (fun j hj => by
    rw [hsl, step_sum hf h ha hl hr hk hc hne _ hj]
    have e4 : sg m.length (fun i => if i = r then 0 else (if i = r then y r * el (gr m k) c + sg m.length (fun i => if i = r then 0 else y i * el (gr (swapM m r k) i) c) else y i) * el (gr (swapM a r k) i) j) = sg m.length (fun i => if i = r then 0 else y i * el (gr (swapM a r k) i) j) :=
      sg_congr fun i _ => by by_cases hir : i = r <;> simp [hir]
    have e5 : sg m.length (fun i => if i = r then 0 else (if i = r then y r * el (gr m k) c + sg m.length (fun i => if i = r then 0 else y i * el (gr (swapM m r k) i) c) else y i) * el (gr (swapM m r k) i) c) = sg m.length (fun i => if i = r then 0 else y i * el (gr (swapM m r k) i) c) :=
      sg_congr fun i _ => by by_cases hir : i = r <;> simp [hir]
    rw [e4, e5, if_pos rfl]
    have h1 := hy j hj
    rw [sg_split hr, swapM_gr hra hka] at h1
    refine Eq.trans ?_ h1
    generalize sg m.length (fun i => if i = r then 0 else y i * el (gr (swapM m r k) i) c) = F
    rw [show y r * el (gr m k) c + F - F = y r * el (gr m k) c by omega]
    rw [Int.add_emod, Int.mul_assoc, ← Int.mul_assoc (el (gr m k) c), ← mul_mod2 p (y r), ← mul_mod1 p (el (gr m k) c * _), e1, Int.one_mul, mul_mod2, ← Int.add_emod])
  rw [hsl] at hs
  have h0 : ∀ i, i < m.length → i ≠ r → y i % p = 0 := fun i h1 h2 => by
    have := hs i h1
    simpa only [if_neg h2] using this
  intro i h1
  by_cases h2 : i = r
  · subst h2
    have h3 := hs i hr
    simp only [if_true] at h3
    have hF : sg m.length (fun t => if t = i then 0 else y t * el (gr (swapM m i k) t) c) % p = 0 := by
      rw [sg_mod (g := fun _ => 0) (fun t ht => by
        by_cases hti : t = i
        · rw [if_pos hti]
        · rw [if_neg hti, mul_mod_zero (h0 t ht hti)]; exact (Int.zero_emod p).symm), sg_zero (fun _ _ => rfl)]
      exact Int.zero_emod p
    generalize sg m.length (fun t => if t = i then 0 else y t * el (gr (swapM m i k) t) c) = F at h3 hF
    have h4 : (y i * el (gr m k) c) % p = 0 := by
      rw [Int.add_emod, hF, Int.add_zero, mod_mod] at h3; exact h3
    have h5 := mul_mod_zero (b := invF p (el (gr m k) c)) h4
    rw [Int.mul_assoc, ← mul_mod2, e1, Int.mul_one] at h5
    exact h5
  · exact h0 i h1 h2
theorem loop_indep {p : Int} {N q : Nat} (hf : fdB p = true) : ∀ (d c : Nat) (m a : Rows) (r : Nat), c + d ≤ N → okM p N m → okM p q a → a.length = m.length → r ≤ m.length → (Indep p q a ↔ Indep p q (redLoop p d c m a r).2.1)
  | 0, _, _, a, _, _, _, _, _, _ => Iff.rfl
  | d + 1, c, m, a, r, hN, h, ha, hl, hr => by
    unfold redLoop
    by_cases hrl : r < m.length
    · rw [if_pos hrl]
      obtain ⟨s1, s2, s3⟩ := scanN_spec m c (m.length - r) r (by omega)
      split
      · exact loop_indep hf d (c + 1) m a r (by omega) h ha hl hr
      · rename_i hk
        have hkl : scanN m c (m.length - r) r < m.length := by omega
        have ha2 : okM p q (stepA p c m a r (scanN m c (m.length - r) r)) := stepA_ok (fdB_rng hf).1 ha (by omega) (by omega)
        have k1 := loop_indep hf d (c + 1) (stepA p c m m r (scanN m c (m.length - r) r)) (stepA p c m a r (scanN m c (m.length - r) r)) (r + 1) (by omega) (stepA_ok (fdB_rng hf).1 h hrl hkl) ha2 (by rw [stepA_len, stepA_len]; exact hl) (by rw [stepA_len]; omega)
        exact ⟨fun h1 => k1.1 (h1.step hf h ha hl hrl hkl (show c < N by omega) (s3 hkl)), fun h1 => Indep.unstep hf h ha hl hrl hkl (show c < N by omega) (s3 hkl) (k1.2 h1)⟩
    · rw [if_neg hrl]
theorem Red.indep {p : Int} {n : Nat} {b : Rows} (h : Red p n b) : Indep p n b := by
  intro x hx i hi
  have := hx _ (h.lt i hi)
  rw [sg_one hi (fun t ht hn => by rw [h.zero i t hi ht (Ne.symm hn), Int.mul_zero]), h.one i hi, Int.mul_one] at this
  exact this
/-- rows are independent if and only if the reduction leaves as many -/
theorem indep_iff {p : Int} {n : Nat} {m : Rows} (hf : fdB p = true) (h : okM p n m) : Indep p n m ↔ (redM p n m).length = m.length := by
  have hp := fdB_rng hf
  have k1 := loop_indep hf n 0 m m 0 (by omega) h h rfl (by omega)
  rw [redLoop_self] at k1
  have h1 := redLoop_red hf n 0 m 0 (by omega) h (RedI.start m)
  rw [Nat.zero_add] at h1
  obtain ⟨_, _, hlen, _⟩ := redLoop_ok hp.1 n 0 m m 0 h h rfl (by omega)
  have hle := h1.le
  have hred := redM_red hf h
  unfold redM at hred ⊢
  rw [List.length_take]
  rw [k1]
  generalize redLoop p n 0 m m 0 = t at k1 h1 hlen hle hred
  constructor
  · intro hi
    rcases Nat.lt_or_ge t.2.2 t.1.length with hlt | hge
    · exfalso
      have := hi (fun i => if i = t.2.2 then 1 else 0) (fun j hj => by
        rw [sg_zero]
        · exact Int.zero_emod p
        · intro i hi'
          by_cases he : i = t.2.2
          · rw [if_pos he, he, h1.rest t.2.2 (Nat.le_refl _) hlt j hj, Int.mul_zero]
          · rw [if_neg he, Int.zero_mul]) t.2.2 hlt
      simp only [if_true] at this
      rw [emod_sm (by omega)] at this
      omega
    · omega
  · intro he
    have : t.1.take t.2.2 = t.1 := List.take_of_length_le (by omega)
    rw [this] at hred
    exact hred.indep

/-! ### reduced lists are determined -/
/-- a vector of the span, by its elements at the leads -/
theorem span_leads {p : Int} {n : Nat} {b : Rows} {v : List Int} (hb : Red p n b) (hv : inSpan p n b v) : ∀ j, j < n → el v j % p = sg b.length (fun i => el v (leadN (gr b i)) * el (gr b i) j) % p := by
  obtain ⟨x, hx⟩ := hv
  intro j hj
  rw [hx j hj]
  refine sg_mod fun i hi => ?_
  have h1 := hx _ (hb.lt i hi)
  rw [sg_one hi (fun t ht hn => by rw [hb.zero i t hi ht (Ne.symm hn), Int.mul_zero]), hb.one i hi, Int.mul_one] at h1
  rw [← mul_mod1, ← h1, mul_mod1]
/-- the lead of a vector of the span is one of the leads -/
theorem span_lead {p : Int} {n : Nat} {b : Rows} {v : List Int} (hp : 2 ≤ p) (hb : Red p n b) (hv : okR p n v) (hs : inSpan p n b v) (h0 : leadN v < n) : ∃ i, i < b.length ∧ leadN (gr b i) = leadN v := by
  apply Classical.byContradiction
  intro hno
  have hno : ∀ i, i < b.length → leadN (gr b i) ≠ leadN v := fun i hi he => hno ⟨i, hi, he⟩
  have h1 := span_leads hb hs _ h0
  have h2 : sg b.length (fun i => el v (leadN (gr b i)) * el (gr b i) (leadN v)) = 0 := by
    refine sg_zero fun i hi => ?_
    rcases Nat.lt_trichotomy (leadN (gr b i)) (leadN v) with h | h | h
    · rw [leadN_z v _ h, Int.zero_mul]
    · exact absurd h (hno i hi)
    · rw [leadN_z (gr b i) _ h, Int.mul_zero]
  rw [h2, Int.zero_emod, emod_sm (hv.2 _ (el_mem (by rw [hv.1]; exact h0)))] at h1
  exact leadN_nz v (by rw [hv.1]; exact h0) h1
theorem leads_le {p : Int} {n : Nat} {b b' : Rows} (hp : 2 ≤ p) (hb : Red p n b) (hb' : Red p n b') (hs : subSpan p n b b') : ∀ k, k ≤ b.length → ∃ g : Nat → Nat, (∀ i, i < k → g i < b'.length ∧ leadN (gr b' (g i)) = leadN (gr b i)) ∧ (∀ i, i < k → i ≤ g i) := by
  intro k hk
  have hex : ∀ i, i < b.length → ∃ t, t < b'.length ∧ leadN (gr b' t) = leadN (gr b i) := fun i hi => span_lead hp hb' (okM_gr hb.ok hi) (hs i hi) (hb.lt i hi)
  refine ⟨fun i => if h : i < b.length then Classical.choose (hex i h) else 0, fun i hi => ?_, fun i hi => ?_⟩
  · simp only [dif_pos (Nat.lt_of_lt_of_le hi hk)]
    exact Classical.choose_spec (hex i (Nat.lt_of_lt_of_le hi hk))
  · induction i with
    | zero => exact Nat.zero_le _
    | succ i ih =>
      have h1 := ih (by omega)
      have hi1 : i < b.length := by omega
      have hi2 : i + 1 < b.length := by omega
      simp only [dif_pos hi1] at h1
      simp only [dif_pos hi2]
      have s1 := Classical.choose_spec (hex i hi1)
      have s2 := Classical.choose_spec (hex (i + 1) hi2)
      generalize Classical.choose (hex i hi1) = t1 at s1 h1
      generalize Classical.choose (hex (i + 1) hi2) = t2 at s2
      have hlt := hb.inc i (i + 1) (by omega) hi2
      have : t1 < t2 := by
        rcases Nat.lt_trichotomy t1 t2 with h | h | h
        · exact h
        · rw [h] at s1; omega
        · have := hb'.inc t2 t1 h s1.1; omega
      omega
/-- what lies in a space has no more rows -/
theorem red_len_le {p : Int} {n : Nat} {b b' : Rows} (hp : 2 ≤ p) (hb : Red p n b) (hb' : Red p n b') (hs : subSpan p n b b') : b.length ≤ b'.length := by
  obtain ⟨g, h1, h2⟩ := leads_le hp hb hb' hs b.length (Nat.le_refl _)
  rcases Nat.eq_zero_or_pos b.length with h0 | h0
  · omega
  · have := (h1 (b.length - 1) (by omega)).1
    have := h2 (b.length - 1) (by omega)
    omega
/-- and if it has as many rows, it is the same list -/
theorem red_eq {p : Int} {n : Nat} {b b' : Rows} (hp : 2 ≤ p) (hb : Red p n b) (hb' : Red p n b') (hs : subSpan p n b b') (hl : b.length = b'.length) : b = b' := by
  obtain ⟨g, h1, h2⟩ := leads_le hp hb hb' hs b.length (Nat.le_refl _)
  have hg : ∀ d i, i + d + 1 = b.length → g i = i := by
    intro d
    induction d with
    | zero =>
      intro i hi
      have := (h1 i (by omega)).1
      have := h2 i (by omega)
      omega
    | succ d ih =>
      intro i hi
      have e1 := ih (i + 1) (by omega)
      have a1 := h1 i (by omega)
      have a2 := h1 (i + 1) (by omega)
      have a3 := hb.inc i (i + 1) (by omega) (by omega)
      have a4 := h2 i (by omega)
      rw [e1] at a2
      rcases Nat.lt_trichotomy (g i) (i + 1) with h | h | h
      · omega
      · rw [h] at a1; omega
      · have := hb'.inc (i + 1) (g i) h a1.1; omega
  have hlead : ∀ i, i < b.length → leadN (gr b' i) = leadN (gr b i) := fun i hi => by
    have := (h1 i hi).2
    rw [hg (b.length - 1 - i) i (by omega)] at this; exact this
  refine ext_gr hl fun i hi => ?_
  have r1 := okM_gr hb.ok hi
  have r2 := okM_gr hb'.ok (i := i) (by omega)
  refine ext_el (by rw [r1.1, r2.1]) fun j hj => ?_
  rw [r1.1] at hj
  have h3 := span_leads hb' (hs i hi) j hj
  rw [sg_one (i0 := i) (by omega) (fun t ht hn => by rw [hlead t (by omega), hb.zero t i (by omega) hi hn, Int.zero_mul]), hlead i hi, hb.one i hi, Int.one_mul] at h3
  rw [emod_sm (r1.2 _ (el_mem (by omega))), emod_sm (r2.2 _ (el_mem (by omega)))] at h3
  exact h3
/-- reduced lists that span the same are the same -/
theorem red_unique {p : Int} {n : Nat} {b b' : Rows} (hp : 2 ≤ p) (hb : Red p n b) (hb' : Red p n b') (h1 : subSpan p n b b') (h2 : subSpan p n b' b) : b = b' :=
  red_eq hp hb hb' h1 (Nat.le_antisymm (red_len_le hp hb hb' h1) (red_len_le hp hb' hb h2))
theorem redM_self {p : Int} {n : Nat} {b : Rows} (hf : fdB p = true) (h : Red p n b) : redM p n b = b := by
  obtain ⟨a1, a2⟩ := redM_span hf h.ok
  exact red_unique (fdB_rng hf).1 (redM_red hf h.ok) h a1 a2
end Go.Proofs.YtocpeclcoikdpaaDoor
namespace Go.Proofs.YtocpeclcoikdpaaDoor

/-! ### lists of matrices in the law -/

/-! ### matrices and responses -/
end Go.Proofs.YtocpeclcoikdpaaDoor
namespace Go.Proofs.YtocpeclcoikdpaaDoor

def tabB (p : Int) (rows cols : Int) (m : List (List Int)) : Bool := decide ((m.length : Int) = rows) && rowsB p cols m
def ssB (p : Int) (s : SSt) : Bool :=
  fdB p && rng s.1 0 24 && rng s.2.1 0 8 && rng s.2.2.1 0 8 && tabB p s.1 s.1 s.2.2.2.1 && tabB p s.2.1 s.1 s.2.2.2.2.1 && tabB p s.1 s.2.2.1 s.2.2.2.2.2.1 && tabB p s.2.1 s.2.2.1 s.2.2.2.2.2.2
theorem ssTable_ {p : Int} (hp : 2 ≤ p ∧ p ≤ 97) (rows cols : Int) (m : List (List Int)) : F_spec_ssTable p rows cols m = some (tabB p rows cols m) := by
  refine bnd (a := tabB p rows cols m) (stp ?_) rfl
  unfold tabB
  cases decide ((m.length : Int) = rows) with
  | false => rfl
  | true => exact cTW rfl (bnd (spRows hp cols m) rfl)
theorem ssGood (p : Int) (s : SSt) : F_spec_ssGood p s = some (ssB p s) := by
  refine bnd (a := ssB p s) ?_ rfl
  unfold ssB
  simp only [Bool.and_assoc]
  refine bndB (fdGood p) (fun _ => rfl) (fun h => cTW rfl ?_)
  have hp := fdB_rng h
  refine bndB (l1In _ _ _) (fun _ => rfl) (fun _ => cTW rfl ?_)
  refine bndB (l1In _ _ _) (fun _ => rfl) (fun _ => cTW rfl ?_)
  refine bndB (l1In _ _ _) (fun _ => rfl) (fun _ => cTW rfl ?_)
  refine bndB (ssTable_ hp _ _ _) (fun _ => rfl) (fun _ => cTW rfl ?_)
  refine bndB (ssTable_ hp _ _ _) (fun _ => rfl) (fun _ => cTW rfl ?_)
  refine bndB (ssTable_ hp _ _ _) (fun _ => rfl) (fun _ => cTW rfl ?_)
  exact bnd (ssTable_ hp _ _ _) rfl
def shB (m : List (List Int)) (rows cols : Int) : Bool := decide ((m.length : Int) = rows) && m.all fun r => decide ((r.length : Int) = cols)
theorem tab_eq (p : Int) (rows cols : Int) (m : List (List Int)) : tabB p rows cols m = (shB m rows cols && rowsB p cols m) := by
  unfold tabB shB
  cases decide ((m.length : Int) = rows) with
  | false => rfl
  | true =>
    rw [Bool.true_and, Bool.true_and]
    cases h : rowsB p cols m with
    | false => rw [Bool.and_false]
    | true =>
      rw [Bool.and_true]
      symm
      unfold rowsB at h
      rw [List.all_eq_true] at h ⊢
      intro r hr
      have := h r hr
      rw [Bool.and_eq_true] at this
      exact this.1
theorem isSS (p : Int) (s : SSt) : F_impl_isStateSpace p s = some (ssB p s) := by
  have h1 : F_impl_isStateSpace p s = some ((fdB p && (rng s.1 0 24 && (rng s.2.1 0 8 && rng s.2.2.1 0 8))) && ((shB s.2.2.2.1 s.1 s.1 && (shB s.2.2.2.2.1 s.2.1 s.1 && (shB s.2.2.2.2.2.1 s.1 s.2.2.1 && shB s.2.2.2.2.2.2 s.2.1 s.2.2.1))) && (rowsB p s.1 s.2.2.2.1 && (rowsB p s.1 s.2.2.2.2.1 && (rowsB p s.2.2.1 s.2.2.2.2.2.1 && rowsB p s.2.2.1 s.2.2.2.2.2.2))))) := by
    refine bnd (a := !(fdB p && (rng s.1 0 24 && (rng s.2.1 0 8 && rng s.2.2.1 0 8)))) ?_ ?_
    · refine bndN (isField_ p) (fun _ => rfl) (fun _ => stp (cFW rfl ?_))
      refine bndN (within_ _ _ _) (fun _ => rfl) (fun _ => stp (cFW rfl ?_))
      refine bndN (within_ _ _ _) (fun _ => rfl) (fun _ => stp (cFW rfl ?_))
      exact bnd (within_ _ _ _) rfl
    · cases hb : (fdB p && (rng s.1 0 24 && (rng s.2.1 0 8 && rng s.2.2.1 0 8))) with
      | false => rfl
      | true =>
        simp only [Bool.and_eq_true, rng_true] at hb
        obtain ⟨_, g1, g2, g3⟩ := hb
        refine cFW rfl ?_
        rw [Bool.true_and]
        refine bnd (a := !(shB s.2.2.2.1 s.1 s.1 && (shB s.2.2.2.2.1 s.2.1 s.1 && (shB s.2.2.2.2.2.1 s.1 s.2.2.1 && shB s.2.2.2.2.2.2 s.2.1 s.2.2.1)))) ?_ ?_
        · refine bndN (hasShape_ _ _ _ (by omega)) (fun _ => rfl) (fun _ => stp (cFW rfl ?_))
          refine bndN (hasShape_ _ _ _ (by omega)) (fun _ => rfl) (fun _ => stp (cFW rfl ?_))
          refine bndN (hasShape_ _ _ _ (by omega)) (fun _ => rfl) (fun _ => stp (cFW rfl ?_))
          exact bnd (hasShape_ _ _ _ (by omega)) rfl
        · cases (shB s.2.2.2.1 s.1 s.1 && (shB s.2.2.2.2.1 s.2.1 s.1 && (shB s.2.2.2.2.2.1 s.1 s.2.2.1 && shB s.2.2.2.2.2.2 s.2.1 s.2.2.1))) with
          | false => rfl
          | true =>
            refine cFW rfl (bnd (a := _) ?_ rfl)
            rw [Bool.true_and]
            refine bndB (areVectors_ _ _ _) (fun _ => rfl) (fun _ => cTW rfl ?_)
            refine bndB (areVectors_ _ _ _) (fun _ => rfl) (fun _ => cTW rfl ?_)
            refine bndB (areVectors_ _ _ _) (fun _ => rfl) (fun _ => cTW rfl ?_)
            exact bnd (areVectors_ _ _ _) rfl
  rw [h1]
  unfold ssB
  rw [tab_eq, tab_eq, tab_eq, tab_eq]
  congr 1
  ac_rfl

/-- a state space that is valid -/
structure SSok (p : Int) (n k o : Nat) (s : SSt) : Prop where
  hp : 2 ≤ p ∧ p ≤ 97
  h1 : s.1 = n
  h2 : s.2.1 = k
  h3 : s.2.2.1 = o
  hn : n ≤ 24
  hk : k ≤ 8
  ho : o ≤ 8
  a : s.2.2.2.1.length = n ∧ rowsP p n s.2.2.2.1
  b : s.2.2.2.2.1.length = k ∧ rowsP p n s.2.2.2.2.1
  c : s.2.2.2.2.2.1.length = n ∧ rowsP p o s.2.2.2.2.2.1
  d : s.2.2.2.2.2.2.length = k ∧ rowsP p o s.2.2.2.2.2.2
theorem tab_true {p : Int} {r c : Nat} {m : List (List Int)} (h : tabB p r c m = true) : m.length = r ∧ rowsP p c m := by
  unfold tabB at h
  rw [Bool.and_eq_true] at h
  exact ⟨by have := of_decide_eq_true h.1; omega, rowsB_true.1 h.2⟩
theorem ssB_ok {p : Int} {s : SSt} (h : ssB p s = true) : ∃ n k o, SSok p n k o s := by
  unfold ssB at h
  simp only [Bool.and_eq_true, rng_true] at h
  obtain ⟨⟨⟨⟨⟨⟨⟨h0, h1⟩, h2⟩, h3⟩, h4⟩, h5⟩, h6⟩, h7⟩ := h
  have e1 : s.1 = (s.1.toNat : Int) := by omega
  have e2 : s.2.1 = (s.2.1.toNat : Int) := by omega
  have e3 : s.2.2.1 = (s.2.2.1.toNat : Int) := by omega
  rw [e1] at h4 h5 h6
  rw [e2] at h5 h7
  rw [e3] at h6 h7
  exact ⟨s.1.toNat, s.2.1.toNat, s.2.2.1.toNat, fdB_rng h0, e1, e2, e3, by omega, by omega, by omega, tab_true h4, tab_true h5, tab_true h6, tab_true h7⟩

/-- the Markov parameters, and the states that are reached -/
def mkv (p : Int) (n o : Nat) (s : SSt) : Nat → List Mat × List (List Int)
  | 0 => ([], s.2.2.2.2.1)
  | k + 1 => if k = 0 then ((mkv p n o s k).1 ++ [((o : Int), s.2.2.2.2.2.2)], (mkv p n o s k).2)
    else ((mkv p n o s k).1 ++ [((o : Int), mulM p o (mkv p n o s k).2 s.2.2.2.2.2.1)], mulM p n (mkv p n o s k).2 s.2.2.2.1)
theorem mkv_succ (p : Int) (n o : Nat) (s : SSt) (k : Nat) : mkv p n o s (k + 1) = if k = 0 then ((mkv p n o s k).1 ++ [((o : Int), s.2.2.2.2.2.2)], (mkv p n o s k).2)
    else ((mkv p n o s k).1 ++ [((o : Int), mulM p o (mkv p n o s k).2 s.2.2.2.2.2.1)], mulM p n (mkv p n o s k).2 s.2.2.2.1) := rfl
theorem mkv_ok {p : Int} {n k o : Nat} {s : SSt} (h : SSok p n k o s) : ∀ j, (mkv p n o s j).1.length = j ∧ (mkv p n o s j).2.length = k ∧ rowsP p n (mkv p n o s j).2 ∧ ∀ m ∈ (mkv p n o s j).1, m.2.length = k ∧ rowsP p o m.2
  | 0 => ⟨rfl, h.b.1, h.b.2, by intro m hm; cases hm⟩
  | j + 1 => by
    obtain ⟨h1, h2, h3, h4⟩ := mkv_ok h j
    have hm : maxN = 1099511627776 := rfl
    have := h.hn
    have := h.ho
    rw [mkv_succ]
    by_cases hj : j = 0
    · rw [if_pos hj]
      refine ⟨by simp [h1], h2, h3, fun m hm' => ?_⟩
      rcases List.mem_append.1 hm' with hm' | hm'
      · exact h4 m hm'
      · rw [List.mem_singleton.1 hm']; exact h.d
    · rw [if_neg hj]
      refine ⟨by simp [h1], by rw [mulM_len, h2], mulM_ok h.hp (by omega) h.a.2 h3 (by rw [h.a.1]; exact Nat.le_refl _), fun m hm' => ?_⟩
      rcases List.mem_append.1 hm' with hm' | hm'
      · exact h4 m hm'
      · rw [List.mem_singleton.1 hm']
        exact ⟨by rw [mulM_len, h2], mulM_ok h.hp (by omega) h.c.2 h3 (by rw [h.c.1]; exact Nat.le_refl _)⟩
theorem rowsP_len {p : Int} {n : Nat} {m : List (List Int)} (h : rowsP p n m) (hn : n ≤ 1048576) : ∀ r ∈ m, r.length ≤ maxN := by
  intro r hr; have := (h r hr).1; have hm : maxN = 1099511627776 := rfl; omega
theorem ssMarkov_ {p : Int} {n k o : Nat} {s : SSt} (h : SSok p n k o s) (q : Nat) (hq : q ≤ 60) : F_spec_ssMarkov p s (q : Int) = some (mkv p n o s q).1 := by
  have hm : maxN = 1099511627776 := rfl
  have g1 := h.hn; have g2 := h.hk; have g3 := h.ho
  refine bnd (ssCopy_ (by rw [h.b.1]; omega) (rowsP_len h.b.2 (by omega))) (bnd (whileO_is (fun j => ((mkv p n o s j).1, (mkv p n o s j).2, (j : Int))) (t := (mkv p n o s q).1) q ?_ ?_) rfl)
  · intro j hj
    obtain ⟨h1, h2, h3, h4⟩ := mkv_ok h j
    dsimp only
    refine stp (cTW (dT (by omega)) (bnd (a := mkv p n o s (j + 1)) ?_ (bnd (addO_of (by omega) (by omega)) rfl)))
    refine stp ?_
    rw [mkv_succ, h.h3, h.h1]
    by_cases hj0 : j = 0
    · rw [if_pos hj0]
      exact cTW (dT (by omega)) (bnd (ssCopy_ (by rw [h.d.1]; omega) (rowsP_len h.d.2 (by omega))) (bnd (appO_of (by simp; omega)) rfl))
    · rw [if_neg hj0]
      exact cFW (dF (by omega)) (bnd (ssTimes_ h.hp (by omega) h.c.2 h3 (by rw [h.c.1]; exact Nat.le_refl _) (by omega)) (bnd (appO_of (by simp; omega)) (bnd (ssTimes_ h.hp (by omega) h.a.2 h3 (by rw [h.a.1]; exact Nat.le_refl _) (by omega)) rfl)))
  · dsimp only; exact stp (cFW (dF (by omega)) rfl)
theorem markov_ {p : Int} {n k o : Nat} {s : SSt} (h : SSok p n k o s) (q : Nat) (hq : q ≤ 60) : F_impl_StateSpace_markov s p (q : Int) = some (mkv p n o s q).1 := by
  have hm : maxN = 1099511627776 := rfl
  have g1 := h.hn; have g2 := h.hk; have g3 := h.ho
  refine bnd (clones_ (by rw [h.b.1]; omega) (rowsP_len h.b.2 (by omega))) (bnd (cI_of ⟨by omega, by omega⟩) (bnd (forS_is (fun j => mkv p n o s j) ?_) rfl))
  intro j hj
  obtain ⟨h1, h2, h3, h4⟩ := mkv_ok h j
  rw [Int.toNat_natCast] at hj
  refine bnd (a := mkv p n o s (j + 1)) (stp ?_) rfl
  rw [mkv_succ, h.h3, h.h1]
  by_cases hj0 : j = 0
  · rw [if_pos hj0]
    exact cTW (dT (by omega)) (bnd (clones_ (by rw [h.d.1]; omega) (rowsP_len h.d.2 (by omega))) (bnd (appO_of (by simp; omega)) rfl))
  · rw [if_neg hj0]
    exact cFW (dF (by omega)) (bnd (product_ h.hp (by omega) h.c.2 h3 (by rw [h.c.1]; exact Nat.le_refl _) (by omega)) (bnd (appO_of (by simp; omega)) (bnd (product_ h.hp (by omega) h.a.2 h3 (by rw [h.a.1]; exact Nat.le_refl _) (by omega)) rfl)))
end Go.Proofs.YtocpeclcoikdpaaDoor
namespace Go.Proofs.YtocpeclcoikdpaaDoor

theorem tot_le {α : Type} {n : α → Nat} {c : Nat} {l : List α} (h : ∀ a ∈ l, n a ≤ c) : tot n l ≤ l.length * c := by
  induction l with
  | nil => simp [tot]
  | cons a l ih =>
    rw [tot_cons, List.length_cons, Nat.succ_mul]
    have := ih (fun x hx => h x (List.mem_cons_of_mem _ hx))
    have := h a (List.mem_cons_self ..)
    omega

end Go.Proofs.YtocpeclcoikdpaaDoor
namespace Go.Proofs.YtocpeclcoikdpaaDoor

theorem forO_eq9 {α : Type} [DecidableEq α] {f : Nat → Unit → Option (Unit ⊕ Bool)} : ∀ (L M : List α) (k : Nat), L.length = M.length →
    (∀ (j : Nat) (a b : α), L[j]? = some a → M[j]? = some b → f (k + j) () = some (if a = b then .inl () else .inr false)) → forO f L.length k () = some (if L = M then .inl () else .inr false)
  | [], [], _, _, _ => rfl
  | [], _ :: _, _, h, _ => by simp at h
  | _ :: _, [], _, h, _ => by simp at h
  | a :: L, b :: M, k, hl, h => by
    have h0 : f k () = _ := h 0 a b rfl rfl
    show (f k ()).bind _ = _
    rw [h0]
    by_cases hab : a = b
    · rw [if_pos hab]
      have ih := forO_eq9 L M (k + 1) (by simpa using hl) (fun j x y hx hy => by
        have := h (j + 1) x y (by simpa using hx) (by simpa using hy)
        rw [show k + 1 + j = k + (j + 1) by omega]; exact this)
      show forO f L.length (k + 1) () = _
      rw [ih]
      by_cases h2 : L = M
      · rw [if_pos h2, if_pos (by rw [hab, h2])]
      · rw [if_neg h2, if_neg (fun h3 => h2 (List.cons.inj h3).2)]
    · rw [if_neg hab, if_neg (fun h3 => hab (List.cons.inj h3).1)]; rfl
/-- a comparison by length and element -/
theorem same_of {α : Type} [DecidableEq α] {f : Nat → Unit → Option (Unit ⊕ Bool)} (L M : List α)
    (h : L.length = M.length → ∀ (j : Nat) (a b : α), L[j]? = some a → M[j]? = some b → f j () = some (if a = b then .inl () else .inr false)) :
    ((some (!decide (((L.length : Nat) : Int) = ((M.length : Nat) : Int)))).bind fun c => cond c (some false) (seqO (forO f L.length 0 ()) fun (_ : Unit) => some true)) = some (decide (L = M)) := by
  refine stp ?_
  by_cases hl : L.length = M.length
  · refine cFW (nT (dT (by omega))) (sqW (forO_eq9 L M 0 hl (fun j a b ha hb => by rw [Nat.zero_add]; exact h hl j a b ha hb)) ?_)
    by_cases h2 : L = M
    · rw [if_pos h2, show decide (L = M) = true from dT h2]; rfl
    · rw [if_neg h2, show decide (L = M) = false from dF h2]; rfl
  · rw [show decide (L = M) = false from dF (fun h2 => hl (by rw [h2]))]
    exact cTW (nF (dF (by omega))) rfl
theorem stepE {α : Type} {a b : α} [DecidableEq α] : (some (!decide (a = b))).bind (fun c => cond c (some (Sum.inr false)) (some (Sum.inl ()))) = some (if a = b then (.inl () : Unit ⊕ Bool) else .inr false) := by
  by_cases h : a = b
  · rw [if_pos h]; exact stp (cFW (nT (dT h)) rfl)
  · rw [if_neg h]; exact stp (cTW (nF (dF h)) rfl)
theorem l1Same (a b : List Int) : F_spec_l1Same a b = some (decide (a = b)) :=
  same_of a b (fun _ _ _ _ hx hy => bnd (idxO_of hx) (bnd (idxO_of hy) stepE))
theorem spSame (a b : List (List Int)) : F_spec_spSame a b = some (decide (a = b)) :=
  same_of a b (fun _ _ x y hx hy => bnd (idxO_of hx) (bnd (idxO_of hy) (bnd (l1Same x y) stepE)))
theorem slEqual (a b : List Int) : F_slices_Equal_int_int a b = some (decide (a = b)) :=
  same_of a b (fun _ _ _ _ hx hy => bnd (idxO_of hx) (bnd (idxO_of hy) stepE))
theorem slEqual2 (a b : List (List Int)) : F_slices_EqualFunc_int_int_int_int_slices_Equal_int_int a b = some (decide (a = b)) :=
  same_of a b (fun _ _ x y hx hy => bnd (idxO_of hx) (bnd (idxO_of hy) (bnd (slEqual x y) stepE)))
theorem equalMat (a b : Mat) : F_impl_equalMatrices a b = some (decide (a = b)) := by
  obtain ⟨c, m⟩ := a
  obtain ⟨d, n⟩ := b
  refine bnd (a := decide ((c, m) = (d, n))) (stp ?_) rfl
  by_cases h : c = d
  · refine cTW (dT h) (bnd (bnd (slEqual2 m n) rfl) ?_)
    subst h
    simp
  · refine cFW (dF h) ?_
    rw [dF (fun h2 => h (Prod.ext_iff.1 h2).1)]
theorem equalMats (a b : List Mat) : F_slices_EqualFunc_impl_Matrix_impl_Matrix_impl_Matrix_impl_Matrix_impl_equalMatrices a b = some (decide (a = b)) :=
  same_of a b (fun _ _ x y hx hy => bnd (idxO_of hx) (bnd (idxO_of hy) (bnd (equalMat x y) stepE)))
def twoB (p : Int) (a b : SSt) : Bool := ssB p a && (ssB p b && (decide (a.2.1 = b.2.1) && decide (a.2.2.1 = b.2.2.1)))
theorem ssTwo (p : Int) (a b : SSt) : F_spec_ssTwo p a b = some (twoB p a b) := by
  refine bnd (a := twoB p a b) ?_ rfl
  refine bndB (ssGood p a) (fun _ => rfl) (fun _ => cTW rfl ?_)
  refine bndB (ssGood p b) (fun _ => rfl) (fun _ => cTW rfl (stp ?_))
  cases decide (a.2.1 = b.2.1) <;> rfl
theorem twoSS (p : Int) (a b : SSt) : F_impl_twoStateSpaces p a b = some (twoB p a b) := by
  refine bnd (a := twoB p a b) ?_ rfl
  refine bndB (isSS p a) (fun _ => rfl) (fun _ => cTW rfl ?_)
  refine bndB (isSS p b) (fun _ => rfl) (fun _ => cTW rfl (stp ?_))
  cases decide (a.2.1 = b.2.1) <;> rfl
theorem mkv_fst (p : Int) (n o : Nat) (s : SSt) : ∀ j, ∀ m ∈ (mkv p n o s j).1, m.1 = o
  | 0, m, hm => by cases hm
  | j + 1, m, hm => by
    rw [mkv_succ] at hm
    split at hm
    all_goals
      rcases List.mem_append.1 hm with h | h
      · exact mkv_fst p n o s j m h
      · rw [List.mem_singleton.1 h]
def sameB (p : Int) (a b : SSt) : Bool := decide ((mkv p a.1.toNat a.2.2.1.toNat a (a.1 + b.1 + 1).toNat).1 = (mkv p b.1.toNat b.2.2.1.toNat b (a.1 + b.1 + 1).toNat).1)
theorem sameSpec {p : Int} {a b : SSt} (h : twoB p a b = true) : F_spec_ssSame p a b = some (sameB p a b) := by
  unfold twoB at h
  simp only [Bool.and_eq_true, decide_eq_true_eq] at h
  obtain ⟨ha, hb, h1, h2⟩ := h
  obtain ⟨n, k, o, sa⟩ := ssB_ok ha
  obtain ⟨n', k', o', sb⟩ := ssB_ok hb
  have e1 := sa.h1; have e2 := sb.h1; have e3 := sa.h3; have e4 := sb.h3
  have g1 := sa.hn; have g2 := sb.hn
  unfold sameB
  rw [show a.1.toNat = n by omega, show b.1.toNat = n' by omega, show a.2.2.1.toNat = o by omega, show b.2.2.1.toNat = o' by omega]
  obtain ⟨q, hq⟩ : ∃ q : Nat, a.1 + b.1 + 1 = (q : Int) := ⟨(a.1 + b.1 + 1).toNat, by omega⟩
  refine bnd (addO_of (by omega) (by omega)) (bnd (addO_of (by omega) (by omega)) ?_)
  rw [hq, Int.toNat_natCast]
  refine bnd (ssMarkov_ sa q (by omega)) (bnd (ssMarkov_ sb q (by omega)) ?_)
  refine sqW (forO_eq9 _ (mkv p n' o' b q).1 0 (by rw [(mkv_ok sa q).1, (mkv_ok sb q).1]) ?_) ?_
  · intro j x y hx hy
    rw [Nat.zero_add]
    refine bnd (idxO_of hx) (bnd (idxO_of hy) (bnd (spSame x.2 y.2) ?_))
    have f1 := mkv_fst p n o a q x (mem_of_get hx)
    have f2 := mkv_fst p n' o' b q y (mem_of_get hy)
    have hxy : (x.2 = y.2) ↔ x = y := ⟨fun h => Prod.ext (by omega) h, fun h => by rw [h]⟩
    rw [show decide (x.2 = y.2) = decide (x = y) from decide_eq_decide.2 hxy]
    exact stepE
  · by_cases h : (mkv p n o a q).1 = (mkv p n' o' b q).1
    · rw [if_pos h, dT h]; rfl
    · rw [if_neg h, dF h]; rfl
theorem sameImpl {p : Int} {a b : SSt} (h : twoB p a b = true) : F_impl_sameOutputs p a b = some (sameB p a b) := by
  unfold twoB at h
  simp only [Bool.and_eq_true, decide_eq_true_eq] at h
  obtain ⟨ha, hb, h1, h2⟩ := h
  obtain ⟨n, k, o, sa⟩ := ssB_ok ha
  obtain ⟨n', k', o', sb⟩ := ssB_ok hb
  have e1 := sa.h1; have e2 := sb.h1; have e3 := sa.h3; have e4 := sb.h3
  have g1 := sa.hn; have g2 := sb.hn
  unfold sameB
  rw [show a.1.toNat = n by omega, show b.1.toNat = n' by omega, show a.2.2.1.toNat = o by omega, show b.2.2.1.toNat = o' by omega]
  obtain ⟨q, hq⟩ : ∃ q : Nat, a.1 + b.1 + 1 = (q : Int) := ⟨(a.1 + b.1 + 1).toNat, by omega⟩
  refine bnd (addO_of (by omega) (by omega)) (bnd (addO_of (by omega) (by omega)) ?_)
  rw [hq, Int.toNat_natCast]
  exact bnd (markov_ sa q (by omega)) (bnd (markov_ sb q (by omega)) (bnd (equalMats _ _) rfl))
end Go.Proofs.YtocpeclcoikdpaaDoor
namespace Go.Proofs.YtocpeclcoikdpaaDoor
def nIntSS (a : List (List Int)) : Nat := rowsN a
def lensIntSS (a : List (List Int)) : Prop := lensOk a
theorem niceLensIntSS {a : List (List Int)} (h : Nice.ok a) : lensIntSS a := niceLens h
def cIntS (a : List Int) : Nat := rowN a
def cIntSS (a : List (List Int)) : Nat := tot rowN a
theorem cIntSS_le (a : List (List Int)) : cIntSS a ≤ 8 * nIntSS a := by unfold cIntSS nIntSS rowsN; omega
def mk_IntS := mkS
def mk_IntSS := mkSS
theorem mk_IntS_snd (a : List Int) (k : Int) : (mk_IntS a k).2 = k + cIntS a := mkS_snd a k
theorem mk_IntSS_snd (a : List (List Int)) (k : Int) : (mk_IntSS a k).2 = k + cIntSS a := mkSS_snd a k
theorem z_IntSS (a : List (List Int)) (left : Int) (h0 : 0 ≤ left) (h1 : left ≤ bigN) (hl : lensIntSS a) : F_laws_szIntSS a left = some (if (nIntSS a : Int) ≤ left then left - nIntSS a else -1) := szIntSS a left h0 h1 hl
theorem t_IntSS (a : List (List Int)) (h : nIntSS a ≤ 1048576) : F_laws_toIntSS a = some a := toIntSS_of a h
theorem e_IntSS (a : List (List Int)) (h : nIntSS a ≤ 1048576) : F_laws_eqIntSS a a = some true := eqIntSS_same a (lensOk_of h)
theorem m_IntSS (a : List (List Int)) (k : Int) (h0 : 0 ≤ k) (h : k + 8 * nIntSS a ≤ 1125899906842624) : F_laws_markIntSS a k = some (mk_IntSS a k) := markIntSS a k h0 (by unfold nIntSS rowsN at h; unfold bigN; omega) (by unfold nIntSS rowsN at h; unfold bigN; omega)
theorem h_IntSS (a : List (List Int)) (k : Int) (h0 : 0 ≤ k) (h : k + 8 * nIntSS a ≤ 1125899906842624) : F_laws_heldIntSS (mk_IntSS a k).1 k = some (k + cIntSS a) := heldIntSS a k h0 (by unfold nIntSS rowsN at h; unfold bigN; omega) (by unfold nIntSS rowsN at h; unfold bigN; omega)
end Go.Proofs.YtocpeclcoikdpaaDoor
namespace Go.Proofs.YtocpeclcoikdpaaDoor

abbrev TyMatrix := Int × (List (List Int))
def nMatrix (a : TyMatrix) : Nat := nIntSS a.2
theorem e_Matrix (a : TyMatrix) (h : nMatrix a ≤ 1048576) : F_laws_eqMatrix a a = some true := by
  unfold nMatrix at h
  exact stp (cFW (nT (dT rfl)) (bnd (e_IntSS a.2 (by omega)) (stp (cFW rfl (rfl)))))
def mk_Matrix (a : TyMatrix) (k : Int) : TyMatrix × Int := ((a.1, (mk_IntSS a.2 k).1), (mk_IntSS a.2 k).2)
def cMatrix (a : TyMatrix) : Nat := cIntSS a.2
theorem cMatrix_le (a : TyMatrix) : cMatrix a ≤ 8 * nMatrix a := by
  unfold cMatrix nMatrix
  have h1 := cIntSS_le a.2
  omega
theorem mk_Matrix_snd (a : TyMatrix) (k : Int) : (mk_Matrix a k).2 = k + cMatrix a := by
  unfold mk_Matrix cMatrix
  simp only [mk_IntSS_snd]
  try omega
theorem m_Matrix (a : TyMatrix) (k : Int) (h0 : 0 ≤ k) (h : k + 8 * nMatrix a ≤ 1125899906842624) : F_laws_markMatrix a k = some (mk_Matrix a k) := by
  unfold nMatrix at h
  have h1 := cIntSS_le a.2
  exact bnd (m_IntSS _ _ h0 (by omega)) (rfl)
theorem h_Matrix (a : TyMatrix) (k : Int) (h0 : 0 ≤ k) (h : k + 8 * nMatrix a ≤ 1125899906842624) : F_laws_heldMatrix (mk_Matrix a k).1 k = some (k + cMatrix a) := by
  unfold nMatrix at h
  have h1 := cIntSS_le a.2
  have e0 : F_laws_heldIntSS (mk_IntSS a.2 k).1 k = some (k + cIntSS a.2) := h_IntSS _ _ h0 (by omega)
  unfold cMatrix mk_Matrix
  refine bnd e0 (stp (cFW (dF (by omega)) ?_))
  refine congrArg some ?_
  try simp only [mk_IntS_snd, mk_IntSS_snd]
  try omega
abbrev TyStateSpace := Int × Int × Int × (List (List Int)) × (List (List Int)) × (List (List Int)) × (List (List Int))
def nStateSpace (a : TyStateSpace) : Nat := nIntSS a.2.2.2.1 + nIntSS a.2.2.2.2.1 + nIntSS a.2.2.2.2.2.1 + nIntSS a.2.2.2.2.2.2
def lensStateSpace (a : TyStateSpace) : Prop := lensIntSS a.2.2.2.1 ∧ lensIntSS a.2.2.2.2.1 ∧ lensIntSS a.2.2.2.2.2.1 ∧ lensIntSS a.2.2.2.2.2.2
theorem z_StateSpace (a : TyStateSpace) (left : Int) (h0 : 0 ≤ left) (h1 : left ≤ bigN) (hl : lensStateSpace a) : F_laws_szStateSpace a left = some (if (nStateSpace a : Int) ≤ left then left - nStateSpace a else -1) := by
  unfold bigN at h1
  obtain ⟨l0, l1, l2, l3⟩ := hl
  unfold nStateSpace
  refine bnd (z_IntSS a.2.2.2.1 (left) (by omega) (by unfold bigN; omega) l0) (stp ?_)
  by_cases g0 : (nIntSS a.2.2.2.1 : Int) ≤ left
  case neg =>
    rw [if_neg g0]; try rw [if_neg (by omega)]
    exact cTW (dT (by omega)) rfl
  rw [if_pos g0]
  refine cFW (dF (by omega)) ?_
  refine bnd (z_IntSS a.2.2.2.2.1 (left - nIntSS a.2.2.2.1) (by omega) (by unfold bigN; omega) l1) (stp ?_)
  by_cases g1 : (nIntSS a.2.2.2.2.1 : Int) ≤ left - nIntSS a.2.2.2.1
  case neg =>
    rw [if_neg g1]; try rw [if_neg (by omega)]
    exact cTW (dT (by omega)) rfl
  rw [if_pos g1]
  refine cFW (dF (by omega)) ?_
  refine bnd (z_IntSS a.2.2.2.2.2.1 (left - nIntSS a.2.2.2.1 - nIntSS a.2.2.2.2.1) (by omega) (by unfold bigN; omega) l2) (stp ?_)
  by_cases g2 : (nIntSS a.2.2.2.2.2.1 : Int) ≤ left - nIntSS a.2.2.2.1 - nIntSS a.2.2.2.2.1
  case neg =>
    rw [if_neg g2]; try rw [if_neg (by omega)]
    exact cTW (dT (by omega)) rfl
  rw [if_pos g2]
  refine cFW (dF (by omega)) ?_
  refine bnd (z_IntSS a.2.2.2.2.2.2 (left - nIntSS a.2.2.2.1 - nIntSS a.2.2.2.2.1 - nIntSS a.2.2.2.2.2.1) (by omega) (by unfold bigN; omega) l3) (stp ?_)
  by_cases g3 : (nIntSS a.2.2.2.2.2.2 : Int) ≤ left - nIntSS a.2.2.2.1 - nIntSS a.2.2.2.2.1 - nIntSS a.2.2.2.2.2.1
  case neg =>
    rw [if_neg g3]; try rw [if_neg (by omega)]
    exact cTW (dT (by omega)) rfl
  rw [if_pos g3]
  try rw [if_pos (by omega)]
  refine cFW (dF (by omega)) ?_
  congr 1; try omega
theorem niceLensStateSpace {a : TyStateSpace} (h : Nice.ok a) : lensStateSpace a := by
  obtain ⟨h0, h1, h2, h3, h4, h5, h6⟩ := h
  exact ⟨niceLensIntSS h3, niceLensIntSS h4, niceLensIntSS h5, niceLensIntSS h6⟩
theorem t_StateSpace (a : TyStateSpace) (h : nStateSpace a ≤ 1048576) : F_laws_toStateSpace a = some a := by
  unfold nStateSpace at h
  exact bnd (t_IntSS a.2.2.2.1 (by omega)) (bnd (t_IntSS a.2.2.2.2.1 (by omega)) (bnd (t_IntSS a.2.2.2.2.2.1 (by omega)) (bnd (t_IntSS a.2.2.2.2.2.2 (by omega)) (rfl))))
theorem e_StateSpace (a : TyStateSpace) (h : nStateSpace a ≤ 1048576) : F_laws_eqStateSpace a a = some true := by
  unfold nStateSpace at h
  exact stp (cFW (nT (dT rfl)) (stp (cFW (nT (dT rfl)) (stp (cFW (nT (dT rfl)) (bnd (e_IntSS a.2.2.2.1 (by omega)) (stp (cFW rfl (bnd (e_IntSS a.2.2.2.2.1 (by omega)) (stp (cFW rfl (bnd (e_IntSS a.2.2.2.2.2.1 (by omega)) (stp (cFW rfl (bnd (e_IntSS a.2.2.2.2.2.2 (by omega)) (stp (cFW rfl (rfl))))))))))))))))))
def mk_StateSpace (a : TyStateSpace) (k : Int) : TyStateSpace × Int := ((a.1, a.2.1, a.2.2.1, (mk_IntSS a.2.2.2.1 k).1, (mk_IntSS a.2.2.2.2.1 (mk_IntSS a.2.2.2.1 k).2).1, (mk_IntSS a.2.2.2.2.2.1 (mk_IntSS a.2.2.2.2.1 (mk_IntSS a.2.2.2.1 k).2).2).1, (mk_IntSS a.2.2.2.2.2.2 (mk_IntSS a.2.2.2.2.2.1 (mk_IntSS a.2.2.2.2.1 (mk_IntSS a.2.2.2.1 k).2).2).2).1), (mk_IntSS a.2.2.2.2.2.2 (mk_IntSS a.2.2.2.2.2.1 (mk_IntSS a.2.2.2.2.1 (mk_IntSS a.2.2.2.1 k).2).2).2).2)
def cStateSpace (a : TyStateSpace) : Nat := cIntSS a.2.2.2.1 + cIntSS a.2.2.2.2.1 + cIntSS a.2.2.2.2.2.1 + cIntSS a.2.2.2.2.2.2
theorem cStateSpace_le (a : TyStateSpace) : cStateSpace a ≤ 8 * nStateSpace a := by
  unfold cStateSpace nStateSpace
  have h3 := cIntSS_le a.2.2.2.1
  have h4 := cIntSS_le a.2.2.2.2.1
  have h5 := cIntSS_le a.2.2.2.2.2.1
  have h6 := cIntSS_le a.2.2.2.2.2.2
  omega
theorem mk_StateSpace_snd (a : TyStateSpace) (k : Int) : (mk_StateSpace a k).2 = k + cStateSpace a := by
  unfold mk_StateSpace cStateSpace
  simp only [mk_IntSS_snd]
  try omega
theorem m_StateSpace (a : TyStateSpace) (k : Int) (h0 : 0 ≤ k) (h : k + 8 * nStateSpace a ≤ 1125899906842624) : F_laws_markStateSpace a k = some (mk_StateSpace a k) := by
  unfold nStateSpace at h
  have h3 := cIntSS_le a.2.2.2.1
  have h4 := cIntSS_le a.2.2.2.2.1
  have h5 := cIntSS_le a.2.2.2.2.2.1
  have h6 := cIntSS_le a.2.2.2.2.2.2
  exact bnd (m_IntSS _ _ h0 (by omega)) (bnd (m_IntSS _ _ (by simp only [mk_IntSS_snd]; omega) (by simp only [mk_IntSS_snd]; omega)) (bnd (m_IntSS _ _ (by simp only [mk_IntSS_snd]; omega) (by simp only [mk_IntSS_snd]; omega)) (bnd (m_IntSS _ _ (by simp only [mk_IntSS_snd]; omega) (by simp only [mk_IntSS_snd]; omega)) (rfl))))
end Go.Proofs.YtocpeclcoikdpaaDoor
namespace Go.Proofs.YtocpeclcoikdpaaDoor
set_option linter.unusedVariables false

/-! ### rows after rows -/
theorem gr_app1 {a b : Rows} {i : Nat} (h : i < a.length) : gr (a ++ b) i = gr a i := by
  unfold gr; rw [List.getD_eq_getElem?_getD, List.getD_eq_getElem?_getD, List.getElem?_append_left h]
theorem gr_app2 {a b : Rows} (i : Nat) : gr (a ++ b) (a.length + i) = gr b i := by
  unfold gr; rw [List.getD_eq_getElem?_getD, List.getD_eq_getElem?_getD, List.getElem?_append_right (by omega), Nat.add_sub_cancel_left]
theorem span_app1 {p : Int} {n : Nat} {a b : Rows} : subSpan p n a (a ++ b) := fun i hi => by
  rw [← gr_app1 (b := b) hi]; exact inSpan_row (by rw [List.length_append]; omega)
theorem span_app2 {p : Int} {n : Nat} {a b : Rows} : subSpan p n b (a ++ b) := fun i hi => by
  rw [← gr_app2 (a := a) i]; exact inSpan_row (by rw [List.length_append]; omega)
theorem app_span {p : Int} {n : Nat} {a b c : Rows} (h1 : subSpan p n a c) (h2 : subSpan p n b c) : subSpan p n (a ++ b) c := by
  intro i hi
  by_cases h : i < a.length
  · rw [gr_app1 h]; exact h1 i h
  · rw [List.length_append] at hi
    have := h2 (i - a.length) (by omega)
    rw [show i = a.length + (i - a.length) by omega, gr_app2]; exact this
theorem okM_app {p : Int} {n : Nat} {a b : Rows} (h1 : okM p n a) (h2 : okM p n b) : okM p n (a ++ b) :=
  fun r hr => (List.mem_append.1 hr).elim (h1 r) (h2 r)
theorem rowsN_small {p : Int} {n : Nat} {m : Rows} (h : okM p n m) (hn : n ≤ 200) (hk : m.length ≤ 1000) : rowsN m ≤ 1048576 := by
  unfold rowsN
  have := tot_le (n := rowN) (c := 200) (l := m) (fun r hr => by have := (h r hr).1; unfold rowN; omega)
  omega

/-! ### the states that are reached -/
def rc (p : Int) (n : Nat) (A B : Rows) : Nat → Rows
  | 0 => redM p n B
  | k + 1 => redM p n (rc p n A B k ++ mulM p n (rc p n A B k) A)
section
variable {p : Int} {n : Nat} {A B : Rows}
theorem rc_red (hf : fdB p = true) (hn : n ≤ 200) (hA : okM p n A) (hAl : A.length = n) (hB : okM p n B) : ∀ k, Red p n (rc p n A B k)
  | 0 => redM_red hf hB
  | k + 1 => by
    have hm : maxN = 1099511627776 := rfl
    exact redM_red hf (okM_app (rc_red hf hn hA hAl hB k).ok (mulM_ok (fdB_rng hf) (by omega) hA (rc_red hf hn hA hAl hB k).ok (by omega)))
theorem rc_app (hf : fdB p = true) (hn : n ≤ 200) (hA : okM p n A) (hAl : A.length = n) (hB : okM p n B) (k : Nat) : okM p n (rc p n A B k ++ mulM p n (rc p n A B k) A) := by
  have hm : maxN = 1099511627776 := rfl
  exact okM_app (rc_red hf hn hA hAl hB k).ok (mulM_ok (fdB_rng hf) (by omega) hA (rc_red hf hn hA hAl hB k).ok (by omega))
theorem rc_len (hf : fdB p = true) (hn : n ≤ 200) (hA : okM p n A) (hAl : A.length = n) (hB : okM p n B) : ∀ k, (rc p n A B k).length ≤ n
  | 0 => (redM_ok (n := n) (fdB_rng hf).1 hB).2.2
  | k + 1 => (redM_ok (n := n) (fdB_rng hf).1 (rc_app hf hn hA hAl hB k)).2.2
theorem rc_step (hf : fdB p = true) (hn : n ≤ 200) (hA : okM p n A) (hAl : A.length = n) (hB : okM p n B) (k : Nat) : subSpan p n (rc p n A B k) (rc p n A B (k + 1)) :=
  subSpan_trans span_app1 (redM_span hf (rc_app hf hn hA hAl hB k)).2
theorem rc_stable (hf : fdB p = true) (hn : n ≤ 200) (hA : okM p n A) (hAl : A.length = n) (hB : okM p n B) {k : Nat} (h : (rc p n A B (k + 1)).length = (rc p n A B k).length) : ∀ d, rc p n A B (k + d) = rc p n A B k
  | 0 => rfl
  | d + 1 => by
    have h1 := red_eq (fdB_rng hf).1 (rc_red hf hn hA hAl hB k) (rc_red hf hn hA hAl hB (k + 1)) (rc_step hf hn hA hAl hB k) h.symm
    show redM p n (rc p n A B (k + d) ++ mulM p n (rc p n A B (k + d)) A) = _
    rw [rc_stable hf hn hA hAl hB h d]
    exact h1.symm
theorem rc_grow (hf : fdB p = true) (hn : n ≤ 200) (hA : okM p n A) (hAl : A.length = n) (hB : okM p n B) : ∀ d, (∀ j, j < d → (rc p n A B (j + 1)).length ≠ (rc p n A B j).length) → d ≤ (rc p n A B d).length
  | 0, _ => Nat.zero_le _
  | d + 1, h => by
    have h1 := rc_grow hf hn hA hAl hB d (fun j hj => h j (by omega))
    have h2 := red_len_le (fdB_rng hf).1 (rc_red hf hn hA hAl hB d) (rc_red hf hn hA hAl hB (d + 1)) (rc_step hf hn hA hAl hB d)
    have h3 := h d (by omega)
    omega
theorem first_of {P : Nat → Prop} [DecidablePred P] : ∀ d, (∀ j, j < d → ¬ P j) ∨ ∃ k, k < d ∧ (∀ j, j < k → ¬ P j) ∧ P k
  | 0 => .inl (fun j hj => by omega)
  | d + 1 => by
    rcases first_of (P := P) d with h | ⟨k, h1, h2, h3⟩
    · by_cases hd : P d
      · exact .inr ⟨d, by omega, h, hd⟩
      · exact .inl (fun j hj => by
          by_cases hjd : j = d
          · rw [hjd]; exact hd
          · exact h j (by omega))
    · exact .inr ⟨k, by omega, h2, h3⟩
theorem rc_stop (hf : fdB p = true) (hn : n ≤ 200) (hA : okM p n A) (hAl : A.length = n) (hB : okM p n B) : ∃ k, k ≤ n ∧ (∀ j, j < k → (rc p n A B (j + 1)).length ≠ (rc p n A B j).length) ∧ (rc p n A B (k + 1)).length = (rc p n A B k).length := by
  rcases first_of (P := fun j => (rc p n A B (j + 1)).length = (rc p n A B j).length) (n + 1) with h | ⟨k, h1, h2, h3⟩
  · have h1 := rc_grow hf hn hA hAl hB (n + 1) h
    have h2 := rc_len hf hn hA hAl hB (n + 1)
    omega
  · exact ⟨k, by omega, h2, h3⟩
/-- what the loops compute -/
def rcN (p : Int) (n : Nat) (A B : Rows) : Rows := rc p n A B n
theorem rcN_red (hf : fdB p = true) (hn : n ≤ 200) (hA : okM p n A) (hAl : A.length = n) (hB : okM p n B) : Red p n (rcN p n A B) := rc_red hf hn hA hAl hB n
theorem rcN_len (hf : fdB p = true) (hn : n ≤ 200) (hA : okM p n A) (hAl : A.length = n) (hB : okM p n B) : (rcN p n A B).length ≤ n := rc_len hf hn hA hAl hB n
end
theorem spJoin_ {a b : Rows} (h : a.length + b.length ≤ maxN) : F_spec_spJoin a b = some (a ++ b) :=
  bnd (appO_of (by simp; omega)) (bnd (appO_of (by simp; omega)) rfl)
theorem ssReach_ {p : Int} {n : Nat} {s : SSt} (hf : fdB p = true) (h1 : s.1 = (n : Int)) (hn : n ≤ 200) (hA : okM p n s.2.2.2.1) (hAl : s.2.2.2.1.length = n) (hB : okM p n s.2.2.2.2.1) (hBl : s.2.2.2.2.1.length ≤ 1048576) :
    F_spec_ssReach p s = some (rcN p n s.2.2.2.1 s.2.2.2.2.1) := by
  have hm : maxN = 1099511627776 := rfl
  obtain ⟨s1, ki, ko, A, B, C, D⟩ := s
  dsimp only at h1 hA hAl hB hBl ⊢
  subst h1
  obtain ⟨k, hk, hne, heq⟩ := rc_stop hf hn hA hAl hB
  have hst := rc_stable hf hn hA hAl hB heq (n - k)
  rw [show k + (n - k) = n by omega] at hst
  unfold rcN
  rw [hst]
  have one : ∀ j, F_spec_ssTimes p (n : Int) (rc p n A B j) A = some (mulM p n (rc p n A B j) A) := fun j =>
    ssTimes_ (fdB_rng hf) (by omega) hA (rc_red hf hn hA hAl hB j).ok (by omega) (by have := rc_len hf hn hA hAl hB j; omega)
  have two : ∀ j, F_spec_spJoin (rc p n A B j) (mulM p n (rc p n A B j) A) = some (rc p n A B j ++ mulM p n (rc p n A B j) A) := fun j =>
    spJoin_ (by rw [mulM_len]; have := rc_len hf hn hA hAl hB j; omega)
  have three : ∀ j, F_spec_spReduce p (n : Int) (rc p n A B j ++ mulM p n (rc p n A B j) A) = some (rc p n A B (j + 1)) := fun j =>
    spReduce_ hf (Nat.le_refl n) (by omega) (rc_app hf hn hA hAl hB j) (by rw [List.length_append, mulM_len]; have := rc_len hf hn hA hAl hB j; omega)
  refine bnd (spReduce_ hf (Nat.le_refl n) (by omega) hB hBl) (whileO_is (fun j => rc p n A B j) k ?_ ?_)
  · intro j hj
    exact bnd (one j) (bnd (two j) (bnd (three j) (stp (cFW (dF (by have := hne j hj; omega)) rfl))))
  · exact bnd (one k) (bnd (two k) (bnd (three k) (stp (cTW (dT (by rw [heq])) rfl))))
theorem reachable_ {p : Int} {n : Nat} {s : SSt} (hf : fdB p = true) (h1 : s.1 = (n : Int)) (hn : n ≤ 200) (hA : okM p n s.2.2.2.1) (hAl : s.2.2.2.1.length = n) (hB : okM p n s.2.2.2.2.1) (hBl : s.2.2.2.2.1.length ≤ 1048576) :
    F_impl_StateSpace_reachable s p = some (rcN p n s.2.2.2.1 s.2.2.2.2.1) := by
  have hm : maxN = 1099511627776 := rfl
  obtain ⟨s1, ki, ko, A, B, C, D⟩ := s
  dsimp only at h1 hA hAl hB hBl ⊢
  subst h1
  refine bnd (reduced_ hf (Nat.le_refl n) (by omega) hB hBl) (bnd (cI_of ⟨by omega, by omega⟩) (bnd (forS_is (fun j => rc p n A B j) ?_) rfl))
  intro j hj
  have hl := rc_len hf hn hA hAl hB j
  have hok := (rc_red hf hn hA hAl hB j).ok
  refine bnd (clones_ (by omega) (rowsP_len hok (by omega))) (bnd (product_ (fdB_rng hf) (by omega) hA hok (Nat.le_of_eq hAl) (by omega)) (bnd (appO_of (by rw [mulM_len]; omega)) ?_))
  exact bnd (reduced_ hf (Nat.le_refl n) (by omega) (rc_app hf hn hA hAl hB j) (by rw [List.length_append, mulM_len]; omega)) rfl
theorem ssB_f {p : Int} {s : SSt} (h : ssB p s = true) : fdB p = true := by
  unfold ssB at h
  simp only [Bool.and_eq_true] at h
  exact h.1.1.1.1.1.1.1
theorem SSok.reachS {p : Int} {n k o : Nat} {s : SSt} (h : SSok p n k o s) (hf : fdB p = true) : F_spec_ssReach p s = some (rcN p n s.2.2.2.1 s.2.2.2.2.1) := by
  have := h.hn; have := h.hk; have := h.b.1
  exact ssReach_ hf h.h1 (by omega) h.a.2 h.a.1 h.b.2 (by omega)
theorem SSok.reachI {p : Int} {n k o : Nat} {s : SSt} (h : SSok p n k o s) (hf : fdB p = true) : F_impl_StateSpace_reachable s p = some (rcN p n s.2.2.2.1 s.2.2.2.2.1) := by
  have := h.hn; have := h.hk; have := h.b.1
  exact reachable_ hf h.h1 (by omega) h.a.2 h.a.1 h.b.2 (by omega)

/-! ### realizations -/
end Go.Proofs.YtocpeclcoikdpaaDoor
namespace Go.Proofs.YtocpeclcoikdpaaDoor

theorem okR_app {p : Int} {l r : Nat} {x y : List Int} (hx : okR p l x) (hy : okR p r y) : okR p (l + r) (x ++ y) :=
  ⟨by rw [List.length_append, hx.1, hy.1], fun z hz => by rcases List.mem_append.1 hz with h | h; exact hx.2 z h; exact hy.2 z h⟩

/-! ### inclusion -/

/-! ### ports that are never inputs -/
end Go.Proofs.YtocpeclcoikdpaaDoor
namespace Go.Proofs.YtocpeclcoikdpaaDoor
set_option linter.unusedVariables false

theorem fdNeg_ {p a : Int} (hp : 2 ≤ p ∧ p ≤ 97) (ha : 0 ≤ a ∧ a < p) : F_spec_fdNeg p a = some ((p - a) % p) := by
  refine bnd (subO_of (by omega) (by omega)) (bnd (remO_of (by omega)) ?_)
  rw [Int.tmod_eq_emod_of_nonneg (by omega)]

/-! ### identity matrices -/
def unitN (n i : Nat) : List Int := (List.replicate n 0).set i 1
def idN (n : Nat) : Rows := (List.range n).map (unitN n)
theorem unitN_ok {p : Int} (hp : 2 ≤ p) (n i : Nat) : okR p n (unitN n i) := by
  refine ⟨by simp [unitN], fun x hx => ?_⟩
  rcases List.mem_or_eq_of_mem_set hx with h | rfl
  · have := List.eq_of_mem_replicate h; omega
  · omega
theorem idN_len (n : Nat) : (idN n).length = n := by simp [idN]
theorem idN_ok {p : Int} (hp : 2 ≤ p) (n : Nat) : okM p n (idN n) := by
  intro x hx
  obtain ⟨i, hi, rfl⟩ := List.mem_map.1 hx
  exact unitN_ok hp n i
theorem unit_ {n i : Nat} (hi : i < n) (hn : n ≤ maxN) : F_impl_unit (n : Int) (i : Int) = some (unitN n i) :=
  bnd (zeros_ hn) (bnd (setO_of _ (by simpa using hi)) rfl)
theorem idN_succ (n k : Nat) : (List.range (k + 1)).map (unitN n) = (List.range k).map (unitN n) ++ [unitN n k] := by simp [List.range_succ]
theorem identityRows_ {n : Nat} (hn : n ≤ 1048576) : F_impl_identityRows (n : Int) = some (idN n) := by
  have hm : maxN = 1099511627776 := rfl
  refine bnd (cI_of ⟨by omega, by omega⟩) ?_
  rw [Int.toNat_natCast]
  refine bnd (forS_is (fun k => (List.range k).map (unitN n)) ?_) rfl
  intro k hk
  exact bnd (unit_ hk (by omega)) (bnd (appO_of (by simp; omega)) (by rw [idN_succ]))
/-- the reduction of a matrix of n columns with its transforming matrix -/
def redT (p : Int) (n : Nat) (m : Rows) : Rows × Rows × Nat := redLoop p n 0 m (idN m.length) 0

/-! ### linear equations -/
theorem redT_facts {p : Int} {n : Nat} {m : Rows} (hf : fdB p = true) (h : okM p n m) : (redT p n m).2.2 ≤ m.length ∧ (redT p n m).1.length = m.length ∧ (redT p n m).2.1.length = m.length ∧ okM p m.length (redT p n m).2.1 ∧ okM p n (redT p n m).1 ∧ Red p n ((redT p n m).1.take (redT p n m).2.2) := by
  have hp := fdB_rng hf
  obtain ⟨k1, k2, k3, k4, k5, k6, k7⟩ := redLoop_ok hp.1 n 0 m (idN m.length) 0 h (idN_ok hp.1 m.length) (idN_len _) (by omega)
  have e : (redT p n m).1.take (redT p n m).2.2 = redM p n m := by
    obtain ⟨e1, e2⟩ := redLoop_any p n 0 m (idN m.length) m 0
    unfold redT redM; rw [e1, e2]
  exact ⟨k6, k3, k4, k2, k1, by rw [e]; exact redM_red hf h⟩
end Go.Proofs.YtocpeclcoikdpaaDoor
namespace Go.Proofs.YtocpeclcoikdpaaDoor
set_option linter.unusedVariables false

/-! ### lists of ports -/
/-- ports of n, strictly increasing -/
structure Ports (l : List Int) (n : Nat) : Prop where
  rng : ∀ k, k < l.length → 0 ≤ el l k ∧ el l k < (n : Int)
  inc : ∀ i j, i < j → j < l.length → el l i < el l j
theorem Ports.inj {l : List Int} {n : Nat} (h : Ports l n) {i j : Nat} (hi : i < l.length) (hj : j < l.length) (he : el l i = el l j) : i = j := by
  rcases Nat.lt_trichotomy i j with h1 | h1 | h1
  · have := h.inc i j h1 hj; omega
  · exact h1
  · have := h.inc j i h1 hi; omega
theorem Ports.len {l : List Int} {n : Nat} (h : Ports l n) : l.length ≤ n := by
  have key : ∀ k, k < l.length → (k : Int) ≤ el l k := fun k hk => by
    induction k with
    | zero => have := h.rng 0 hk; omega
    | succ k ih => have := ih (by omega); have := h.inc k (k + 1) (by omega) hk; omega
  rcases Nat.eq_zero_or_pos l.length with h0 | h0
  · omega
  · have := key (l.length - 1) (by omega)
    have := (h.rng (l.length - 1) (by omega)).2
    omega

/-! ### the other ports -/

/-! ### rows at ports -/
/-- indices below n -/
def below (l : List Int) (n : Nat) : Prop := ∀ k, k < l.length → 0 ≤ el l k ∧ el l k < (n : Int)

/-! ### ports that are always inputs -/
end Go.Proofs.YtocpeclcoikdpaaDoor
namespace Go.Proofs.YtocpeclcoikdpaaDoor
set_option linter.unusedVariables false

/-! ### rows beside rows -/
def catM (m a : Rows) : Rows := List.zipWith (fun x y => x ++ y) m a
theorem catM_len {m a : Rows} (h : a.length = m.length) : (catM m a).length = m.length := by simp [catM, h]
theorem catM_gr : ∀ {m a : Rows} {i : Nat}, a.length = m.length → gr (catM m a) i = gr m i ++ gr a i
  | [], [], i, _ => by simp [catM, gr]
  | [], _ :: _, _, h => by simp at h
  | _ :: _, [], _, h => by simp at h
  | x :: m, y :: a, 0, _ => by rw [gr_zero, gr_zero]; rfl
  | x :: m, y :: a, i + 1, h => by
    rw [gr_succ, gr_succ]
    show gr ((x ++ y) :: catM m a) (i + 1) = _
    rw [gr_succ]
    exact catM_gr (by simpa using h)
theorem el_app {x y : List Int} {j : Nat} : el (x ++ y) j = if j < x.length then el x j else el y (j - x.length) := by
  unfold el
  rw [List.getD_eq_getElem?_getD, List.getD_eq_getElem?_getD, List.getD_eq_getElem?_getD]
  split
  · rename_i h; rw [List.getElem?_append_left h]
  · rename_i h; rw [List.getElem?_append_right (by omega)]
theorem catM_ok {p : Int} {k q : Nat} {m a : Rows} (hl : a.length = m.length) (h : okM p k m) (ha : okM p q a) : okM p (k + q) (catM m a) := by
  intro x hx
  obtain ⟨i, hi, rfl⟩ := List.mem_iff_getElem.1 hx
  rw [catM_len hl] at hi
  have e : gr (catM m a) i = (catM m a)[i]'(by rw [catM_len hl]; exact hi) := by have := gr_get (m := catM m a) (i := i) (by rw [catM_len hl]; exact hi); rw [List.getElem?_eq_getElem] at this; exact (Option.some.inj this).symm
  rw [← e, catM_gr hl]
  exact okR_app (okM_gr h hi) (okM_gr ha (by omega))
theorem catM_el {p : Int} {k : Nat} {m a : Rows} (hl : a.length = m.length) (h : okM p k m) {i c : Nat} (hi : i < m.length) (hc : c < k) : el (gr (catM m a) i) c = el (gr m i) c := by
  rw [catM_gr hl, el_app, if_pos (by rw [(okM_gr h hi).1]; exact hc)]
theorem catM_scan {p : Int} {k : Nat} {m a : Rows} (hl : a.length = m.length) (h : okM p k m) {c : Nat} (hc : c < k) : ∀ (d i : Nat), i + d ≤ m.length → scanN (catM m a) c d i = scanN m c d i
  | 0, _, _ => rfl
  | d + 1, i, hi => by
    unfold scanN
    rw [catM_el hl h (by omega) hc, catM_scan hl h hc d (i + 1) (by omega)]
theorem catM_swap {m a : Rows} {r k i : Nat} (hl : a.length = m.length) (hr : r < m.length) (hk : k < m.length) : gr (swapM (catM m a) r k) i = gr (swapM m r k) i ++ gr (swapM a r k) i := by
  have hcl := catM_len hl
  rw [swapM_gr2 (by rw [hcl]; exact hr) (by rw [hcl]; exact hk), swapM_gr2 hr hk, swapM_gr2 (m := a) (by omega) (by omega)]
  split
  · exact catM_gr hl
  · split <;> exact catM_gr hl
theorem catM_step {p : Int} {c r k w q : Nat} {m a : Rows} (hf : fdB p = true) (h : okM p w m) (ha : okM p q a) (hl : a.length = m.length) (hr : r < m.length) (hk : k < m.length) (hc : c < w) (hne : el (gr m k) c ≠ 0) :
    stepA p c (catM m a) (catM m a) r k = catM (stepA p c m m r k) (stepA p c m a r k) := by
  have hp := fdB_rng hf
  have hcl := catM_len hl
  have hco := catM_ok hl h ha
  have hne2 : el (gr (catM m a) k) c ≠ 0 := by rw [catM_el hl h hk hc]; exact hne
  obtain ⟨f1, f2, f3⟩ := stepA_el hf hco hco rfl (by rw [hcl]; exact hr) (by rw [hcl]; exact hk) (by omega) hne2
  obtain ⟨g1, g2, g3⟩ := stepA_el hf h h rfl hr hk hc hne
  obtain ⟨k1, k2, k3⟩ := stepA_el hf h ha hl hr hk hc hne
  have l1 : (stepA p c (catM m a) (catM m a) r k).length = m.length := by rw [stepA_len, hcl]
  have l2 : (stepA p c m m r k).length = m.length := stepA_len p c m m r k
  have l3 : (stepA p c m a r k).length = m.length := by rw [stepA_len, hl]
  have o1 : okM p (w + q) (stepA p c (catM m a) (catM m a) r k) := stepA_ok hp.1 hco (by rw [hcl]; exact hr) (by rw [hcl]; exact hk)
  have o2 : okM p w (stepA p c m m r k) := stepA_ok hp.1 h hr hk
  have o3 : okM p q (stepA p c m a r k) := stepA_ok hp.1 ha (by omega) (by omega)
  rw [hcl] at f3
  have hrow : ∀ j, j < w + q → el (gr (stepA p c (catM m a) (catM m a) r k) r) j = el (gr (stepA p c m m r k) r ++ gr (stepA p c m a r k) r) j := fun j hj => by
    rw [f2 j hj, catM_el hl h hk hc, catM_gr hl, el_app, el_app, (okM_gr h hk).1, (okM_gr o2 (i := r) (by omega)).1]
    split
    · rw [g2 j (by omega)]
    · rw [k2 _ (by omega)]
  refine ext_gr (by rw [catM_len (by rw [l3, l2]), l1, l2]) fun i hi => ?_
  rw [l1] at hi
  rw [catM_gr (by rw [l3, l2])]
  have wi := (okM_gr o2 (i := i) (by omega)).1
  refine ext_el (by rw [List.length_append, (okM_gr o1 (i := i) (by omega)).1, wi, (okM_gr o3 (i := i) (by omega)).1]) fun j hj => ?_
  rw [(okM_gr o1 (i := i) (by omega)).1] at hj
  by_cases hir : i = r
  · subst hir; exact hrow j hj
  · have hsm : okM p w (swapM m r k) := swapM_ok h hr hk
    have ws := (okM_gr hsm (i := i) (by rw [swapM_len]; exact hi)).1
    have wr := (okM_gr o2 (i := r) (by omega)).1
    rw [f3 i hi hir j hj, hrow j hj, catM_swap hl hr hk, el_app, el_app, el_app, el_app, ws, wr, wi, if_pos hc]
    split
    · rename_i hjw; rw [g3 i hi hir j hjw]
    · rename_i hjw; rw [k3 i hi hir _ (by omega)]
theorem catM_loop {p : Int} {w q : Nat} (hf : fdB p = true) : ∀ (d c : Nat) (m a : Rows) (r : Nat), c + d ≤ w → okM p w m → okM p q a → a.length = m.length → r ≤ m.length →
    redLoop p d c (catM m a) (catM m a) r = (catM (redLoop p d c m a r).1 (redLoop p d c m a r).2.1, catM (redLoop p d c m a r).1 (redLoop p d c m a r).2.1, (redLoop p d c m a r).2.2)
  | 0, _, _, _, _, _, _, _, _, _ => rfl
  | d + 1, c, m, a, r, hd, h, ha, hl, hr => by
    have hcl := catM_len hl
    unfold redLoop
    rw [hcl]
    by_cases hrl : r < m.length
    · rw [if_pos hrl, if_pos hrl, catM_scan hl h (by omega) (m.length - r) r (by omega)]
      obtain ⟨s1, s2, s3⟩ := scanN_spec m c (m.length - r) r (by omega)
      split
      · exact catM_loop hf d (c + 1) m a r (by omega) h ha hl hr
      · rename_i hk
        have hkl : scanN m c (m.length - r) r < m.length := by omega
        rw [catM_step hf h ha hl hrl hkl (by omega) (s3 hkl)]
        have ha2 : okM p q (stepA p c m a r (scanN m c (m.length - r) r)) := stepA_ok (fdB_rng hf).1 ha (by omega) (by omega)
        exact catM_loop hf d (c + 1) (stepA p c m m r (scanN m c (m.length - r) r)) (stepA p c m a r (scanN m c (m.length - r) r)) (r + 1) (by omega) (stepA_ok (fdB_rng hf).1 h hrl hkl) ha2 (by rw [stepA_len, stepA_len]; exact hl) (by rw [stepA_len]; omega)
    · rw [if_neg hrl, if_neg hrl]

/-! ### choices -/
theorem inc_id {g : Nat → Nat} {k : Nat} (h1 : ∀ i, i < k → g i < k) (h2 : ∀ i j, i < j → j < k → g i < g j) : ∀ i, i < k → g i = i := by
  have lo : ∀ i, i < k → i ≤ g i := fun i hi => by
    induction i with
    | zero => exact Nat.zero_le _
    | succ i ih => have := ih (by omega); have := h2 i (i + 1) (by omega) hi; omega
  have hi : ∀ d i, i + d + 1 = k → g i ≤ i := fun d => by
    induction d with
    | zero => intro i hi; have := h1 i (by omega); omega
    | succ d ih => intro i hi; have := ih (i + 1) (by omega); have := h2 i (i + 1) (by omega) (by omega); omega
  intro i hik
  have := lo i hik
  have := hi (k - 1 - i) i (by omega)
  omega
end Go.Proofs.YtocpeclcoikdpaaDoor
namespace Go.Proofs.YtocpeclcoikdpaaDoor
set_option linter.unusedVariables false

/-! ### sums and functionals -/
theorem sg_app (f : Nat → Int) (a : Nat) : ∀ b, sg (a + b) f = sg a f + sg b (fun t => f (a + t))
  | 0 => by show sg a f = sg a f + 0; omega
  | b + 1 => by
    show sg (a + b) f + f (a + b) = sg a f + (sg b (fun t => f (a + t)) + f (a + b))
    rw [sg_app f a b]; omega
theorem dot_span {p : Int} {n : Nat} {m : Rows} {v : List Int} (f : Nat → Int) (h : ∀ i, i < m.length → sg n (fun j => f j * el (gr m i) j) % p = 0) (hv : inSpan p n m v) : sg n (fun j => f j * el v j) % p = 0 := by
  obtain ⟨x, hx⟩ := hv
  have e1 : sg n (fun j => f j * el v j) % p = sg n (fun j => f j * sg m.length (fun i => x i * el (gr m i) j)) % p :=
    sg_mod fun j hj => by rw [← mul_mod2, hx j hj, mul_mod2]
  rw [e1]
  have e2 : sg n (fun j => f j * sg m.length (fun i => x i * el (gr m i) j)) = sg m.length (fun i => x i * sg n (fun j => f j * el (gr m i) j)) := by
    rw [sg_congr (g := fun j => sg m.length (fun i => f j * (x i * el (gr m i) j))) (fun j _ => (sg_mul _ _ _).symm), sg_comm]
    refine sg_congr fun i _ => ?_
    rw [← sg_mul]
    exact sg_congr fun j _ => Int.mul_left_comm _ _ _
  rw [e2, sg_mod (g := fun _ => 0) (fun i hi => by rw [mul_mod_zero2 (h i hi)]; exact (Int.zero_emod p).symm), sg_zero (fun _ _ => rfl)]
  exact Int.zero_emod p
/-- x is orthogonal to each row -/
def perp (p : Int) (n : Nat) (m : Rows) (x : List Int) : Prop := ∀ i, i < m.length → sg n (fun j => el (gr m i) j * el x j) % p = 0
theorem perp_span {p : Int} {n : Nat} {m : Rows} {x v : List Int} (h : perp p n m x) (hv : inSpan p n m v) : sg n (fun j => el v j * el x j) % p = 0 := by
  have := dot_span (m := m) (v := v) (fun j => el x j) (fun i hi => by rw [← h i hi]; exact congrArg (· % p) (sg_congr fun j _ => Int.mul_comm _ _)) hv
  rw [← this]; exact congrArg (· % p) (sg_congr fun j _ => Int.mul_comm _ _)
theorem perp_sub {p : Int} {n : Nat} {a b : Rows} {x : List Int} (h : perp p n b x) (hs : subSpan p n a b) : perp p n a x := fun i hi => perp_span h (hs i hi)
/-- x's product with the columns of m is zero -/
def lperp (p : Int) (n : Nat) (m : Rows) (x : List Int) : Prop := ∀ c, c < n → sg m.length (fun t => el x t * el (gr m t) c) % p = 0
theorem lperp_span {p : Int} {n : Nat} {m b : Rows} {v : List Int} (h : ∀ i, i < b.length → lperp p n m (gr b i)) (hv : inSpan p m.length b v) : lperp p n m v := by
  intro c hc
  have := dot_span (n := m.length) (m := b) (v := v) (fun t => el (gr m t) c) (fun i hi => by rw [← h i hi c hc]; exact congrArg (· % p) (sg_congr fun j _ => Int.mul_comm _ _)) hv
  rw [← this]; exact congrArg (· % p) (sg_congr fun j _ => Int.mul_comm _ _)

/-! ### by the steps of a reduction -/
theorem idN_gr {n i : Nat} (hi : i < n) : gr (idN n) i = unitN n i := by
  have h := gr_get (m := idN n) (i := i) (by rw [idN_len]; exact hi)
  unfold idN at h
  rw [List.getElem?_map, List.getElem?_range hi] at h
  exact (Option.some.inj h).symm
theorem unit_elN {n i j : Nat} (hi : i < n) : el (unitN n i) j = if i = j then 1 else 0 := by
  unfold unitN el
  rw [List.getD_eq_getElem?_getD, List.getElem?_set]
  by_cases h : i = j
  · subst h; rw [if_pos rfl, if_pos (by rw [List.length_replicate]; exact hi), if_pos rfl]; rfl
  · rw [if_neg h, if_neg h, ← List.getD_eq_getElem?_getD]; exact el_rep n j
theorem idN_all {p : Int} {n : Nat} (v : List Int) : inSpan p n (idN n) v := by
  refine ⟨fun i => el v i, fun j hj => ?_⟩
  rw [idN_len, sg_one (i0 := j) hj (fun i hi hne => by rw [idN_gr hi, unit_elN hi, if_neg hne, Int.mul_zero]), idN_gr hj, unit_elN hj, if_pos rfl, Int.mul_one]
theorem redT_rel {p : Int} {n : Nat} {m : Rows} (hf : fdB p = true) (h : okM p n m) : ∀ i, i < m.length → ∀ c, c < n → el (gr (redT p n m).1 i) c % p = sg m.length (fun t => el (gr (redT p n m).2.1 i) t * el (gr m t) c) % p := by
  have hp := fdB_rng hf
  obtain ⟨f1, f2, f3, f4, f5, f6⟩ := redT_facts hf h
  have hl : (idN m.length).length = m.length := idN_len _
  have h1 := catM_loop hf n 0 m (idN m.length) 0 (by omega) h (idN_ok hp.1 _) hl (Nat.zero_le _)
  have hC := catM_ok hl h (idN_ok hp.1 m.length)
  have h2 := (loop_span hf n 0 (catM m (idN m.length)) (catM m (idN m.length)) 0 (by omega) hC hC rfl (Nat.zero_le _)).1
  rw [h1] at h2
  change subSpan p (n + m.length) (catM (redT p n m).1 (redT p n m).2.1) (catM m (idN m.length)) at h2
  intro i hi c hc
  have hv := h2 i (by rw [catM_len (by omega)]; omega)
  rw [catM_gr (by omega)] at hv
  have key : ∀ a b : List Int, a.length = n → sg (n + m.length) (fun j => (if j < n then (if c = j then 1 else 0) else -(el (gr m (j - n)) c)) * el (a ++ b) j) = el a c - sg m.length (fun t => el b t * el (gr m t) c) := by
    intro a b ha
    rw [sg_app, sg_one (i0 := c) hc (fun j hj hne => by rw [if_pos hj, if_neg (fun hh => hne hh.symm), Int.zero_mul]), if_pos hc, if_pos rfl, Int.one_mul, el_app, if_pos (by omega), Int.sub_eq_add_neg, ← sg_neg]
    congr 1
    refine sg_congr fun t _ => ?_
    rw [if_neg (by omega), el_app, if_neg (by omega), show n + t - n = t by omega, show n + t - a.length = t by omega, Int.neg_mul, Int.mul_comm]
  have hd := dot_span (n := n + m.length) (m := catM m (idN m.length)) _ (fun i hi => by
    rw [catM_len hl] at hi
    rw [catM_gr hl, key _ _ (h _ (gr_mem hi)).1, idN_gr hi, sg_one (i0 := i) hi (fun t _ hne => by rw [unit_elN hi, if_neg (fun hh => hne hh.symm), Int.zero_mul]), unit_elN hi, if_pos rfl, Int.one_mul, Int.sub_self]
    exact Int.zero_emod p) hv
  rw [key _ _ (f5 _ (gr_mem (by omega))).1] at hd
  exact mod_of_sub hd
theorem redT_rest {p : Int} {n : Nat} {m : Rows} (hf : fdB p = true) (h : okM p n m) : ∀ i, (redT p n m).2.2 ≤ i → i < m.length → ∀ c, c < n → el (gr (redT p n m).1 i) c = 0 := by
  have h1 := redLoop_red hf n 0 m 0 (by omega) h (RedI.start m)
  obtain ⟨e1, e2⟩ := redLoop_any p n 0 m m (idN m.length) 0
  have f2 := (redT_facts hf h).2.1
  rw [e1, e2, Nat.zero_add] at h1
  intro i h2 h3 c hc
  exact h1.rest i h2 (by rw [← f2] at h3; exact h3) c hc
theorem redT_all {p : Int} {n : Nat} {m : Rows} (hf : fdB p = true) (h : okM p n m) (v : List Int) : inSpan p m.length (redT p n m).2.1 v := by
  have hp := fdB_rng hf
  exact inSpan_trans (loop_span hf n 0 m (idN m.length) 0 (by omega) h (idN_ok hp.1 _) (idN_len _) (Nat.zero_le _)).2 (idN_all v)
theorem gr_drop (m : Rows) (k i : Nat) : gr (m.drop k) i = gr m (k + i) := by
  unfold gr; rw [List.getD_eq_getElem?_getD, List.getD_eq_getElem?_getD, List.getElem?_drop]
def kerM (p : Int) (n : Nat) (m : Rows) : Rows := redM p m.length ((redT p n m).2.1.drop (redT p n m).2.2)
theorem ker_ok {p : Int} {n : Nat} {m : Rows} (hf : fdB p = true) (h : okM p n m) : okM p m.length ((redT p n m).2.1.drop (redT p n m).2.2) :=
  fun r hr => (redT_facts hf h).2.2.2.1 r (List.mem_of_mem_drop hr)
theorem kerM_red {p : Int} {n : Nat} {m : Rows} (hf : fdB p = true) (h : okM p n m) : Red p m.length (kerM p n m) := redM_red hf (ker_ok hf h)
theorem kerM_iff {p : Int} {n : Nat} {m : Rows} (hf : fdB p = true) (h : okM p n m) (x : List Int) : inSpan p m.length (kerM p n m) x ↔ lperp p n m x := by
  have hp := fdB_rng hf
  obtain ⟨f1, f2, f3, f4, f5, f6⟩ := redT_facts hf h
  have hrel := redT_rel hf h
  have hrest := redT_rest hf h
  have hsp := redM_span hf (ker_ok hf h)
  constructor
  · intro hx
    refine lperp_span (b := (redT p n m).2.1.drop (redT p n m).2.2) (fun i hi c hc => ?_) (inSpan_trans hsp.1 hx)
    rw [List.length_drop] at hi
    rw [gr_drop, ← hrel _ (by omega) c hc, hrest _ (by omega) (by omega) c hc]
    exact Int.zero_emod p
  · intro hx
    refine inSpan_trans hsp.2 ?_
    obtain ⟨y, hy⟩ := redT_all hf h x
    rw [f3] at hy
    have hL : (redT p n m).2.2 + (m.length - (redT p n m).2.2) = m.length := by omega
    -- the first coefficients are zero
    have hz : ∀ i, i < (redT p n m).2.2 → y i % p = 0 := by
      have hi := f6.indep y (fun c hc => ?_)
      · intro i h1; exact hi i (by rw [List.length_take]; omega)
      · have hlen : ((redT p n m).1.take (redT p n m).2.2).length = (redT p n m).2.2 := by rw [List.length_take]; omega
        rw [hlen, sg_congr (g := fun i => y i * el (gr (redT p n m).1 i) c) (fun i h1 => by rw [gr_take h1])]
        have e0 : sg m.length (fun i => y i * el (gr (redT p n m).1 i) c) = sg (redT p n m).2.2 (fun i => y i * el (gr (redT p n m).1 i) c) := by
          conv => lhs; rw [← hL]
          rw [sg_app, sg_zero (k := m.length - (redT p n m).2.2) (fun t ht => by rw [hrest _ (by omega) (by omega) c hc, Int.mul_zero])]
          omega
        rw [← e0, sg_mod (g := fun i => y i * sg m.length (fun t => el (gr (redT p n m).2.1 i) t * el (gr m t) c)) (fun i hi => by rw [← mul_mod2, hrel i hi c hc, mul_mod2])]
        rw [← hx c hc]
        have e1 : sg m.length (fun i => y i * sg m.length (fun t => el (gr (redT p n m).2.1 i) t * el (gr m t) c)) = sg m.length (fun t => sg m.length (fun i => y i * el (gr (redT p n m).2.1 i) t) * el (gr m t) c) := by
          rw [sg_congr (g := fun i => sg m.length (fun t => y i * (el (gr (redT p n m).2.1 i) t * el (gr m t) c))) (fun i _ => (sg_mul _ _ _).symm), sg_comm]
          refine sg_congr fun t _ => ?_
          rw [← sg_mulr]
          exact sg_congr fun i _ => (Int.mul_assoc _ _ _).symm
        rw [e1]
        exact sg_mod fun t ht => by rw [← mul_mod1, ← hy t ht, mul_mod1]
    refine ⟨fun t => y ((redT p n m).2.2 + t), fun j hj => ?_⟩
    rw [hy j hj, List.length_drop, f3]
    conv => lhs; rw [← hL]
    rw [sg_app, Int.add_emod, sg_mod (k := (redT p n m).2.2) (g := fun _ => 0) (fun i hi => by rw [mul_mod_zero (hz i hi)]; exact (Int.zero_emod p).symm), sg_zero (k := (redT p n m).2.2) (f := fun _ => 0) (fun _ _ => rfl), Int.zero_emod, Int.zero_add, mod_mod]
    exact congrArg (· % p) (sg_congr fun t _ => by rw [gr_drop])
end Go.Proofs.YtocpeclcoikdpaaDoor
namespace Go.Proofs.YtocpeclcoikdpaaDoor
set_option linter.unusedVariables false

theorem kernel_ {p : Int} {n : Nat} {m : Rows} (hf : fdB p = true) (hn : n ≤ 1048576) (h : okM p n m) (hL : m.length ≤ 1048576) : F_impl_kernel p m (n : Int) = some (kerM p n m) := by
  have hm : maxN = 1099511627776 := rfl
  have hp := fdB_rng hf
  obtain ⟨f1, f2, f3, f4, f5, f6⟩ := redT_facts hf h
  refine bnd (clones_ (by omega) (rowsP_len h (by omega))) (bnd (identityRows_ hL) (bnd (reduction_ hf (Nat.le_refl n) hn h (idN_ok hp.1 m.length) (by omega) (idN_len _)) ?_))
  change (sliceO (redT p n m).2.1 ((redT p n m).2.2 : Int) (((redT p n m).2.1.length : Nat) : Int)).bind _ = _
  have e : sliceO (redT p n m).2.1 ((redT p n m).2.2 : Int) (((redT p n m).2.1.length : Nat) : Int) = some ((redT p n m).2.1.drop (redT p n m).2.2) := by
    unfold sliceO
    rw [if_pos ⟨by omega, by omega, by rw [Int.toNat_natCast]; omega⟩, Int.toNat_natCast, Int.toNat_natCast, List.take_of_length_le (by rw [List.length_drop]; omega)]
  refine bnd e (bnd (reduced_ hf (Nat.le_refl m.length) hL (ker_ok hf h) (by rw [List.length_drop]; omega)) rfl)

/-! ### by the leading indices -/
def isL (b : Rows) (j : Nat) : Bool := b.any fun r => decide (leadN r = j)
theorem isL_iff {b : Rows} {j : Nat} : isL b j = true ↔ ∃ t, t < b.length ∧ leadN (gr b t) = j := by
  unfold isL
  rw [List.any_eq_true]
  constructor
  · rintro ⟨r, hr, h⟩
    obtain ⟨t, ht, rfl⟩ := List.mem_iff_getElem.1 hr
    refine ⟨t, ht, ?_⟩
    have e : gr b t = b[t] := by have := gr_get ht; rw [List.getElem?_eq_getElem ht] at this; exact (Option.some.inj this).symm
    rw [e]; exact of_decide_eq_true h
  · rintro ⟨t, ht, h⟩
    exact ⟨gr b t, gr_mem ht, decide_eq_true h⟩
def ldL (n : Nat) (b : Rows) : Nat → List Int
  | 0 => mapR (fun _ _ => -1) (List.replicate n 0)
  | i + 1 => (ldL n b i).set (leadN (gr b i)) (i : Int)
theorem ldL_len (n : Nat) (b : Rows) : ∀ i, (ldL n b i).length = n
  | 0 => by unfold ldL; rw [mapR_len, List.length_replicate]
  | i + 1 => by unfold ldL; rw [List.length_set]; exact ldL_len n b i
theorem el_setN {z : List Int} {i j : Nat} {v : Int} (h : i < z.length) : el (z.set i v) j = if i = j then v else el z j := by
  unfold el
  rw [List.getD_eq_getElem?_getD, List.getD_eq_getElem?_getD, List.getElem?_set]
  by_cases hij : i = j
  · rw [if_pos hij, if_pos hij, if_pos (by omega)]; rfl
  · rw [if_neg hij, if_neg hij]
theorem ldL_el {n : Nat} {b : Rows} (hlt : ∀ i, i < b.length → leadN (gr b i) < n) {j : Nat} (hj : j < n) : ∀ i, i ≤ b.length → (0 ≤ el (ldL n b i) j ↔ ∃ t, t < i ∧ leadN (gr b t) = j)
  | 0, _ => by
    unfold ldL
    rw [el_mapR (by rw [List.length_replicate]; exact hj)]
    exact ⟨fun h => by omega, fun ⟨t, ht, _⟩ => by omega⟩
  | i + 1, hi => by
    have ih := ldL_el hlt hj i (by omega)
    show 0 ≤ el ((ldL n b i).set (leadN (gr b i)) (i : Int)) j ↔ _
    rw [el_setN (by rw [ldL_len]; exact hlt i (by omega))]
    by_cases h : leadN (gr b i) = j
    · rw [if_pos h]; exact ⟨fun _ => ⟨i, by omega, h⟩, fun _ => by omega⟩
    · rw [if_neg h, ih]
      constructor
      · rintro ⟨t, ht, h2⟩; exact ⟨t, by omega, h2⟩
      · rintro ⟨t, ht, h2⟩
        by_cases hti : t = i
        · rw [hti] at h2; exact absurd h2 h
        · exact ⟨t, by omega, h2⟩
def nvL (p : Int) (n : Nat) (b : Rows) (j : Nat) : Nat → List Int
  | 0 => (List.replicate n 0).set j 1
  | i + 1 => (nvL p n b j i).set (leadN (gr b i)) ((p - el (gr b i) j) % p)
theorem nvL_ok {p : Int} {n : Nat} {b : Rows} {j : Nat} (hp : 2 ≤ p) : ∀ i, okR p n (nvL p n b j i)
  | 0 => unitN_ok hp n j
  | i + 1 => by
    have ih := nvL_ok (n := n) (b := b) (j := j) hp i
    unfold nvL
    refine ⟨by rw [List.length_set]; exact ih.1, fun x hx => ?_⟩
    rcases List.mem_or_eq_of_mem_set hx with h | rfl
    · exact ih.2 x h
    · exact ⟨Int.emod_nonneg _ (by omega), Int.emod_lt_of_pos _ (by omega)⟩
theorem nvL_miss {p : Int} {n : Nat} {b : Rows} {j : Nat} (hp : 2 ≤ p) (hlt : ∀ i, i < b.length → leadN (gr b i) < n) (hj : j < n) {c : Nat} : ∀ i, i ≤ b.length → (∀ t, t < i → leadN (gr b t) ≠ c) → el (nvL p n b j i) c = if j = c then 1 else 0
  | 0, _, _ => unit_elN hj
  | i + 1, hi, h => by
    unfold nvL
    rw [el_setN (by rw [(nvL_ok hp i).1]; exact hlt i (by omega)), if_neg (h i (by omega))]
    exact nvL_miss hp hlt hj i (by omega) (fun t ht => h t (by omega))
theorem nvL_hit {p : Int} {n : Nat} {b : Rows} {j : Nat} (hp : 2 ≤ p) (hb : Red p n b) {t : Nat} (ht : t < b.length) : ∀ i, i ≤ b.length → t < i → el (nvL p n b j i) (leadN (gr b t)) = (p - el (gr b t) j) % p
  | 0, _, h => by omega
  | i + 1, hi, h => by
    unfold nvL
    rw [el_setN (by rw [(nvL_ok hp i).1]; exact hb.lt i (by omega))]
    by_cases hti : t = i
    · subst hti; rw [if_pos rfl]
    · have := hb.inc t i (by omega) (by omega)
      rw [if_neg (by omega)]
      exact nvL_hit hp hb ht i (by omega) (by omega)
def nuP (p : Int) (n : Nat) (b : Rows) : Nat → Rows
  | 0 => []
  | j + 1 => if isL b j then nuP p n b j else nuP p n b j ++ [nvL p n b j b.length]
theorem nuP_ok {p : Int} {n : Nat} {b : Rows} (hp : 2 ≤ p) : ∀ j, okM p n (nuP p n b j) ∧ (nuP p n b j).length ≤ j
  | 0 => ⟨(fun r hr => nomatch hr), Nat.le_refl _⟩
  | j + 1 => by
    obtain ⟨h1, h2⟩ := nuP_ok (n := n) (b := b) hp j
    unfold nuP
    split
    · exact ⟨h1, by omega⟩
    · refine ⟨okM_app h1 (fun r hr => ?_), by rw [List.length_append]; show _ + 1 ≤ _; omega⟩
      rw [List.mem_singleton.1 hr]; exact nvL_ok hp _
theorem nuP_mem {p : Int} {n : Nat} {b : Rows} {v : List Int} : ∀ k, v ∈ nuP p n b k → ∃ j, j < k ∧ isL b j = false ∧ v = nvL p n b j b.length
  | 0, h => nomatch h
  | k + 1, h => by
    unfold nuP at h
    split at h
    · obtain ⟨j, h1, h2⟩ := nuP_mem k h; exact ⟨j, by omega, h2⟩
    · rename_i hn
      rcases List.mem_append.1 h with h | h
      · obtain ⟨j, h1, h2⟩ := nuP_mem k h; exact ⟨j, by omega, h2⟩
      · exact ⟨k, by omega, by cases hk : isL b k with | false => rfl | true => exact absurd hk hn, List.mem_singleton.1 h⟩
theorem nuP_sum {p : Int} {n : Nat} {b : Rows} (x : Nat → Int) : ∀ k, ∃ X : Nat → Int, ∀ c, sg (nuP p n b k).length (fun i => X i * el (gr (nuP p n b k) i) c) = sg k (fun j => if isL b j = true then 0 else x j * el (nvL p n b j b.length) c)
  | 0 => ⟨fun _ => 0, fun c => rfl⟩
  | k + 1 => by
    obtain ⟨X, hX⟩ := nuP_sum (p := p) (n := n) (b := b) x k
    unfold nuP
    split
    · rename_i h
      refine ⟨X, fun c => ?_⟩
      show _ = sg k _ + (if isL b k = true then 0 else _)
      rw [if_pos h, hX c]; omega
    · rename_i h
      refine ⟨fun i => if i < (nuP p n b k).length then X i else x k, fun c => ?_⟩
      rw [List.length_append, show [nvL p n b k b.length].length = 1 from rfl, sg_app]
      show _ = sg k _ + (if isL b k = true then 0 else _)
      rw [if_neg h, ← hX c]
      congr 1
      · exact sg_congr fun i hi => by dsimp only; rw [if_pos hi, gr_app1 hi]
      · show 0 + _ = _
        dsimp only
        rw [if_neg (by omega), gr_app2, Int.zero_add]
        rfl
def nulM (p : Int) (n : Nat) (m : Rows) : Rows := redM p n (nuP p n (redM p n m) n)
theorem nulM_red {p : Int} {n : Nat} {m : Rows} (hf : fdB p = true) : Red p n (nulM p n m) := redM_red hf (nuP_ok (fdB_rng hf).1 n).1
theorem nulM_iff {p : Int} {n : Nat} {m : Rows} (hf : fdB p = true) (h : okM p n m) (x : List Int) : inSpan p n (nulM p n m) x ↔ perp p n m x := by
  have hp := fdB_rng hf
  have hb := redM_red hf h
  have hs := redM_span hf h
  have hn := redM_span hf (nuP_ok (n := n) (b := redM p n m) hp.1 n).1
  unfold nulM
  generalize redM p n m = b at hb hs hn ⊢
  constructor
  · intro hx
    refine perp_sub ?_ hs.2
    intro i hi
    refine dot_span (m := nuP p n b n) (fun c => el (gr b i) c) (fun k hk => ?_) (inSpan_trans hn.1 hx)
    obtain ⟨j, hj, hl, e⟩ := nuP_mem n (gr_mem hk)
    have hnl : ∀ t, t < b.length → leadN (gr b t) ≠ j := fun t ht he => by
      have := isL_iff.2 ⟨t, ht, he⟩
      rw [this] at hl; cases hl
    rw [e, sg_split (hb.lt i hi), sg_one (i0 := j) hj (fun c hc hne => by
      by_cases h1 : c = leadN (gr b i)
      · rw [if_pos h1]
      · rw [if_neg h1]
        by_cases h2 : isL b c = true
        · obtain ⟨t, ht, h3⟩ := isL_iff.1 h2
          rw [← h3, hb.zero t i ht hi (fun h4 => h1 (by rw [← h3, h4])), Int.zero_mul]
        · rw [nvL_miss hp.1 hb.lt hj b.length (Nat.le_refl _) (fun t ht he => h2 (isL_iff.2 ⟨t, ht, he⟩)), if_neg (fun h4 => hne h4.symm), Int.mul_zero])]
    rw [if_neg (fun h1 => hnl i hi h1.symm), nvL_miss hp.1 hb.lt hj b.length (Nat.le_refl _) hnl, if_pos rfl, hb.one i hi, nvL_hit hp.1 hb hi b.length (Nat.le_refl _) hi, Int.mul_one, Int.one_mul, Int.add_emod, mod_mod, ← Int.add_emod, show el (gr b i) j + (p - el (gr b i) j) = p by omega]
    exact Int.emod_self
  · intro hx
    have hx' : perp p n b x := perp_sub hx hs.1
    refine inSpan_trans hn.2 ?_
    obtain ⟨X, hX⟩ := nuP_sum (p := p) (n := n) (b := b) (fun j => el x j) n
    refine ⟨X, fun c hc => ?_⟩
    rw [hX c]
    by_cases h2 : isL b c = true
    · obtain ⟨t, ht, h3⟩ := isL_iff.1 h2
      have h4 := hx' t ht
      rw [sg_split (hb.lt t ht), hb.one t ht, Int.one_mul] at h4
      rw [← h3]
      have e1 : sg n (fun j => if isL b j = true then 0 else el x j * el (nvL p n b j b.length) (leadN (gr b t))) % p = sg n (fun j => - (if j = leadN (gr b t) then 0 else el (gr b t) j * el x j)) % p := by
        refine sg_mod fun j hj => ?_
        by_cases h5 : isL b j = true
        · rw [if_pos h5]
          by_cases h6 : j = leadN (gr b t)
          · rw [if_pos h6]; rfl
          · obtain ⟨t', ht', h7⟩ := isL_iff.1 h5
            rw [if_neg h6, ← h7, hb.zero t' t ht' ht (fun h8 => h6 (by rw [← h7, h8])), Int.zero_mul]; rfl
        · have h6 : j ≠ leadN (gr b t) := fun h7 => h5 (isL_iff.2 ⟨t, ht, h7.symm⟩)
          rw [if_neg h5, if_neg h6, nvL_hit hp.1 hb ht b.length (Nat.le_refl _) ht, mul_mod2]
          refine mod_of_sub ?_
          rw [show el x j * (p - el (gr b t) j) - -(el (gr b t) j * el x j) = el x j * p from by rw [Int.mul_sub, Int.mul_comm (el (gr b t) j)]; omega]
          exact Int.mul_emod_left _ _
      rw [e1, sg_neg]
      refine mod_of_sub ?_
      rw [Int.sub_neg, Int.add_comm]
      exact h4
    · rw [sg_one (i0 := c) hc (fun j hj hne => by
        by_cases h3 : isL b j = true
        · rw [if_pos h3]
        · rw [if_neg h3, nvL_miss hp.1 hb.lt hj b.length (Nat.le_refl _) (fun t ht he => h2 (isL_iff.2 ⟨t, ht, he⟩)), if_neg hne, Int.mul_zero]), if_neg h2, nvL_miss hp.1 hb.lt hc b.length (Nat.le_refl _) (fun t ht he => h2 (isL_iff.2 ⟨t, ht, he⟩)), if_pos rfl, Int.mul_one]
end Go.Proofs.YtocpeclcoikdpaaDoor
