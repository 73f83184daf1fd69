/-
  Plain laws: recurrences of a series; the shortest one, found step by step (Berlekamp and Massey). No program in sight. No condition.
-/
import Derived.Test.YtgkomaglodpefaaDoorZP82
namespace Go.Proofs.YtgkomaglodpefaaDoor
set_option linter.unusedVariables false

section
variable {K : Nat} [NeZero K]
/-- a recurrence of order l for the first n terms -/
structure Rc (S c : Ser K) (l n : Nat) : Prop where
  d : dg c (l + 1)
  e : ∀ k, l ≤ k → k < n → (c * S) k = 0
theorem massey {S c c' : Ser K} {l l' n : Nat} (h : Rc S c l n) (h' : Rc S c' l' (n + 1)) (hl : l + l' ≤ n) (h1 : c' 0 = 1) : (c * S) n = 0 := by
  have e1 : (c * (c' * S)) n = 0 := pr_zero n c (c' * S) fun i hi => by
    by_cases hil : l + 1 ≤ i
    · exact .inl (h.d i hil)
    · exact .inr (h'.e (n - i) (by omega) (by omega))
  have e2 : (c' * (c * S)) n = c' 0 * (c * S) (n - 0) := pr_one n 0 c' (c * S) (by omega) fun i hi hne => by
    by_cases hil : l' + 1 ≤ i
    · exact .inl (h'.d i hil)
    · exact .inr (h.e (n - i) (by omega) (by omega))
  have e3 : c * (c' * S) = c' * (c * S) := rg [c, c', S]
  rw [e3, e2, h1, Nat.sub_zero] at e1
  grind
theorem Rc.mono {S c : Ser K} {l n n' : Nat} (h : Rc S c l n) (hn : n' ≤ n) : Rc S c l n' := ⟨h.d, fun k h1 h2 => h.e k h1 (by omega)⟩
/-- no recurrence is shorter -/
def Least (S : Ser K) (m n : Nat) : Prop := ∀ l c, l < m → c 0 = 1 → ¬ Rc S c l n
def dn (j : Nat) (f : Ser K) : Ser K := fun i => f (i + j)
theorem dn_xk {j : Nat} {f : Ser K} (h : ∀ i, i < j → f i = 0) : f = xk j * dn j f := ser_ext fun i => by
  by_cases hi : j ≤ i
  · rw [xk_hi _ hi]; show f i = f (i - j + j); rw [Nat.sub_add_cancel hi]
  · rw [xk_lo _ (by omega)]; exact h i (by omega)
/-- the shortest one is unique -/
theorem rc_unique {p : Int} (H : HomP K p) (hf : fdB p = true) {S c c' : Ser K} {m n : Nat} (h : Rc S c m n) (h' : Rc S c' m n) (h1 : c 0 = 1) (h1' : c' 0 = 1) (hm : Least S m n) (hn : 2 * m ≤ n) : c = c' := by
  have hd : dg (c - c') (m + 1) := h.d.sub h'.d
  have key : ∀ j, (∀ i, i < j → (c - c') i = 0) → (c - c') j = 0 := by
    intro j hz
    refine Classical.byContradiction fun hne => ?_
    have hjm : j ≤ m := Decidable.byContradiction fun hj => hne (hd j (by omega))
    have hj1 : 1 ≤ j := by
      refine Decidable.byContradiction fun hj => hne ?_
      rw [show j = 0 by omega, ser_sub, h1, h1']; grind
    have ex := dn_xk hz
    have es : ∀ k, (dn j (c - c') * S) k = ((c - c') * S) (k + j) := by
      intro k
      have : (c - c') * S = xk j * (dn j (c - c') * S) := by
        conv => lhs; rw [ex]
        exact ser_assoc _ _ _
      rw [this, xk_hi _ (by omega), Nat.add_sub_cancel]
    have ed : dg (dn j (c - c')) (m - j + 1) := fun i hi => hd (i + j) (by omega)
    have step : ∀ t, t ≤ j → Rc S (dn j (c - c')) (m - j) (n - j + t) := by
      intro t
      induction t with
      | zero =>
        intro _
        refine ⟨ed, fun k hk1 hk2 => ?_⟩
        rw [es]
        have a1 := h.e (k + j) (by omega) (by omega)
        have a2 := h'.e (k + j) (by omega) (by omega)
        have : (c - c') * S = c * S - c' * S := rg [c, c', S]
        rw [this, ser_sub, a1, a2]; grind
      | succ t ih =>
        intro ht
        have ih := ih (by omega)
        have := massey ih (h.mono (n' := n - j + t + 1) (by omega)) (by omega) h1
        refine ⟨ed, fun k hk1 hk2 => ?_⟩
        by_cases hk : k = n - j + t
        · rw [hk]; exact this
        · exact ih.e k hk1 (by omega)
    have fin := step j (Nat.le_refl _)
    obtain ⟨y, hy⟩ := H.inv hf hne
    refine hm (m - j) (cst y * dn j (c - c')) (by omega) ?_ ⟨fun i hi => ?_, fun k hk1 hk2 => ?_⟩
    · rw [cst_mul]; show y * (c - c') (0 + j) = 1; rw [Nat.zero_add, km_comm]; exact hy
    · rw [cst_mul, ed i hi]; grind
    · have : cst y * dn j (c - c') * S = cst y * (dn j (c - c') * S) := ser_assoc _ _ _
      rw [this, cst_mul, fin.e k hk1 (by omega)]; grind
  have all : ∀ j, (c - c') j = 0 := fun j => Nat.strongRecOn j fun j ih => key j ih
  have : c - c' = 0 := ser_ext fun i => by rw [all, ser_zero]
  exact cr1 this (rg [c, c'])
/-- what holds after n terms: B is the one before, C the one now -/
structure Bm (S C B : Ser K) (L x n bl : Nat) (b : Fin K) : Prop where
  r : Rc S C L n
  one : C 0 = 1
  le : L ≤ n
  x1 : 1 ≤ x
  xn : x ≤ n + 1
  hbl : bl + x + L ≤ n + 2
  bd : dg B bl
  z : ∀ k, n + 1 ≤ L + k → k < n → (xk x * B * S : Ser K) k = 0
  l : (xk x * B * S : Ser K) n = b ∨ (L = 0 ∧ x = n + 1)
  least : Least S L n
theorem xk_succ (x : Nat) (f : Ser K) (k : Nat) : (xk (x + 1) * f : Ser K) (k + 1) = (xk x * f : Ser K) k := by
  by_cases h : x ≤ k
  · rw [xk_hi _ (by omega), xk_hi _ h, Nat.add_sub_add_right]
  · rw [xk_lo _ (by omega), xk_lo _ (by omega)]
theorem Bm.start (S : Ser K) : Bm S 1 1 0 1 0 1 1 :=
  ⟨⟨fun i hi => by rw [ser_one, if_neg (by omega)], fun k _ h => by omega⟩, by rw [ser_one, if_pos rfl], by omega, by omega, by omega, by omega, fun i hi => by rw [ser_one, if_neg (by omega)], fun k _ h => by omega, .inr ⟨rfl, rfl⟩, fun l c hl => by omega⟩
theorem shift_z {S B : Ser K} {L x n : Nat} (h : ∀ k, n + 1 ≤ L + k → k < n → (xk x * B * S : Ser K) k = 0) : ∀ k, n + 1 + 1 ≤ L + k → k < n + 1 → (xk (x + 1) * B * S : Ser K) k = 0 := by
  intro k h1 h2
  rw [show xk (x + 1) * B * S = xk (x + 1) * (B * S) from ser_assoc _ _ _]
  cases k with
  | zero => exact xk_lo _ (by omega)
  | succ k =>
    rw [xk_succ, show xk x * (B * S) = xk x * B * S from (ser_assoc _ _ _).symm]
    exact h k (by omega) (by omega)
theorem shift_l {S B : Ser K} {L x n : Nat} {b : Fin K} (h : (xk x * B * S : Ser K) n = b ∨ (L = 0 ∧ x = n + 1)) : (xk (x + 1) * B * S : Ser K) (n + 1) = b ∨ (L = 0 ∧ x + 1 = n + 1 + 1) := by
  rcases h with h | h
  · refine .inl ?_
    rw [show xk (x + 1) * B * S = xk (x + 1) * (B * S) from ser_assoc _ _ _, xk_succ, show xk x * (B * S) = xk x * B * S from (ser_assoc _ _ _).symm]; exact h
  · exact .inr ⟨h.1, by omega⟩
theorem Bm.same {S C B : Ser K} {L x n bl : Nat} {b : Fin K} (h : Bm S C B L x n bl b) (hz : (C * S) n = 0) : Bm S C B L (x + 1) (n + 1) bl b := by
  have := h.le; have := h.xn; have := h.hbl
  refine ⟨⟨h.r.d, fun k h1 h2 => ?_⟩, h.one, by omega, by omega, by omega, by omega, h.bd, shift_z h.z, shift_l h.l, fun l c hl h1 hr => h.least l c hl h1 (hr.mono (by omega))⟩
  by_cases hk : k = n
  · rw [hk]; exact hz
  · exact h.r.e k h1 (by omega)
/-- the new recurrence: y is the gap divided by b -/
theorem Bm.next {S C B : Ser K} {L x n bl L' : Nat} {b y : Fin K} (h : Bm S C B L x n bl b) (hL : L ≤ L') (hL2 : n + 1 ≤ L + L') (hy : y * b = (C * S) n) (hne : L' ≤ n → ¬ (L = 0 ∧ x = n + 1)) : Rc S (C - cst y * (xk x * B)) L' (n + 1) ∧ (C - cst y * (xk x * B) : Ser K) 0 = 1 := by
  have := h.le; have h3 := h.xn; have h4 := h.hbl; have h5 := h.x1
  refine ⟨⟨fun i hi => ?_, fun k h1 h2 => ?_⟩, ?_⟩
  · rw [ser_sub, h.r.d i (by omega), cst_mul]
    by_cases hxi : x ≤ i
    · rw [xk_hi _ hxi, h.bd (i - x) (by omega)]; grind
    · rw [xk_lo _ (by omega)]; grind
  · have e : (C - cst y * (xk x * B)) * S = C * S - cst y * (xk x * B * S : Ser K) := rg [C, cst y, xk x, B, S]
    rw [e, ser_sub, cst_mul]
    by_cases hk : k = n
    · rcases h.l with hl | hl
      · rw [hk, hl, hy]; grind
      · exact absurd hl (hne (by omega))
    · rw [h.r.e k (by omega) (by omega), h.z k (by omega) (by omega)]; grind
  · rw [ser_sub, h.one, cst_mul, xk_lo _ (by omega)]; grind
theorem Bm.grow {S C B : Ser K} {L x n bl cl : Nat} {b y g : Fin K} (h : Bm S C B L x n bl b) (hg : (C * S) n = g) (hgz : g ≠ 0) (hy : y * b = g) (h2 : 2 * L ≤ n) (hc : dg C cl) (hcl : cl ≤ L + 1) : Bm S (C - cst y * (xk x * B)) C (n + 1 - L) 1 (n + 1) cl g := by
  have := h.le; have h3 := h.xn; have h4 := h.hbl; have h5 := h.x1
  obtain ⟨r1, r2⟩ := h.next (L' := n + 1 - L) (by omega) (by omega) (by rw [hy, hg]) (fun hn => by omega)
  refine ⟨r1, r2, by omega, by omega, by omega, by omega, hc, fun k k1 k2 => ?_, .inl ?_, fun l c hl h1 hr => ?_⟩
  · rw [show xk 1 * C * S = xk 1 * (C * S) from ser_assoc _ _ _]
    cases k with
    | zero => exact xk_lo _ (by omega)
    | succ k => rw [xk_hi _ (by omega), Nat.add_sub_cancel]; exact h.r.e k (by omega) (by omega)
  · rw [show xk 1 * C * S = xk 1 * (C * S) from ser_assoc _ _ _, xk_hi _ (by omega), Nat.add_sub_cancel]; exact hg
  · have := massey h.r hr (by omega) h1
    rw [hg] at this
    exact hgz this
theorem Bm.keep {S C B : Ser K} {L x n bl : Nat} {b y g : Fin K} (h : Bm S C B L x n bl b) (hg : (C * S) n = g) (hy : y * b = g) (h2 : n < 2 * L) : Bm S (C - cst y * (xk x * B)) B L (x + 1) (n + 1) bl b := by
  have := h.le; have h3 := h.xn; have h4 := h.hbl; have h5 := h.x1
  obtain ⟨r1, r2⟩ := h.next (L' := L) (by omega) (by omega) (by rw [hy, hg]) (fun hn => by omega)
  exact ⟨r1, r2, by omega, by omega, by omega, by omega, h.bd, shift_z h.z, shift_l h.l, fun l c hl h1 hr => h.least l c hl h1 (hr.mono (by omega))⟩
end

/-! ### sums -/
section
variable {K : Nat} [NeZero K] {p : Int} (H : HomP K p)
include H
/-- the first terms of a product's coefficient -/
def trc (i : Nat) (f : Ser K) : Ser K := fun j => if j < i then f j else 0
omit H in
theorem trc_all {f : Ser K} {i : Nat} (h : dg f i) : trc i f = f := ser_ext fun j => by
  unfold trc
  by_cases hj : j < i
  · rw [if_pos hj]
  · rw [if_neg hj, h j (by omega)]
theorem sg_ser (x s : List Int) (k : Nat) : ∀ i, i ≤ k + 1 → H.φ (sg i (fun j => el x j * el s (k - j))) = (trc i (cf H x) * cf H s) k
  | 0, _ => by
    rw [show trc 0 (cf H x) = 0 from ser_ext fun j => by rw [ser_zero]; rfl, ser_mul0, ser_zero]; exact H.zero
  | i + 1, hi => by
    have ih := sg_ser x s k i (by omega)
    show H.φ (sg i _ + el x i * el s (k - i)) = _
    rw [H.add, ih, H.mul]
    have e : trc (i + 1) (cf H x) = trc i (cf H x) + cst (cf H x i) * xk i := ser_ext fun j => by
      rw [ser_add, cst_mul]
      unfold trc xk
      by_cases h1 : j < i
      · rw [if_pos h1, if_pos (by omega), if_neg (by omega)]; grind
      · by_cases h2 : j = i
        · rw [if_neg h1, if_pos (by omega), if_pos h2, h2]; grind
        · rw [if_neg h1, if_neg (by omega), if_neg h2]; grind
    rw [e, show (trc i (cf H x) + cst (cf H x i) * xk i) * cf H s = trc i (cf H x) * cf H s + cst (cf H x i) * (xk i * cf H s) from rg [trc i (cf H x), cst (cf H x i), xk i, cf H s], ser_add, cst_mul, xk_hi _ (by omega)]
    rfl
end

end Go.Proofs.YtgkomaglodpefaaDoor
namespace Go.Proofs.YtgkomaglodpefaaDoor
set_option linter.unusedVariables false

theorem el_rmap {n j : Nat} (f : Nat → Int) (h : j < n) : el ((List.range n).map f) j = f j := by
  unfold el; rw [List.getD_eq_getElem?_getD, List.getElem?_map, List.getElem?_range h]; rfl
theorem gr_rmap {n j : Nat} (f : Nat → List Int) (h : j < n) : gr ((List.range n).map f) j = f j := by
  unfold gr; rw [List.getD_eq_getElem?_getD, List.getElem?_map, List.getElem?_range h]; rfl
theorem rmap_len {α : Type} {n : Nat} (f : Nat → α) : ((List.range n).map f).length = n := by simp
theorem rmap_ok {p : Int} {n : Nat} {f : Nat → Int} (h : ∀ j, j < n → 0 ≤ f j ∧ f j < p) : okR p n ((List.range n).map f) := by
  refine ⟨by simp, fun x hx => ?_⟩
  obtain ⟨j, hj, rfl⟩ := List.mem_map.1 hx
  exact h j (List.mem_range.1 hj)
theorem rmapM_ok {p : Int} {n K : Nat} {f : Nat → List Int} (h : ∀ j, j < K → okR p n (f j)) : okM p n ((List.range K).map f) := by
  intro x hx
  obtain ⟨j, hj, rfl⟩ := List.mem_map.1 hx
  exact h j (List.mem_range.1 hj)

/-! ### systems: rows (m of K elements), what is wanted; the equations turned round -/
section
variable {p : Int} {s : List Int} {m K : Nat}
end
section
variable {p : Int} {s : List Int} {m K : Nat}
end
end Go.Proofs.YtgkomaglodpefaaDoor
namespace Go.Proofs.YtgkomaglodpefaaDoor
set_option linter.unusedVariables false

theorem coef_ {f : List Int} {i : Nat} : F_impl_coefficient f (i : Int) = some (el f i) := by
  by_cases h : f.length ≤ i
  · rw [el_out h]; exact stp (cTW (dT (by omega)) rfl)
  · exact stp (cFW (dF (by omega)) (bnd (idx_el (by omega)) rfl))
theorem sg_bd {f : Nat → Int} {i : Nat} : ∀ k, (∀ i, i < k → 0 ≤ f i ∧ f i ≤ 9409) → 0 ≤ sg k f ∧ sg k f ≤ 9409 * k
  | 0, _ => ⟨Int.le_refl _, by show (0 : Int) ≤ _; omega⟩
  | k + 1, h => by
    have ih := sg_bd (i := i) k (fun i hi => h i (by omega))
    have := h k (by omega)
    show 0 ≤ sg k f + f k ∧ sg k f + f k ≤ _
    omega
theorem pr_bd {p : Int} (hp : 2 ≤ p ∧ p ≤ 97) {a b : List Int} (ha : inP p a) (hb : inP p b) (i j : Nat) : 0 ≤ el a i * el b j ∧ el a i * el b j ≤ 9409 := mul_lt hp (gd_el (by omega) ha i) (gd_el (by omega) hb j)
/-- the coefficients of a product -/
def convL (p : Int) (a s : List Int) (n : Nat) : List Int := (List.range n).map fun k => sg (k + 1) (fun i => el a i * el s (k - i)) % p
theorem convL_len (p : Int) (a s : List Int) (n : Nat) : (convL p a s n).length = n := by simp [convL]
theorem convL_in {p : Int} (hp : 0 < p) (a s : List Int) (n : Nat) : inP p (convL p a s n) := fun x hx => by
  obtain ⟨k, _, rfl⟩ := List.mem_map.1 hx
  exact ⟨Int.emod_nonneg _ (by omega), Int.emod_lt_of_pos _ hp⟩
theorem convL_el {p : Int} {a s : List Int} {n k : Nat} (h : k < n) : el (convL p a s n) k = sg (k + 1) (fun i => el a i * el s (k - i)) % p := el_rmap _ h
theorem convolve_ {p : Int} (hp : 2 ≤ p ∧ p ≤ 97) {a b : List Int} (ha : inP p a) (hb : inP p b) {n : Nat} (hn : n ≤ 100) (hbl : n ≤ b.length) : F_impl_convolve p a b (n : Int) = some (convL p a b n) := by
  have hN : (maxN : Nat) = 1099511627776 := rfl
  obtain ⟨r, h1, h2, h3⟩ := forS_rel (n := n) (s := List.replicate n (0 : Int)) (f := fun (k8 : Nat) (s555 : List Int) =>
      (whileO (fun (s768 : List Int × Int) =>
          (some (decide (s768.2 ≤ ((k8 : Nat) : Int)))).bind fun a777 =>
          cond a777
          ((idxO s768.1 ((k8 : Nat) : Int)).bind fun a789 =>
            (subO ((k8 : Nat) : Int) s768.2).bind fun a791 =>
            (F_impl_coefficient a s768.2).bind fun y793 =>
            (F_impl_coefficient b a791).bind fun y796 =>
            (mulO y793 y796).bind fun a799 =>
            (addO a789 a799).bind fun a801 =>
            (setO s768.1 ((k8 : Nat) : Int) a801).bind fun a809 =>
            (addO s768.2 1).bind fun a812 =>
            some (.inl (a809, a812)))
          (some (.inr s768.1))) (s555, 0)).bind fun (s686 : List Int) =>
      (idxO s686 ((k8 : Nat) : Int)).bind fun a822 =>
      (remO a822 p).bind fun a824 =>
      (setO s686 ((k8 : Nat) : Int) a824).bind fun a832 =>
      some a832) (fun j r => r.length = n ∧ ∀ t, el r t = if t < j then sg (t + 1) (fun i => el a i * el b (t - i)) % p else 0) ⟨by simp, fun t => by rw [if_neg (by omega), el_rep]⟩ (by
    intro j s hj ⟨hs, he⟩
    have hf : ∀ i, 0 ≤ el a i * el b (j - i) ∧ el a i * el b (j - i) ≤ 9409 := fun i => pr_bd hp ha hb i _
    obtain ⟨s', g1, g2, g3, g4⟩ := whileO_num (f := (fun (s768 : List Int × Int) =>
          (some (decide (s768.2 ≤ ((j : Nat) : Int)))).bind fun a777 =>
          cond a777
          ((idxO s768.1 ((j : Nat) : Int)).bind fun a789 =>
            (subO ((j : Nat) : Int) s768.2).bind fun a791 =>
            (F_impl_coefficient a s768.2).bind fun y793 =>
            (F_impl_coefficient b a791).bind fun y796 =>
            (mulO y793 y796).bind fun a799 =>
            (addO a789 a799).bind fun a801 =>
            (setO s768.1 ((j : Nat) : Int) a801).bind fun a809 =>
            (addO s768.2 1).bind fun a812 =>
            some (.inl (a809, a812)))
          (some (.inr s768.1)))) (s := (s, (0 : Int))) (fun i z => z.2 = (i : Int) ∧ z.1.length = n ∧ el z.1 j = sg i (fun i => el a i * el b (j - i)) ∧ ∀ t, t ≠ j → el z.1 t = el s t)
      (fun z => z.length = n ∧ el z j = sg (j + 1) (fun i => el a i * el b (j - i)) ∧ ∀ t, t ≠ j → el z t = el s t) (j + 1) (by
      rintro i ⟨z, w⟩ hi ⟨k0, k1, k2, k3⟩
      dsimp only at k0 k1 k2 k3
      subst k0
      by_cases hij : i ≤ j
      · left
        have hb1 := sg_bd (i := 0) i (f := fun i => el a i * el b (j - i)) (fun i _ => hf i)
        have hb2 := hf i
        refine ⟨(z.set j (sg i (fun i => el a i * el b (j - i)) + el a i * el b (j - i)), (i : Int) + 1), stp (cTW (dT (by dsimp only; omega)) (bnd (idx_el (by dsimp only; omega)) (bnd (a := ((j - i : Nat) : Int)) ?_ (bnd coef_ (bnd coef_ (bnd (mulO_of (by omega) (by omega)) (bnd (a := sg i (fun i => el a i * el b (j - i)) + el a i * el b (j - i)) ?_ (bnd (setO_of _ (by dsimp only; omega)) (bnd (addO_of (by dsimp only; omega) (by dsimp only; omega)) rfl))))))))), ⟨by dsimp only; omega, by dsimp only; rw [List.length_set]; exact k1, by dsimp only; rw [el_setN (by omega), if_pos rfl]; rfl, fun t ht => by dsimp only; rw [el_setN (by omega), if_neg (fun h => ht h.symm)]; exact k3 t ht⟩, by omega⟩
        · dsimp only; rw [subO_of (by omega) (by omega)]; congr 1; omega
        · dsimp only; rw [k2]; exact addO_of (by omega) (by omega)
      · right
        refine ⟨z, stp (cFW (dF (by dsimp only; omega)) rfl), k1, by rw [k2, show i = j + 1 by omega], k3⟩) ⟨rfl, hs, by rw [he, if_neg (by omega)]; rfl, fun t _ => rfl⟩
    have hb1 := sg_bd (i := 0) (j + 1) (f := fun i => el a i * el b (j - i)) (fun i _ => hf i)
    refine ⟨s'.set j (sg (j + 1) (fun i => el a i * el b (j - i)) % p), bnd g1 (bnd (idx_el (by omega)) (bnd (a := sg (j + 1) (fun i => el a i * el b (j - i)) % p) ?_ (bnd (setO_of _ (by omega)) rfl))), by rw [List.length_set]; exact g2, fun t => ?_⟩
    · rw [g3, remO_of (by omega), Int.tmod_eq_emod_of_nonneg hb1.1]
    · rw [el_setN (by omega)]
      by_cases htj : j = t
      · subst htj; rw [if_pos rfl, if_pos (by omega)]
      · rw [if_neg htj, g4 t (fun h => htj h.symm), he]
        by_cases hlt : t < j
        · rw [if_pos hlt, if_pos (by omega)]
        · rw [if_neg hlt, if_neg (by omega)])
  have e : r = convL p a b n := ext_el (by rw [h2, convL_len]) fun t ht => by
    rw [h3, convL_el (by omega), if_pos (by omega)]
  refine bnd (zeros_ (by omega)) (bnd (a := r) ?_ (by rw [e]))
  rw [List.length_replicate]; exact h1

section
variable {K : Nat} [NeZero K] {p : Int} (H : HomP K p)
include H
/-- the program's shortest recurrence -/
theorem recurrence_ (hf : fdB p = true) {s : List Int} (hs : inP p s) (hl : s.length ≤ 60) : ∃ (now : List Int) (L : Nat), F_impl_recurrence p s = some (now, (L : Int)) ∧ gd p now ∧ now.length ≤ L + 1 ∧ cf H now 0 = 1 ∧ Rc (cf H s) (cf H now) L s.length ∧ Least (cf H s) L s.length ∧ L ≤ s.length := by
  have hp := fdB_rng hf
  have hN : (maxN : Nat) = 1099511627776 := rfl
  obtain ⟨⟨last, now, before, Li, xi⟩, h1, L, x, h2, h3, h4, h5, h6, _⟩ := forS_rel (n := s.length) (s := ((1 : Int), ([1] : List Int), ([1] : List Int), (0 : Int), (1 : Int))) (f := (fun (k8 : Nat) (s927 : Int × List Int × List Int × Int × Int) =>
      ((whileO (fun (s1313 : Int × Int) =>
            (some (decide (s1313.2 ≤ s927.2.2.2.1))).bind fun a1322 =>
            cond a1322
            ((subO ((k8 : Nat) : Int) s1313.2).bind fun a1328 =>
              (idxO s a1328).bind fun a1336 =>
              (F_impl_coefficient s927.2.1 s1313.2).bind fun y1338 =>
              (mulO y1338 a1336).bind fun a1341 =>
              (addO s1313.1 a1341).bind fun a1343 =>
              (addO s1313.2 1).bind fun a1345 =>
              some (.inl (a1343, a1345)))
            (some (.inr s1313.1))) (0, 0)).bind fun (s1255 : Int) =>
        (F_impl_mod p s1255).bind fun y1349 =>
        (some (decide (y1349 = 0))).bind fun a1352 =>
        cond a1352
        ((addO s927.2.2.2.2 1).bind fun a1390 =>
          some (s927.1, s927.2.1, s927.2.2.1, s927.2.2.2.1, a1390))
        ((F_impl_zeros s927.2.2.2.2).bind fun y1355 =>
          (appO y1355 s927.2.2.1).bind fun a1360 =>
          (negO y1349).bind fun a1365 =>
          (F_impl_inverse p s927.1).bind fun y1367 =>
          (mulO a1365 y1367).bind fun a1370 =>
          (F_impl_polyAdd p s927.2.1 a1370 a1360).bind fun y1372 =>
          (mulO 2 s927.2.2.2.1).bind fun a1377 =>
          (some (decide (a1377 ≤ ((k8 : Nat) : Int)))).bind fun a1379 =>
          cond a1379
          ((addO ((k8 : Nat) : Int) 1).bind fun a1385 =>
            (subO a1385 s927.2.2.2.1).bind fun a1387 =>
            some (y1349, y1372, s927.2.1, a1387, 1))
          ((addO s927.2.2.2.2 1).bind fun a1382 =>
            some (s927.1, y1372, s927.2.2.1, s927.2.2.2.1, a1382)))).bind fun (s1161 : Int × List Int × List Int × Int × Int) =>
      some (s1161.1, s1161.2.1, s1161.2.2.1, s1161.2.2.2.1, s1161.2.2.2.2))) (fun n st => ∃ L x : Nat, st.2.2.2.1 = (L : Int) ∧ st.2.2.2.2 = (x : Int) ∧ Bm (cf H s) (cf H st.2.1) (cf H st.2.2.1) L x n st.2.2.1.length (H.φ st.1) ∧ gd p st.2.1 ∧ st.2.1.length ≤ L + 1 ∧ gd p st.2.2.1 ∧ 0 < st.1 ∧ st.1 < p)
    ⟨0, 1, rfl, rfl, by dsimp only; rw [cf_one, H.one]; exact Bm.start _, one_gd hp.1, by simp, one_gd hp.1, by dsimp only; omega, by dsimp only; omega⟩ (by
    rintro n ⟨last, now, before, Li, xi⟩ hn ⟨L, x, e1, e2, hB, hg, hlen, hgb, hl1, hl2⟩
    dsimp only at e1 e2 hB hg hlen hgb hl1 hl2
    subst e1; subst e2
    have b1 := hB.le; have b2 := hB.xn; have b3 := hB.hbl; have b4 := hB.x1
    have hfb : ∀ i, 0 ≤ el now i * el s (n - i) ∧ el now i * el s (n - i) ≤ 9409 := fun i => pr_bd hp hg.1 hs i _
    have hb1 := sg_bd (i := 0) (L + 1) (f := fun i => el now i * el s (n - i)) (fun i _ => hfb i)
    have hgap : H.φ (sg (L + 1) (fun i => el now i * el s (n - i)) % p) = (cf H now * cf H s) n := by
      rw [H.mod, sg_ser H now s n (L + 1) (by omega), trc_all ((cf_dg H now).mono hlen)]
    have hgr := emod_in (x := sg (L + 1) (fun i => el now i * el s (n - i))) hp.1
    have hw : whileO (fun (s1313 : Int × Int) =>
            (some (decide (s1313.2 ≤ (L : Int)))).bind fun a1322 =>
            cond a1322
            ((subO ((n : Nat) : Int) s1313.2).bind fun a1328 =>
              (idxO s a1328).bind fun a1336 =>
              (F_impl_coefficient now s1313.2).bind fun y1338 =>
              (mulO y1338 a1336).bind fun a1341 =>
              (addO s1313.1 a1341).bind fun a1343 =>
              (addO s1313.2 1).bind fun a1345 =>
              some (.inl (a1343, a1345)))
            (some (.inr s1313.1))) (0, 0) = some (sg (L + 1) (fun i => el now i * el s (n - i))) := by
      refine whileO_is (fun i => (sg i (fun i => el now i * el s (n - i)), (i : Int))) (L + 1) (fun i hi => ?_) ?_
      · have hb2 := sg_bd (i := 0) i (f := fun i => el now i * el s (n - i)) (fun i _ => hfb i)
        have hb3 := hfb i
        refine stp (cTW (dT (by dsimp only; omega)) (bnd (a := ((n - i : Nat) : Int)) ?_ (bnd (idx_el (by omega)) (bnd coef_ (bnd (mulO_of (by omega) (by omega)) (bnd (addO_of (by dsimp only; omega) (by dsimp only; omega)) (bnd (addO_of (by dsimp only; omega) (by dsimp only; omega)) rfl)))))))
        dsimp only; rw [subO_of (by omega) (by omega)]; congr 1; omega
      · exact stp (cFW (dF (by dsimp only; omega)) rfl)
    generalize sg (L + 1) (fun i => el now i * el s (n - i)) = G at hb1 hgap hgr hw
    by_cases hz : G % p = 0
    · refine ⟨(last, now, before, (L : Int), (x : Int) + 1), bnd (a := (last, now, before, (L : Int), (x : Int) + 1)) (bnd hw (bnd (modG hp (by omega)) (stp (cTW (dT hz) (bnd (addO_of (by dsimp only; omega) (by dsimp only; omega)) rfl))))) rfl, L, x + 1, rfl, by dsimp only; omega, hB.same ?_, hg, hlen, hgb, hl1, hl2⟩
      rw [← hgap, hz]; exact H.zero
    · obtain ⟨v0, v3, v1, v2⟩ := inverse_ hf ⟨hl1, hl2⟩
      have hu := H.unit hf ⟨hl1, hl2⟩
      have hml := mul_lt hp hgr ⟨v1, v2⟩
      have hmn : (0 - G % p) * invF p last = -(G % p * invF p last) := by rw [Int.zero_sub, Int.neg_mul]
      have hins : inP p (List.replicate x 0 ++ before) := inP_app (inP_rep (by omega) x) hgb.1
      have hsl : (List.replicate x (0 : Int) ++ before).length = x + before.length := by rw [List.length_append, List.length_replicate]
      obtain ⟨t, t1, t2, t3, t4⟩ := polyAdd_ (b := (0 - G % p) * invF p last) (f := now) (g := List.replicate x 0 ++ before) hp (by omega) hg.1 hins (by omega) (by omega)
      have et : cf H t = cf H now - cst (H.φ (G % p) * H.φ (invF p last)) * (xk x * cf H before) := ser_ext fun i => by
        rw [ser_sub, cst_mul]
        show H.φ (el t i) = H.φ (el now i) - _
        rw [t4, H.mod, H.add, H.mul, hmn, H.neg, H.mul]
        by_cases hxi : x ≤ i
        · rw [xk_hi _ hxi, el_app_ge (by rw [List.length_replicate]; exact hxi), List.length_replicate]
          show _ = _ - _ * H.φ (el before (i - x))
          grind
        · rw [xk_lo _ (by omega), el_app_lt (by rw [List.length_replicate]; omega), el_rep, H.zero]; grind
      have hy : H.φ (G % p) * H.φ (invF p last) * H.φ last = H.φ (G % p) := by grind
      have hgz : H.φ (G % p) ≠ 0 := fun h => hz (by rw [← mod_mod]; exact (H.ker _).1 h)
      have hmul : mulO (0 - G % p) (invF p last) = some ((0 - G % p) * invF p last) := mulO_of (by omega) (by omega)
      have happ : appO (List.replicate x (0 : Int)) before = some (List.replicate x 0 ++ before) := appO_of (by rw [List.length_replicate]; omega)
      by_cases h2 : 2 * L ≤ n
      · refine ⟨(G % p, t, now, ((n + 1 - L : Nat) : Int), 1), bnd (a := (G % p, t, now, ((n + 1 - L : Nat) : Int), 1)) (bnd hw (bnd (modG hp (by omega)) (stp (cFW (dF hz) (bnd (zeros_ (by omega)) (bnd happ (bnd (a := 0 - G % p) (cI_of ⟨by omega, by omega⟩) (bnd v0 (bnd hmul (bnd t1 (bnd (mulO_of (a := 2) (b := (L : Int)) (by omega) (by omega)) (stp (cTW (dT (by omega)) (bnd (addO_of (by omega) (by omega)) (bnd (a := ((n + 1 - L : Nat) : Int)) ?_ rfl))))))))))))))) rfl, n + 1 - L, 1, rfl, rfl, ?_, t2, ?_, hg, ?_, hgr.2⟩
        · dsimp only; rw [subO_of (by omega) (by omega)]; congr 1; omega
        · dsimp only; rw [et]; exact hB.grow hgap.symm hgz hy h2 (cf_dg H now) hlen
        · dsimp only; rcases t3 with t3 | t3 <;> omega
        · dsimp only; omega
      · refine ⟨(last, t, before, (L : Int), (x : Int) + 1), bnd (a := (last, t, before, (L : Int), (x : Int) + 1)) (bnd hw (bnd (modG hp (by omega)) (stp (cFW (dF hz) (bnd (zeros_ (by omega)) (bnd happ (bnd (a := 0 - G % p) (cI_of ⟨by omega, by omega⟩) (bnd v0 (bnd hmul (bnd t1 (bnd (mulO_of (a := 2) (b := (L : Int)) (by omega) (by omega)) (stp (cFW (dF (by omega)) (bnd (addO_of (by dsimp only; omega) (by dsimp only; omega)) rfl)))))))))))))) rfl, L, x + 1, rfl, by dsimp only; omega, ?_, t2, ?_, hgb, hl1, hl2⟩
        · dsimp only; rw [et]; exact hB.keep hgap.symm hy (by omega)
        · dsimp only; rcases t3 with t3 | t3 <;> omega)
  dsimp only at h2 h3 h4 h5 h6
  subst h2
  exact ⟨now, L, bnd h1 rfl, h5, h6, h4.one, h4.r, h4.least, h4.le⟩
end

end Go.Proofs.YtgkomaglodpefaaDoor
namespace Go.Proofs.YtgkomaglodpefaaDoor
set_option linter.unusedVariables false

def rwN (s : List Int) (m k : Nat) (w : Nat) : List Int := (List.range w).map fun j => el s (k - j)
def rwM (s : List Int) (m K : Nat) : Rows := (List.range K).map fun u => rwN s m (m + u) (m + 1)
theorem rwM_ok {p : Int} {s : List Int} {m K : Nat} (hs : inP p s) (hK : m + K = s.length) : okM p (m + 1) (rwM s m K) := rmapM_ok fun u hu => rmap_ok fun j hj => hs _ (el_mem (by omega))
theorem rwM_el {s : List Int} {m K u j : Nat} (hu : u < K) (hj : j < m + 1) : el (gr (rwM s m K) u) j = el s (m + u - j) := by
  unfold rwM; rw [gr_rmap _ hu]; exact el_rmap _ hj
theorem frRecurrence_ {p : Int} {s : List Int} {m K : Nat} (hf : fdB p = true) (hs : inP p s) (hK : m + K = s.length) (hl : s.length ≤ 60) :
    (∃ v, v ∈ nulM p (m + 1) (rwM s m K) ∧ el v 0 ≠ 0 ∧ F_spec_frRecurrence p s (m : Int) = some (v.drop 1, true)) ∨ ((∀ v, v ∈ nulM p (m + 1) (rwM s m K) → el v 0 = 0) ∧ F_spec_frRecurrence p s (m : Int) = some ([], false)) := by
  have hN : (maxN : Nat) = 1099511627776 := rfl
  have hp := fdB_rng hf
  have hw : whileO (fun (s1083 : List (List Int) × Int) =>
      (some (decide (s1083.2 < ((s.length : Nat) : Int)))).bind fun a1094 =>
      cond a1094
      ((idxO s s1083.2).bind fun a1105 =>
        (whileO (fun (s1258 : List Int × Int) =>
            (some (decide (s1258.2 ≤ (m : Int)))).bind fun a1268 =>
            cond a1268
            ((subO s1083.2 s1258.2).bind fun a1273 =>
              (idxO s a1273).bind fun a1281 =>
              (appO s1258.1 [a1281]).bind fun a1286 =>
              (addO s1258.2 1).bind fun a1291 =>
              some (.inl (a1286, a1291)))
            (some (.inr s1258.1))) ([a1105], 1)).bind fun (s1198 : List Int) =>
        (appO s1083.1 [s1198]).bind fun a1298 =>
        (addO s1083.2 1).bind fun a1303 =>
        some (.inl (a1298, a1303)))
      (some (.inr s1083.1))) ([], (m : Int)) = some (rwM s m K) := by
    refine whileO_is (fun u => (rwM s m u, ((m + u : Nat) : Int))) K (fun u hu => ?_) ?_
    · refine stp (cTW (dT (by dsimp only; omega)) (bnd (idx_el (by omega)) (bnd (a := rwN s m (m + u) (m + 1)) ?_ (bnd (a := rwM s m (u + 1)) ?_ (bnd (addO_of (by dsimp only; omega) (by dsimp only; omega)) ?_)))))
      · refine whileO_is (fun j => (rwN s m (m + u) (j + 1), ((j + 1 : Nat) : Int))) m (fun j hj => ?_) ?_
        · refine stp (cTW (dT (by dsimp only; omega)) (bnd (a := ((m + u - (j + 1) : Nat) : Int)) ?_ (bnd (idx_el (by omega)) (bnd (a := rwN s m (m + u) (j + 1 + 1)) ?_ (bnd (addO_of (by dsimp only; omega) (by dsimp only; omega)) ?_)))))
          · dsimp only; rw [subO_of (by omega) (by omega)]; congr 1; omega
          · dsimp only
            rw [appO_of (by unfold rwN; rw [rmap_len]; show j + 1 + 1 ≤ _; omega)]
            congr 1
            simp [rwN, List.range_succ]
          · rw [show ((j + 1 : Nat) : Int) + 1 = ((j + 1 + 1 : Nat) : Int) by omega]
        · exact stp (cFW (dF (by dsimp only; omega)) rfl)
      · dsimp only
        rw [appO_of (by unfold rwM; rw [rmap_len]; show u + 1 ≤ _; omega)]
        congr 1
        simp [rwM, List.range_succ]
      · dsimp only
        rw [show ((m + u : Nat) : Int) + 1 = ((m + (u + 1) : Nat) : Int) by omega]
    · exact stp (cFW (dF (by dsimp only; omega)) rfl)
  have hok := rwM_ok hs hK
  have hnr : Red p (m + 1) (nulM p (m + 1) (rwM s m K)) := nulM_red hf
  have hnul := spNull_ (n := m + 1) hf (by omega) hok (by unfold rwM; rw [rmap_len]; omega)
  have hhead : ∀ y, (forO (fun (k1314 : Nat) (_ : Unit) =>
      (idxO (nulM p (m + 1) (rwM s m K)) ((k1314 : Nat) : Int)).bind fun a1386 =>
      (idxO a1386 0).bind fun a1396 =>
      (some (!decide (a1396 = 0))).bind fun a1398 =>
      cond a1398
      ((sliceO a1386 1 ((a1386.length : Nat) : Int)).bind fun a1402 =>
        some (.inr (a1402, true)))
      (some (.inl ()))) (nulM p (m + 1) (rwM s m K)).length 0 ()) = y → F_spec_frRecurrence p s (m : Int) = seqO y fun (_ : Unit) => some ([], false) := by
    intro y hy
    refine bnd hw (bnd (a := ((m + 1 : Nat) : Int)) (addO_of (by omega) (by omega)) (bnd hnul ?_))
    rw [hy]
  rcases forO_rel (n := (nulM p (m + 1) (rwM s m K)).length) (s := ()) (f := fun (k1314 : Nat) (_ : Unit) =>
      (idxO (nulM p (m + 1) (rwM s m K)) ((k1314 : Nat) : Int)).bind fun a1386 =>
      (idxO a1386 0).bind fun a1396 =>
      (some (!decide (a1396 = 0))).bind fun a1398 =>
      cond a1398
      ((sliceO a1386 1 ((a1386.length : Nat) : Int)).bind fun a1402 =>
        some (.inr (a1402, true)))
      (some (.inl ()))) (fun j _ => ∀ i, i < j → el (gr (nulM p (m + 1) (rwM s m K)) i) 0 = 0) (fun t : List Int × Bool => ∃ v, v ∈ nulM p (m + 1) (rwM s m K) ∧ el v 0 ≠ 0 ∧ t = (v.drop 1, true)) (fun i hi => by omega) (by
      intro j _ hj hI
      have hro := okM_gr hnr.ok hj
      by_cases hz : el (gr (nulM p (m + 1) (rwM s m K)) j) 0 = 0
      · left
        refine ⟨(), bnd (idx_gr hj) (bnd (idx_el (c := 0) (by rw [hro.1]; omega)) (stp (cFW (nT (dT hz)) rfl))), fun i hi => ?_⟩
        by_cases hij : i = j
        · rw [hij]; exact hz
        · exact hI i (by omega)
      · right
        refine ⟨_, bnd (idx_gr hj) (bnd (idx_el (c := 0) (by rw [hro.1]; omega)) (stp (cTW (nF (dF hz)) (bnd (a := (gr (nulM p (m + 1) (rwM s m K)) j).drop 1) ?_ rfl)))), _, gr_mem hj, hz, rfl⟩
        unfold sliceO
        rw [if_pos ⟨by omega, by omega, by omega⟩, Int.toNat_natCast, List.take_of_length_le (by rw [List.length_drop]; exact Nat.le_refl _)]
        rfl) with ⟨r, h1, h2⟩ | ⟨t, h1, v, h2, h3, rfl⟩
  · right
    refine ⟨fun v hv => ?_, hhead _ h1⟩
    obtain ⟨i, hi, rfl⟩ := List.mem_iff_getElem.1 hv
    have := h2 i hi
    have e : gr (nulM p (m + 1) (rwM s m K)) i = (nulM p (m + 1) (rwM s m K))[i] := by
      have := gr_get hi; rw [List.getElem?_eq_getElem hi] at this; exact (Option.some.inj this).symm
    rw [e] at this; exact this
  · exact .inl ⟨v, h2, h3, hhead _ h1⟩
section
variable {K : Nat} [NeZero K] {p : Int} (H : HomP K p)
include H
theorem perp_iff (hf : fdB p = true) {s v : List Int} {m k : Nat} (hK : m + k = s.length) (hv : v.length ≤ m + 1) : perp p (m + 1) (rwM s m k) v ↔ Rc (cf H s) (cf H v) m s.length := by
  have hlen : (rwM s m k).length = k := by unfold rwM; rw [rmap_len]
  have e : ∀ u, u < k → (sg (m + 1) (fun j => el (gr (rwM s m k) u) j * el v j) % p = 0 ↔ (cf H v * cf H s) (m + u) = 0) := by
    intro u hu
    rw [← H.ker, sg_congr (g := fun j => el v j * el s (m + u - j)) (fun j hj => by rw [rwM_el hu hj, Int.mul_comm]), sg_ser H v s (m + u) (m + 1) (by omega), trc_all ((cf_dg H v).mono hv)]
  constructor
  · intro h
    refine ⟨(cf_dg H v).mono hv, fun t h1 h2 => ?_⟩
    have := (e (t - m) (by omega)).1 (h (t - m) (by omega))
    rwa [show m + (t - m) = t by omega] at this
  · intro h u hu
    exact (e u (by omega)).2 (h.e (m + u) (by omega) (by omega))
/-- the reference finds a recurrence of a length or there is none -/
theorem frRec_cases (hf : fdB p = true) {s : List Int} {m : Nat} (hs : inP p s) (hm : m ≤ s.length) (hl : s.length ≤ 60) :
    (∃ v, okR p (m + 1) v ∧ el v 0 = 1 ∧ Rc (cf H s) (cf H v) m s.length ∧ F_spec_frRecurrence p s (m : Int) = some (v.drop 1, true)) ∨ ((∀ c, c 0 = 1 → ¬ Rc (cf H s) c m s.length) ∧ F_spec_frRecurrence p s (m : Int) = some ([], false)) := by
  have hp := fdB_rng hf
  obtain ⟨k, hK⟩ : ∃ k, m + k = s.length := ⟨s.length - m, by omega⟩
  have hnr : Red p (m + 1) (nulM p (m + 1) (rwM s m k)) := nulM_red hf
  have hok := rwM_ok hs hK
  rcases frRecurrence_ hf hs hK hl with ⟨v, h1, h2, h3⟩ | ⟨h1, h2⟩
  · left
    obtain ⟨i, hi, e⟩ := List.mem_iff_getElem.1 h1
    have eg : gr (nulM p (m + 1) (rwM s m k)) i = v := by
      have := gr_get hi; rw [List.getElem?_eq_getElem hi] at this; rw [← e]; exact (Option.some.inj this).symm
    have hro := okM_gr hnr.ok hi
    have hone := hnr.one i hi
    rw [eg] at hro hone
    have hld : leadN v = 0 := leadN_eq (fun j hj => by omega) h2
    rw [hld] at hone
    refine ⟨v, hro, hone, (perp_iff H hf hK (by rw [hro.1]; omega)).1 ?_, h3⟩
    refine (nulM_iff hf hok v).1 ?_
    rw [← eg]; exact inSpan_row hi
  · right
    refine ⟨fun c hc hr => ?_, h2⟩
    -- the recurrence as a list
    obtain ⟨x, hx⟩ : ∃ x : List Int, x.length = m + 1 ∧ cf H x = c := by
      refine ⟨(List.range (m + 1)).map fun j => Classical.choose (H.sur (c j)), rmap_len _, ser_ext fun j => ?_⟩
      show H.φ (el _ j) = c j
      by_cases hj : j < m + 1
      · rw [el_rmap _ hj]; exact Classical.choose_spec (H.sur (c j))
      · rw [el_out (by rw [rmap_len]; omega), H.zero]; exact (hr.d j (by omega)).symm
    rw [← hx.2] at hr hc
    obtain ⟨y, hy⟩ := (nulM_iff hf hok x).2 ((perp_iff H hf hK (by omega)).2 hr)
    have h0 := hy 0 (by omega)
    rw [sg_zero (fun i hi => by
      rw [h1 _ (gr_mem hi), Int.mul_zero]), Int.zero_emod] at h0
    have : cf H x 0 = 0 := (H.ker _).2 h0
    rw [this] at hc
    exact H.ne hp.1 hc.symm
end
/-- both programs' fraction of a series -/
theorem frOf_ {p : Int} (hf : fdB p = true) {s : List Int} (hs : inP p s) (hl : s.length ≤ 60) :
    ∃ W : (List Int × List Int) × Bool, F_spec_frOf p s = some W ∧ F_impl_FractionOfSeries p s = some W ∧ W.1.1.length ≤ 21 ∧ W.1.2.length ≤ 21 := by
  have hp := fdB_rng hf
  have hN : (maxN : Nat) = 1099511627776 := rfl
  obtain ⟨K, _, ⟨H⟩⟩ := homP_ex (p := p) (by omega)
  obtain ⟨now, L, r1, r2, r3, r4, r5, r6, r7⟩ := recurrence_ H hf hs hl
  have hser : F_impl_isSeries p s = some true := by
    refine bnd (a := true) (bnd (isField_ p) ?_) rfl
    rw [hf]
    refine stp (cTW (dT (by omega)) (bnd (isVector_ p _ s) ?_))
    rw [inB_true.2 hs, dT rfl]; rfl
  have hnp : 0 < now.length := by
    refine Decidable.byContradiction fun hn => ?_
    have : now = [] := List.eq_nil_of_length_eq_zero (by omega)
    rw [this, cf_nil, ser_zero] at r4
    exact H.ne hp.1 r4.symm
  have noRec : ∀ m : Nat, m < L → F_spec_frRecurrence p s (m : Int) = some ([], false) := by
    intro m hm
    rcases frRec_cases H hf hs (m := m) (by omega) hl with ⟨v, v1, v2, v3, v4⟩ | ⟨_, h⟩
    · exact absurd v3 (r6 m _ hm (by show H.φ (el v 0) = 1; rw [v2, H.one]))
    · exact h
  by_cases h2 : 2 * L ≤ s.length
  · -- the recurrence is found
    obtain ⟨v, v1, v2, v3, v4⟩ : ∃ v, okR p (L + 1) v ∧ el v 0 = 1 ∧ Rc (cf H s) (cf H v) L s.length ∧ F_spec_frRecurrence p s (L : Int) = some (v.drop 1, true) := by
      rcases frRec_cases H hf hs (m := L) r7 hl with h | ⟨h, _⟩
      · exact h
      · exact absurd r5 (h _ r4)
    have ev : cf H v = cf H now := rc_unique H hf v3 r5 (by show H.φ (el v 0) = 1; rw [v2, H.one]) r4 r6 h2
    have eel : ∀ i, el v i = el now i := fun i => H.inj (gd_el (by omega) v1.2 i) (gd_el (by omega) r2.1 i) (congrFun ev i)
    have ec : convL p v s L = convL p now s L := by
      unfold convL
      refine List.map_congr_left fun k _ => ?_
      rw [sg_congr (fun i _ => by rw [eel])]
    have et : trimL v = now := gd_ext (trimL_gd v1.2) r2 fun i => by rw [trimL_el, eel]
    have eden : appO [1] (v.drop 1) = some v := by
      rw [appO_of (by rw [List.length_drop, v1.1]; show 1 + (L + 1 - 1) ≤ _; omega)]
      congr 1
      refine ext_el (by rw [List.length_append, List.length_drop, v1.1]; show 1 + (L + 1 - 1) = _; omega) fun j hj => ?_
      cases j with
      | zero => rw [v2]; rfl
      | succ j =>
        rw [el_app_ge (by show 1 ≤ j + 1; omega)]
        unfold el
        rw [List.getD_eq_getElem?_getD, List.getD_eq_getElem?_getD, List.getElem?_drop]
        congr 2
        show 1 + (j + 1 - 1) = j + 1
        omega
    have hcl := convL_len p now s L
    have hcin := convL_in (p := p) (by omega) now s L
    have htl := trimL_le (convL p now s L)
    obtain ⟨x, x1, x2, x3⟩ := frMake_ hf (trimL_gd hcin) r2 hnp (by omega) (by omega)
    have hxn := x3.nl
    have hxd := x3.dl
    -- numerators
    have hnum : forS (fun (k11565 : Nat) (s12218 : List Int) =>
                (whileO (fun (s12491 : List Int × Int) =>
                    (some (decide (s12491.2 ≤ ((k11565 : Nat) : Int)))).bind fun a12500 =>
                    cond a12500
                    ((idxO s12491.1 ((k11565 : Nat) : Int)).bind fun a12512 =>
                      (idxO v s12491.2).bind fun a12520 =>
                      (subO ((k11565 : Nat) : Int) s12491.2).bind fun a12522 =>
                      (idxO s a12522).bind fun a12530 =>
                      (mulO a12520 a12530).bind fun a12532 =>
                      (addO a12512 a12532).bind fun a12534 =>
                      (remO a12534 p).bind fun a12536 =>
                      (setO s12491.1 ((k11565 : Nat) : Int) a12536).bind fun a12544 =>
                      (addO s12491.2 1).bind fun a12547 =>
                      some (.inl (a12544, a12547)))
                    (some (.inr s12491.1))) (s12218, 0)).bind fun (s12385 : List Int) =>
                some s12385) L 0 (List.replicate L 0) = some (convL p v s L) := by
      obtain ⟨r, h1, h2, h3⟩ := forS_rel (n := L) (s := List.replicate L (0 : Int)) (f := fun (k11565 : Nat) (s12218 : List Int) =>
                (whileO (fun (s12491 : List Int × Int) =>
                    (some (decide (s12491.2 ≤ ((k11565 : Nat) : Int)))).bind fun a12500 =>
                    cond a12500
                    ((idxO s12491.1 ((k11565 : Nat) : Int)).bind fun a12512 =>
                      (idxO v s12491.2).bind fun a12520 =>
                      (subO ((k11565 : Nat) : Int) s12491.2).bind fun a12522 =>
                      (idxO s a12522).bind fun a12530 =>
                      (mulO a12520 a12530).bind fun a12532 =>
                      (addO a12512 a12532).bind fun a12534 =>
                      (remO a12534 p).bind fun a12536 =>
                      (setO s12491.1 ((k11565 : Nat) : Int) a12536).bind fun a12544 =>
                      (addO s12491.2 1).bind fun a12547 =>
                      some (.inl (a12544, a12547)))
                    (some (.inr s12491.1))) (s12218, 0)).bind fun (s12385 : List Int) =>
                some s12385) (fun j r => r.length = L ∧ ∀ t, el r t = if t < j then sg (t + 1) (fun i => el v i * el s (t - i)) % p else 0) ⟨by simp, fun t => by rw [if_neg (by omega), el_rep]⟩ (by
        intro j z hj ⟨hz, he⟩
        have hfb : ∀ i, 0 ≤ el v i * el s (j - i) ∧ el v i * el s (j - i) ≤ 9409 := fun i => pr_bd hp v1.2 hs i _
        obtain ⟨z', g1, g2, g3, g4⟩ := whileO_num (f := (fun (s12491 : List Int × Int) =>
                    (some (decide (s12491.2 ≤ ((j : Nat) : Int)))).bind fun a12500 =>
                    cond a12500
                    ((idxO s12491.1 ((j : Nat) : Int)).bind fun a12512 =>
                      (idxO v s12491.2).bind fun a12520 =>
                      (subO ((j : Nat) : Int) s12491.2).bind fun a12522 =>
                      (idxO s a12522).bind fun a12530 =>
                      (mulO a12520 a12530).bind fun a12532 =>
                      (addO a12512 a12532).bind fun a12534 =>
                      (remO a12534 p).bind fun a12536 =>
                      (setO s12491.1 ((j : Nat) : Int) a12536).bind fun a12544 =>
                      (addO s12491.2 1).bind fun a12547 =>
                      some (.inl (a12544, a12547)))
                    (some (.inr s12491.1)))) (s := (z, (0 : Int))) (fun i y => y.2 = (i : Int) ∧ y.1.length = L ∧ el y.1 j = sg i (fun i => el v i * el s (j - i)) % p ∧ ∀ t, t ≠ j → el y.1 t = el z t)
          (fun y => y.length = L ∧ el y j = sg (j + 1) (fun i => el v i * el s (j - i)) % p ∧ ∀ t, t ≠ j → el y t = el z t) (j + 1) (by
          rintro i ⟨y, w⟩ hi ⟨k0, k1, k2, k3⟩
          dsimp only at k0 k1 k2 k3
          subst k0
          by_cases hij : i ≤ j
          · left
            have hb0 := emod_in (x := sg i (fun i => el v i * el s (j - i))) hp.1
            have hb2 := hfb i
            refine ⟨(y.set j ((sg i (fun i => el v i * el s (j - i)) % p + el v i * el s (j - i)) % p), (i : Int) + 1), stp (cTW (dT (by dsimp only; omega)) (bnd (idx_el (by dsimp only; omega)) (bnd (idx_el (by rw [v1.1]; omega)) (bnd (a := ((j - i : Nat) : Int)) ?_ (bnd (idx_el (by omega)) (bnd (mulO_of (by omega) (by omega)) (bnd (a := sg i (fun i => el v i * el s (j - i)) % p + el v i * el s (j - i)) ?_ (bnd (a := (sg i (fun i => el v i * el s (j - i)) % p + el v i * el s (j - i)) % p) ?_ (bnd (setO_of _ (by dsimp only; omega)) (bnd (addO_of (by dsimp only; omega) (by dsimp only; omega)) rfl)))))))))), ⟨by dsimp only; omega, by dsimp only; rw [List.length_set]; exact k1, by dsimp only; rw [el_setN (by omega), if_pos rfl, add_mod1]; rfl, fun t ht => by dsimp only; rw [el_setN (by omega), if_neg (fun h => ht h.symm)]; exact k3 t ht⟩, by omega⟩
            · dsimp only; rw [subO_of (by omega) (by omega)]; congr 1; omega
            · dsimp only; rw [k2]; exact addO_of (by omega) (by omega)
            · rw [remO_of (by omega), Int.tmod_eq_emod_of_nonneg (by omega)]
          · right
            refine ⟨y, stp (cFW (dF (by dsimp only; omega)) rfl), k1, by rw [k2, show i = j + 1 by omega], k3⟩) ⟨rfl, hz, by dsimp only; rw [he, if_neg (by omega)]; exact (Int.zero_emod p).symm, fun t _ => rfl⟩
        refine ⟨z', bnd g1 rfl, g2, fun t => ?_⟩
        by_cases htj : j = t
        · subst htj; rw [if_pos (by omega), g3]
        · rw [g4 t (fun h => htj h.symm), he]
          by_cases hlt : t < j
          · rw [if_pos hlt, if_pos (by omega)]
          · rw [if_neg hlt, if_neg (by omega)])
      have e : r = convL p v s L := ext_el (by rw [h2, convL_len]) fun t ht => by
        rw [h3, convL_el (by omega), if_pos (by omega)]
      rw [← e]; exact h1
    -- sizes
    refine ⟨if x.1.length ≤ 21 ∧ x.2.length ≤ 21 then (x, true) else (([], []), false), ?_, ?_, ?_⟩
    · have hif : F_spec_frIf (x.1, x.2) = some (if x.1.length ≤ 21 ∧ x.2.length ≤ 21 then (x, true) else (([], []), false)) := by
        by_cases h1 : x.1.length ≤ 21
        · by_cases h3 : x.2.length ≤ 21
          · rw [if_pos ⟨h1, h3⟩]
            exact bnd (a := false) (bnd (a := true) (stp (congrArg some (dT (by dsimp only; omega)))) (stp (cFW rfl (bnd (a := true) (stp (congrArg some (dT (by dsimp only; omega)))) rfl)))) rfl
          · rw [if_neg (fun h => h3 h.2)]
            exact bnd (a := true) (bnd (a := true) (stp (congrArg some (dT (by dsimp only; omega)))) (stp (cFW rfl (bnd (a := false) (stp (congrArg some (dF (by dsimp only; omega)))) rfl)))) rfl
        · rw [if_neg (fun h => h1 h.1)]
          exact bnd (a := true) (bnd (a := false) (stp (congrArg some (dF (by dsimp only; omega)))) rfl) rfl
      refine sqW (whileO_is (fun m => (m : Int)) (t := .inr (if x.1.length ≤ 21 ∧ x.2.length ≤ 21 then (x, true) else (([], []), false))) L (fun m hm => ?_) ?_) rfl
      · refine bnd (mulO_of (by omega) (by omega)) (stp (cTW (dT (by omega)) ?_))
        refine sqW (r := some (.inl ())) (bnd (noRec m hm) (stp (cTW rfl rfl))) (stp (bnd (addO_of (by omega) (by omega)) rfl))
      · refine bnd (mulO_of (by omega) (by omega)) (stp (cTW (dT (by omega)) ?_))
        refine sqW (r := some (.inr (.inr (.inr (if x.1.length ≤ 21 ∧ x.2.length ≤ 21 then (x, true) else (([], []), false)))))) (bnd v4 (stp (cFW rfl (bnd eden (bnd (makeO_of _ (by omega)) ?_))))) rfl
        rw [List.length_replicate]
        refine bnd hnum ?_
        rw [ec]
        refine bnd (poTrim_ (by omega)) (bnd (poTrim_ (by rw [v1.1]; omega)) ?_)
        rw [et]
        exact bnd x1 (bnd hif rfl)
    · refine bnd hser (stp (cFW rfl (bnd r1 (bnd (mulO_of (a := 2) (b := (L : Int)) (by omega) (by omega)) (stp (cFW (dF (by omega)) (bnd (convolve_ hp r2.1 hs (by omega) (by omega)) (bnd (trimmed_ (by omega)) (bnd x2 ?_)))))))))
      have hpoly : ∀ f, gd p f → f.length ≤ 41 → F_impl_isPoly p f = some true := by
        intro f hF hfl
        refine bnd (a := true) (bnd (isField_ p) ?_) rfl
        rw [hf]
        refine stp (cTW (dT (by omega)) (bnd (isVector_ p _ f) ?_))
        rw [inB_true.2 hF.1, dT rfl]
        by_cases h0 : f.length = 0
        · exact stp (cTW (dT (by omega)) rfl)
        · refine stp (cFW (dF (by omega)) (bnd (subO_of (by omega) (by omega)) ?_))
          rw [show ((f.length : Nat) : Int) - 1 = ((f.length - 1 : Nat) : Int) by omega]
          refine bnd (idx_el (by omega)) ?_
          rcases hF.2 with h | h
          · exact absurd h h0
          · rw [dF h]; rfl
      have hpolys : F_impl_arePolys p [x.1, x.2] = some true := by
        refine sqW (r := some (.inl ())) ?_ (stp (bnd (isField_ p) (by rw [hf])))
        refine (forO_is (n := 2) (fun _ => ()) (fun j hj => ?_))
        match j, hj with
        | 0, _ => exact stp (bnd (hpoly x.1 x3.n (by omega)) (stp (cFW rfl rfl)))
        | 1, _ => exact stp (bnd (hpoly x.2 x3.d (by omega)) (stp (cFW rfl rfl)))
      have hEq : ∀ a : List Int, a.length ≤ 100 → F_slices_Equal_int_int a a = some true := by
        intro a hal
        refine stp (cFW (nT (dT rfl)) (sqW (forO_is (n := a.length) (fun _ => ()) (fun j hj => ?_)) rfl))
        exact bnd (idx_el hj) (bnd (idx_el hj) (stp (cFW (nT (dT rfl)) rfl)))
      have hdg : ∀ f : List Int, f.length ≤ 100 → F_impl_degree f = some (((f.length : Nat) : Int) - 1) := fun f h => bnd (subO_of (by omega) (by omega)) rfl
      have hv : F_impl_validFraction p (x.1, x.2) = some (if x.1.length ≤ 21 ∧ x.2.length ≤ 21 then (x, true) else (([], []), false)) := by
        have h0 := x3.pos
        by_cases h1 : x.1.length ≤ 21
        · by_cases h3 : x.2.length ≤ 21
          · rw [if_pos ⟨h1, h3⟩]
            refine bnd (a := true) ?_ (stp (cFW rfl rfl))
            refine bnd (a := false) (bnd hpolys (stp (cFW rfl (bnd (hdg x.1 (by omega)) (stp (cFW (dF (by omega)) (bnd (hdg x.2 (by omega)) (stp (cFW (dF (by omega)) (stp (congrArg some (dF (by dsimp only; omega))))))))))))) ?_
            refine cFW rfl (bnd x3.again ?_)
            exact bnd (bnd (bnd (hEq x.1 (by omega)) (cTW rfl (bnd (hEq x.2 (by omega)) rfl))) rfl) rfl
          · rw [if_neg (fun h => h3 h.2)]
            refine bnd (a := false) ?_ (stp (cTW rfl rfl))
            refine bnd (a := true) (bnd hpolys (stp (cFW rfl (bnd (hdg x.1 (by omega)) (stp (cFW (dF (by omega)) (bnd (hdg x.2 (by omega)) (stp (cTW (dT (by omega)) rfl))))))))) rfl
        · rw [if_neg (fun h => h1 h.1)]
          refine bnd (a := false) ?_ (stp (cTW rfl rfl))
          refine bnd (a := true) (bnd hpolys (stp (cFW rfl (bnd (hdg x.1 (by omega)) (stp (cTW (dT (by omega)) rfl)))))) rfl
      exact bnd hv rfl
    · by_cases h : x.1.length ≤ 21 ∧ x.2.length ≤ 21
      · rw [if_pos h]; exact h
      · rw [if_neg h]; exact ⟨by simp, by simp⟩
  · refine ⟨(([], []), false), ?_, ?_, by simp, by simp⟩
    · obtain ⟨q, hq⟩ : ∃ q : Nat, s.length = 2 * q ∨ s.length = 2 * q + 1 := ⟨s.length / 2, by omega⟩
      refine sqW (whileO_is (fun m => (m : Int)) (t := .inl ()) (q + 1) (fun m hm => ?_) ?_) rfl
      · refine bnd (mulO_of (by omega) (by omega)) (stp (cTW (dT (by omega)) ?_))
        refine sqW (r := some (.inl ())) (bnd (noRec m (by omega)) (stp (cTW rfl rfl))) (stp (bnd (addO_of (by omega) (by omega)) rfl))
      · exact bnd (mulO_of (by omega) (by omega)) (stp (cFW (dF (by omega)) rfl))
    · exact bnd hser (stp (cFW rfl (bnd r1 (bnd (mulO_of (a := 2) (b := (L : Int)) (by omega) (by omega)) (stp (cTW (dT (by omega)) rfl))))))

end Go.Proofs.YtgkomaglodpefaaDoor
namespace Go.Proofs.YtgkomaglodpefaaDoor
set_option linter.unusedVariables false

theorem nE_sum {α : Type} (f : α → Nat) (l : List α) : tot (fun x => 8 * (1 + f x)) l = 8 * (l.length + tot f l) := by
  induction l with
  | nil => rfl
  | cons a l ih => rw [tot_cons, tot_cons, ih, List.length_cons]; omega
theorem totLe2 {α : Type} {f g : α → Nat} (h : ∀ a, f a ≤ g a) (l : List α) : tot f l ≤ tot g l := by
  induction l with
  | nil => exact Nat.le_refl _
  | cons a l ih => rw [tot_cons, tot_cons]; have := h a; omega
theorem mark_loop2 {α : Type} (mk : α → Int → α × Int) (n M : α → Nat) (hmk : ∀ a k, (mk a k).2 = k + n a) (hnM : ∀ a, n a ≤ M a) {f : List α × Int × Int → Option ((List α × Int × Int) ⊕ (List α × Int))} (N : Nat) (B : Int)
    (hf : ∀ (j : Nat) (a : α) (s : List α) (q : Int), s[j]? = some a → s.length = N → j < N → 0 ≤ q → q + M a ≤ B → f (s, q, (j : Int)) = some (.inl (s.set j (mk a q).1, (mk a q).2, (j : Int) + 1)))
    (he : ∀ (s : List α) (q : Int), s.length = N → f (s, q, (N : Int)) = some (.inr (s, q))) : ∀ (rest pre : List α) (q : Int), pre.length + rest.length = N → 0 ≤ q → q + tot M rest ≤ B → whileO f (pre ++ rest, q, (pre.length : Int)) = some (pre ++ (mkL mk rest q).1, (mkL mk rest q).2)
  | [], pre, q, hN, _, _ => by
    have h1 : pre.length = N := by simpa using hN
    have := he pre q h1
    rw [← h1] at this
    rw [List.append_nil, whileO_end this]; simp [mkL]
  | a :: rest, pre, q, hN, h0, hB => by
    rw [tot_cons] at hB
    have hn := hnM a
    have h1 := hf pre.length a (pre ++ a :: rest) q (get_app _ _ _) (by simpa using hN) (by simp at hN; omega) h0 (by omega)
    have ih := mark_loop2 mk n M hmk hnM N B hf he rest (pre ++ [(mk a q).1]) (mk a q).2 (by simp at hN ⊢; omega) (by rw [hmk]; omega) (by rw [hmk]; omega)
    rw [set_app, app1 pre rest (mk a q).1, ← len1 pre (mk a q).1] at h1
    rw [whileO_step h1, ih]
    simp [mkL]
theorem held_loop2 {α : Type} (mk : α → Int → α × Int) (n M : α → Nat) (hmk : ∀ a k, (mk a k).2 = k + n a) (hnM : ∀ a, n a ≤ M a) {f : Int × Int → Option ((Int × Int) ⊕ (Int ⊕ Int))} (L : List α) (B : Int)
    (hf : ∀ (j : Nat) (a : α) (q : Int), L[j]? = some (mk a q).1 → j < L.length → 0 ≤ q → q + M a ≤ B → f (q, (j : Int)) = some (.inl (q + n a, (j : Int) + 1)))
    (he : ∀ q : Int, f (q, (L.length : Int)) = some (.inr (.inl q))) : ∀ (rest pre : List α) (q : Int), L = pre ++ (mkL mk rest q).1 → 0 ≤ q → q + tot M rest ≤ B → whileO f (q, (pre.length : Int)) = some (.inl (q + tot n rest))
  | [], pre, q, hL, _, _ => by
    have := he q
    rw [hL] at this
    have h2 : pre ++ (mkL mk [] q).1 = pre := by simp [mkL]
    rw [h2] at this
    rw [whileO_end this, tot_nil]; simp
  | a :: rest, pre, q, hL, h0, hB => by
    rw [tot_cons] at hB
    have hn := hnM a
    have hL' : L = pre ++ (mk a q).1 :: (mkL mk rest (q + n a)).1 := by rw [hL]; show _ = _; rw [← hmk]; rfl
    have h1 := hf pre.length a q (by rw [hL']; exact get_app _ _ _) (by rw [hL']; simp) h0 (by omega)
    have ih := held_loop2 mk n M hmk hnM L B hf he rest (pre ++ [(mk a q).1]) (q + n a) (by rw [hL', app1]) (by omega) (by omega)
    rw [len1] at ih
    rw [whileO_step h1, ih, tot_cons]; congr 2; omega

end Go.Proofs.YtgkomaglodpefaaDoor
namespace Go.Proofs.YtgkomaglodpefaaDoor
set_option linter.unusedVariables false

abbrev TyFraction := (List Int) × (List Int)
def nFraction (a : TyFraction) : Nat := nIntS a.1 + nIntS a.2
theorem e_Fraction (a : TyFraction) (h : nFraction a ≤ 1048576) : F_laws_eqFraction a a = some true := by
  unfold nFraction at h
  exact bnd (e_IntS a.1 (by omega)) (stp (cFW rfl (bnd (e_IntS a.2 (by omega)) (stp (cFW rfl (rfl))))))
abbrev TyFractionS := List TyFraction
def nFractionS (a : TyFractionS) : Nat := a.length + tot nFraction a
theorem e_FractionS (a : TyFractionS) (h : nFractionS a ≤ 1048576) : F_laws_eqFractionS a a = some true := by
  unfold nFractionS at h
  refine stp (cFW (nT (dT rfl)) (sqW (whileO_is (fun j => (j : Int)) (t := .inl ()) a.length ?_ ?_) ?_))
  · intro j hj
    exact stp (cTW (dT (by omega)) (bnd (idxO_of (List.getElem?_eq_getElem hj)) (bnd (idxO_of (List.getElem?_eq_getElem hj)) (bnd (e_Fraction a[j] (by have := tot_mem (n := nFraction) (List.getElem_mem hj); omega)) (stp (cFW rfl (bnd (addO_of (by omega) (by omega)) rfl)))))))
  · exact stp (cFW (dF (by omega)) rfl)
  · rfl
def mkE_Fraction (x : TyFraction) (q : Int) : TyFraction × Int := (((mk_IntS x.1 q).1, (mk_IntS x.2 (mk_IntS x.1 q).2).1), (mk_IntS x.2 (mk_IntS x.1 q).2).2)
def cE_Fraction (x : TyFraction) : Nat := 0 + cIntS x.1 + cIntS x.2
theorem mkE_Fraction_snd (x : TyFraction) (q : Int) : (mkE_Fraction x q).2 = q + cE_Fraction x := by
  unfold mkE_Fraction cE_Fraction
  simp only [mk_IntS_snd]
  omega
theorem cE_Fraction_le (x : TyFraction) : cE_Fraction x ≤ 8 * (1 + nFraction x) := by
  unfold cE_Fraction nFraction
  have hc0 := cIntS_le x.1
  have hc1 := cIntS_le x.2
  omega
def mk_FractionS : TyFractionS → Int → TyFractionS × Int := mkL mkE_Fraction
def cFractionS (a : TyFractionS) : Nat := tot cE_Fraction a
theorem cFractionS_le (a : TyFractionS) : cFractionS a ≤ 8 * nFractionS a := by
  have := totLe2 cE_Fraction_le a
  rw [nE_sum] at this
  exact this
theorem mk_FractionS_snd (a : TyFractionS) (k : Int) : (mk_FractionS a k).2 = k + cFractionS a := mkL_snd mkE_Fraction cE_Fraction mkE_Fraction_snd a k
theorem m_FractionS (a : TyFractionS) (k : Int) (h0 : 0 ≤ k) (h : k + 8 * nFractionS a ≤ 1125899906842624) : F_laws_markFractionS a k = some (mk_FractionS a k) := by
  have hsum := nE_sum nFraction a
  unfold nFractionS at h
  refine bnd (mark_loop2 mkE_Fraction cE_Fraction (fun x => 8 * (1 + nFraction x)) mkE_Fraction_snd cE_Fraction_le a.length 1125899906842624 ?_ ?_ a [] k (by simp) h0 (by rw [hsum]; omega)) rfl
  · intro j x s q hj hs hjl hq hB
    dsimp only at hB ⊢
    unfold nFraction at hB
    have b0 := cIntS_le x.1
    have b1 := cIntS_le x.2
    refine stp (cTW (dT (by omega)) ?_)
    refine bnd (idxO_of hj) ?_
    refine bnd (m_IntS x.1 q (by omega) (by omega)) ?_
    refine bnd (setO_of _ (by omega)) ?_
    refine bnd (idxO_of (a := ((mk_IntS x.1 q).1, x.2)) (by rw [List.getElem?_set_self (by omega)])) ?_
    refine bnd (m_IntS x.2 (mk_IntS x.1 q).2 (by simp only [mk_IntS_snd]; omega) (by simp only [mk_IntS_snd]; omega)) ?_
    refine bnd (setO_of _ (by simp only [List.length_set]; omega)) ?_
    refine bnd (addO_of (by omega) (by omega)) ?_
    (try simp only [List.set_set]); rfl
  · intro s q hs; dsimp only; exact stp (cFW (dF (by omega)) rfl)
theorem h_FractionS (a : TyFractionS) (k : Int) (h0 : 0 ≤ k) (h : k + 8 * nFractionS a ≤ 1125899906842624) : F_laws_heldFractionS (mk_FractionS a k).1 k = some (k + cFractionS a) := by
  have hsum := nE_sum nFraction a
  unfold nFractionS at h
  refine sqW (held_loop2 mkE_Fraction cE_Fraction (fun x => 8 * (1 + nFraction x)) mkE_Fraction_snd cE_Fraction_le (mk_FractionS a k).1 1125899906842624 ?_ ?_ a [] k rfl h0 (by rw [hsum]; omega)) ?_
  · intro j x q hj hjl hq hB
    dsimp only at hB ⊢
    unfold nFraction at hB
    have hlen : (mk_FractionS a k).1.length = a.length := mkL_len mkE_Fraction a k
    have b0 := cIntS_le x.1
    have b1 := cIntS_le x.2
    have e0 := h_IntS x.1 q (by omega) (by omega)
    have e1 := h_IntS x.2 (mk_IntS x.1 q).2 (by simp only [mk_IntS_snd]; omega) (by simp only [mk_IntS_snd]; omega)
    simp only [mk_IntS_snd] at e1
    refine stp (cTW (dT (by omega)) ?_)
    refine bnd (idxO_of hj) ?_
    refine bnd (by unfold mkE_Fraction; dsimp only; exact e0) (stp (cFW (dF (by omega)) ?_))
    refine bnd (idxO_of hj) ?_
    refine bnd (by unfold mkE_Fraction; simp only [mk_IntS_snd]; exact e1) (stp (cFW (dF (by omega)) ?_))
    refine bnd (addO_of (by omega) (by omega)) ?_
    refine congrArg some (congrArg Sum.inl (Prod.ext ?_ rfl))
    unfold cE_Fraction; dsimp only; push_cast; omega
  · intro q; dsimp only; exact stp (cFW (dF (by omega)) rfl)
  · rfl
abbrev TyFractionSS := List TyFractionS
def nFractionSS (a : TyFractionSS) : Nat := a.length + tot nFractionS a
theorem e_FractionSS (a : TyFractionSS) (h : nFractionSS a ≤ 1048576) : F_laws_eqFractionSS a a = some true := by
  unfold nFractionSS at h
  refine stp (cFW (nT (dT rfl)) (sqW (whileO_is (fun j => (j : Int)) (t := .inl ()) a.length ?_ ?_) ?_))
  · intro j hj
    exact stp (cTW (dT (by omega)) (bnd (idxO_of (List.getElem?_eq_getElem hj)) (bnd (idxO_of (List.getElem?_eq_getElem hj)) (bnd (e_FractionS a[j] (by have := tot_mem (n := nFractionS) (List.getElem_mem hj); omega)) (stp (cFW rfl (bnd (addO_of (by omega) (by omega)) rfl)))))))
  · exact stp (cFW (dF (by omega)) rfl)
  · rfl
def mkE_FractionS (x : TyFractionS) (q : Int) : TyFractionS × Int := (((mk_FractionS x q).1), (mk_FractionS x q).2)
def cE_FractionS (x : TyFractionS) : Nat := 0 + cFractionS x
theorem mkE_FractionS_snd (x : TyFractionS) (q : Int) : (mkE_FractionS x q).2 = q + cE_FractionS x := by
  unfold mkE_FractionS cE_FractionS
  simp only [mk_FractionS_snd]
  omega
theorem cE_FractionS_le (x : TyFractionS) : cE_FractionS x ≤ 8 * (1 + nFractionS x) := by
  unfold cE_FractionS 
  have hc0 := cFractionS_le x
  omega
def mk_FractionSS : TyFractionSS → Int → TyFractionSS × Int := mkL mkE_FractionS
def cFractionSS (a : TyFractionSS) : Nat := tot cE_FractionS a
theorem cFractionSS_le (a : TyFractionSS) : cFractionSS a ≤ 8 * nFractionSS a := by
  have := totLe2 cE_FractionS_le a
  rw [nE_sum] at this
  exact this
theorem mk_FractionSS_snd (a : TyFractionSS) (k : Int) : (mk_FractionSS a k).2 = k + cFractionSS a := mkL_snd mkE_FractionS cE_FractionS mkE_FractionS_snd a k
theorem m_FractionSS (a : TyFractionSS) (k : Int) (h0 : 0 ≤ k) (h : k + 8 * nFractionSS a ≤ 1125899906842624) : F_laws_markFractionSS a k = some (mk_FractionSS a k) := by
  have hsum := nE_sum nFractionS a
  unfold nFractionSS at h
  refine bnd (mark_loop2 mkE_FractionS cE_FractionS (fun x => 8 * (1 + nFractionS x)) mkE_FractionS_snd cE_FractionS_le a.length 1125899906842624 ?_ ?_ a [] k (by simp) h0 (by rw [hsum]; omega)) rfl
  · intro j x s q hj hs hjl hq hB
    dsimp only at hB ⊢
    have b0 := cFractionS_le x
    refine stp (cTW (dT (by omega)) ?_)
    refine bnd (idxO_of hj) ?_
    refine bnd (m_FractionS x q (by omega) (by omega)) ?_
    refine bnd (setO_of _ (by omega)) ?_
    refine bnd (addO_of (by omega) (by omega)) ?_
    (try simp only [List.set_set]); rfl
  · intro s q hs; dsimp only; exact stp (cFW (dF (by omega)) rfl)
theorem h_FractionSS (a : TyFractionSS) (k : Int) (h0 : 0 ≤ k) (h : k + 8 * nFractionSS a ≤ 1125899906842624) : F_laws_heldFractionSS (mk_FractionSS a k).1 k = some (k + cFractionSS a) := by
  have hsum := nE_sum nFractionS a
  unfold nFractionSS at h
  refine sqW (held_loop2 mkE_FractionS cE_FractionS (fun x => 8 * (1 + nFractionS x)) mkE_FractionS_snd cE_FractionS_le (mk_FractionSS a k).1 1125899906842624 ?_ ?_ a [] k rfl h0 (by rw [hsum]; omega)) ?_
  · intro j x q hj hjl hq hB
    dsimp only at hB ⊢
    have hlen : (mk_FractionSS a k).1.length = a.length := mkL_len mkE_FractionS a k
    have b0 := cFractionS_le x
    have e0 := h_FractionS x q (by omega) (by omega)
    refine stp (cTW (dT (by omega)) ?_)
    refine bnd (idxO_of hj) ?_
    refine bnd (by unfold mkE_FractionS; dsimp only; exact e0) (stp (cFW (dF (by omega)) ?_))
    refine bnd (addO_of (by omega) (by omega)) ?_
    refine congrArg some (congrArg Sum.inl (Prod.ext ?_ rfl))
    unfold cE_FractionS; dsimp only; push_cast; omega
  · intro q; dsimp only; exact stp (cFW (dF (by omega)) rfl)
  · rfl
end Go.Proofs.YtgkomaglodpefaaDoor
namespace Go.Proofs.YtgkomaglodpefaaDoor
set_option linter.unusedVariables false

theorem rows_while {σ ρ τ X : Type} {F : σ → Option (σ ⊕ (ρ ⊕ τ))} (v : Nat → List X → σ) (w : List X → ρ) {t : τ} (o : Nat) (c : Nat → X) (b : Nat → Bool) (h : ∀ j l, j < o → l.length = j → F (v j l) = some (if b j then .inl (v (j + 1) (l ++ [c j])) else .inr (.inr t))) (he : ∀ l, F (v o l) = some (.inr (.inl (w l)))) : whileO F (v 0 []) = some (if (List.range o).all b then .inl (w ((List.range o).map c)) else .inr t) := by
  have key : ∀ d j, j + d = o → (List.range j).all b = true → whileO F (v j ((List.range j).map c)) = some (if (List.range o).all b then .inl (w ((List.range o).map c)) else .inr t) := by
    intro d
    induction d with
    | zero =>
      intro j hj hb
      have : j = o := by omega
      subst this
      rw [whileO_end (he _), if_pos hb]
    | succ d ih =>
      intro j hj hb
      have hs := h j ((List.range j).map c) (by omega) (by simp)
      cases hbj : b j with
      | true =>
        rw [if_pos hbj, show (List.range j).map c ++ [c j] = (List.range (j + 1)).map c by simp [List.range_succ]] at hs
        rw [whileO_step hs]
        exact ih (j + 1) (by omega) (by rw [List.range_succ, List.all_append, hb]; simp [hbj])
      | false =>
        rw [if_neg (by rw [hbj]; simp)] at hs
        rw [whileO_end hs, if_neg]
        intro hall
        rw [List.all_eq_true] at hall
        have := hall j (List.mem_range.2 (by omega))
        rw [hbj] at this; cases this
  exact key o 0 (by omega) rfl
theorem rows_for {τ X : Type} {F : Nat → List X → Option (List X ⊕ τ)} {t : τ} (o : Nat) (c : Nat → X) (b : Nat → Bool) (h : ∀ j l, j < o → l.length = j → F j l = some (if b j then .inl (l ++ [c j]) else .inr t)) : forO F o 0 [] = some (if (List.range o).all b then .inl ((List.range o).map c) else .inr t) := by
  have key : ∀ d j, j + d = o → (List.range j).all b = true → forO F d j ((List.range j).map c) = some (if (List.range o).all b then .inl ((List.range o).map c) else .inr t) := by
    intro d
    induction d with
    | zero =>
      intro j hj hb
      have : j = o := by omega
      subst this
      rw [if_pos hb]; rfl
    | succ d ih =>
      intro j hj hb
      have hs := h j ((List.range j).map c) (by omega) (by simp)
      show (F j _).bind _ = _
      rw [hs]
      cases hbj : b j with
      | true =>
        rw [if_pos rfl, show (List.range j).map c ++ [c j] = (List.range (j + 1)).map c by simp [List.range_succ]]
        exact ih (j + 1) (by omega) (by rw [List.range_succ, List.all_append, hb]; simp [hbj])
      | false =>
        rw [if_neg (by simp), if_neg]
        · rfl
        intro hall
        rw [List.all_eq_true] at hall
        have := hall j (List.mem_range.2 (by omega))
        rw [hbj] at this; cases this
  exact key o 0 (by omega) rfl
/-- an output's terms for an input -/
def serM (ms : List Mat) (i j : Nat) : List Int := ms.map fun x => el (gr x.2 i) j
noncomputable def cellW (p : Int) (ms : List Mat) (i j : Nat) : (List Int × List Int) × Bool := (F_spec_frOf p (serM ms i j)).getD (([], []), false)
theorem serM_in {p : Int} {ms : List Mat} {k o i j : Nat} (h : ∀ m ∈ ms, m.2.length = k ∧ rowsP p o m.2) (hi : i < k) (hj : j < o) : inP p (serM ms i j) := fun x hx => by
  obtain ⟨m, hm, rfl⟩ := List.mem_map.1 hx
  obtain ⟨h1, h2⟩ := h m hm
  have h3 := h2 _ (gr_mem (by omega : i < m.2.length))
  exact h3.2 _ (el_mem (by omega))
theorem cellW_ {p : Int} (hf : fdB p = true) {ms : List Mat} {k o i j : Nat} (h : ∀ m ∈ ms, m.2.length = k ∧ rowsP p o m.2) (hl : ms.length ≤ 60) (hi : i < k) (hj : j < o) :
    F_spec_frOf p (serM ms i j) = some (cellW p ms i j) ∧ F_impl_FractionOfSeries p (serM ms i j) = some (cellW p ms i j) ∧ (cellW p ms i j).1.1.length ≤ 21 ∧ (cellW p ms i j).1.2.length ≤ 21 := by
  obtain ⟨W, h1, h2, h3, h4⟩ := frOf_ hf (serM_in h hi hj) (by unfold serM; rw [List.length_map]; exact hl)
  have e : cellW p ms i j = W := by unfold cellW; rw [h1]; rfl
  rw [e]; exact ⟨h1, h2, h3, h4⟩
noncomputable def trW (p : Int) (ms : List Mat) (k o : Nat) : List (List (List Int × List Int)) × Bool :=
  if (List.range k).all (fun i => (List.range o).all fun j => (cellW p ms i j).2) then ((List.range k).map fun i => (List.range o).map fun j => (cellW p ms i j).1, true) else ([], false)
theorem ser_loop {p : Int} {ms : List Mat} {k o i j : Nat} (h : ∀ m ∈ ms, m.2.length = k ∧ rowsP p o m.2) (hl : ms.length ≤ 60) (hi : i < k) (hj : j < o) : forS (fun (k12169 : Nat) (s12260 : List Int) =>
                    (idxO ms ((k12169 : Nat) : Int)).bind fun a12277 =>
                    (idxO a12277.2 (i : Int)).bind fun a12293 =>
                    (idxO a12293 (j : Int)).bind fun a12303 =>
                    (appO s12260 [a12303]).bind fun a12308 =>
                    some a12308) ms.length 0 [] = some (serM ms i j) := by
  have hN : (maxN : Nat) = 1099511627776 := rfl
  refine (forS_map (fun x : Mat => el (gr x.2 i) j) ms [] (by simp only [List.length_nil]; omega) ?_).trans (by rw [List.nil_append]; rfl)
  intro t m s hm hs
  have hm' := mem_of_get hm
  obtain ⟨h1, h2⟩ := h m hm'
  have h3 := h2 _ (gr_mem (by omega : i < m.2.length))
  have ht : t < ms.length := (List.getElem?_eq_some_iff.1 hm).1
  rw [List.length_nil] at hs
  exact bnd (idxO_of hm) (bnd (idx_gr (by omega)) (bnd (idx_el (by omega)) (bnd (appO_of (by rw [hs]; show 0 + t + 1 ≤ _; omega)) rfl)))
theorem tr_main (p : Int) (s : SSt) : ∃ W : List (List (List Int × List Int)) × Bool, F_spec_TransferOf p s = some W ∧ F_impl_TransferOf p s = some W ∧ nFractionSS W.1 ≤ 1048576 := by
  have hN : (maxN : Nat) = 1099511627776 := rfl
  cases hb : ssB p s with
  | false =>
    refine ⟨([], false), ?_, ?_, by decide⟩
    · exact bnd (ssGood p s) (stp (by rw [hb]; rfl))
    · exact bnd (isSS p s) (stp (by rw [hb]; rfl))
  | true =>
    have hf : fdB p = true := by
      unfold ssB at hb
      simp only [Bool.and_eq_true] at hb
      exact hb.1.1.1.1.1.1.1
    obtain ⟨n, k, o, hs⟩ := ssB_ok hb
    have b1 := hs.hn; have b2 := hs.hk; have b3 := hs.ho; have e1 := hs.h1; have e2 := hs.h2; have e3 := hs.h3
    obtain ⟨m1, _, _, m4⟩ := mkv_ok hs (2 * n + 2)
    have k1 := ssMarkov_ hs (2 * n + 2) (by omega)
    have k2 := markov_ hs (2 * n + 2) (by omega)
    generalize (mkv p n o s (2 * n + 2)).1 = ms at m1 m4 k1 k2
    have hms : ms.length ≤ 60 := by omega
    refine ⟨trW p ms k o, ?_, ?_, ?_⟩
    · refine bnd (ssGood p s) (stp (cFW (by rw [hb]; rfl) (bnd (mulO_of (a := 2) (by omega) (by omega)) (bnd (addO_of (by omega) (by omega)) (bnd (a := ms) ?_ ?_)))))
      · rw [show 2 * s.1 + 2 = ((2 * n + 2 : Nat) : Int) by omega]; exact k1
      refine sqW (rows_while (fun j l => (l, (j : Int))) (fun l => l) (t := ([], false)) k (fun i => (List.range o).map fun j => (cellW p ms i j).1) (fun i => (List.range o).all fun j => (cellW p ms i j).2) (fun i l hi hl => ?_) (fun l => ?_)) ?_
      · refine stp (cTW (dT (by dsimp only; omega)) ?_)
        refine sqW (rows_while (fun j l => ((j : Int), l)) (fun l => l) (t := .inr (.inr ([], false))) o (fun j => (cellW p ms i j).1) (fun j => (cellW p ms i j).2) (fun j l hj hl => ?_) (fun l => ?_)) ?_
        · obtain ⟨c1, _, _, _⟩ := cellW_ hf m4 hms hi hj
          refine stp (cTW (dT (by dsimp only; omega)) (bnd (ser_loop m4 hms hi hj) (bnd c1 (stp ?_))))
          cases hc : (cellW p ms i j).2 with
          | true =>
            rw [if_pos rfl]
            exact cFW rfl (bnd (appO_of (by show l.length + 1 ≤ _; omega)) (bnd (addO_of (by dsimp only; omega) (by dsimp only; omega)) rfl))
          | false => rw [if_neg (by simp)]; exact cTW rfl rfl
        · exact stp (cFW (dF (by dsimp only; omega)) rfl)
        · cases hr : (List.range o).all fun j => (cellW p ms i j).2 with
          | true =>
            rw [if_pos rfl, if_pos rfl]
            exact stp (bnd (appO_of (by show l.length + 1 ≤ _; omega)) (bnd (addO_of (by dsimp only; omega) (by dsimp only; omega)) rfl))
          | false => rw [if_neg (by simp), if_neg (by simp)]; rfl
      · exact stp (cFW (dF (by dsimp only; omega)) rfl)
      · unfold trW
        cases hr : (List.range k).all fun i => (List.range o).all fun j => (cellW p ms i j).2 with
        | true => rw [if_pos rfl, if_pos rfl]; rfl
        | false => rw [if_neg (by simp), if_neg (by simp)]; rfl
    · refine bnd (isSS p s) (stp (cFW (by rw [hb]; rfl) (bnd (a := trW p ms k o) ?_ rfl)))
      refine bnd (addO_of (by dsimp only; omega) (by dsimp only; omega)) (bnd (mulO_of (a := 2) (by dsimp only; omega) (by dsimp only; omega)) (bnd (a := ms) ?_ (bnd (cI_of ⟨by dsimp only; omega, by dsimp only; omega⟩) ?_)))
      · dsimp only
        rw [show 2 * (s.1 + 1) = ((2 * n + 2 : Nat) : Int) by omega]; exact k2
      dsimp only
      rw [show s.2.1.toNat = k by omega, show s.2.2.1.toNat = o by omega]
      refine sqW (rows_for (t := ([], false)) k (fun i => (List.range o).map fun j => (cellW p ms i j).1) (fun i => (List.range o).all fun j => (cellW p ms i j).2) (fun i l hi hl => ?_)) ?_
      · refine bnd (cI_of ⟨by omega, by omega⟩) ?_
        refine sqW (rows_for (t := .inr ([], false)) o (fun j => (cellW p ms i j).1) (fun j => (cellW p ms i j).2) (fun j l hj hl => ?_)) ?_
        · obtain ⟨_, c1, _, _⟩ := cellW_ hf m4 hms hi hj
          refine bnd (ser_loop m4 hms hi hj) (bnd c1 (stp ?_))
          cases hc : (cellW p ms i j).2 with
          | true =>
            rw [if_pos rfl]
            exact cFW rfl (bnd (appO_of (by show l.length + 1 ≤ _; omega)) rfl)
          | false => rw [if_neg (by simp)]; exact cTW rfl rfl
        · cases hr : (List.range o).all fun j => (cellW p ms i j).2 with
          | true =>
            rw [if_pos rfl, if_pos rfl]
            exact stp (bnd (appO_of (by show l.length + 1 ≤ _; omega)) rfl)
          | false => rw [if_neg (by simp), if_neg (by simp)]; rfl
      · unfold trW
        cases hr : (List.range k).all fun i => (List.range o).all fun j => (cellW p ms i j).2 with
        | true => rw [if_pos rfl, if_pos rfl]; rfl
        | false => rw [if_neg (by simp), if_neg (by simp)]; rfl
    · unfold trW
      cases hr : (List.range k).all fun i => (List.range o).all fun j => (cellW p ms i j).2 with
      | false => rw [if_neg (by simp)]; decide
      | true =>
        rw [if_pos rfl]
        dsimp only
        have h1 : ∀ a ∈ ((List.range k).map fun i => (List.range o).map fun j => (cellW p ms i j).1), nFractionS a ≤ 400 := by
          intro a ha
          obtain ⟨i, hi, rfl⟩ := List.mem_map.1 ha
          rw [List.mem_range] at hi
          have h2 : tot nFraction ((List.range o).map fun j => (cellW p ms i j).1) ≤ ((List.range o).map fun j => (cellW p ms i j).1).length * 42 := tot_le fun x hx => by
            obtain ⟨j, hj, rfl⟩ := List.mem_map.1 hx
            rw [List.mem_range] at hj
            obtain ⟨_, _, c3, c4⟩ := cellW_ hf m4 hms hi hj
            unfold nFraction nIntS
            omega
          unfold nFractionS
          rw [List.length_map, List.length_range] at h2 ⊢
          omega
        have h3 := tot_le (c := 400) h1
        unfold nFractionSS
        rw [List.length_map, List.length_range] at h3 ⊢
        omega
noncomputable def wTransferOf (p : Int) (s : SSt) : List (List (List Int × List Int)) × Bool := (F_spec_TransferOf p s).getD ([], false)
theorem specTransferOf (p : Int) (s : SSt) : F_spec_TransferOf p s = some (wTransferOf p s) := by
  obtain ⟨W, h1, _, _⟩ := tr_main p s
  unfold wTransferOf; rw [h1]; rfl
theorem implTransferOf (p : Int) (s : SSt) : F_impl_TransferOf p s = some (wTransferOf p s) := by
  obtain ⟨W, h1, h2, _⟩ := tr_main p s
  unfold wTransferOf; rw [h1, h2]; rfl
theorem boundTransferOf_0 (p : Int) (s : SSt) : nFractionSS (wTransferOf p s).1 ≤ 1048576 := by
  obtain ⟨W, h1, _, h3⟩ := tr_main p s
  unfold wTransferOf; rw [h1]; exact h3

end Go.Proofs.YtgkomaglodpefaaDoor
namespace Go.Proofs.YtgkomaglodpefaaDoor
set_option linter.unusedVariables false
theorem lawN_TransferOf (a0 : Int) (a1 : TyStateSpace) (i0 : Nice.ok a0) (i1 : Nice.ok a1) : F_laws_FnExactTransferOf a0 a1 = some true := by
  have hbig : bigN = 4611686018427387904 := rfl
  refine bnd (z_StateSpace a1 1048576 (by omega) (by rw [hbig]; omega) (niceLensStateSpace i1)) (stp ?_)
  by_cases gaS : (nStateSpace a1 : Int) ≤ 1048576
  case neg => rw [if_neg gaS]; exact cTW (dT (by omega)) rfl
  rw [if_pos gaS]
  refine cFW (dF (by omega)) ?_
  have haS : nStateSpace a1 ≤ 1048576 := by omega
  first
  | refine bnd (t_StateSpace a1 haS) (bnd (specTransferOf a0 a1) ?_)
  | refine bnd (bnd (t_StateSpace a1 haS) (bnd (specTransferOf a0 a1) rfl)) ?_
  refine bnd (t_StateSpace a1 haS) ?_
  refine bnd (implTransferOf a0 a1) ?_
  have b0 : nFractionSS (wTransferOf a0 a1).1 ≤ 1048576 := boundTransferOf_0 a0 a1
  have cb0 := cFractionSS_le (wTransferOf a0 a1).1
  refine bnd (a := false) (bnd (e_FractionSS _ b0) (stp (cFW rfl (stp (congrArg some (nT (dT rfl))))))) (cFW rfl ?_)
  refine bnd (t_StateSpace _ haS) (bnd (e_StateSpace _ haS) (stp (cFW rfl ?_)))
  have caS := cStateSpace_le a1
  refine bnd (m_StateSpace a1 _ (by omega) (by omega)) ?_
  refine bnd (a := false) (stp (cFW (dF (by simp only [mk_StateSpace_snd]; omega)) (bnd (e_FractionSS _ b0) (stp (cFW rfl (stp (congrArg some (nT (dT rfl))))))))) (cFW rfl ?_)
  refine bnd (m_FractionSS (wTransferOf a0 a1).1 _ (by omega) (by omega)) ?_
  refine bnd (h_FractionSS (wTransferOf a0 a1).1 _ (by omega) (by omega)) (stp (cFW (dF (by omega)) ?_))
  refine stp (cFW (nT (dT (by simp only [mk_FractionSS_snd]))) ?_)
  first
  | refine bnd (t_StateSpace a1 haS) (bnd (implTransferOf a0 a1) ?_)
  | refine bnd (bnd (t_StateSpace a1 haS) (bnd (implTransferOf a0 a1) rfl)) ?_
  refine bnd (a := false) (bnd (e_FractionSS _ b0) (stp (cFW rfl (stp (congrArg some (nT (dT rfl))))))) (cFW rfl ?_)
  refine bnd (h_FractionSS (wTransferOf a0 a1).1 _ (by omega) (by omega)) (stp (cFW (dF (by omega)) ?_))
  refine stp (cFW (nT (dT (by simp only [mk_FractionSS_snd]))) ?_)
  rfl
end Go.Proofs.YtgkomaglodpefaaDoor
