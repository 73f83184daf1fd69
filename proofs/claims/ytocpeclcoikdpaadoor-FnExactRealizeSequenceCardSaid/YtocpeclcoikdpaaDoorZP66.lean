/-
  Plain laws: lists whose product with rows is zero, by the steps of a reduction and by the leading indices. No program in sight. No condition.
-/
import Derived.Test.YtocpeclcoikdpaaDoorZP22
import Derived.Test.YtocpeclcoikdpaaDoorZP16
namespace Go.Proofs.YtocpeclcoikdpaaDoor
set_option linter.unusedVariables false

/-! ### sums and functionals -/
theorem sg_app (f : Nat → Int) (a : Nat) : ∀ b, sg (a + b) f = sg a f + sg b (fun t => f (a + t))
  | 0 => by show sg a f = sg a f + 0; omega
  | b + 1 => by
    show sg (a + b) f + f (a + b) = sg a f + (sg b (fun t => f (a + t)) + f (a + b))
    rw [sg_app f a b]; omega
theorem dot_span {p : Int} {n : Nat} {m : Rows} {v : List Int} (f : Nat → Int) (h : ∀ i, i < m.length → sg n (fun j => f j * el (gr m i) j) % p = 0) (hv : inSpan p n m v) : sg n (fun j => f j * el v j) % p = 0 := by
  obtain ⟨x, hx⟩ := hv
  have e1 : sg n (fun j => f j * el v j) % p = sg n (fun j => f j * sg m.length (fun i => x i * el (gr m i) j)) % p :=
    sg_mod fun j hj => by rw [← mul_mod2, hx j hj, mul_mod2]
  rw [e1]
  have e2 : sg n (fun j => f j * sg m.length (fun i => x i * el (gr m i) j)) = sg m.length (fun i => x i * sg n (fun j => f j * el (gr m i) j)) := by
    rw [sg_congr (g := fun j => sg m.length (fun i => f j * (x i * el (gr m i) j))) (fun j _ => (sg_mul _ _ _).symm), sg_comm]
    refine sg_congr fun i _ => ?_
    rw [← sg_mul]
    exact sg_congr fun j _ => Int.mul_left_comm _ _ _
  rw [e2, sg_mod (g := fun _ => 0) (fun i hi => by rw [mul_mod_zero2 (h i hi)]; exact (Int.zero_emod p).symm), sg_zero (fun _ _ => rfl)]
  exact Int.zero_emod p
/-- x's product with the columns of m is zero -/
def lperp (p : Int) (n : Nat) (m : Rows) (x : List Int) : Prop := ∀ c, c < n → sg m.length (fun t => el x t * el (gr m t) c) % p = 0
theorem lperp_span {p : Int} {n : Nat} {m b : Rows} {v : List Int} (h : ∀ i, i < b.length → lperp p n m (gr b i)) (hv : inSpan p m.length b v) : lperp p n m v := by
  intro c hc
  have := dot_span (n := m.length) (m := b) (v := v) (fun t => el (gr m t) c) (fun i hi => by rw [← h i hi c hc]; exact congrArg (· % p) (sg_congr fun j _ => Int.mul_comm _ _)) hv
  rw [← this]; exact congrArg (· % p) (sg_congr fun j _ => Int.mul_comm _ _)

/-! ### by the steps of a reduction -/
theorem idN_gr {n i : Nat} (hi : i < n) : gr (idN n) i = unitN n i := by
  have h := gr_get (m := idN n) (i := i) (by rw [idN_len]; exact hi)
  unfold idN at h
  rw [List.getElem?_map, List.getElem?_range hi] at h
  exact (Option.some.inj h).symm
theorem unit_elN {n i j : Nat} (hi : i < n) : el (unitN n i) j = if i = j then 1 else 0 := by
  unfold unitN el
  rw [List.getD_eq_getElem?_getD, List.getElem?_set]
  by_cases h : i = j
  · subst h; rw [if_pos rfl, if_pos (by rw [List.length_replicate]; exact hi), if_pos rfl]; rfl
  · rw [if_neg h, if_neg h, ← List.getD_eq_getElem?_getD]; exact el_rep n j
theorem idN_all {p : Int} {n : Nat} (v : List Int) : inSpan p n (idN n) v := by
  refine ⟨fun i => el v i, fun j hj => ?_⟩
  rw [idN_len, sg_one (i0 := j) hj (fun i hi hne => by rw [idN_gr hi, unit_elN hi, if_neg hne, Int.mul_zero]), idN_gr hj, unit_elN hj, if_pos rfl, Int.mul_one]
theorem redT_rel {p : Int} {n : Nat} {m : Rows} (hf : fdB p = true) (h : okM p n m) : ∀ i, i < m.length → ∀ c, c < n → el (gr (redT p n m).1 i) c % p = sg m.length (fun t => el (gr (redT p n m).2.1 i) t * el (gr m t) c) % p := by
  have hp := fdB_rng hf
  obtain ⟨f1, f2, f3, f4, f5, f6⟩ := redT_facts hf h
  have hl : (idN m.length).length = m.length := idN_len _
  have h1 := catM_loop hf n 0 m (idN m.length) 0 (by omega) h (idN_ok hp.1 _) hl (Nat.zero_le _)
  have hC := catM_ok hl h (idN_ok hp.1 m.length)
  have h2 := (loop_span hf n 0 (catM m (idN m.length)) (catM m (idN m.length)) 0 (by omega) hC hC rfl (Nat.zero_le _)).1
  rw [h1] at h2
  change subSpan p (n + m.length) (catM (redT p n m).1 (redT p n m).2.1) (catM m (idN m.length)) at h2
  intro i hi c hc
  have hv := h2 i (by rw [catM_len (by omega)]; omega)
  rw [catM_gr (by omega)] at hv
  have key : ∀ a b : List Int, a.length = n → sg (n + m.length) (fun j => (if j < n then (if c = j then 1 else 0) else -(el (gr m (j - n)) c)) * el (a ++ b) j) = el a c - sg m.length (fun t => el b t * el (gr m t) c) := by
    intro a b ha
    rw [sg_app, sg_one (i0 := c) hc (fun j hj hne => by rw [if_pos hj, if_neg (fun hh => hne hh.symm), Int.zero_mul]), if_pos hc, if_pos rfl, Int.one_mul, el_app, if_pos (by omega), Int.sub_eq_add_neg, ← sg_neg]
    congr 1
    refine sg_congr fun t _ => ?_
    rw [if_neg (by omega), el_app, if_neg (by omega), show n + t - n = t by omega, show n + t - a.length = t by omega, Int.neg_mul, Int.mul_comm]
  have hd := dot_span (n := n + m.length) (m := catM m (idN m.length)) _ (fun i hi => by
    rw [catM_len hl] at hi
    rw [catM_gr hl, key _ _ (h _ (gr_mem hi)).1, idN_gr hi, sg_one (i0 := i) hi (fun t _ hne => by rw [unit_elN hi, if_neg (fun hh => hne hh.symm), Int.zero_mul]), unit_elN hi, if_pos rfl, Int.one_mul, Int.sub_self]
    exact Int.zero_emod p) hv
  rw [key _ _ (f5 _ (gr_mem (by omega))).1] at hd
  exact mod_of_sub hd
theorem redT_rest {p : Int} {n : Nat} {m : Rows} (hf : fdB p = true) (h : okM p n m) : ∀ i, (redT p n m).2.2 ≤ i → i < m.length → ∀ c, c < n → el (gr (redT p n m).1 i) c = 0 := by
  have h1 := redLoop_red hf n 0 m 0 (by omega) h (RedI.start m)
  obtain ⟨e1, e2⟩ := redLoop_any p n 0 m m (idN m.length) 0
  have f2 := (redT_facts hf h).2.1
  rw [e1, e2, Nat.zero_add] at h1
  intro i h2 h3 c hc
  exact h1.rest i h2 (by rw [← f2] at h3; exact h3) c hc
theorem redT_all {p : Int} {n : Nat} {m : Rows} (hf : fdB p = true) (h : okM p n m) (v : List Int) : inSpan p m.length (redT p n m).2.1 v := by
  have hp := fdB_rng hf
  exact inSpan_trans (loop_span hf n 0 m (idN m.length) 0 (by omega) h (idN_ok hp.1 _) (idN_len _) (Nat.zero_le _)).2 (idN_all v)
theorem gr_drop (m : Rows) (k i : Nat) : gr (m.drop k) i = gr m (k + i) := by
  unfold gr; rw [List.getD_eq_getElem?_getD, List.getD_eq_getElem?_getD, List.getElem?_drop]
def kerM (p : Int) (n : Nat) (m : Rows) : Rows := redM p m.length ((redT p n m).2.1.drop (redT p n m).2.2)
theorem ker_ok {p : Int} {n : Nat} {m : Rows} (hf : fdB p = true) (h : okM p n m) : okM p m.length ((redT p n m).2.1.drop (redT p n m).2.2) :=
  fun r hr => (redT_facts hf h).2.2.2.1 r (List.mem_of_mem_drop hr)
theorem kerM_iff {p : Int} {n : Nat} {m : Rows} (hf : fdB p = true) (h : okM p n m) (x : List Int) : inSpan p m.length (kerM p n m) x ↔ lperp p n m x := by
  have hp := fdB_rng hf
  obtain ⟨f1, f2, f3, f4, f5, f6⟩ := redT_facts hf h
  have hrel := redT_rel hf h
  have hrest := redT_rest hf h
  have hsp := redM_span hf (ker_ok hf h)
  constructor
  · intro hx
    refine lperp_span (b := (redT p n m).2.1.drop (redT p n m).2.2) (fun i hi c hc => ?_) (inSpan_trans hsp.1 hx)
    rw [List.length_drop] at hi
    rw [gr_drop, ← hrel _ (by omega) c hc, hrest _ (by omega) (by omega) c hc]
    exact Int.zero_emod p
  · intro hx
    refine inSpan_trans hsp.2 ?_
    obtain ⟨y, hy⟩ := redT_all hf h x
    rw [f3] at hy
    have hL : (redT p n m).2.2 + (m.length - (redT p n m).2.2) = m.length := by omega
    -- the first coefficients are zero
    have hz : ∀ i, i < (redT p n m).2.2 → y i % p = 0 := by
      have hi := f6.indep y (fun c hc => ?_)
      · intro i h1; exact hi i (by rw [List.length_take]; omega)
      · have hlen : ((redT p n m).1.take (redT p n m).2.2).length = (redT p n m).2.2 := by rw [List.length_take]; omega
        rw [hlen, sg_congr (g := fun i => y i * el (gr (redT p n m).1 i) c) (fun i h1 => by rw [gr_take h1])]
        have e0 : sg m.length (fun i => y i * el (gr (redT p n m).1 i) c) = sg (redT p n m).2.2 (fun i => y i * el (gr (redT p n m).1 i) c) := by
          conv => lhs; rw [← hL]
          rw [sg_app, sg_zero (k := m.length - (redT p n m).2.2) (fun t ht => by rw [hrest _ (by omega) (by omega) c hc, Int.mul_zero])]
          omega
        rw [← e0, sg_mod (g := fun i => y i * sg m.length (fun t => el (gr (redT p n m).2.1 i) t * el (gr m t) c)) (fun i hi => by rw [← mul_mod2, hrel i hi c hc, mul_mod2])]
        rw [← hx c hc]
        have e1 : sg m.length (fun i => y i * sg m.length (fun t => el (gr (redT p n m).2.1 i) t * el (gr m t) c)) = sg m.length (fun t => sg m.length (fun i => y i * el (gr (redT p n m).2.1 i) t) * el (gr m t) c) := by
          rw [sg_congr (g := fun i => sg m.length (fun t => y i * (el (gr (redT p n m).2.1 i) t * el (gr m t) c))) (fun i _ => (sg_mul _ _ _).symm), sg_comm]
          refine sg_congr fun t _ => ?_
          rw [← sg_mulr]
          exact sg_congr fun i _ => (Int.mul_assoc _ _ _).symm
        rw [e1]
        exact sg_mod fun t ht => by rw [← mul_mod1, ← hy t ht, mul_mod1]
    refine ⟨fun t => y ((redT p n m).2.2 + t), fun j hj => ?_⟩
    rw [hy j hj, List.length_drop, f3]
    conv => lhs; rw [← hL]
    rw [sg_app, Int.add_emod, sg_mod (k := (redT p n m).2.2) (g := fun _ => 0) (fun i hi => by rw [mul_mod_zero (hz i hi)]; exact (Int.zero_emod p).symm), sg_zero (k := (redT p n m).2.2) (f := fun _ => 0) (fun _ _ => rfl), Int.zero_emod, Int.zero_add, mod_mod]
    exact congrArg (· % p) (sg_congr fun t _ => by rw [gr_drop])
end Go.Proofs.YtocpeclcoikdpaaDoor
namespace Go.Proofs.YtocpeclcoikdpaaDoor
set_option linter.unusedVariables false

/-! ### by the leading indices -/
theorem el_setN {z : List Int} {i j : Nat} {v : Int} (h : i < z.length) : el (z.set i v) j = if i = j then v else el z j := by
  unfold el
  rw [List.getD_eq_getElem?_getD, List.getD_eq_getElem?_getD, List.getElem?_set]
  by_cases hij : i = j
  · rw [if_pos hij, if_pos hij, if_pos (by omega)]; rfl
  · rw [if_neg hij, if_neg hij]
end Go.Proofs.YtocpeclcoikdpaaDoor
namespace Go.Proofs.YtocpeclcoikdpaaDoor
set_option linter.unusedVariables false

/-! ### rows and columns exchanged -/
def colM (m : Rows) (j : Nat) : List Int := m.map fun r => el r j
theorem colM_el {m : Rows} {i j : Nat} (hi : i < m.length) : el (colM m j) i = el (gr m i) j := by
  have h1 := el_get (r := colM m j) (c := i) (by simp [colM]; exact hi)
  unfold colM at h1
  rw [List.getElem?_map, gr_get hi] at h1
  exact (Option.some.inj h1).symm

/-! ### products with zero -/
theorem lperp_cat {p : Int} {w o : Nat} {m a : Rows} {x : List Int} (hl : a.length = m.length) (h : okM p w m) : lperp p (w + o) (catM m a) x ↔ lperp p w m x ∧ lperp p o a x := by
  have e : ∀ c, sg (catM m a).length (fun t => el x t * el (gr (catM m a) t) c) = sg m.length (fun t => el x t * (if c < w then el (gr m t) c else el (gr a t) (c - w))) := fun c => by
    rw [catM_len hl]
    exact sg_congr fun t ht => by rw [catM_gr hl, el_app, (h _ (gr_mem ht)).1]
  constructor
  · intro hx
    refine ⟨fun c hc => ?_, fun c hc => ?_⟩
    · have := hx c (by omega)
      rw [e c, sg_congr (g := fun t => el x t * el (gr m t) c) (fun t _ => by rw [if_pos hc])] at this
      exact this
    · have := hx (w + c) (by omega)
      rw [e, sg_congr (g := fun t => el x t * el (gr a t) c) (fun t _ => by rw [if_neg (by omega), show w + c - w = c by omega])] at this
      rw [hl]; exact this
  · rintro ⟨h1, h2⟩ c hc
    rw [e c]
    by_cases hcw : c < w
    · rw [sg_congr (g := fun t => el x t * el (gr m t) c) (fun t _ => by rw [if_pos hcw])]
      exact h1 c hcw
    · rw [sg_congr (g := fun t => el x t * el (gr a t) (c - w)) (fun t _ => by rw [if_neg hcw]), ← hl]
      exact h2 _ (by omega)

/-! ### the states that are hidden -/
def cols (p : Int) (o : Nat) (A C : Rows) : Nat → Rows
  | 0 => C
  | k + 1 => mulM p o A (cols p o A C k)
section
variable {p : Int} {n o : Nat} {A C : Rows}
theorem cols_ok (hf : fdB p = true) (ho : o ≤ 200) (hA : okM p n A) (hAl : A.length = n) (hC : okM p o C) (hCl : C.length = n) : ∀ k, okM p o (cols p o A C k) ∧ (cols p o A C k).length = n
  | 0 => ⟨hC, hCl⟩
  | k + 1 => by
    have hm : maxN = 1099511627776 := rfl
    obtain ⟨h1, h2⟩ := cols_ok hf ho hA hAl hC hCl k
    exact ⟨mulM_ok (fdB_rng hf) (by omega) h1 hA (by omega), by unfold cols; rw [mulM_len, hAl]⟩
end
section
variable {p : Int} {n : Nat} {A B : Rows}
theorem rc_grow2 (hf : fdB p = true) (hn : n ≤ 200) (hA : okM p n A) (hAl : A.length = n) (hB : okM p n B) : ∀ d, (∀ j, j < d → (rc p n A B (j + 1)).length ≠ (rc p n A B j).length) → (rc p n A B 0).length + d ≤ (rc p n A B d).length
  | 0, _ => Nat.le_refl _
  | d + 1, h => by
    have h1 := rc_grow2 hf hn hA hAl hB d (fun j hj => h j (by omega))
    have h2 := red_len_le (fdB_rng hf).1 (rc_red hf hn hA hAl hB d) (rc_red hf hn hA hAl hB (d + 1)) (rc_step hf hn hA hAl hB d)
    have h3 := h d (by omega)
    omega
theorem rcN_before (hf : fdB p = true) (hn : n ≤ 200) (h0 : 0 < n) (hA : okM p n A) (hAl : A.length = n) (hB : okM p n B) : rcN p n A B = rc p n A B (n - 1) := by
  rcases first_of (P := fun j => (rc p n A B (j + 1)).length = (rc p n A B j).length) n with h | ⟨k, h1, h2, h3⟩
  · exfalso
    have h1 := rc_grow2 hf hn hA hAl hB n h
    have h2 := rc_len hf hn hA hAl hB n
    have h3 : (rc p n A B 0).length = 0 := by omega
    have h4 := h 0 h0
    have h5 : rc p n A B 0 = [] := List.eq_nil_of_length_eq_zero h3
    have h6 : (rc p n A B 1).length ≤ _ := (redM_ok (n := n) (fdB_rng hf).1 (rc_app hf hn hA hAl hB 0)).2.1
    rw [h5, List.length_append, mulM_len] at h6
    rw [h3] at h4
    simp at h6
    exact h4 (by rw [h6]; rfl)
  · have e1 := rc_stable hf hn hA hAl hB h3 (n - k)
    have e2 := rc_stable hf hn hA hAl hB h3 (n - 1 - k)
    rw [show k + (n - k) = n by omega] at e1
    rw [show k + (n - 1 - k) = n - 1 by omega] at e2
    unfold rcN
    rw [e1, e2]
end
def seenM (p : Int) (n o : Nat) (A C : Rows) : Nat → Rows
  | 0 => List.replicate n []
  | k + 1 => catM (seenM p n o A C k) (cols p o A C k)
section
variable {p : Int} {n o : Nat} {A C : Rows}
theorem seen_ok (hf : fdB p = true) (ho : o ≤ 200) (hA : okM p n A) (hAl : A.length = n) (hC : okM p o C) (hCl : C.length = n) : ∀ k, okM p (k * o) (seenM p n o A C k) ∧ (seenM p n o A C k).length = n
  | 0 => ⟨fun r hr => by
      rw [List.eq_of_mem_replicate hr]
      exact ⟨by simp, fun x hx => nomatch hx⟩, by simp [seenM]⟩
  | k + 1 => by
    obtain ⟨h1, h2⟩ := seen_ok hf ho hA hAl hC hCl k
    obtain ⟨k1, k2⟩ := cols_ok hf ho hA hAl hC hCl k
    unfold seenM
    rw [Nat.succ_mul]
    exact ⟨catM_ok (by omega) h1 k1, by rw [catM_len (by omega)]; exact h2⟩
theorem seen_perp (hf : fdB p = true) (ho : o ≤ 200) (hA : okM p n A) (hAl : A.length = n) (hC : okM p o C) (hCl : C.length = n) (x : List Int) : ∀ k, (lperp p (k * o) (seenM p n o A C k) x ↔ ∀ t, t < k → lperp p o (cols p o A C t) x)
  | 0 => ⟨fun _ t ht => by omega, fun _ c hc => by omega⟩
  | k + 1 => by
    obtain ⟨h1, h2⟩ := seen_ok hf ho hA hAl hC hCl k
    obtain ⟨k1, k2⟩ := cols_ok hf ho hA hAl hC hCl k
    unfold seenM
    rw [Nat.succ_mul, lperp_cat (by omega) h1, seen_perp hf ho hA hAl hC hCl x k]
    constructor
    · rintro ⟨h3, h4⟩ t ht
      by_cases htk : t = k
      · rw [htk]; exact h4
      · exact h3 t (by omega)
    · intro h3
      exact ⟨fun t ht => h3 t (by omega), h3 k (by omega)⟩
/-- the states that are hidden -/
def hidM (p : Int) (n o : Nat) (A C : Rows) : Rows := kerM p (n * o) (seenM p n o A C n)
end
end Go.Proofs.YtocpeclcoikdpaaDoor
namespace Go.Proofs.YtocpeclcoikdpaaDoor
set_option linter.unusedVariables false

theorem el_rmap {n j : Nat} (f : Nat → Int) (h : j < n) : el ((List.range n).map f) j = f j := by
  unfold el; rw [List.getD_eq_getElem?_getD, List.getElem?_map, List.getElem?_range h]; rfl
theorem gr_rmap {n j : Nat} (f : Nat → List Int) (h : j < n) : gr ((List.range n).map f) j = f j := by
  unfold gr; rw [List.getD_eq_getElem?_getD, List.getElem?_map, List.getElem?_range h]; rfl
theorem rmap_len {α : Type} {n : Nat} (f : Nat → α) : ((List.range n).map f).length = n := by simp
theorem rmapM_ok {p : Int} {n K : Nat} {f : Nat → List Int} (h : ∀ j, j < K → okR p n (f j)) : okM p n ((List.range K).map f) := by
  intro x hx
  obtain ⟨j, hj, rfl⟩ := List.mem_map.1 hx
  exact h j (List.mem_range.1 hj)

/-! ### systems: rows (m of K elements), what is wanted; the equations turned round -/
section
variable {p : Int} {s : List Int} {m K : Nat}
theorem sg_rev (f : Nat → Int) : ∀ m, sg m (fun i => f (m - 1 - i)) = sg m f
  | 0 => rfl
  | m + 1 => by
    rw [sg_shift]
    show f (m + 1 - 1 - 0) + _ = sg m f + f m
    rw [sg_congr (g := fun i => f (m - 1 - i)) (fun i hi => by rw [show m + 1 - 1 - (i + 1) = m - 1 - i by omega]), sg_rev f m, show m + 1 - 1 - 0 = m by omega]
    omega
end
/-- what the reduced equations say: a row that leads in the last column, or the coefficients -/
def fsX (m : Nat) (R : Rows) : Nat → List Int
  | 0 => List.replicate m 0
  | i + 1 => (fsX m R i).set (m - 1 - leadN (gr R i)) (el (gr R i) m)
def fsB (m : Nat) (R : Rows) : Bool := R.all fun r => !decide (leadN r = m)
section
variable {p : Int} {s : List Int} {m K : Nat}
theorem fsX_ok (hp : 2 ≤ p) {R : Rows} (hR : okM p (m + 1) R) : ∀ i, i ≤ R.length → okR p m (fsX m R i)
  | 0, _ => okR_zero hp m
  | i + 1, hi => by
    have ih := fsX_ok hp hR i (by omega)
    unfold fsX
    refine ⟨by rw [List.length_set]; exact ih.1, fun x hx => ?_⟩
    rcases List.mem_or_eq_of_mem_set hx with h | rfl
    · exact ih.2 x h
    · exact okM_el hR (by omega) (by omega)
theorem fsB_iff {R : Rows} : fsB m R = true ↔ ∀ i, i < R.length → leadN (gr R i) ≠ m := by
  unfold fsB
  rw [List.all_eq_true]
  constructor
  · intro h i hi he
    have := h _ (gr_mem hi)
    rw [he] at this
    simp at this
  · intro h r hr
    obtain ⟨t, ht, rfl⟩ := List.mem_iff_getElem.1 hr
    have e : gr R t = R[t] := by have := gr_get ht; rw [List.getElem?_eq_getElem ht] at this; exact (Option.some.inj this).symm
    have := h t ht
    rw [e] at this
    simp [this]
theorem fsX_el (hp : 2 ≤ p) {R : Rows} (hR : Red p (m + 1) R) (hb : fsB m R = true) : ∀ i, i ≤ R.length → (∀ t, t < i → el (fsX m R i) (m - 1 - leadN (gr R t)) = el (gr R t) m) ∧ ∀ q, q < m → (∀ t, t < i → leadN (gr R t) ≠ m - 1 - q) → el (fsX m R i) q = 0
  | 0, _ => ⟨fun t ht => by omega, fun q hq _ => el_rep m q⟩
  | i + 1, hi => by
    obtain ⟨h1, h2⟩ := fsX_el hp hR hb i (by omega)
    have hl := (fsX_ok hp hR.ok i (by omega)).1
    have hlt := fun t (ht : t < R.length) => hR.lt t ht
    have hne := fsB_iff.1 hb
    have hi1 := hlt i (by omega); have hi2 := hne i (by omega)
    refine ⟨fun t ht => ?_, fun q hq hn => ?_⟩
    · show el ((fsX m R i).set _ _) _ = _
      rw [el_setN (by omega)]
      by_cases hti : t = i
      · subst hti; rw [if_pos rfl]
      · have := hR.inc t i (by omega) (by omega)
        rw [if_neg (by omega)]
        exact h1 t (by omega)
    · show el ((fsX m R i).set _ _) _ = _
      rw [el_setN (by omega), if_neg (fun he => hn i (by omega) (by omega))]
      exact h2 q hq (fun t ht => hn t (by omega))
end
end Go.Proofs.YtocpeclcoikdpaaDoor
namespace Go.Proofs.YtocpeclcoikdpaaDoor
set_option linter.unusedVariables false

theorem redT_take {p : Int} {n : Nat} {m : Rows} : (redT p n m).1.take (redT p n m).2.2 = redM p n m := by
  obtain ⟨e1, e2⟩ := redLoop_any p n 0 m m (idN m.length) 0
  unfold redT redM
  rw [e1, e2]
theorem solB_iff {p : Int} {n : Nat} {m : Rows} {v : List Int} (hf : fdB p = true) (h : okM p n m) (hv : okR p n v) : solB p n m v = true ↔ inSpan p n m v := by
  obtain ⟨f1, f2, f3, f4, f5, f6⟩ := redT_facts hf h
  have hs := redM_span hf h
  unfold solB
  rw [hasB_iff hf f6 hv, redT_take]
  exact ⟨fun k => inSpan_trans hs.1 k, fun k => inSpan_trans hs.2 k⟩
theorem solX_ok {p : Int} {n : Nat} {m : Rows} {v : List Int} (hf : fdB p = true) (h : okM p n m) : okR p m.length (solX p n m v) := by
  obtain ⟨f1, f2, f3, f4, f5, f6⟩ := redT_facts hf h
  exact combR_ok (fdB_rng hf).1 (fun x hx => f4 x (List.mem_of_mem_take hx))
theorem solX_dot {p : Int} {n : Nat} {m : Rows} {v : List Int} (hf : fdB p = true) (h : okM p n m) (hv : okR p n v) (hb : solB p n m v = true) : ∀ j, j < n → sg m.length (fun t => el (solX p n m v) t * el (gr m t) j) % p = el v j := by
  have hp := fdB_rng hf
  obtain ⟨f1, f2, f3, f4, f5, f6⟩ := redT_facts hf h
  have hrel := redT_rel hf h
  have hb' : combR p n ((redT p n m).1.take (redT p n m).2.2) (coordsL ((redT p n m).1.take (redT p n m).2.2) v) = v := of_decide_eq_true hb
  intro j hj
  have hT : okM p m.length ((redT p n m).2.1.take (redT p n m).2.2) := fun x hx => f4 x (List.mem_of_mem_take hx)
  have lT : ((redT p n m).2.1.take (redT p n m).2.2).length = (redT p n m).2.2 := by rw [List.length_take]; omega
  have lR : ((redT p n m).1.take (redT p n m).2.2).length = (redT p n m).2.2 := by rw [List.length_take]; omega
  have lC : (coordsL ((redT p n m).1.take (redT p n m).2.2) v).length = (redT p n m).2.2 := by unfold coordsL; rw [List.length_map, lR]
  have e1 : el v j = sg (redT p n m).2.2 (fun i => el (coordsL ((redT p n m).1.take (redT p n m).2.2) v) i * el (gr (redT p n m).1 i) j) % p := by
    conv => lhs; rw [← hb']
    rw [el_combR hp.1 f6.ok (by omega) hj, lR]
    exact congrArg (· % p) (sg_congr fun i hi => by rw [gr_take hi])
  rw [e1]
  rw [sg_mod (g := fun t => sg (redT p n m).2.2 (fun i => el (coordsL ((redT p n m).1.take (redT p n m).2.2) v) i * el (gr (redT p n m).2.1 i) t) * el (gr m t) j) (fun t ht => by
    unfold solX
    rw [el_combR hp.1 hT (by omega) ht, mul_mod1, lT]
    exact congrArg (fun z => (z * el (gr m t) j) % p) (sg_congr fun i hi => by rw [gr_take hi]))]
  rw [sg_mod (f := fun i => el (coordsL ((redT p n m).1.take (redT p n m).2.2) v) i * el (gr (redT p n m).1 i) j) (g := fun i => el (coordsL ((redT p n m).1.take (redT p n m).2.2) v) i * sg m.length (fun t => el (gr (redT p n m).2.1 i) t * el (gr m t) j)) (fun i hi => by
    rw [← mul_mod2, hrel i (by omega) j hj, mul_mod2])]
  congr 1
  rw [sg_congr (g := fun t => sg (redT p n m).2.2 (fun i => el (coordsL ((redT p n m).1.take (redT p n m).2.2) v) i * el (gr (redT p n m).2.1 i) t * el (gr m t) j)) (fun t _ => (sg_mulr _ _ _).symm), sg_comm]
  refine sg_congr fun i _ => ?_
  rw [← sg_mul]
  exact sg_congr fun t _ => Int.mul_assoc _ _ _
section
variable {p : Int} {s : List Int} {m K : Nat}
end
end Go.Proofs.YtocpeclcoikdpaaDoor
namespace Go.Proofs.YtocpeclcoikdpaaDoor
set_option linter.unusedVariables false

end Go.Proofs.YtocpeclcoikdpaaDoor
namespace Go.Proofs.YtocpeclcoikdpaaDoor
set_option linter.unusedVariables false

/-! ### cleared vectors -/

/-! ### without the states that are not reached -/

/-! ### without the states that are hidden -/
theorem rowsN_tiny {m : Rows} (h : ∀ r ∈ m, r.length ≤ 24) (hl : m.length ≤ 24) : rowsN m ≤ 1000 := by
  unfold rowsN
  have := tot_le (n := rowN) (c := 24) (l := m) (fun r hr => h r hr)
  omega
end Go.Proofs.YtocpeclcoikdpaaDoor
namespace Go.Proofs.YtocpeclcoikdpaaDoor
set_option linter.unusedVariables false

/-! ### powers -/
def pw (p : Int) (n : Nat) (A B : Rows) : Nat → Rows
  | 0 => B
  | k + 1 => mulM p n (pw p n A B k) A
def stk (p : Int) (n : Nat) (A B : Rows) : Nat → Rows
  | 0 => []
  | k + 1 => stk p n A B k ++ pw p n A B k
theorem gr_mulM {p : Int} {o : Nat} {R M : Rows} {t : Nat} (ht : t < R.length) : gr (mulM p o R M) t = combR p o M (gr R t) := by
  have h1 := gr_get (m := mulM p o R M) (i := t) (by rw [mulM_len]; exact ht)
  unfold mulM at h1
  rw [List.getElem?_map, gr_get ht] at h1
  exact (Option.some.inj h1).symm
section
variable {p : Int} {n k : Nat} {A B : Rows}
theorem pw_ok (hf : fdB p = true) (hn : n ≤ 200) (hA : okM p n A) (hAl : A.length = n) (hB : okM p n B) (hBl : B.length = k) : ∀ j, okM p n (pw p n A B j) ∧ (pw p n A B j).length = k
  | 0 => ⟨hB, hBl⟩
  | j + 1 => by
    have hm : maxN = 1099511627776 := rfl
    obtain ⟨h1, h2⟩ := pw_ok hf hn hA hAl hB hBl j
    exact ⟨mulM_ok (fdB_rng hf) (by omega) hA h1 (by omega), by unfold pw; rw [mulM_len, h2]⟩
theorem stk_ok (hf : fdB p = true) (hn : n ≤ 200) (hA : okM p n A) (hAl : A.length = n) (hB : okM p n B) (hBl : B.length = k) : ∀ j, okM p n (stk p n A B j) ∧ (stk p n A B j).length = j * k
  | 0 => ⟨fun r hr => by simp [stk] at hr, by simp [stk]⟩
  | j + 1 => by
    obtain ⟨h1, h2⟩ := stk_ok hf hn hA hAl hB hBl j
    obtain ⟨k1, k2⟩ := pw_ok hf hn hA hAl hB hBl j
    exact ⟨okM_app h1 k1, by unfold stk; rw [List.length_append, h2, k2, Nat.succ_mul]⟩
theorem mulM_app (p : Int) (n : Nat) (R S A : Rows) : mulM p n (R ++ S) A = mulM p n R A ++ mulM p n S A := by unfold mulM; rw [List.map_append]
/-- a span goes over into a span -/
theorem mulM_span {R S : Rows} (hf : fdB p = true) (hA : okM p n A) (hAl : A.length = n) (hR : okM p n R) (hS : okM p n S) (h : subSpan p n R S) : subSpan p n (mulM p n R A) (mulM p n S A) := by
  have hp := (fdB_rng hf).1
  intro i hi
  rw [mulM_len] at hi
  obtain ⟨x, hx⟩ := h i hi
  refine ⟨x, fun j hj => ?_⟩
  rw [gr_mulM hi, mulM_len, el_combR hp hA (by rw [(hR _ (gr_mem hi)).1]; omega) hj, mod_mod]
  rw [sg_mod (f := fun t => el (gr R i) t * el (gr A t) j) (g := fun t => sg S.length (fun q => x q * el (gr S q) t) * el (gr A t) j) (fun t ht => by
    rw [← mul_mod1, hx t (by omega), mul_mod1])]
  rw [sg_mod (f := fun q => x q * el (gr (mulM p n S A) q) j) (g := fun q => x q * sg A.length (fun t => el (gr S q) t * el (gr A t) j)) (fun q hq => by
    rw [gr_mulM hq, el_combR hp hA (by rw [(hS _ (gr_mem hq)).1]; omega) hj, mul_mod2])]
  congr 1
  rw [sg_congr (g := fun t => sg S.length (fun q => x q * el (gr S q) t * el (gr A t) j)) (fun t _ => (sg_mulr _ _ _).symm), sg_comm]
  refine sg_congr fun q _ => ?_
  rw [← sg_mul]
  exact sg_congr fun t _ => Int.mul_assoc _ _ _
theorem stk_step (hf : fdB p = true) (hn : n ≤ 200) (hA : okM p n A) (hAl : A.length = n) (hB : okM p n B) (hBl : B.length = k) : ∀ j, subSpan p n (mulM p n (stk p n A B j) A) (stk p n A B (j + 1))
  | 0 => fun i hi => by simp [stk, mulM] at hi
  | j + 1 => by
    have e : mulM p n (stk p n A B (j + 1)) A = mulM p n (stk p n A B j) A ++ pw p n A B (j + 1) := mulM_app p n _ _ A
    rw [e]
    exact app_span (subSpan_trans (stk_step hf hn hA hAl hB hBl j) span_app1) span_app2
theorem rc_stk (hf : fdB p = true) (hn : n ≤ 200) (hA : okM p n A) (hAl : A.length = n) (hB : okM p n B) (hBl : B.length = k) : ∀ j, subSpan p n (rc p n A B j) (stk p n A B (j + 1))
  | 0 => subSpan_trans (redM_span hf hB).1 (by show subSpan p n B ([] ++ B); rw [List.nil_append]; exact subSpan_refl p n B)
  | j + 1 => by
    have ih := rc_stk hf hn hA hAl hB hBl j
    refine subSpan_trans (redM_span hf (rc_app hf hn hA hAl hB j)).1 (app_span (subSpan_trans ih span_app1) ?_)
    exact subSpan_trans (mulM_span hf hA hAl (rc_red hf hn hA hAl hB j).ok (stk_ok hf hn hA hAl hB hBl (j + 1)).1 ih) (stk_step hf hn hA hAl hB hBl (j + 1))
/-- all that is reached is reached in n steps -/
theorem rcN_stk (hf : fdB p = true) (hn : n ≤ 200) (hA : okM p n A) (hAl : A.length = n) (hB : okM p n B) (hBl : B.length = k) : subSpan p n (rcN p n A B) (stk p n A B n) := by
  rcases Nat.eq_zero_or_pos n with h0 | h0
  · intro i hi
    have := (rcN_red hf hn hA hAl hB).lt i hi
    omega
  · rw [rcN_before hf hn h0 hA hAl hB]
    have := rc_stk hf hn hA hAl hB hBl (n - 1)
    rwa [show n - 1 + 1 = n by omega] at this
end

/-! ### reduced lists with all leads -/
theorem red_full {p : Int} {n : Nat} {b : Rows} (h : Red p n b) (hl : b.length = n) {i j : Nat} (hi : i < n) : leadN (gr b i) = i ∧ (j < n → el (gr b i) j = if i = j then 1 else 0) := by
  have hid := inc_id (g := fun i => leadN (gr b i)) (k := n) (fun i hi => h.lt i (by omega)) (fun i j hij hj => h.inc i j hij (by omega))
  refine ⟨hid i hi, fun hj => ?_⟩
  by_cases hij : i = j
  · subst hij
    rw [if_pos rfl]
    have := h.one i (by omega)
    rwa [hid i hi] at this
  · rw [if_neg hij]
    have := h.zero j i (by omega) (by omega) (Ne.symm hij)
    rwa [hid j hj] at this
theorem red_whole {p : Int} {n : Nat} {b : Rows} (h : Red p n b) (hl : b.length = n) (v : List Int) : inSpan p n b v := by
  refine ⟨fun i => el v i, fun j hj => ?_⟩
  rw [hl, sg_one (i0 := j) hj (fun i hi hne => by rw [(red_full h hl hi).2 hj, if_neg hne, Int.mul_zero]), (red_full h hl hj).2 hj, if_pos rfl, Int.mul_one]
end Go.Proofs.YtocpeclcoikdpaaDoor
namespace Go.Proofs.YtocpeclcoikdpaaDoor
set_option linter.unusedVariables false

theorem el_drop3 (a : List Int) (k q : Nat) : el (a.drop k) q = el a (k + q) := by
  unfold el
  rw [List.getD_eq_getElem?_getD, List.getD_eq_getElem?_getD, List.getElem?_drop]
/-- a row times a column -/
def dt (p : Int) (x : List Int) (M : Rows) (j : Nat) : Int := sg M.length (fun i => el x i * el (gr M i) j) % p
section
variable {p : Int} {n o k : Nat} {A B C : Rows}
theorem dt_mul (hf : fdB p = true) (hA : okM p n A) (hAl : A.length = n) {c : Rows} (hc : okM p o c) (hcl : c.length = n) {x : List Int} (hx : x.length = n) {j : Nat} (hj : j < o) : dt p x (mulM p o A c) j = dt p (combR p n A x) c j := by
  have hp := (fdB_rng hf).1
  unfold dt
  rw [mulM_len, hAl, hcl]
  rw [sg_mod (g := fun t => el x t * sg n (fun i => el (gr A t) i * el (gr c i) j)) (fun t ht => by
    rw [gr_mulM (by omega), el_combR hp hc (by rw [(hA _ (gr_mem (by omega))).1]; omega) hj, mul_mod2, hcl])]
  rw [sg_mod (f := fun i => el (combR p n A x) i * el (gr c i) j) (g := fun i => sg n (fun t => el x t * el (gr A t) i) * el (gr c i) j) (fun i hi => by
    rw [el_combR hp hA (by omega) hi, mul_mod1, hAl])]
  congr 1
  rw [sg_congr (g := fun t => sg n (fun i => el x t * (el (gr A t) i * el (gr c i) j))) (fun t _ => (sg_mul _ _ _).symm), sg_comm]
  refine sg_congr fun i _ => ?_
  rw [← sg_mulr]
  exact sg_congr fun t _ => (Int.mul_assoc _ _ _).symm
theorem dt_cols (hf : fdB p = true) (hn : n ≤ 200) (ho : o ≤ 200) (hA : okM p n A) (hAl : A.length = n) (hB : okM p n B) (hBl : B.length = k) (hC : okM p o C) (hCl : C.length = n) {j : Nat} (hj : j < o) {s : Nat} (hs : s < k) :
    ∀ t i, dt p (gr (pw p n A B i) s) (cols p o A C t) j = dt p (gr (pw p n A B (i + t)) s) C j
  | 0, i => rfl
  | t + 1, i => by
    obtain ⟨h1, h2⟩ := pw_ok hf hn hA hAl hB hBl i
    obtain ⟨c1, c2⟩ := cols_ok hf ho hA hAl hC hCl t
    have e : gr (pw p n A B (i + 1)) s = combR p n A (gr (pw p n A B i) s) := gr_mulM (by omega)
    show dt p _ (mulM p o A (cols p o A C t)) j = _
    rw [dt_mul hf hA hAl c1 c2 (h1 _ (gr_mem (by omega))).1 hj, ← e, dt_cols hf hn ho hA hAl hB hBl hC hCl hj hs t (i + 1), show i + 1 + t = i + (t + 1) by omega]
end
theorem mkv_pw {p : Int} {n o : Nat} {s : SSt} : ∀ m, (mkv p n o s (m + 1)).2 = pw p n s.2.2.2.1 s.2.2.2.2.1 m
  | 0 => rfl
  | m + 1 => by
    show mulM p n (mkv p n o s (m + 1)).2 s.2.2.2.1 = _
    rw [mkv_pw m]; rfl
theorem mkv_pre {p : Int} {n o : Nat} {s : SSt} {k : Nat} (h : SSok p n k o s) : ∀ d q, (mkv p n o s (q + d)).1.take q = (mkv p n o s q).1
  | 0, q => by
    have := (mkv_ok h q).1
    rw [Nat.add_zero, List.take_of_length_le (by omega)]
  | d + 1, q => by
    have hl := (mkv_ok h (q + d)).1
    have ih := mkv_pre h d q
    rw [show q + (d + 1) = (q + d) + 1 by omega, mkv_succ]
    split
    · rw [List.take_append_of_le_length (by omega)]; exact ih
    · rw [List.take_append_of_le_length (by omega)]; exact ih
theorem mkv_at {p : Int} {n k o : Nat} {s : SSt} (h : SSok p n k o s) {m N : Nat} (hm : m + 1 < N) : (mkv p n o s N).1[m + 1]? = some ((o : Int), mulM p o (pw p n s.2.2.2.1 s.2.2.2.2.1 m) s.2.2.2.2.2.1) := by
  have h1 := mkv_pre h (N - (m + 2)) (m + 2)
  rw [show m + 2 + (N - (m + 2)) = N by omega] at h1
  have h2 : (mkv p n o s N).1[m + 1]? = (mkv p n o s (m + 2)).1[m + 1]? := by
    rw [← h1, List.getElem?_take, if_pos (by omega)]
  have hl := (mkv_ok h (m + 1)).1
  rw [h2, show m + 2 = (m + 1) + 1 by omega, mkv_succ, if_neg (by omega)]
  dsimp only
  rw [List.getElem?_append_right (by omega), hl, Nat.sub_self, mkv_pw]
  rfl
/-- two state spaces, both minimal, with the same outputs -/
structure Sim (p : Int) (n n' k o : Nat) (a b : SSt) : Prop where
  hf : fdB p = true
  sa : SSok p n k o a
  sb : SSok p n' k o b
  ra : (rcN p n a.2.2.2.1 a.2.2.2.2.1).length = n
  rb : (rcN p n' b.2.2.2.1 b.2.2.2.2.1).length = n'
  ha : (hidM p n o a.2.2.2.1 a.2.2.2.2.2.1).length = 0
  hb : (hidM p n' o b.2.2.2.1 b.2.2.2.2.2.1).length = 0
  eq : (mkv p n o a (n + n' + 1)).1 = (mkv p n' o b (n + n' + 1)).1
theorem Sim.symm {p : Int} {n n' k o : Nat} {a b : SSt} (h : Sim p n n' k o a b) : Sim p n' n k o b a :=
  ⟨h.hf, h.sb, h.sa, h.rb, h.ra, h.hb, h.ha, by rw [Nat.add_comm n' n]; exact h.eq.symm⟩
section
variable {p : Int} {n n' k o : Nat} {a b : SSt}
theorem Sim.mk0 (h : Sim p n n' k o a b) {m : Nat} (hm : m < n + n') {s j : Nat} (hs : s < k) (hj : j < o) :
    dt p (gr (pw p n a.2.2.2.1 a.2.2.2.2.1 m) s) a.2.2.2.2.2.1 j = dt p (gr (pw p n' b.2.2.2.1 b.2.2.2.2.1 m) s) b.2.2.2.2.2.1 j := by
  have hp := (fdB_rng h.hf).1
  have h1 := mkv_at h.sa (m := m) (N := n + n' + 1) (by omega)
  have h2 := mkv_at h.sb (m := m) (N := n + n' + 1) (by omega)
  rw [h.eq, h2] at h1
  have h3 : mulM p o (pw p n a.2.2.2.1 a.2.2.2.2.1 m) a.2.2.2.2.2.1 = mulM p o (pw p n' b.2.2.2.1 b.2.2.2.2.1 m) b.2.2.2.2.2.1 := (congrArg Prod.snd (Option.some.inj h1)).symm
  have na := h.sa.hn; have nb := h.sb.hn
  obtain ⟨a1, a2⟩ := pw_ok h.hf (by omega) h.sa.a.2 h.sa.a.1 h.sa.b.2 h.sa.b.1 m
  obtain ⟨b1, b2⟩ := pw_ok h.hf (by omega) h.sb.a.2 h.sb.a.1 h.sb.b.2 h.sb.b.1 m
  have ga := gr_mulM (p := p) (o := o) (M := a.2.2.2.2.2.1) (R := pw p n a.2.2.2.1 a.2.2.2.2.1 m) (t := s) (by omega)
  have gb := gr_mulM (p := p) (o := o) (M := b.2.2.2.2.2.1) (R := pw p n' b.2.2.2.1 b.2.2.2.2.1 m) (t := s) (by omega)
  rw [h3, gb] at ga
  unfold dt
  rw [← el_combR hp h.sa.c.2 (by rw [(a1 _ (gr_mem (by omega))).1, h.sa.c.1]; exact Nat.le_refl _) hj, ← el_combR hp h.sb.c.2 (by rw [(b1 _ (gr_mem (by omega))).1, h.sb.c.1]; exact Nat.le_refl _) hj, ga]
/-- the reached states of both, side by side -/
def zz (p : Int) (n n' : Nat) (a b : SSt) (K : Nat) : Rows := catM (stk p n' b.2.2.2.1 b.2.2.2.2.1 K) (stk p n a.2.2.2.1 a.2.2.2.2.1 K)
theorem Sim.stkA (h : Sim p n n' k o a b) (K : Nat) : okM p n (stk p n a.2.2.2.1 a.2.2.2.2.1 K) ∧ (stk p n a.2.2.2.1 a.2.2.2.2.1 K).length = K * k :=
  stk_ok h.hf (by have := h.sa.hn; omega) h.sa.a.2 h.sa.a.1 h.sa.b.2 h.sa.b.1 K
theorem Sim.stkB (h : Sim p n n' k o a b) (K : Nat) : okM p n' (stk p n' b.2.2.2.1 b.2.2.2.2.1 K) ∧ (stk p n' b.2.2.2.1 b.2.2.2.2.1 K).length = K * k := h.symm.stkA K
theorem Sim.zz_ok (h : Sim p n n' k o a b) (K : Nat) : okM p (n' + n) (zz p n n' a b K) ∧ (zz p n n' a b K).length = K * k := by
  obtain ⟨a1, a2⟩ := h.stkA K
  obtain ⟨b1, b2⟩ := h.stkB K
  exact ⟨catM_ok (by omega) b1 a1, by unfold zz; rw [catM_len (by omega), b2]⟩
/-- a row of the stack is a row of a power -/
theorem stk_row {p : Int} {n : Nat} {A B : Rows} {k : Nat} (hl : ∀ j, (pw p n A B j).length = k) : ∀ K i, i < (stk p n A B K).length → ∃ m s, m < K ∧ s < k ∧ i = m * k + s ∧ gr (stk p n A B K) i = gr (pw p n A B m) s
  | 0, i, hi => by simp [stk] at hi
  | K + 1, i, hi => by
    have hlen : ∀ K, (stk p n A B K).length = K * k := by
      intro K
      induction K with
      | zero => simp [stk]
      | succ K ih => unfold stk; rw [List.length_append, ih, hl K, Nat.succ_mul]
    by_cases h : i < (stk p n A B K).length
    · obtain ⟨m, s, h1, h2, h3, h4⟩ := stk_row hl K i h
      refine ⟨m, s, by omega, h2, h3, ?_⟩
      rw [← h4]; exact gr_app1 h
    · have e := hlen (K + 1)
      have e2 := hlen K
      rw [Nat.succ_mul] at e
      refine ⟨K, i - K * k, by omega, by omega, by omega, ?_⟩
      have := gr_app2 (a := stk p n A B K) (b := pw p n A B K) (i - K * k)
      rw [e2, show K * k + (i - K * k) = i by omega] at this
      exact this
/-- what is nothing on one side is nothing on the other -/
theorem Sim.ker (h : Sim p n n' k o a b) {K : Nat} (hK : K ≤ n' + 1) {v : List Int} (hv : inSpan p (n' + n) (zz p n n' a b K) v) (h0 : ∀ j, j < n' → el v j % p = 0) : ∀ j, j < n → el v (n' + j) % p = 0 := by
  have hp := (fdB_rng h.hf).1
  have na := h.sa.hn; have nb := h.sb.hn; have no := h.sa.ho
  obtain ⟨z1, z2⟩ := h.zz_ok K
  obtain ⟨a1, a2⟩ := h.stkA K
  obtain ⟨b1, b2⟩ := h.stkB K
  have pa := pw_ok h.hf (by omega) h.sa.a.2 h.sa.a.1 h.sa.b.2 h.sa.b.1
  have pb := pw_ok h.hf (by omega) h.sb.a.2 h.sb.a.1 h.sb.b.2 h.sb.b.1
  have main : ∀ t, t < n → lperp p o (cols p o a.2.2.2.1 a.2.2.2.2.2.1 t) (v.drop n') := by
    intro t ht j hj
    obtain ⟨ca1, ca2⟩ := cols_ok h.hf (by omega) h.sa.a.2 h.sa.a.1 h.sa.c.2 h.sa.c.1 t
    obtain ⟨cb1, cb2⟩ := cols_ok h.hf (by omega) h.sb.a.2 h.sb.a.1 h.sb.c.2 h.sb.c.1 t
    have hd := dot_span (n := n' + n) (m := zz p n n' a b K) (fun q => if q < n' then el (gr (cols p o b.2.2.2.1 b.2.2.2.2.2.1 t) q) j else - el (gr (cols p o a.2.2.2.1 a.2.2.2.2.2.1 t) (q - n')) j) (fun i hi => ?_) hv
    · rw [sg_app, Int.add_emod, show sg n' (fun q => (if q < n' then el (gr (cols p o b.2.2.2.1 b.2.2.2.2.2.1 t) q) j else - el (gr (cols p o a.2.2.2.1 a.2.2.2.2.2.1 t) (q - n')) j) * el v q) % p = 0 from by
        rw [sg_mod (g := fun _ => 0) (fun q hq => by rw [if_pos hq, mul_mod_zero2 (h0 q hq), Int.zero_emod]), sg_zero (fun _ _ => rfl), Int.zero_emod], Int.zero_add, mod_mod] at hd
      rw [sg_congr (g := fun q => -1 * (el (v.drop n') q * el (gr (cols p o a.2.2.2.1 a.2.2.2.2.2.1 t) q) j)) (fun q hq => by
        rw [if_neg (by omega), show n' + q - n' = q by omega, el_drop3, Int.neg_mul, Int.mul_comm, Int.neg_mul, Int.one_mul]), sg_mul] at hd
      have e : (-1 * sg n (fun q => el (v.drop n') q * el (gr (cols p o a.2.2.2.1 a.2.2.2.2.2.1 t) q) j)) % p = 0 := hd
      rw [ca2]
      have e2 := mul_mod_zero2 (a := -1) e
      rwa [← Int.mul_assoc, show (-1 * -1 : Int) = 1 by decide, Int.one_mul] at e2
    · have hil : i < K * k := by omega
      obtain ⟨m, s, m1, m2, m3, m4⟩ := stk_row (fun j => (pa j).2) K i (by omega)
      obtain ⟨m', s', m1', m2', m3', m4'⟩ := stk_row (fun j => (pb j).2) K i (by omega)
      obtain ⟨rfl, rfl⟩ : m = m' ∧ s = s' := by
        have e : m * k + s = m' * k + s' := by omega
        have hk : 0 < k := by omega
        have d1 : (m * k + s) / k = m := by rw [Nat.mul_comm, Nat.mul_add_div hk, Nat.div_eq_of_lt m2, Nat.add_zero]
        have d2 : (m' * k + s') / k = m' := by rw [Nat.mul_comm, Nat.mul_add_div hk, Nat.div_eq_of_lt m2', Nat.add_zero]
        have : m = m' := by rw [← d1, ← d2, e]
        subst this
        exact ⟨rfl, by omega⟩
      have g : gr (zz p n n' a b K) i = gr (pw p n' b.2.2.2.1 b.2.2.2.2.1 m) s ++ gr (pw p n a.2.2.2.1 a.2.2.2.2.1 m) s := by unfold zz; rw [catM_gr (by omega), m4, m4']
      have lb := ((pb m).1 _ (gr_mem (i := s) (by have := (pb m).2; omega))).1
      have e1 := dt_cols h.hf (by omega) (by omega) h.sa.a.2 h.sa.a.1 h.sa.b.2 h.sa.b.1 h.sa.c.2 h.sa.c.1 hj m2 t m
      have e2 := dt_cols h.hf (by omega) (by omega) h.sb.a.2 h.sb.a.1 h.sb.b.2 h.sb.b.1 h.sb.c.2 h.sb.c.1 hj m2 t m
      have e3 := h.mk0 (m := m + t) (by omega) m2 hj
      rw [← e1, ← e2] at e3
      unfold dt at e3
      rw [ca2, cb2] at e3
      rw [g, sg_app]
      rw [sg_congr (g := fun q => el (gr (pw p n' b.2.2.2.1 b.2.2.2.2.1 m) s) q * el (gr (cols p o b.2.2.2.1 b.2.2.2.2.2.1 t) q) j) (fun q hq => by rw [if_pos hq, el_app, if_pos (by omega), Int.mul_comm])]
      rw [sg_congr (k := n) (g := fun q => -1 * (el (gr (pw p n a.2.2.2.1 a.2.2.2.2.1 m) s) q * el (gr (cols p o a.2.2.2.1 a.2.2.2.2.2.1 t) q) j)) (fun q hq => by
        rw [if_neg (by omega), show n' + q - n' = q by omega, el_app, if_neg (by omega), show n' + q - (gr (pw p n' b.2.2.2.1 b.2.2.2.2.1 m) s).length = q by omega, Int.neg_mul, Int.mul_comm, Int.neg_mul, Int.one_mul]), sg_mul]
      rw [show ∀ x y : Int, x + -1 * y = x - y from fun x y => by omega, Int.sub_emod, e3, Int.sub_self]
      exact Int.zero_emod p
  obtain ⟨s1, s2⟩ := seen_ok h.hf (by omega) h.sa.a.2 h.sa.a.1 h.sa.c.2 h.sa.c.1 n
  have hsp := (kerM_iff h.hf s1 (v.drop n')).2 ((seen_perp h.hf (by omega) h.sa.a.2 h.sa.a.1 h.sa.c.2 h.sa.c.1 _ n).2 main)
  rw [s2] at hsp
  have hnil : kerM p (n * o) (seenM p n o a.2.2.2.1 a.2.2.2.2.2.1 n) = [] := List.eq_nil_of_length_eq_zero h.ha
  rw [hnil] at hsp
  obtain ⟨x, hx⟩ := hsp
  intro j hj
  have := hx j hj
  rw [el_drop3] at this
  rw [this]
  exact Int.zero_emod p
end
end Go.Proofs.YtocpeclcoikdpaaDoor
namespace Go.Proofs.YtocpeclcoikdpaaDoor
set_option linter.unusedVariables false

/-! ### both have as many states -/
theorem rc_many {p : Int} {n n' : Nat} {A B : Rows} (hf : fdB p = true) (hn : n' ≤ 200) (hA : okM p n' A) (hAl : A.length = n') (hB : okM p n' B) (hr : (rcN p n' A B).length = n') (h : n < n') : n + 1 ≤ (rc p n' A B n).length := by
  have h0 : (rc p n' A B 0).length ≠ 0 := fun h0 => by
    have e0 : rc p n' A B 0 = [] := List.eq_nil_of_length_eq_zero h0
    have h1 : (rc p n' A B 1).length ≤ _ := (redM_ok (n := n') (fdB_rng hf).1 (rc_app hf hn hA hAl hB 0)).2.1
    rw [e0, List.length_append, mulM_len] at h1
    have h2 := rc_stable hf hn hA hAl hB (k := 0) (by rw [h0]; simp at h1; exact List.length_eq_zero_iff.2 h1) n'
    rw [Nat.zero_add] at h2
    unfold rcN at hr
    rw [h2, h0] at hr
    omega
  rcases first_of (P := fun j => (rc p n' A B (j + 1)).length = (rc p n' A B j).length) n with h1 | ⟨k, h1, h2, h3⟩
  · have := rc_grow2 hf hn hA hAl hB n h1
    omega
  · have e1 := rc_stable hf hn hA hAl hB h3 (n - k)
    have e2 := rc_stable hf hn hA hAl hB h3 (n' - k)
    rw [show k + (n - k) = n by omega] at e1
    rw [show k + (n' - k) = n' by omega] at e2
    unfold rcN at hr
    rw [e1, ← e2, hr]
    omega
/-- the last columns of rows that span others span those columns -/
theorem drop_span {p : Int} {w n : Nat} {Z T : Rows} (h : subSpan p (w + n) Z T) : subSpan p n (Z.map (·.drop w)) (T.map (·.drop w)) := by
  have g : ∀ (M : Rows) (i : Nat), i < M.length → gr (M.map (·.drop w)) i = (gr M i).drop w := fun M i hi => by
    have h1 := gr_get (m := M.map (·.drop w)) (i := i) (by simpa using hi)
    rw [List.getElem?_map, gr_get hi] at h1
    exact (Option.some.inj h1).symm
  intro i hi
  rw [List.length_map] at hi
  obtain ⟨x, hx⟩ := h i hi
  refine ⟨x, fun j hj => ?_⟩
  rw [g Z i hi, el_drop3, hx (w + j) (by omega), List.length_map]
  exact congrArg (· % p) (sg_congr fun t ht => by rw [g T t ht, el_drop3])
section
variable {p : Int} {n n' k o : Nat} {a b : SSt}
theorem Sim.not_lt (h : Sim p n n' k o a b) : ¬ n' < n := by
  intro hlt
  have hp := (fdB_rng h.hf).1
  have na := h.sa.hn; have nb := h.sb.hn
  obtain ⟨z1, z2⟩ := h.zz_ok (n' + 1)
  obtain ⟨a1, a2⟩ := h.stkA (n' + 1)
  obtain ⟨b1, b2⟩ := h.stkB (n' + 1)
  have hR := redM_red h.hf z1
  have hs := redM_span h.hf z1
  -- every lead lies among the first columns
  have hl : ∀ i, i < (redM p (n' + n) (zz p n n' a b (n' + 1))).length → leadN (gr (redM p (n' + n) (zz p n n' a b (n' + 1))) i) < n' := by
    intro i hi
    apply Classical.byContradiction
    intro hge
    have h1 := h.ker (Nat.le_refl _) (hs.1 i hi) (fun j hj => by rw [leadN_z _ j (by omega)]; exact Int.zero_emod p)
    have h2 := hR.lt i hi
    have h3 := h1 (leadN (gr (redM p (n' + n) (zz p n n' a b (n' + 1))) i) - n') (by omega)
    rw [show n' + (leadN (gr (redM p (n' + n) (zz p n n' a b (n' + 1))) i) - n') = leadN (gr (redM p (n' + n) (zz p n n' a b (n' + 1))) i) by omega, hR.one i hi] at h3
    rw [emod_sm ⟨by omega, by omega⟩] at h3
    omega
  have hlen : (redM p (n' + n) (zz p n n' a b (n' + 1))).length ≤ n' := by
    rcases Nat.eq_zero_or_pos (redM p (n' + n) (zz p n n' a b (n' + 1))).length with h0 | h0
    · omega
    · have lo : ∀ i, i < (redM p (n' + n) (zz p n n' a b (n' + 1))).length → i ≤ leadN (gr (redM p (n' + n) (zz p n n' a b (n' + 1))) i) := by
        intro i
        induction i with
        | zero => intro _; exact Nat.zero_le _
        | succ i ih => intro hi; have := ih (by omega); have := hR.inc i (i + 1) (by omega) hi; omega
      have h1 := lo ((redM p (n' + n) (zz p n n' a b (n' + 1))).length - 1) (by omega)
      have h2 := hl ((redM p (n' + n) (zz p n n' a b (n' + 1))).length - 1) (by omega)
      omega
  have hTok : okM p n ((redM p (n' + n) (zz p n n' a b (n' + 1))).map (·.drop n')) := fun r hr => by
    obtain ⟨x, hx, rfl⟩ := List.mem_map.1 hr
    obtain ⟨k1, k2⟩ := hR.ok x hx
    exact ⟨by simp; omega, fun y hy => k2 y (List.mem_of_mem_drop hy)⟩
  have e : (zz p n n' a b (n' + 1)).map (·.drop n') = stk p n a.2.2.2.1 a.2.2.2.2.1 (n' + 1) := by
    refine ext_gr (by rw [List.length_map, z2, a2]) (fun i hi => ?_)
    rw [List.length_map] at hi
    have h1 := gr_get (m := (zz p n n' a b (n' + 1)).map (·.drop n')) (i := i) (by simpa using hi)
    rw [List.getElem?_map, gr_get hi] at h1
    rw [← Option.some.inj h1]
    unfold zz
    rw [catM_gr (by omega)]
    have := (b1 _ (gr_mem (i := i) (by omega))).1
    dsimp only
    rw [List.drop_append, this, Nat.sub_self, List.drop_zero, List.drop_of_length_le (by omega), List.nil_append]
  have hd := drop_span hs.2
  rw [e] at hd
  have hrc := rc_stk h.hf (by omega) h.sa.a.2 h.sa.a.1 h.sa.b.2 h.sa.b.1 n'
  have hm := rc_many h.hf (by omega) h.sa.a.2 h.sa.a.1 h.sa.b.2 h.ra hlt
  have hall := subSpan_trans (subSpan_trans hrc hd) (redM_span h.hf hTok).2
  have h1 := red_len_le hp (rc_red h.hf (by omega) h.sa.a.2 h.sa.a.1 h.sa.b.2 n') (redM_red h.hf hTok) hall
  have h2 := (redM_ok (n := n) hp hTok).2.1
  rw [List.length_map] at h2
  omega
theorem Sim.same (h : Sim p n n' k o a b) : n = n' := by
  have h1 := h.not_lt
  have h2 := h.symm.not_lt
  omega
end
section
variable {p : Int} {n k o : Nat} {a b : SSt}
/-- the stack of the other one spans everything -/
theorem Sim.whole (h : Sim p n n k o a b) (v : List Int) : inSpan p n (stk p n b.2.2.2.1 b.2.2.2.2.1 n) v := by
  have nb := h.sb.hn
  exact inSpan_trans (rcN_stk h.hf (by omega) h.sb.a.2 h.sb.a.1 h.sb.b.2 h.sb.b.1) (red_whole (rcN_red h.hf (by omega) h.sb.a.2 h.sb.a.1 h.sb.b.2) h.rb v)
end
end Go.Proofs.YtocpeclcoikdpaaDoor
namespace Go.Proofs.YtocpeclcoikdpaaDoor
set_option linter.unusedVariables false
section
variable {p : Int} {n k o : Nat} {a b : SSt}
end
end Go.Proofs.YtocpeclcoikdpaaDoor
namespace Go.Proofs.YtocpeclcoikdpaaDoor

abbrev Edg := Int × Int × List Int × List Int

/-! ### tables -/

/-! ### edges -/

/-! ### how often a wire occurs -/
def edI (e : Edg) : List Int := e.2.2.1
def edO (e : Edg) : List Int := e.2.2.2

/-! ### valid graphs -/

/-! ### the program's test -/
end Go.Proofs.YtocpeclcoikdpaaDoor
namespace Go.Proofs.YtocpeclcoikdpaaDoor

/-! ### loops by what holds in them -/
theorem whileO_num {σ τ : Type} {f : σ → Option (σ ⊕ τ)} (I : Nat → σ → Prop) (Q : τ → Prop) (N : Nat) (h : ∀ j s, j ≤ N → I j s → (∃ s', f s = some (.inl s') ∧ I (j + 1) s' ∧ j < N) ∨ (∃ t, f s = some (.inr t) ∧ Q t)) {s : σ} (hs : I 0 s) : ∃ t, whileO f s = some t ∧ Q t := by
  have key : ∀ d j s, j + d = N → I j s → ∃ t, whileO f s = some t ∧ Q t := by
    intro d
    induction d with
    | zero =>
      intro j s hj hI
      rcases h j s (by omega) hI with ⟨s', h1, h2, h3⟩ | ⟨t, h1, h2⟩
      · omega
      · exact ⟨t, whileO_end h1, h2⟩
    | succ d ih =>
      intro j s hj hI
      rcases h j s (by omega) hI with ⟨s', h1, h2, h3⟩ | ⟨t, h1, h2⟩
      · obtain ⟨t, k1, k2⟩ := ih (j + 1) s' (by omega) h2
        exact ⟨t, by rw [whileO_step h1]; exact k1, k2⟩
      · exact ⟨t, whileO_end h1, h2⟩
  exact key N 0 s (by omega) hs

/-! ### tables of marks -/
/-- the marks: is x marked? -/
def M (s : List Bool) (x : Int) : Prop := idxO s x = some true
instance (s : List Bool) (x : Int) : Decidable (M s x) := by unfold M; infer_instance
/-- how many are not marked -/
def left (s : List Bool) : Nat := s.count false

/-! ### what can be reached -/
inductive Rch (E : List Edg) (S : Int → Prop) : Int → Prop
  | base {x : Int} : S x → Rch E S x
  | step {e : Edg} {w v : Int} : e ∈ E → w ∈ edI e → Rch E S w → v ∈ edO e → Rch E S v
theorem Rch.mono {E : List Edg} {S S' : Int → Prop} (h : ∀ x, S x → Rch E S' x) {x : Int} (hx : Rch E S x) : Rch E S' x := by
  induction hx with
  | base hs => exact h _ hs
  | step he hw _ hv ih => exact .step he hw ih hv
/-- a set that is closed holds all that can be reached -/
theorem Rch.sub {E : List Edg} {S T : Int → Prop} (h0 : ∀ x, S x → T x) (h1 : ∀ e ∈ E, ∀ w ∈ edI e, T w → ∀ v ∈ edO e, T v) {x : Int} (hx : Rch E S x) : T x := by
  induction hx with
  | base hs => exact h0 _ hs
  | step he hw _ hv ih => exact h1 _ he _ hw ih _ hv

/-! ### the reference's search -/

/-! ### the program's search -/
end Go.Proofs.YtocpeclcoikdpaaDoor
namespace Go.Proofs.YtocpeclcoikdpaaDoor
set_option linter.unusedVariables false
structure Pr (p : Int) (n : Nat) (Z mine other : Rows) : Prop where
  m : okM p n mine
  o : okM p n other
  l : mine.length = other.length
  i : Indep p n other
  sp : ∀ t, t < other.length → inSpan p (n + n) Z (gr other t ++ gr mine t)
theorem Pr.le {p : Int} {n : Nat} {Z mine other : Rows} (hf : fdB p = true) (h : Pr p n Z mine other) : other.length ≤ n := by
  rw [← (indep_iff hf h.o).1 h.i]
  exact (redM_ok (n := n) (fdB_rng hf).1 h.o).2.2
theorem okM_one {p : Int} {n : Nat} {r : List Int} (h : okR p n r) : okM p n [r] := fun x hx => by rw [List.mem_singleton.1 hx]; exact h
theorem dep_span {p : Int} {n : Nat} {M : Rows} {y : List Int} (hf : fdB p = true) (hM : okM p n M) (hy : okR p n y) (hi : Indep p n M) (hd : (redM p n (M ++ [y])).length ≠ (M ++ [y]).length) : inSpan p n M y := by
  have hp := (fdB_rng hf).1
  have ho := okM_app hM (okM_one hy)
  have h1 := (indep_iff hf hM).1 hi
  have h2 := (redM_ok (n := n) hp ho).2.1
  have hs := redM_span hf ho
  have hsM := redM_span hf hM
  have hsub : subSpan p n (redM p n M) (redM p n (M ++ [y])) := subSpan_trans hsM.1 (subSpan_trans span_app1 hs.2)
  have h3 := red_len_le hp (redM_red hf hM) (redM_red hf ho) hsub
  rw [List.length_append, List.length_singleton] at h2 hd
  have he := red_eq hp (redM_red hf hM) (redM_red hf ho) hsub (by omega)
  have hyr : inSpan p n (M ++ [y]) y := by
    have := inSpan_row (p := p) (n := n) (m := M ++ [y]) (i := M.length) (by simp)
    rwa [show gr (M ++ [y]) M.length = y from by have := gr_app2 (a := M) (b := [y]) 0; rw [Nat.add_zero] at this; rw [this]; exact gr_zero _ _] at this
  refine inSpan_trans hsM.1 ?_
  rw [he]
  exact inSpan_trans hs.2 hyr
end Go.Proofs.YtocpeclcoikdpaaDoor
namespace Go.Proofs.YtocpeclcoikdpaaDoor
set_option linter.unusedVariables false
end Go.Proofs.YtocpeclcoikdpaaDoor
namespace Go.Proofs.YtocpeclcoikdpaaDoor
set_option linter.unusedVariables false
/-- the equations, their coefficients in the opposite order -/
def bkE (n : Nat) (E : Rows) : Rows := E.map fun r => ((List.range n).map fun i => el r (n - 1 - i)) ++ [el r n]
section
variable {p : Int} {n : Nat} {E : Rows}
theorem bkE_len : (bkE n E).length = E.length := by simp [bkE]
theorem bkE_gr {u : Nat} (hu : u < E.length) : gr (bkE n E) u = ((List.range n).map fun i => el (gr E u) (n - 1 - i)) ++ [el (gr E u) n] := by
  have h1 := gr_get (m := bkE n E) (i := u) (by rw [bkE_len]; exact hu)
  unfold bkE at h1
  rw [List.getElem?_map, gr_get hu] at h1
  exact (Option.some.inj h1).symm
theorem bkE_ok (hE : okM p (n + 1) E) : okM p (n + 1) (bkE n E) := by
  intro r hr
  obtain ⟨x, hx, rfl⟩ := List.mem_map.1 hr
  obtain ⟨k1, k2⟩ := hE x hx
  refine ⟨by simp, fun y hy => ?_⟩
  rcases List.mem_append.1 hy with hy | hy
  · obtain ⟨i, hi, rfl⟩ := List.mem_map.1 hy
    exact k2 _ (el_mem (by have := List.mem_range.1 hi; omega))
  · rw [List.mem_singleton.1 hy]; exact k2 _ (el_mem (by omega))
theorem bkE_el {u j : Nat} (hu : u < E.length) (hj : j < n) : el (gr (bkE n E) u) j = el (gr E u) (n - 1 - j) := by
  rw [bkE_gr hu, el_app, rmap_len, if_pos hj, el_rmap _ hj]
theorem bkE_last {u : Nat} (hu : u < E.length) : el (gr (bkE n E) u) n = el (gr E u) n := by
  rw [bkE_gr hu, el_app, rmap_len, if_neg (by omega), Nat.sub_self]; rfl
/-- the equations' solutions -/
def slv (p : Int) (n : Nat) (E : Rows) (x : Nat → Int) : Prop := ∀ u, u < E.length → sg n (fun i => x i * el (gr E u) i) % p = el (gr E u) n % p
def fsR (p : Int) (n : Nat) (E : Rows) : Rows := redM p (n + 1) (bkE n E)
theorem slv_dot {x : Nat → Int} (h : slv p n E x) {u : Nat} (hu : u < E.length) : sg (n + 1) (fun j => (if j < n then x (n - 1 - j) else -1) * el (gr (bkE n E) u) j) % p = 0 := by
  have e : sg (n + 1) (fun j => (if j < n then x (n - 1 - j) else -1) * el (gr (bkE n E) u) j) = sg n (fun i => x i * el (gr E u) i) - el (gr E u) n := by
    show sg n _ + _ = _
    dsimp only
    rw [if_neg (by omega), bkE_last hu, sg_congr (g := fun j => (fun i => x i * el (gr E u) i) (n - 1 - j)) (fun j hj => by dsimp only; rw [if_pos hj, bkE_el hu hj]), sg_rev (fun i => x i * el (gr E u) i) n]
    omega
  rw [e, Int.sub_emod, h u hu, Int.sub_self]
  exact Int.zero_emod p
theorem fsR_solves (hf : fdB p = true) (hE : okM p (n + 1) E) (hb : fsB n (fsR p n E) = true) : slv p n E (fun i => el (fsX n (fsR p n E) (fsR p n E).length) i) := by
  have hp := fdB_rng hf
  have hW := bkE_ok hE
  have hR := redM_red hf hW
  have hsp := (redM_span hf hW).2
  unfold fsR at hb ⊢
  generalize redM p (n + 1) (bkE n E) = R at hR hsp hb ⊢
  obtain ⟨e1, e2⟩ := fsX_el hp.1 hR hb R.length (Nat.le_refl _)
  have hne := fsB_iff.1 hb
  have key : ∀ i, i < R.length → sg (n + 1) (fun j => (if j < n then el (fsX n R R.length) (n - 1 - j) else -1) * el (gr R i) j) % p = 0 := by
    intro i hi
    have hl := hR.lt i hi; have hn := hne i hi
    show (sg n _ + _) % p = 0
    dsimp only
    rw [if_neg (by omega), sg_one (i0 := leadN (gr R i)) (k := n) (by omega) (fun j hj hji => by
      rw [if_pos hj]
      by_cases h1 : ∃ t, t < R.length ∧ leadN (gr R t) = j
      · obtain ⟨t, ht, rfl⟩ := h1
        rw [hR.zero t i ht hi (fun h2 => hji (by rw [h2])), Int.mul_zero]
      · rw [e2 (n - 1 - j) (by omega) (fun t ht he => h1 ⟨t, ht, by omega⟩), Int.zero_mul]), if_pos (by omega), e1 i hi, hR.one i hi, show el (gr R i) n * 1 + -1 * el (gr R i) n = 0 by omega]
    exact Int.zero_emod p
  intro u hu
  have hd := dot_span (m := R) (v := gr (bkE n E) u) (n := n + 1) _ key (hsp u (by rw [bkE_len]; exact hu))
  have e : sg (n + 1) (fun j => (if j < n then el (fsX n R R.length) (n - 1 - j) else -1) * el (gr (bkE n E) u) j) = sg n (fun i => el (fsX n R R.length) i * el (gr E u) i) - el (gr E u) n := by
    show sg n _ + _ = _
    dsimp only
    rw [if_neg (by omega), bkE_last hu, sg_congr (g := fun j => (fun i => el (fsX n R R.length) i * el (gr E u) i) (n - 1 - j)) (fun j hj => by
      dsimp only; rw [if_pos hj, bkE_el hu hj]), sg_rev (fun i => el (fsX n R R.length) i * el (gr E u) i) n]
    omega
  rw [e] at hd
  exact mod_of_sub hd
theorem fsR_of (hf : fdB p = true) (hE : okM p (n + 1) E) {x : Nat → Int} (h : slv p n E x) : fsB n (fsR p n E) = true := by
  have hp := fdB_rng hf
  have hW := bkE_ok hE
  have hR := redM_red hf hW
  have hsp := (redM_span hf hW).1
  unfold fsR
  generalize redM p (n + 1) (bkE n E) = R at hR hsp ⊢
  rw [fsB_iff]
  intro i hi he
  have hd := dot_span (m := bkE n E) (n := n + 1) (v := gr R i) _ (fun u hu => slv_dot h (by rw [bkE_len] at hu; exact hu)) (hsp i hi)
  have e : sg (n + 1) (fun j => (if j < n then x (n - 1 - j) else -1) * el (gr R i) j) = -1 := by
    show sg n _ + _ = _
    dsimp only
    have h1 := hR.one i hi
    rw [he] at h1
    rw [if_neg (by omega), h1, sg_zero (fun j hj => by rw [leadN_z (gr R i) j (by omega), Int.mul_zero])]
    rfl
  rw [e] at hd
  have h2 : (-1 : Int) % p = p - 1 := by
    rw [show (-1 : Int) = p - 1 + -1 * p by omega, Int.add_mul_emod_self_right, Int.emod_eq_of_lt (by omega) (by omega)]
  omega
theorem firstSolution_ (hf : fdB p = true) (hn : n ≤ 1000) (hE : okM p (n + 1) E) (hL : E.length ≤ 100000) :
    F_impl_firstSolution p E (n : Int) = some (if fsB n (fsR p n E) then (fsX n (fsR p n E) (fsR p n E).length, true) else ([], false)) := by
  have hm : maxN = 1099511627776 := rfl
  have hp := fdB_rng hf
  have hW := bkE_ok hE
  have hR := redM_red hf hW
  have hRl := (redM_ok (n := n + 1) hp.1 hW).2.2
  have hbl : (bkE n E).length = E.length := bkE_len
  refine bnd (a := bkE n E) ?_ ?_
  · have hall := forS_map (f := fun (k5 : Nat) (s439 : List (List Int)) =>
      (idxO E ((k5 : Nat) : Int)).bind fun a455 =>
      ((subO (n : Int) 1).bind fun a553 =>
        whileO (fun (s604 : List Int × Int) =>
          (some (decide ((0 : Int) ≤ s604.2))).bind fun a614 =>
          cond a614
          ((idxO a455 s604.2).bind fun a625 =>
            (appO s604.1 [a625]).bind fun a630 =>
            (subO s604.2 1).bind fun a635 =>
            some (.inl (a630, a635)))
          (some (.inr s604.1))) (([] : List Int), a553)).bind fun (s546 : List Int) =>
      (idxO a455 (n : Int)).bind fun a645 =>
      (appO s546 [a645]).bind fun a650 =>
      (appO s439 [a650]).bind fun a658 =>
      some a658) (fun r => ((List.range n).map fun i => el r (n - 1 - i)) ++ [el r n]) E [] (by simp; omega) (by
      intro t r s ht hs
      have hjl := (List.getElem?_eq_some_iff.1 ht).1
      have hlt := (hE r (mem_of_get ht)).1
      refine bnd (idxO_of ht) (bnd (a := (List.range n).map fun i => el r (n - 1 - i)) (bnd (subO_of (by omega) (by omega)) ?_) ?_)
      · have hwh := whileO_is (f := fun (s604 : List Int × Int) =>
          (some (decide ((0 : Int) ≤ s604.2))).bind fun a614 =>
          cond a614
          ((idxO r s604.2).bind fun a625 =>
            (appO s604.1 [a625]).bind fun a630 =>
            (subO s604.2 1).bind fun a635 =>
            some (.inl (a630, a635)))
          (some (.inr s604.1))) (fun q => ((List.range q).map fun i => el r (n - 1 - i), (n : Int) - 1 - (q : Int))) (t := (List.range n).map fun i => el r (n - 1 - i)) n (by
            intro q hq
            dsimp only
            refine stp (cTW (dT (by omega)) ?_)
            rw [show (n : Int) - 1 - (q : Int) = ((n - 1 - q : Nat) : Int) by omega]
            refine bnd (idx_el (by omega)) (bnd (appO_of (by rw [rmap_len]; show q + 1 ≤ _; omega)) (bnd (subO_of (by omega) (by omega)) ?_))
            rw [List.range_succ, List.map_append, show ((n - 1 - q : Nat) : Int) - 1 = (n : Int) - 1 - ((q + 1 : Nat) : Int) by omega]
            rfl) (by
            dsimp only
            exact stp (cFW (dF (by omega)) rfl))
        rw [show ((n : Int) - 1 - ((0 : Nat) : Int)) = (n : Int) - 1 by omega] at hwh
        exact hwh
      · exact bnd (idx_el (by omega)) (bnd (appO_of (by rw [rmap_len]; show n + 1 ≤ _; omega)) (bnd (appO_of (by simp at hs ⊢; omega)) rfl)))
    exact hall
  refine bnd (zeros_ (by omega)) (bnd (a := ((n + 1 : Nat) : Int)) ((addO_of (by omega) (by omega)).trans (congrArg some (by omega))) (bnd (reduced_ (n := n + 1) hf (Nat.le_refl _) (by omega) hW (by omega)) ?_))
  unfold fsR
  generalize redM p (n + 1) (bkE n E) = R at hR hRl ⊢
  have hstep : ∀ i, i < R.length → leadN (gr R i) ≠ n → (idxO R ((i : Nat) : Int)).bind (fun a816 =>
      (F_impl_lead a816).bind fun y820 =>
      (some (decide (y820 = (n : Int)))).bind fun a823 =>
      cond a823
      (some ((Sum.inr (([] : List Int), false)) : List Int ⊕ (List Int × Bool)))
      ((subO (n : Int) 1).bind fun a826 =>
        (subO a826 y820).bind fun a828 =>
        (idxO a816 (n : Int)).bind fun a836 =>
        (setO (fsX n R i) a828 a836).bind fun a844 =>
        some (Sum.inl a844))) = some (Sum.inl (fsX n R (i + 1))) := by
    intro i hi hne
    have hlt := hR.lt i hi
    have hw := (okM_gr hR.ok hi).1
    refine bnd (idx_gr hi) (bnd (lead_ _) (stp (cFW (dF (by omega)) (bnd (subO_of (by omega) (by omega)) (bnd (subO_of (by omega) (by omega)) ?_)))))
    rw [show (n : Int) - 1 - (leadN (gr R i) : Int) = ((n - 1 - leadN (gr R i) : Nat) : Int) by omega]
    exact bnd (idx_el (by omega)) (bnd (setO_of _ (by rw [(fsX_ok hp.1 hR.ok i (by omega)).1]; omega)) rfl)
  cases hb : fsB n R with
  | true =>
    have hne := fsB_iff.1 hb
    exact sqW (forO_is (fun i => fsX n R i) (fun i hi => hstep i hi (hne i hi))) rfl
  | false =>
    rcases first_of (P := fun i => leadN (gr R i) = n) R.length with h | ⟨k, h1, h2, h3⟩
    · have := fsB_iff.2 h
      rw [hb] at this; cases this
    · refine sqW (forO_stop (fun i => fsX n R i) (t := (([] : List Int), false)) k h1 (fun i hi => hstep i (by omega) (h2 i hi)) ?_) rfl
      exact bnd (idx_gr h1) (bnd (lead_ _) (stp (cTW (dT (by rw [h3])) rfl)))
end
/-! ### coordinates in independent rows -/
/-- the columns of rows, each with an element of another row -/
def colE (M : Rows) (v : List Int) (size : Nat) : Rows := (List.range size).map fun j => colM M j ++ [el v j]
section
variable {p : Int} {size : Nat} {M : Rows} {v : List Int}
theorem colE_len : (colE M v size).length = size := rmap_len _
theorem colE_gr {j : Nat} (hj : j < size) : gr (colE M v size) j = colM M j ++ [el v j] := gr_rmap _ hj
theorem colM_len (M : Rows) (j : Nat) : (colM M j).length = M.length := by simp [colM]
theorem colE_ok (hM : okM p size M) (hv : okR p size v) : okM p (M.length + 1) (colE M v size) := rmapM_ok fun j hj => by
  refine ⟨by simp [colM], fun x hx => ?_⟩
  rcases List.mem_append.1 hx with hx | hx
  · obtain ⟨r, hr, rfl⟩ := List.mem_map.1 hx
    exact (hM r hr).2 _ (el_mem (by rw [(hM r hr).1]; exact hj))
  · rw [List.mem_singleton.1 hx]; exact hv.2 _ (el_mem (by rw [hv.1]; exact hj))
theorem colE_slv {x : Nat → Int} : slv p M.length (colE M v size) x ↔ ∀ j, j < size → sg M.length (fun t => x t * el (gr M t) j) % p = el v j % p := by
  have e : ∀ j, j < size → (∀ i, i < M.length → el (gr (colE M v size) j) i = el (gr M i) j) ∧ el (gr (colE M v size) j) M.length = el v j := fun j hj => by
    rw [colE_gr hj]
    refine ⟨fun i hi => ?_, ?_⟩
    · rw [el_app, if_pos (by rw [colM_len]; exact hi), colM_el hi]
    · rw [el_app, if_neg (by rw [colM_len]; omega), colM_len, Nat.sub_self]; rfl
  unfold slv
  rw [colE_len]
  refine forall_congr' fun j => forall_congr' fun hj => ?_
  rw [(e j hj).2, sg_congr (g := fun t => x t * el (gr M t) j) (fun t ht => by rw [(e j hj).1 t ht])]
/-- two solutions in independent rows are one -/
theorem indep_unique (hi : Indep p size M) {x y : List Int} (hx : okR p M.length x) (hy : okR p M.length y) (h : ∀ j, j < size → sg M.length (fun t => el x t * el (gr M t) j) % p = sg M.length (fun t => el y t * el (gr M t) j) % p) : x = y := by
  have h1 := hi (fun t => el x t - el y t) (fun j hj => by
    rw [sg_congr (g := fun t => el x t * el (gr M t) j - el y t * el (gr M t) j) (fun t _ => Int.sub_mul _ _ _), sg_sub, Int.sub_emod, h j hj, Int.sub_self]
    exact Int.zero_emod p)
  refine ext_el (by rw [hx.1, hy.1]) (fun j hj => ?_)
  rw [hx.1] at hj
  have e := mod_of_sub (h1 j hj)
  rwa [emod_sm (hx.2 _ (el_mem (by rw [hx.1]; exact hj))), emod_sm (hy.2 _ (el_mem (by rw [hy.1]; exact hj)))] at e
theorem coords_same (hf : fdB p = true) (hM : okM p size M) (hi : Indep p size M) (hv : okR p size v) :
    (if fsB M.length (fsR p M.length (colE M v size)) then (fsX M.length (fsR p M.length (colE M v size)) (fsR p M.length (colE M v size)).length, true) else ([], false)) = (if solB p size M v = true then (solX p size M v, true) else ([], false)) := by
  have hE := colE_ok hM hv
  have hp := fdB_rng hf
  cases hb : solB p size M v with
  | true =>
    have hd := solX_dot hf hM hv hb
    have hs : slv p M.length (colE M v size) (fun t => el (solX p size M v) t) := colE_slv.2 fun j hj => by
      rw [hd j hj]; exact (emod_sm (hv.2 _ (el_mem (by rw [hv.1]; exact hj)))).symm
    have hfb := fsR_of hf hE hs
    have hfs := colE_slv.1 (fsR_solves hf hE hfb)
    rw [if_pos hfb, if_pos rfl]
    have e := indep_unique hi (fsX_ok hp.1 (redM_red hf (bkE_ok hE)).ok _ (Nat.le_refl _)) (solX_ok (v := v) hf hM) (fun j hj => by
      have := hfs j hj
      rw [hd j hj]
      refine Eq.trans this (emod_sm (hv.2 _ (el_mem (by rw [hv.1]; exact hj)))))
    exact congrArg (fun x => (x, true)) e
  | false =>
    have hfb : fsB M.length (fsR p M.length (colE M v size)) = false := by
      cases h : fsB M.length (fsR p M.length (colE M v size)) with
      | false => rfl
      | true =>
        have hfs := colE_slv.1 (fsR_solves hf hE h)
        have : solB p size M v = true := (solB_iff hf hM hv).2 ⟨_, fun j hj => (hfs j hj).symm⟩
        rw [hb] at this; cases this
    rw [hfb]; rfl
theorem chCoords_ {basis : Rows} {chosen : List Int} {N : Int} (hf : fdB p = true) (hM : okM p size M) (hi : Indep p size M) (hv : okR p size v) (hs : size ≤ 1000) (hl : M.length ≤ 1000) (hN : N = (size : Int)) :
    F_impl_chooser_coordinates (p, N, basis, chosen, M) v = some (if solB p size M v = true then (solX p size M v, true) else ([], false)) := by
  have hm : maxN = 1099511627776 := rfl
  subst hN
  have hloop := forS_is (n := size) (f := fun (k9 : Nat) (s267 : List (List Int)) =>
      (forS (fun (k282 : Nat) (s340 : List Int) =>
          (idxO M ((k282 : Nat) : Int)).bind fun a356 =>
          (idxO a356 ((k9 : Nat) : Int)).bind fun a366 =>
          (appO s340 [a366]).bind fun a371 =>
          some a371) M.length 0 ([] : List Int)).bind fun (s378 : List Int) =>
      (idxO v ((k9 : Nat) : Int)).bind fun a387 =>
      (appO s378 [a387]).bind fun a392 =>
      (appO s267 [a392]).bind fun a400 =>
      some a400) (fun j => colE M v j) (fun j hj => by
    have hin := forS_map (f := fun (k282 : Nat) (s340 : List Int) =>
          (idxO M ((k282 : Nat) : Int)).bind fun a356 =>
          (idxO a356 ((j : Nat) : Int)).bind fun a366 =>
          (appO s340 [a366]).bind fun a371 =>
          some a371) (fun r => el r j) M [] (by simp; omega) (fun t r s ht hs' => by
      have hjl := (List.getElem?_eq_some_iff.1 ht).1
      have hr := (hM r (mem_of_get ht)).1
      exact bnd (idxO_of ht) (bnd (idx_el (by omega)) (bnd (appO_of (by simp at hs' ⊢; omega)) rfl)))
    rw [List.nil_append] at hin
    refine bnd hin (bnd (idx_el (by rw [hv.1]; exact hj)) (bnd (appO_of (by simp; omega)) (bnd (appO_of (by rw [colE_len]; show j + 1 ≤ _; omega)) ?_)))
    show some (colE M v j ++ [colM M j ++ [el v j]]) = some (colE M v (j + 1))
    unfold colE
    rw [List.range_succ, List.map_append]; rfl)
  have h1 := firstSolution_ hf hl (colE_ok hM hv) (by rw [colE_len]; omega)
  refine bnd (cI_of (x := (size : Int)) ⟨by omega, by omega⟩) ?_
  rw [Int.toNat_natCast]
  refine bnd hloop (bnd h1 ?_)
  rw [coords_same hf hM hi hv]
end
end Go.Proofs.YtocpeclcoikdpaaDoor
namespace Go.Proofs.YtocpeclcoikdpaaDoor

/-- the first c elements of a Hankel row -/
def flatJ (l : List Mat) (i u : Nat) : Nat → List Int
  | 0 => []
  | c + 1 => flatJ l i u c ++ gr (gm l (i + c + 1)).2 u
theorem flatJ_ok {p : Int} {R C : Nat} {l : List Mat} (h : Resp p R C l) {i u : Nat} (hu : u < R) : ∀ c, i + c < l.length → (flatJ l i u c).length = c * C ∧ inP p (flatJ l i u c)
  | 0, _ => ⟨by simp [flatJ], fun x hx => by cases hx⟩
  | c + 1, hc => by
    obtain ⟨h1, h2⟩ := flatJ_ok (i := i) h hu c (by omega)
    have h3 := h.mat (gm l (i + c + 1)) (mem_of_get (gm_get (i := i + c + 1) (by omega)))
    have h4 := okM_gr h3.2.2 (i := u) (by omega)
    refine ⟨?_, fun x hx => ?_⟩
    · show (flatJ l i u c ++ _).length = _
      rw [List.length_append, h1, h4.1, Nat.succ_mul]
    · rcases List.mem_append.1 hx with hx | hx
      · exact h2 x hx
      · exact h4.2 x hx
def blkU (l : List Mat) (i c : Nat) (R : Nat) : Rows := (List.range R).map fun u => flatJ l i u c
def hank (l : List Mat) (c R : Nat) : Nat → Rows
  | 0 => []
  | i + 1 => hank l c R i ++ blkU l i c R
theorem blkU_succ (l : List Mat) (i c R : Nat) : blkU l i c (R + 1) = blkU l i c R ++ [flatJ l i R c] := by simp [blkU, List.range_succ]
theorem blkU_len (l : List Mat) (i c R : Nat) : (blkU l i c R).length = R := by simp [blkU]
theorem hank_len (l : List Mat) (c R : Nat) : ∀ i, (hank l c R i).length = i * R
  | 0 => by simp [hank]
  | i + 1 => by show (hank l c R i ++ _).length = _; rw [List.length_append, hank_len l c R i, blkU_len, Nat.succ_mul]
theorem hank_ok {p : Int} {R C : Nat} {l : List Mat} (h : Resp p R C l) (c : Nat) : ∀ i, i + c ≤ l.length → okM p (c * C) (hank l c R i)
  | 0, _ => fun x hx => by cases hx
  | i + 1, hi => by
    intro x hx
    rcases List.mem_append.1 hx with hx | hx
    · exact hank_ok h c i (by omega) x hx
    · obtain ⟨u, hu, rfl⟩ := List.mem_map.1 hx
      exact flatJ_ok h (List.mem_range.1 hu) c (by omega)
theorem mulC {c C : Nat} (hc : c ≤ 60) (hC : C ≤ 8) : c * C ≤ 480 := Nat.mul_le_mul hc hC
theorem rzHankel_ {p : Int} {R C : Nat} {l : List Mat} (h : Resp p R C l) {n c : Nat} (hn : n + c ≤ l.length) : F_spec_rzHankel l (n : Int) (c : Int) = some (hank l c R n) := by
  have hm : maxN = 1099511627776 := rfl
  have hl := h.len
  have hR := h.R8
  have hC := h.C8
  have h0 := h.mat (gm l 0) (mem_of_get (gm_get hl.1))
  refine bnd (whileO_is (fun i => (hank l c R i, (i : Int))) (t := hank l c R n) n ?_ ?_) rfl
  · intro i hi
    dsimp only
    refine stp (cTW (dT (by omega)) (bnd (idx_gm hl.1) ?_))
    have := forS_is (n := R) (fun u => hank l c R i ++ blkU l i c u) (f := fun (k4383 : Nat) (s4939 : List (List Int)) =>
            (whileO (fun (s5165 : List Int × Int) =>
                (some (decide (s5165.2 < (c : Int)))).bind fun a5176 =>
                cond a5176
                ((addO (i : Int) s5165.2).bind fun a5181 =>
                  (addO a5181 1).bind fun a5183 =>
                  (idxO l a5183).bind fun a5191 =>
                  (idxO a5191.2 ((k4383 : Nat) : Int)).bind fun a5203 =>
                  (appO s5165.1 a5203).bind fun a5207 =>
                  (addO s5165.2 1).bind fun a5212 =>
                  some (.inl (a5207, a5212)))
                (some (.inr s5165.1))) (([] : List Int), (0 : Int))).bind fun (s5078 : List Int) =>
            (appO s4939 [s5078]).bind fun a5219 =>
            some a5219) (by
      intro u hu
      refine bnd (whileO_is (fun j => (flatJ l i u j, (j : Int))) (t := flatJ l i u c) c ?_ ?_) ?_
      · intro j hj
        dsimp only
        have h3 := h.mat (gm l (i + j + 1)) (mem_of_get (gm_get (by omega)))
        have h4 := okM_gr h3.2.2 (i := u) (by omega)
        have h5 := (flatJ_ok h hu j (by omega : i + j < l.length)).1
        have h6 := mulC (c := j) (C := C) (by omega) hC
        refine stp (cTW (dT (by omega)) (bnd (addO_of (by omega) (by omega)) (bnd (addO_of (by omega) (by omega)) ?_)))
        rw [show (i : Int) + (j : Int) + 1 = ((i + j + 1 : Nat) : Int) by omega]
        exact bnd (idx_gm (by omega)) (bnd (idx_gr (by omega)) (bnd (appO_of (by omega)) (bnd (addO_of (by omega) (by omega)) rfl)))
      · dsimp only; exact stp (cFW (dF (by omega)) rfl)
      · have h7 := hank_len l c R i
        have h8 := mulC (c := i) (C := R) (by omega) hR
        refine bnd (appO_of (by rw [List.length_append, blkU_len]; simp; omega)) ?_
        rw [blkU_succ, List.append_assoc])
    rw [show blkU l i c 0 = [] from rfl, List.append_nil] at this
    rw [h0.2.1]
    exact bnd this (bnd (addO_of (by omega) (by omega)) rfl)
  · dsimp only; exact stp (cFW (dF (by omega)) rfl)
theorem sliceM {α : Type} {l : List α} {a b : Nat} (h : a ≤ b) (hb : b ≤ l.length) : sliceO l (a : Int) (b : Int) = some ((l.drop a).take (b - a)) := by
  unfold sliceO
  rw [if_pos (by omega), Int.toNat_natCast, Int.toNat_natCast]
theorem hankel_ {p : Int} {R C : Nat} {l : List Mat} (h : Resp p R C l) {n c : Nat} (hn : n + c ≤ l.length) : F_impl_hankel l (n : Int) (c : Int) = some (hank l c R n) := by
  have hm : maxN = 1099511627776 := rfl
  have hl := h.len
  have hR := h.R8
  have hC := h.C8
  have h0 := h.mat (gm l 0) (mem_of_get (gm_get hl.1))
  refine bnd (cI_of ⟨by omega, by omega⟩) ?_
  rw [Int.toNat_natCast]
  refine bnd (forS_is (fun i => hank l c R i) ?_) rfl
  intro i hi
  refine bnd (idx_gm hl.1) (bnd (addO_of (by omega) (by omega)) (bnd (addO_of (by omega) (by omega)) (bnd (addO_of (by omega) (by omega)) ?_)))
  rw [show (i : Int) + 1 + (c : Int) = ((i + 1 + c : Nat) : Int) by omega, show (i : Int) + 1 = ((i + 1 : Nat) : Int) by omega]
  refine bnd (sliceM (by omega) (by omega)) ?_
  rw [h0.2.1, show i + 1 + c - (i + 1) = c by omega]
  have hbl : ((l.drop (i + 1)).take c).length = c := by simp; omega
  have hbg : ∀ j, j < c → ((l.drop (i + 1)).take c)[j]? = some (gm l (i + j + 1)) := fun j hj => by
    rw [List.getElem?_take, if_pos hj, List.getElem?_drop, show i + 1 + j = i + j + 1 by omega, gm_get (by omega)]
  have hb : F_impl_beside (R : Int) ((l.drop (i + 1)).take c) = some (blkU l i c R) := by
    refine bnd (makeO_of _ (by omega)) ?_
    have := forS_is (n := R) (fun u => partG (fun k (_ : List Int) => flatJ l i k c) (List.replicate R ([] : List Int)) u) (f := fun (k7 : Nat) (s354 : List (List Int)) =>
      (forS (fun (k363 : Nat) (s470 : List (List Int)) =>
          (idxO ((l.drop (i + 1)).take c) ((k363 : Nat) : Int)).bind fun a485 =>
          (idxO s470 ((k7 : Nat) : Int)).bind fun a502 =>
          (idxO a485.2 ((k7 : Nat) : Int)).bind fun a511 =>
          (appO a502 a511).bind fun a516 =>
          (setO s470 ((k7 : Nat) : Int) a516).bind fun a528 =>
          some a528) ((l.drop (i + 1)).take c).length 0 s354).bind fun (s532 : List (List Int)) =>
      some s532) (by
      intro u hu
      have hur : u < (List.replicate R ([] : List Int)).length := by simpa using hu
      have hg : gr (partG (fun k (_ : List Int) => flatJ l i k c) (List.replicate R ([] : List Int)) u) u = [] := by
        rw [gr_part hur, if_neg (by omega)]
        have := gr_get hur
        rw [List.getElem?_replicate, if_pos (by simpa using hu)] at this
        exact (Option.some.inj this).symm
      have hpl : u < (partG (fun k (_ : List Int) => flatJ l i k c) (List.replicate R ([] : List Int)) u).length := by rw [partG_len]; exact hur
      have hs := part_setG (g := fun k (_ : List Int) => flatJ l i k c) (m := List.replicate R ([] : List Int)) (j := u) hur
      rw [← hs]
      generalize partG (fun k (_ : List Int) => flatJ l i k c) (List.replicate R ([] : List Int)) u = w at hg hpl
      have := forS_is (n := c) (fun j => w.set u (flatJ l i u j)) (f := fun (k363 : Nat) (s470 : List (List Int)) =>
          (idxO ((l.drop (i + 1)).take c) ((k363 : Nat) : Int)).bind fun a485 =>
          (idxO s470 ((u : Nat) : Int)).bind fun a502 =>
          (idxO a485.2 ((u : Nat) : Int)).bind fun a511 =>
          (appO a502 a511).bind fun a516 =>
          (setO s470 ((u : Nat) : Int) a516).bind fun a528 =>
          some a528) (by
        intro j hj
        have h3 := h.mat (gm l (i + j + 1)) (mem_of_get (gm_get (by omega)))
        have h4 := okM_gr h3.2.2 (i := u) (by omega)
        have h5 := (flatJ_ok h hu j (by omega : i + j < l.length)).1
        have h6 := mulC (c := j) (C := C) (by omega) hC
        have hl2 : u < (w.set u (flatJ l i u j)).length := by rw [List.length_set]; exact hpl
        have hg2 := idx_gr hl2
        rw [gr_set hpl, if_pos rfl] at hg2
        refine bnd (idxO_of (hbg j hj)) (bnd hg2 (bnd (idx_gr (by omega)) (bnd (appO_of (by omega)) (bnd (setO_of _ hl2) ?_))))
        rw [List.set_set]; rfl)
      have e0 : w.set u (flatJ l i u 0) = w := by
        have := set_gr hpl
        rw [hg] at this
        exact this
      rw [e0] at this
      rw [hbl]
      exact bnd this rfl)
    rw [partG0] at this
    have e : partG (fun k (_ : List Int) => flatJ l i k c) (List.replicate R ([] : List Int)) R = blkU l i c R := by
      have := partGN (fun k (_ : List Int) => flatJ l i k c) (List.replicate R ([] : List Int))
      rw [List.length_replicate] at this
      rw [this]
      apply List.ext_getElem
      · simp [blkU]
      · intro q h1 h2; simp [blkU]
    rw [e] at this
    rw [List.length_replicate]
    exact bnd this rfl
  have h7 := hank_len l c R i
  have h8 := mulC (c := i) (C := R) (by omega) hR
  exact bnd hb (bnd (appO_of (by rw [blkU_len]; omega)) rfl)
theorem rank_core {p : Int} {l : List Mat} (h : respB p l = true) : ∃ R C : Nat, Resp p R C l ∧ (gm l 0).1 = (C : Int) ∧ (gm l 0).2.length = R := by
  obtain ⟨R, C, hr⟩ := respB_ok h
  have h0 := hr.mat (gm l 0) (mem_of_get (gm_get hr.len.1))
  exact ⟨R, C, hr, h0.1, h0.2.1⟩
theorem quoO_of {a b : Int} (hb : b ≠ 0) (h : inI (a.tdiv b)) : quoO a b = some (a.tdiv b) := by unfold quoO; rw [if_neg hb]; exact cI_of h
end Go.Proofs.YtocpeclcoikdpaaDoor
namespace Go.Proofs.YtocpeclcoikdpaaDoor
set_option linter.unusedVariables false
def selM (all : Rows) (c : List Nat) : Rows := c.map (gr all)
def chs (p : Int) (sz : Nat) (all : Rows) : Nat → List Nat
  | 0 => []
  | i + 1 => if hasB p sz (redM p sz (selM all (chs p sz all i))) (gr all i) = true then chs p sz all i else chs p sz all i ++ [i]
theorem chs_t {p : Int} {sz : Nat} {all : Rows} {i : Nat} (h : hasB p sz (redM p sz (selM all (chs p sz all i))) (gr all i) = true) : chs p sz all (i + 1) = chs p sz all i := if_pos h
theorem chs_f {p : Int} {sz : Nat} {all : Rows} {i : Nat} (h : hasB p sz (redM p sz (selM all (chs p sz all i))) (gr all i) = false) : chs p sz all (i + 1) = chs p sz all i ++ [i] := if_neg (by rw [h]; decide)
def toI (c : List Nat) : List Int := c.map fun x : Nat => (x : Int)
theorem selM_app (all : Rows) (c : List Nat) (i : Nat) : selM all (c ++ [i]) = selM all c ++ [gr all i] := by simp [selM]
theorem selM_len (all : Rows) (c : List Nat) : (selM all c).length = c.length := by simp [selM]
theorem chs_lt {p : Int} {sz : Nat} {all : Rows} : ∀ i, ∀ x ∈ chs p sz all i, x < i
  | 0, x, h => by simp [chs] at h
  | i + 1, x, h => by
    cases hb : hasB p sz (redM p sz (selM all (chs p sz all i))) (gr all i) with
    | true =>
      rw [chs_t hb] at h
      exact Nat.lt_succ_of_lt (chs_lt i x h)
    | false =>
      rw [chs_f hb] at h
      rcases List.mem_append.1 h with h | h
      · exact Nat.lt_succ_of_lt (chs_lt i x h)
      · rw [List.mem_singleton.1 h]; exact Nat.lt_succ_self i
theorem redM_nil (p : Int) (n : Nat) : redM p n [] = [] := by
  unfold redM
  rw [show (redLoop p n 0 [] [] 0).1 = [] from ?_, List.take_nil]
  cases n with
  | zero => rfl
  | succ n => unfold redLoop; rw [if_neg (by simp)]
section
variable {p : Int} {sz : Nat} {all : Rows}
theorem take_succ_gr {i : Nat} (hi : i < all.length) : all.take (i + 1) = all.take i ++ [gr all i] := by rw [List.take_add_one, gr_get hi]; rfl
structure Chs (p : Int) (sz : Nat) (all : Rows) (i : Nat) : Prop where
  ok : okM p sz (selM all (chs p sz all i))
  ind : Indep p sz (selM all (chs p sz all i))
  s1 : subSpan p sz (all.take i) (selM all (chs p sz all i))
  s2 : subSpan p sz (selM all (chs p sz all i)) (all.take i)
theorem chs_all (hf : fdB p = true) (h : okM p sz all) : ∀ i, i ≤ all.length → Chs p sz all i
  | 0, _ => ⟨fun r hr => by simp [chs, selM] at hr, fun x hx i hi => by simp [chs, selM] at hi, fun i hi => by simp at hi, fun i hi => by simp [chs, selM] at hi⟩
  | i + 1, hi => by
    have ih := chs_all hf h i (by omega)
    have hrow := h _ (gr_mem (m := all) (i := i) (by omega))
    have hR := redM_red hf ih.ok
    have hs := redM_span hf ih.ok
    have e := take_succ_gr (all := all) (i := i) (by omega)
    cases hb : hasB p sz (redM p sz (selM all (chs p sz all i))) (gr all i) with
    | true =>
      have hc : chs p sz all (i + 1) = chs p sz all i := chs_t hb
      have hin := inSpan_trans hs.1 ((hasB_iff hf hR hrow).1 hb)
      refine ⟨by rw [hc]; exact ih.ok, by rw [hc]; exact ih.ind, ?_, ?_⟩
      · rw [hc, e]
        refine app_span ih.s1 fun j hj => ?_
        obtain rfl : j = 0 := by simpa using hj
        rw [gr_zero]; exact hin
      · rw [hc, e]
        exact subSpan_trans ih.s2 span_app1
    | false =>
      have hc : chs p sz all (i + 1) = chs p sz all i ++ [i] := chs_f hb
      have hno : ¬ inSpan p sz (selM all (chs p sz all i)) (gr all i) := fun hin => by
        have := (hasB_iff hf hR hrow).2 (inSpan_trans hs.2 hin)
        rw [hb] at this; cases this
      have hok := okM_app ih.ok (okM_one hrow)
      refine ⟨by rw [hc, selM_app]; exact hok, ?_, ?_, ?_⟩
      · rw [hc, selM_app]
        refine (indep_iff hf hok).2 (Classical.byContradiction fun hne => hno (dep_span hf ih.ok hrow ih.ind hne))
      · rw [hc, selM_app, e]
        exact app_span (subSpan_trans ih.s1 span_app1) span_app2
      · rw [hc, selM_app, e]
        exact app_span (subSpan_trans ih.s2 span_app1) span_app2
theorem chs_rank (hf : fdB p = true) (h : okM p sz all) {i : Nat} (hi : i ≤ all.length) : redM p sz (all.take i) = redM p sz (selM all (chs p sz all i)) ∧ (redM p sz (all.take i)).length = (chs p sz all i).length := by
  have hc := chs_all hf h i hi
  have ht : okM p sz (all.take i) := fun r hr => h r (List.mem_of_mem_take hr)
  have e := redM_unique hf ht hc.ok hc.s1 hc.s2
  exact ⟨e, by rw [e, (indep_iff hf hc.ok).1 hc.ind, selM_len]⟩
theorem chs_len (hf : fdB p = true) (h : okM p sz all) {i : Nat} (hi : i ≤ all.length) : (chs p sz all i).length ≤ sz := by
  have hc := chs_all hf h i hi
  have := (redM_ok (n := sz) (fdB_rng hf).1 hc.ok).2.2
  rw [(indep_iff hf hc.ok).1 hc.ind, selM_len] at this
  exact this
theorem offer_ (hf : fdB p = true) (h : okM p sz all) {i : Nat} (hi : i < all.length) (hs : sz ≤ 1000) {N : Int} (hN : N = (sz : Int)) :
    F_impl_chooser_offer (p, N, redM p sz (selM all (chs p sz all i)), toI (chs p sz all i), selM all (chs p sz all i)) (i : Int) (gr all i) =
      some (p, N, redM p sz (selM all (chs p sz all (i + 1))), toI (chs p sz all (i + 1)), selM all (chs p sz all (i + 1))) := by
  have hm : maxN = 1099511627776 := rfl
  subst hN
  have ih := chs_all hf h i (by omega)
  have ih2 := chs_all hf h (i + 1) (by omega)
  have hl := chs_len hf h (i := i) (by omega)
  have hl2 := chs_len hf h (i := i + 1) (by omega)
  have hrow := h _ (gr_mem hi)
  have hR := redM_red hf ih.ok
  have hRl := (redM_ok (n := sz) (fdB_rng hf).1 ih.ok).2.2
  have hc := coordinates_ hf hR hrow (by omega) (by omega)
  refine bnd hc ?_
  cases hb : hasB p sz (redM p sz (selM all (chs p sz all i))) (gr all i) with
  | true =>
    have e : chs p sz all (i + 1) = chs p sz all i := chs_t hb
    rw [e]
    exact cTW rfl rfl
  | false =>
    have e : chs p sz all (i + 1) = chs p sz all i ++ [i] := chs_f hb
    have hok := ih2.ok
    rw [e, selM_app] at hok
    rw [e, selM_app]
    refine cFW rfl (bnd (appO_of (by simp [toI]; omega)) (bnd (appO_of (by rw [selM_len]; simp; omega)) (bnd (reduced_ (n := sz) hf (Nat.le_refl _) (by omega) hok (by simp [selM_len]; omega)) ?_)))
    simp [toI]
theorem offers_ (hf : fdB p = true) (h : okM p sz all) {K : Nat} (hK : K ≤ all.length) (hs : sz ≤ 1000) {N : Int} (hN : N = (sz : Int)) :
    forS (fun (k54 : Nat) (s103 : Int × Int × List (List Int) × List Int × List (List Int)) =>
      (idxO (all.take K) ((k54 : Nat) : Int)).bind fun a124 =>
      (F_impl_chooser_offer (s103.1, s103.2.1, s103.2.2.1, s103.2.2.2.1, s103.2.2.2.2) ((k54 : Nat) : Int) a124).bind fun y128 =>
      some (y128.1, y128.2.1, y128.2.2.1, y128.2.2.2.1, y128.2.2.2.2)) (all.take K).length 0 (p, N, [], [], []) =
      some (p, N, redM p sz (selM all (chs p sz all K)), toI (chs p sz all K), selM all (chs p sz all K)) := by
  have hkl : (all.take K).length = K := by rw [List.length_take]; omega
  have := forS_is (n := (all.take K).length) (f := fun (k54 : Nat) (s103 : Int × Int × List (List Int) × List Int × List (List Int)) =>
      (idxO (all.take K) ((k54 : Nat) : Int)).bind fun a124 =>
      (F_impl_chooser_offer (s103.1, s103.2.1, s103.2.2.1, s103.2.2.2.1, s103.2.2.2.2) ((k54 : Nat) : Int) a124).bind fun y128 =>
      some (y128.1, y128.2.1, y128.2.2.1, y128.2.2.2.1, y128.2.2.2.2)) (fun i => (p, N, redM p sz (selM all (chs p sz all i)), toI (chs p sz all i), selM all (chs p sz all i))) (fun i hi => by
    refine bnd (idx_gr hi) ?_
    rw [gr_take (by omega)]
    exact bnd (offer_ hf h (by omega) hs hN) rfl)
  rw [hkl] at this
  rw [hkl]
  have e0 : (p, N, redM p sz (selM all (chs p sz all 0)), toI (chs p sz all 0), selM all (chs p sz all 0)) = (p, N, ([] : Rows), ([] : List Int), ([] : Rows)) := by
    show (p, N, redM p sz [], _, _) = _
    rw [redM_nil]; rfl
  rw [e0] at this
  exact this
theorem rzChosen_ (hf : fdB p = true) (h : okM p sz all) {K : Nat} (hK : K ≤ all.length) (hs : sz ≤ 1000) (hl : all.length ≤ 1000) {N : Int} (hN : N = (sz : Int)) : F_spec_rzChosen p N (all.take K) = some (toI (chs p sz all K)) := by
  have hm : maxN = 1099511627776 := rfl
  subst hN
  have hkl : (all.take K).length = K := by rw [List.length_take]; omega
  have := forS_is (n := (all.take K).length) (f := fun (k2 : Nat) (s55 : List Int × Int) =>
      (addO ((k2 : Nat) : Int) 1).bind fun a66 =>
      (sliceO (all.take K) 0 a66).bind fun a68 =>
      (F_spec_spReduce p (sz : Int) a68).bind fun y72 =>
      (some (decide (s55.2 < ((y72.length : Nat) : Int)))).bind fun a77 =>
      cond a77
      ((appO s55.1 [((k2 : Nat) : Int)]).bind fun a84 =>
        some (a84, ((y72.length : Nat) : Int)))
      (some (s55.1, s55.2))) (fun i => (toI (chs p sz all i), ((chs p sz all i).length : Int))) (fun i hi => by
    have ht : okM p sz (all.take (i + 1)) := fun r hr => h r (List.mem_of_mem_take hr)
    have hll := chs_len hf h (i := i) (by omega)
    have htl : (all.take (i + 1)).length = i + 1 := by rw [List.length_take]; omega
    have hrk := (chs_rank hf h (i := i + 1) (by omega)).2
    have hsl : sliceO (all.take K) 0 ((i : Int) + 1) = some (all.take (i + 1)) := by
      rw [show ((i : Int) + 1) = ((i + 1 : Nat) : Int) by omega, slice0 (by omega), List.take_take, Nat.min_eq_left (by omega)]
    refine bnd (addO_of (by omega) (by omega)) (bnd hsl (bnd (spReduce_ hf (Nat.le_refl _) (by omega) ht (by omega)) ?_))
    rw [hrk]
    dsimp only
    cases hb : hasB p sz (redM p sz (selM all (chs p sz all i))) (gr all i) with
    | true =>
      have e : chs p sz all (i + 1) = chs p sz all i := chs_t hb
      rw [e]
      exact stp (cFW (dF (by omega)) rfl)
    | false =>
      have e : chs p sz all (i + 1) = chs p sz all i ++ [i] := by
        conv => lhs; unfold chs
        rw [if_neg (by rw [hb]; decide)]
      rw [e]
      refine stp (cTW (dT (by simp; omega)) (bnd (appO_of (by simp [toI]; omega)) ?_))
      simp [toI])
  rw [hkl] at this
  refine bnd (by rw [hkl]; exact this) rfl
end
end Go.Proofs.YtocpeclcoikdpaaDoor
namespace Go.Proofs.YtocpeclcoikdpaaDoor
set_option linter.unusedVariables false
theorem forO_sL {σ τ : Type} {f : Nat → σ → Option (σ ⊕ τ)} {n k : Nat} {s s' : σ} (h : f k s = some (.inl s')) : forO f (n + 1) k s = forO f n (k + 1) s' := by
  show (f k s).bind _ = _
  rw [h]; rfl
theorem forO_sR {σ τ : Type} {f : Nat → σ → Option (σ ⊕ τ)} {n k : Nat} {s : σ} {t : τ} (h : f k s = some (.inr t)) : forO f (n + 1) k s = some (.inr t) := by
  show (f k s).bind _ = _
  rw [h]; rfl
/-- a list gone through, each element tested, two lists made -/
theorem forO_tm {α β γ τ : Type} {f : Nat → List β × List γ → Option ((List β × List γ) ⊕ τ)} (P : α → Bool) (g : α → β) (h : α → γ) (t : τ) : ∀ (l : List α) (k : Nat) (s : List β × List γ),
    (∀ j a s', l[j]? = some a → s'.1.length = s.1.length + j → s'.2.length = s.2.length + j → f (k + j) s' = some (if P a = true then .inl (s'.1 ++ [g a], s'.2 ++ [h a]) else .inr t)) →
    forO f l.length k s = some (if l.all P = true then .inl (s.1 ++ l.map g, s.2 ++ l.map h) else .inr t)
  | [], k, s, _ => by simp [forO]
  | a :: l, k, s, hf => by
    have h0 := hf 0 a s rfl rfl rfl
    rw [Nat.add_zero] at h0
    cases hP : P a with
    | true =>
      rw [hP, if_pos rfl] at h0
      have ih := forO_tm P g h t l (k + 1) (s.1 ++ [g a], s.2 ++ [h a]) (fun j b s' hj h1 h2 => by
        have := hf (j + 1) b s' hj (by rw [h1]; simp; omega) (by rw [h2]; simp; omega)
        rwa [show k + (j + 1) = k + 1 + j by omega] at this)
      rw [List.length_cons, forO_sL h0, ih, List.all_cons, hP, Bool.true_and]
      simp
    | false =>
      rw [hP] at h0
      rw [List.length_cons, forO_sR (show f k s = some (.inr t) from h0), List.all_cons, hP]
      rfl
theorem ssB_of {p : Int} {n k o : Nat} {s : SSt} (hf : fdB p = true) (h : SSok p n k o s) : ssB p s = true := by
  have tb : ∀ (m : Rows) (r c : Nat), m.length = r → rowsP p c m → tabB p (r : Int) (c : Int) m = true := fun m r c h1 h2 => by
    unfold tabB; rw [Bool.and_eq_true]; exact ⟨dT (by omega), rowsB_true.2 h2⟩
  have hn := h.hn; have hk := h.hk; have ho := h.ho
  unfold ssB
  rw [h.h1, h.h2, h.h3, tb _ _ _ h.a.1 h.a.2, tb _ _ _ h.b.1 h.b.2, tb _ _ _ h.c.1 h.c.2, tb _ _ _ h.d.1 h.d.2, rng_true.2 ⟨by omega, by omega⟩, rng_true.2 ⟨by omega, by omega⟩, rng_true.2 ⟨by omega, by omega⟩, hf]
  rfl
/-- the parts -/
def rzN (l : List Mat) : Nat := (l.length - 1) / 2
def rzAll (l : List Mat) (R : Nat) : Rows := hank l (rzN l) R (rzN l + 1)
def rzCh (p : Int) (l : List Mat) (R C : Nat) : List Nat := chs p (rzN l * C) (rzAll l R) (rzN l * R)
def rzBase (p : Int) (l : List Mat) (R C : Nat) : Rows := selM (rzAll l R) (rzCh p l R C)
def rzOk (p : Int) (l : List Mat) (R C : Nat) (x : Nat) : Bool := solB p (rzN l * C) (rzBase p l R C) (gr (rzAll l R) x)
def rzX (p : Int) (l : List Mat) (R C : Nat) (x : Nat) : List Int := solX p (rzN l * C) (rzBase p l R C) (gr (rzAll l R) x)
def rzS (p : Int) (l : List Mat) (R C : Nat) : SSt :=
  (((rzCh p l R C).length : Int), (R : Int), (C : Int), (rzCh p l R C).map (fun i => rzX p l R C (i + R)), (List.range R).map (rzX p l R C), (rzCh p l R C).map (fun i => (gr (rzAll l R) i).take C), (gm l 0).2)
def rzGood (p : Int) (l : List Mat) (R C : Nat) : Bool := (rzCh p l R C).all (fun i => rzOk p l R C (i + R)) && (List.range R).all (rzOk p l R C)
def zSS : SSt := (0, 0, 0, [], [], [], [])
def rzW (p : Int) (l : List Mat) (R C : Nat) : SSt × Bool :=
  if rzGood p l R C && (decide ((rzCh p l R C).length ≤ 24) && decide ((mkv p (rzCh p l R C).length C (rzS p l R C) l.length).1 = l)) then (rzS p l R C, true) else (zSS, false)
section
variable {p : Int} {l : List Mat} {R C : Nat}
structure RzF (p : Int) (l : List Mat) (R C : Nat) : Prop where
  n29 : rzN l ≤ 29
  n2 : 2 * rzN l + 1 ≤ l.length
  ok : okM p (rzN l * C) (rzAll l R)
  len : (rzAll l R).length = rzN l * R + R
  sz : rzN l * C ≤ 480
  sr : rzN l * R ≤ 480
  chl : ∀ x ∈ rzCh p l R C, x < rzN l * R
  bok : okM p (rzN l * C) (rzBase p l R C)
  ind : Indep p (rzN l * C) (rzBase p l R C)
  blen : (rzBase p l R C).length = (rzCh p l R C).length
  cl : (rzCh p l R C).length ≤ rzN l * C
theorem rzF (h : Resp p R C l) : RzF p l R C := by
  have h1 := h.len; have h2 := h.R8; have h3 := h.C8
  have hn : rzN l = (l.length - 1) / 2 := rfl
  have hok : okM p (rzN l * C) (rzAll l R) := hank_ok h (rzN l) (rzN l + 1) (by omega)
  have hlen : (rzAll l R).length = rzN l * R + R := by unfold rzAll; rw [hank_len, Nat.succ_mul]
  have hc := chs_all h.hf hok (rzN l * R) (by omega)
  exact ⟨by omega, by omega, hok, hlen, mulC (by omega) h3, mulC (by omega) h2, chs_lt _, hc.ok, hc.ind, selM_len _ _, chs_len h.hf hok (by omega)⟩
theorem rzS_ok (h : Resp p R C l) (hc : (rzCh p l R C).length ≤ 24) : SSok p (rzCh p l R C).length R C (rzS p l R C) := by
  have f := rzF h
  have hl := h.len
  have hm0 := h.mat (gm l 0) (mem_of_get (gm_get hl.1))
  refine ⟨fdB_rng h.hf, rfl, rfl, rfl, hc, h.R8, h.C8, ⟨by simp [rzS], fun r hr => ?_⟩, ⟨by simp [rzS], fun r hr => ?_⟩, ⟨by simp [rzS], fun r hr => ?_⟩, ⟨hm0.2.1, hm0.2.2⟩⟩
  · obtain ⟨i, hi, rfl⟩ := List.mem_map.1 hr
    have := solX_ok (v := gr (rzAll l R) (i + R)) h.hf f.bok
    rw [f.blen] at this; exact this
  · obtain ⟨i, hi, rfl⟩ := List.mem_map.1 hr
    have := solX_ok (v := gr (rzAll l R) i) h.hf f.bok
    rw [f.blen] at this; exact this
  · obtain ⟨i, hi, rfl⟩ := List.mem_map.1 hr
    have hlt := f.chl i hi
    have hrow := f.ok _ (gr_mem (i := i) (by rw [f.len]; omega))
    have hn0 : 0 < rzN l := Nat.pos_of_ne_zero fun e => by rw [e] at hlt; omega
    have : C ≤ rzN l * C := Nat.le_mul_of_pos_left C hn0
    refine ⟨by rw [List.length_take, hrow.1]; omega, fun x hx => hrow.2 x (List.mem_of_mem_take hx)⟩
theorem quo3 {n : Nat} (hn : 0 < n) (h2 : n ≤ 1000) : subO ((n : Nat) : Int) 1 = some ((n - 1 : Nat) : Int) ∧ quoO ((n - 1 : Nat) : Int) 2 = some (((n - 1) / 2 : Nat) : Int) := by
  refine ⟨by rw [subO_of (by omega) (by omega)]; congr 1; omega, ?_⟩
  rw [quoO_of (by decide)]
  · rfl
  · rw [show ((n - 1 : Nat) : Int).tdiv 2 = (((n - 1) / 2 : Nat) : Int) from rfl]
    exact ⟨by omega, by omega⟩
/-- what the loop behind the label makes: the coordinates of the rows needed, those of states first -/
def ndL (p : Int) (l : List Mat) (R C : Nat) : List Nat := (rzCh p l R C).map (· + R) ++ List.range R
theorem ndL_len : (ndL p l R C).length = (rzCh p l R C).length + R := by simp [ndL]
theorem ndL_lt (h : Resp p R C l) : ∀ x ∈ ndL p l R C, x < rzN l * R + R := by
  have f := rzF h
  intro x hx
  rcases List.mem_append.1 hx with hx | hx
  · obtain ⟨i, hi, rfl⟩ := List.mem_map.1 hx
    have := f.chl i hi; omega
  · have := List.mem_range.1 hx; omega
theorem good_iff : rzGood p l R C = (ndL p l R C).all (rzOk p l R C) := by
  unfold rzGood ndL
  rw [List.all_append, List.all_map]; rfl
/-- the loop's state when j rows are done -/
def jA (p : Int) (l : List Mat) (R C j : Nat) : Rows := (((ndL p l R C).take j).take (rzCh p l R C).length).map (rzX p l R C)
def jB (p : Int) (l : List Mat) (R C j : Nat) : Rows := (((ndL p l R C).take j).drop (rzCh p l R C).length).map (rzX p l R C)
theorem jA_step {j : Nat} (hj : j < (rzCh p l R C).length) : jA p l R C (j + 1) = jA p l R C j ++ [rzX p l R C ((ndL p l R C).getD j 0)] ∧ jB p l R C (j + 1) = jB p l R C j := by
  have hl : j < (ndL p l R C).length := by rw [ndL_len]; omega
  have hg : (ndL p l R C)[j]? = some ((ndL p l R C).getD j 0) := by rw [List.getD_eq_getElem?_getD, List.getElem?_eq_getElem hl]; rfl
  have e1 : ((ndL p l R C).take j).length = j := by rw [List.length_take]; omega
  have h1 : ((ndL p l R C).take j ++ [(ndL p l R C).getD j 0]).take (rzCh p l R C).length = (ndL p l R C).take j ++ [(ndL p l R C).getD j 0] := List.take_of_length_le (by rw [List.length_append, e1]; simp; omega)
  have h2 : ((ndL p l R C).take j).take (rzCh p l R C).length = (ndL p l R C).take j := List.take_of_length_le (by omega)
  have h3 : ((ndL p l R C).take j ++ [(ndL p l R C).getD j 0]).drop (rzCh p l R C).length = [] := List.drop_of_length_le (by rw [List.length_append, e1]; simp; omega)
  have h4 : ((ndL p l R C).take j).drop (rzCh p l R C).length = [] := List.drop_of_length_le (by omega)
  unfold jA jB
  rw [List.take_add_one, hg, Option.toList_some, h1, h2, h3, h4, List.map_append]
  exact ⟨rfl, rfl⟩
theorem jB_step {j : Nat} (hj : (rzCh p l R C).length ≤ j) (hl : j < (ndL p l R C).length) : jA p l R C (j + 1) = jA p l R C j ∧ jB p l R C (j + 1) = jB p l R C j ++ [rzX p l R C ((ndL p l R C).getD j 0)] := by
  have hg : (ndL p l R C)[j]? = some ((ndL p l R C).getD j 0) := by rw [List.getD_eq_getElem?_getD, List.getElem?_eq_getElem hl]; rfl
  have e1 : ((ndL p l R C).take j).length = j := by rw [List.length_take]; omega
  unfold jA jB
  rw [List.take_add_one, hg, Option.toList_some, List.take_append_of_le_length (by omega), List.drop_append_of_le_length (by omega), List.map_append]
  exact ⟨rfl, rfl⟩
theorem jA_end : jA p l R C (ndL p l R C).length = (rzCh p l R C).map (fun i => rzX p l R C (i + R)) ∧ jB p l R C (ndL p l R C).length = (List.range R).map (rzX p l R C) := by
  unfold jA jB
  rw [List.take_of_length_le (Nat.le_refl _)]
  unfold ndL
  rw [List.take_left' (by simp), List.drop_left' (by simp), List.map_map]
  exact ⟨rfl, rfl⟩
end
end Go.Proofs.YtocpeclcoikdpaaDoor
namespace Go.Proofs.YtocpeclcoikdpaaDoor
set_option linter.unusedVariables false
section
variable {p : Int} {l : List Mat} {R C : Nat}
theorem nd_list (h : Resp p R C l) : forS (fun (k248 : Nat) (s290 : List Int) =>
        (idxO (toI (rzCh p l R C)) ((k248 : Nat) : Int)).bind fun a306 =>
        (addO a306 (R : Int)).bind fun a308 =>
        (appO s290 [a308]).bind fun a313 =>
        some a313) (toI (rzCh p l R C)).length 0 ([] : List Int) = some (toI ((rzCh p l R C).map (· + R))) := by
  have hm : maxN = 1099511627776 := rfl
  have f := rzF h
  have hR := h.R8
  have c1 := f.sz; have c2 := f.cl; have c3 := f.sr
  have := forS_map (f := fun (k248 : Nat) (s290 : List Int) =>
        (idxO (toI (rzCh p l R C)) ((k248 : Nat) : Int)).bind fun a306 =>
        (addO a306 (R : Int)).bind fun a308 =>
        (appO s290 [a308]).bind fun a313 =>
        some a313) (fun x : Int => x + (R : Int)) (toI (rzCh p l R C)) [] (by simp [toI]; omega) (fun j a s hj hs => by
    have hjl := (List.getElem?_eq_some_iff.1 hj).1
    have hmem := mem_of_get hj
    obtain ⟨i, hi, rfl⟩ := List.mem_map.1 hmem
    have := f.chl i hi
    simp [toI] at hjl
    exact bnd (idxO_of hj) (bnd (addO_of (by omega) (by omega)) (bnd (appO_of (by simp at hs ⊢; omega)) rfl)))
  rw [this, List.nil_append]
  congr 1
  unfold toI
  rw [List.map_map, List.map_map]
  exact List.map_congr_left fun x _ => by simp
theorem rz_cs (h : Resp p R C l) (hc : (rzCh p l R C).length ≤ 24) : forS (fun (k875 : Nat) (s940 : List (List Int)) =>
            (idxO (rzBase p l R C) ((k875 : Nat) : Int)).bind fun a957 =>
            (sliceO a957 0 (C : Int)).bind fun a962 =>
            (F_impl_clone a962).bind fun y966 =>
            (appO s940 [y966]).bind fun a974 =>
            some a974) (rzBase p l R C).length 0 [] = some ((rzCh p l R C).map (fun i => (gr (rzAll l R) i).take C)) := by
  have hm : maxN = 1099511627776 := rfl
  have f := rzF h
  have hC := h.C8
  have hbl := f.blen
  have := forS_map (f := fun (k875 : Nat) (s940 : List (List Int)) =>
            (idxO (rzBase p l R C) ((k875 : Nat) : Int)).bind fun a957 =>
            (sliceO a957 0 (C : Int)).bind fun a962 =>
            (F_impl_clone a962).bind fun y966 =>
            (appO s940 [y966]).bind fun a974 =>
            some a974) (fun r => r.take C) (rzBase p l R C) [] (by simp; omega) (fun j r s hj hs => by
    have hjl := (List.getElem?_eq_some_iff.1 hj).1
    have hr := (f.bok r (mem_of_get hj)).1
    obtain ⟨i, hi, _⟩ := List.mem_map.1 (mem_of_get hj)
    have hlt := f.chl i hi
    have hn0 : 0 < rzN l := Nat.pos_of_ne_zero fun e => by rw [e] at hlt; omega
    have : C ≤ rzN l * C := Nat.le_mul_of_pos_left C hn0
    exact bnd (idxO_of hj) (bnd (slice0 (by omega)) (bnd (clone_ (by simp; omega)) (bnd (appO_of (by simp at hs ⊢; omega)) rfl))))
  rw [this, List.nil_append]
  congr 1
  unfold rzBase selM
  rw [List.map_map]; rfl
theorem get_toI {c : List Nat} {j : Nat} (h : j < c.length) : (toI c)[j]? = some ((c.getD j 0 : Nat) : Int) := by
  unfold toI
  rw [List.getElem?_map, List.getElem?_eq_getElem h, List.getD_eq_getElem?_getD, List.getElem?_eq_getElem h]; rfl
theorem mem_getD {c : List Nat} {j : Nat} (h : j < c.length) : c.getD j 0 ∈ c := by
  rw [List.getD_eq_getElem?_getD, List.getElem?_eq_getElem h]; exact List.getElem_mem h
theorem realize_ (h : Resp p R C l) : F_impl_realize p l = some (rzW p l R C) := by
  have hm : maxN = 1099511627776 := rfl
  have f := rzF h
  have hl := h.len; have hR := h.R8; have hC := h.C8
  have hm0 := h.mat (gm l 0) (mem_of_get (gm_get hl.1))
  have q1 := quo3 hl.1 (by omega)
  have c1 := f.sz; have c2 := f.cl; have c3 := f.sr; have c4 := f.n29; have c5 := f.n2; have c6 := f.len; have c7 := f.blen
  have hk := hankel_ h (n := rzN l + 1) (c := rzN l) (by omega)
  have hcl := clones_ (m := (gm l 0).2) (by have := hm0.2.1; omega) (fun r hr => by have := (hm0.2.2 r hr).1; omega)
  have hof := offers_ h.hf f.ok (K := rzN l * R) (by omega) (by omega) (N := ((rzN l * C : Nat) : Int)) rfl
  have hi0 : idxO l 0 = some (gm l 0) := idx_gm hl.1
  refine bnd hi0 (bnd hi0 (bnd q1.1 (bnd q1.2 (bnd (a := ((rzN l + 1 : Nat) : Int)) ((addO_of (by omega) (by omega)).trans (congrArg some (by show (((l.length - 1) / 2 : Nat) : Int) + 1 = _; unfold rzN; omega))) (bnd hk (bnd (a := ((rzN l * C : Nat) : Int)) ?_ (bnd (a := ((rzN l * R : Nat) : Int)) ?_ (bnd (slice0 (l := rzAll l R) (by omega)) (bnd hof (bnd (bnd hi0 (bnd hcl rfl)) ?_))))))))))
  · rw [hm0.1, show (((l.length - 1) / 2 : Nat) : Int) = ((rzN l : Nat) : Int) from rfl, mulO_of (by rw [← Int.natCast_mul]; omega) (by rw [← Int.natCast_mul]; omega), Int.natCast_mul]
  · rw [hm0.2.1, show (((l.length - 1) / 2 : Nat) : Int) = ((rzN l : Nat) : Int) from rfl, mulO_of (by rw [← Int.natCast_mul]; omega) (by rw [← Int.natCast_mul]; omega), Int.natCast_mul]
  dsimp only
  have htl : (toI (chs p (rzN l * C) (rzAll l R) (rzN l * R))).length = (rzCh p l R C).length := by simp [toI, rzCh]
  rw [htl, hm0.2.1, hm0.1]
  by_cases hc : (rzCh p l R C).length ≤ 24
  case neg =>
    refine stp (cTW (dT (by omega)) ?_)
    unfold rzW
    rw [dF hc]
    simp [zSS]
  refine stp (cFW (dF (by omega)) ?_)
  have hnl := nd_list h
  rw [show (toI (rzCh p l R C)).length = (rzCh p l R C).length by simp [toI]] at hnl
  have hup := upTo_ (n := R) (by omega)
  have hnd : appO (toI ((rzCh p l R C).map (· + R))) (upL R) = some (toI (ndL p l R C)) := by
    refine (appO_of (by simp [toI, upL_len]; omega)).trans (congrArg some ?_)
    unfold ndL toI upL
    rw [List.map_append]
  have hndl : (toI (ndL p l R C)).length = (rzCh p l R C).length + R := by simp [toI, ndL]
  have hSS := rzS_ok h hc
  refine bnd hnl (bnd hup (bnd hnd ?_))
  rw [hndl]
  obtain ⟨t, t1, t2⟩ := whileO_num (s := (([] : Rows), ([] : Rows), (0 : Int), true)) (τ := SSt × Bool) (f := fun (s845 : List (List Int) × List (List Int) × Int × Bool) =>
      ((some (decide (s845.2.2.1 < (((rzCh p l R C).length + R : Nat) : Int)))).bind fun a868 =>
        cond a868
        (some s845.2.2.2)
        (some false)).bind fun (s862 : Bool) =>
      cond s862
      ((idxO (toI (ndL p l R C)) s845.2.2.1).bind fun a1038 =>
        (idxO (rzAll l R) a1038).bind fun a1046 =>
        (F_impl_chooser_coordinates (p, ((rzN l * C : Nat) : Int), redM p (rzN l * C) (rzBase p l R C), toI (rzCh p l R C), rzBase p l R C) a1046).bind fun y1050 =>
        ((some (decide (s845.2.2.1 < ((rzCh p l R C).length : Int)))).bind fun a1085 =>
          cond a1085
          ((appO s845.1 [y1050.1]).bind fun a1101 =>
            some (a1101, s845.2.1))
          ((appO s845.2.1 [y1050.1]).bind fun a1091 =>
            some (s845.1, a1091))).bind fun (s1077 : List (List Int) × List (List Int)) =>
        (addO s845.2.2.1 1).bind fun a1109 =>
        some (.inl (s1077.1, s1077.2, a1109, y1050.2)))
      ((forS (fun (k875 : Nat) (s940 : List (List Int)) =>
            (idxO (rzBase p l R C) ((k875 : Nat) : Int)).bind fun a957 =>
            (sliceO a957 0 (C : Int)).bind fun a962 =>
            (F_impl_clone a962).bind fun y966 =>
            (appO s940 [y966]).bind fun a974 =>
            some a974) (rzBase p l R C).length 0 []).bind fun (s982 : List (List Int)) =>
        ((some (!s845.2.2.2)).bind fun a1005 =>
          cond a1005
          (some true)
          ((F_impl_StateSpace_markov (((rzCh p l R C).length : Int), (R : Int), (C : Int), s845.1, s845.2.1, s982, (gm l 0).2) p ((l.length : Nat) : Int)).bind fun y1008 =>
            (F_slices_EqualFunc_impl_Matrix_impl_Matrix_impl_Matrix_impl_Matrix_impl_equalMatrices y1008 l).bind fun y1013 =>
            (some (!y1013)).bind fun a1016 =>
            some a1016)).bind fun (s999 : Bool) =>
        cond s999
        (some (.inr ((0, 0, 0, [], [], [], []), false)))
        (some (.inr ((((rzCh p l R C).length : Int), (R : Int), (C : Int), s845.1, s845.2.1, s982, (gm l 0).2), true)))))
    (fun j s => s.2.2.1 = (j : Int) ∧ ((s.2.2.2 = true ∧ s.1 = jA p l R C j ∧ s.2.1 = jB p l R C j ∧ ∀ x ∈ (ndL p l R C).take j, rzOk p l R C x = true) ∨ (s.2.2.2 = false ∧ rzGood p l R C = false)))
    (fun t => t = rzW p l R C) ((rzCh p l R C).length + R) (by
      rintro j ⟨A, B, at', g⟩ hj ⟨h1, h2⟩
      dsimp only at h1 h2 ⊢
      subst h1
      have hcs := rz_cs h hc
      rcases h2 with ⟨rfl, rfl, rfl, hall⟩ | ⟨rfl, hbad⟩
      · by_cases hjl : j < (rzCh p l R C).length + R
        · left
          have hjn : j < (ndL p l R C).length := by rw [ndL_len]; exact hjl
          have hx := mem_getD hjn
          have hlt := ndL_lt h _ hx
          have hrow := f.ok _ (gr_mem (i := (ndL p l R C).getD j 0) (by omega))
          have hco := chCoords_ (basis := redM p (rzN l * C) (rzBase p l R C)) (chosen := toI (rzCh p l R C)) (N := ((rzN l * C : Nat) : Int)) h.hf f.bok f.ind hrow (by omega) (by omega) rfl
          have hnext : ∃ A' B', cond (decide ((j : Int) < ((rzCh p l R C).length : Int)))
              ((appO (jA p l R C j) [(if solB p (rzN l * C) (rzBase p l R C) (gr (rzAll l R) ((ndL p l R C).getD j 0)) = true then (solX p (rzN l * C) (rzBase p l R C) (gr (rzAll l R) ((ndL p l R C).getD j 0)), true) else ([], false)).1]).bind fun a1101 => some (a1101, jB p l R C j))
              ((appO (jB p l R C j) [(if solB p (rzN l * C) (rzBase p l R C) (gr (rzAll l R) ((ndL p l R C).getD j 0)) = true then (solX p (rzN l * C) (rzBase p l R C) (gr (rzAll l R) ((ndL p l R C).getD j 0)), true) else ([], false)).1]).bind fun a1091 => some (jA p l R C j, a1091)) = some (A', B') ∧
              (rzOk p l R C ((ndL p l R C).getD j 0) = true → A' = jA p l R C (j + 1) ∧ B' = jB p l R C (j + 1)) := by
            have la : (jA p l R C j).length ≤ 1000 := by unfold jA; simp; omega
            have lb : (jB p l R C j).length ≤ 1000 := by unfold jB; simp; omega
            by_cases hjc : j < (rzCh p l R C).length
            · refine ⟨_, _, cTW (dT (by omega)) (bnd (appO_of (by simp; omega)) rfl), fun hok => ?_⟩
              obtain ⟨e1, e2⟩ := jA_step hjc
              unfold rzOk at hok
              rw [if_pos hok, e1, e2]; exact ⟨rfl, rfl⟩
            · refine ⟨_, _, cFW (dF (by omega)) (bnd (appO_of (by simp; omega)) rfl), fun hok => ?_⟩
              obtain ⟨e1, e2⟩ := jB_step (by omega) hjn
              unfold rzOk at hok
              rw [if_pos hok, e1, e2]; exact ⟨rfl, rfl⟩
          obtain ⟨A', B', n1, n2⟩ := hnext
          refine ⟨(A', B', ((j + 1 : Nat) : Int), rzOk p l R C ((ndL p l R C).getD j 0)), bnd (stp (cTW (dT (by omega)) rfl)) (cTW rfl (bnd (idxO_of (get_toI hjn)) (bnd (idx_gr (by omega)) (bnd hco (bnd (stp n1) (bnd (addO_of (by omega) (by omega)) ?_)))))), ⟨rfl, ?_⟩, hjl⟩
          · unfold rzOk
            cases solB p (rzN l * C) (rzBase p l R C) (gr (rzAll l R) ((ndL p l R C).getD j 0)) <;> rfl
          · dsimp only
            cases hok : rzOk p l R C ((ndL p l R C).getD j 0) with
            | true =>
              obtain ⟨e1, e2⟩ := n2 hok
              refine .inl ⟨rfl, e1, e2, fun x hx' => ?_⟩
              rw [List.take_add_one] at hx'
              rcases List.mem_append.1 hx' with hx' | hx'
              · exact hall x hx'
              · have hg : (ndL p l R C)[j]? = some ((ndL p l R C).getD j 0) := by rw [List.getD_eq_getElem?_getD, List.getElem?_eq_getElem hjn]; rfl
                rw [hg] at hx'
                rw [List.mem_singleton.1 hx']; exact hok
            | false =>
              refine .inr ⟨rfl, ?_⟩
              rw [good_iff]
              cases hq : (ndL p l R C).all (rzOk p l R C) with
              | false => rfl
              | true => have := List.all_eq_true.1 hq _ hx; rw [hok] at this; cases this
        · right
          obtain rfl : j = (ndL p l R C).length := by rw [ndL_len]; omega
          have hgood : rzGood p l R C = true := by
            rw [good_iff, List.all_eq_true]
            intro x hx
            exact hall x (by rw [List.take_of_length_le (Nat.le_refl _)]; exact hx)
          obtain ⟨e1, e2⟩ := jA_end (p := p) (l := l) (R := R) (C := C)
          have hmk := markov_ hSS l.length (by omega)
          rw [e1, e2]
          refine ⟨rzW p l R C, bnd (stp (cFW (dF (by rw [ndL_len]; omega)) rfl)) (cFW rfl (bnd hcs ?_)), rfl⟩
          unfold rzW
          rw [hgood, dT hc, Bool.true_and, Bool.true_and]
          have heq := equalMats (mkv p (rzCh p l R C).length C (rzS p l R C) l.length).1 l
          by_cases hme : (mkv p (rzCh p l R C).length C (rzS p l R C) l.length).1 = l
          · rw [dT hme] at heq ⊢
            exact bnd (stp (cFW rfl (bnd hmk (bnd heq rfl)))) rfl
          · rw [dF hme] at heq ⊢
            exact bnd (stp (cFW rfl (bnd hmk (bnd heq rfl)))) rfl
      · right
        refine ⟨rzW p l R C, ?_, rfl⟩
        have e0 : rzW p l R C = (zSS, false) := by unfold rzW; rw [hbad]; rfl
        rw [e0]
        refine bnd (a := false) ?_ (cFW rfl (bnd hcs rfl))
        by_cases hjl : j < (rzCh p l R C).length + R
        · exact stp (cTW (dT (by omega)) rfl)
        · exact stp (cFW (dF (by omega)) rfl)) ⟨rfl, .inl ⟨rfl, by simp [jA], by simp [jB], fun x hx => by simp at hx⟩⟩
  rw [← t2]
  exact t1
end
end Go.Proofs.YtocpeclcoikdpaaDoor
