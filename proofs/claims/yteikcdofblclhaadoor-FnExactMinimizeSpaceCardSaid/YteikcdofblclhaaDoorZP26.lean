/-
  Plain laws: lists whose product with rows is zero, by the steps of a reduction and by the leading indices. No program in sight. No condition.
-/
import Derived.Test.YteikcdofblclhaaDoorZP25
import Derived.Test.YteikcdofblclhaaDoorZP22
import Derived.Test.YteikcdofblclhaaDoorZP19
namespace Go.Proofs.YteikcdofblclhaaDoor
set_option linter.unusedVariables false

/-! ### sums and functionals -/
theorem sg_app (f : Nat → Int) (a : Nat) : ∀ b, sg (a + b) f = sg a f + sg b (fun t => f (a + t))
  | 0 => by show sg a f = sg a f + 0; omega
  | b + 1 => by
    show sg (a + b) f + f (a + b) = sg a f + (sg b (fun t => f (a + t)) + f (a + b))
    rw [sg_app f a b]; omega
theorem dot_span {p : Int} {n : Nat} {m : Rows} {v : List Int} (f : Nat → Int) (h : ∀ i, i < m.length → sg n (fun j => f j * el (gr m i) j) % p = 0) (hv : inSpan p n m v) : sg n (fun j => f j * el v j) % p = 0 := by
  obtain ⟨x, hx⟩ := hv
  have e1 : sg n (fun j => f j * el v j) % p = sg n (fun j => f j * sg m.length (fun i => x i * el (gr m i) j)) % p :=
    sg_mod fun j hj => by rw [← mul_mod2, hx j hj, mul_mod2]
  rw [e1]
  have e2 : sg n (fun j => f j * sg m.length (fun i => x i * el (gr m i) j)) = sg m.length (fun i => x i * sg n (fun j => f j * el (gr m i) j)) := by
    rw [sg_congr (g := fun j => sg m.length (fun i => f j * (x i * el (gr m i) j))) (fun j _ => (sg_mul _ _ _).symm), sg_comm]
    refine sg_congr fun i _ => ?_
    rw [← sg_mul]
    exact sg_congr fun j _ => Int.mul_left_comm _ _ _
  rw [e2, sg_mod (g := fun _ => 0) (fun i hi => by rw [mul_mod_zero2 (h i hi)]; exact (Int.zero_emod p).symm), sg_zero (fun _ _ => rfl)]
  exact Int.zero_emod p
/-- x is orthogonal to each row -/
def perp (p : Int) (n : Nat) (m : Rows) (x : List Int) : Prop := ∀ i, i < m.length → sg n (fun j => el (gr m i) j * el x j) % p = 0
theorem perp_span {p : Int} {n : Nat} {m : Rows} {x v : List Int} (h : perp p n m x) (hv : inSpan p n m v) : sg n (fun j => el v j * el x j) % p = 0 := by
  have := dot_span (m := m) (v := v) (fun j => el x j) (fun i hi => by rw [← h i hi]; exact congrArg (· % p) (sg_congr fun j _ => Int.mul_comm _ _)) hv
  rw [← this]; exact congrArg (· % p) (sg_congr fun j _ => Int.mul_comm _ _)
theorem perp_sub {p : Int} {n : Nat} {a b : Rows} {x : List Int} (h : perp p n b x) (hs : subSpan p n a b) : perp p n a x := fun i hi => perp_span h (hs i hi)
/-- x's product with the columns of m is zero -/
def lperp (p : Int) (n : Nat) (m : Rows) (x : List Int) : Prop := ∀ c, c < n → sg m.length (fun t => el x t * el (gr m t) c) % p = 0
theorem lperp_span {p : Int} {n : Nat} {m b : Rows} {v : List Int} (h : ∀ i, i < b.length → lperp p n m (gr b i)) (hv : inSpan p m.length b v) : lperp p n m v := by
  intro c hc
  have := dot_span (n := m.length) (m := b) (v := v) (fun t => el (gr m t) c) (fun i hi => by rw [← h i hi c hc]; exact congrArg (· % p) (sg_congr fun j _ => Int.mul_comm _ _)) hv
  rw [← this]; exact congrArg (· % p) (sg_congr fun j _ => Int.mul_comm _ _)

/-! ### by the steps of a reduction -/
theorem idN_gr {n i : Nat} (hi : i < n) : gr (idN n) i = unitN n i := by
  have h := gr_get (m := idN n) (i := i) (by rw [idN_len]; exact hi)
  unfold idN at h
  rw [List.getElem?_map, List.getElem?_range hi] at h
  exact (Option.some.inj h).symm
theorem unit_elN {n i j : Nat} (hi : i < n) : el (unitN n i) j = if i = j then 1 else 0 := by
  unfold unitN el
  rw [List.getD_eq_getElem?_getD, List.getElem?_set]
  by_cases h : i = j
  · subst h; rw [if_pos rfl, if_pos (by rw [List.length_replicate]; exact hi), if_pos rfl]; rfl
  · rw [if_neg h, if_neg h, ← List.getD_eq_getElem?_getD]; exact el_rep n j
theorem idN_all {p : Int} {n : Nat} (v : List Int) : inSpan p n (idN n) v := by
  refine ⟨fun i => el v i, fun j hj => ?_⟩
  rw [idN_len, sg_one (i0 := j) hj (fun i hi hne => by rw [idN_gr hi, unit_elN hi, if_neg hne, Int.mul_zero]), idN_gr hj, unit_elN hj, if_pos rfl, Int.mul_one]
theorem redT_rel {p : Int} {n : Nat} {m : Rows} (hf : fdB p = true) (h : okM p n m) : ∀ i, i < m.length → ∀ c, c < n → el (gr (redT p n m).1 i) c % p = sg m.length (fun t => el (gr (redT p n m).2.1 i) t * el (gr m t) c) % p := by
  have hp := fdB_rng hf
  obtain ⟨f1, f2, f3, f4, f5, f6⟩ := redT_facts hf h
  have hl : (idN m.length).length = m.length := idN_len _
  have h1 := catM_loop hf n 0 m (idN m.length) 0 (by omega) h (idN_ok hp.1 _) hl (Nat.zero_le _)
  have hC := catM_ok hl h (idN_ok hp.1 m.length)
  have h2 := (loop_span hf n 0 (catM m (idN m.length)) (catM m (idN m.length)) 0 (by omega) hC hC rfl (Nat.zero_le _)).1
  rw [h1] at h2
  change subSpan p (n + m.length) (catM (redT p n m).1 (redT p n m).2.1) (catM m (idN m.length)) at h2
  intro i hi c hc
  have hv := h2 i (by rw [catM_len (by omega)]; omega)
  rw [catM_gr (by omega)] at hv
  have key : ∀ a b : List Int, a.length = n → sg (n + m.length) (fun j => (if j < n then (if c = j then 1 else 0) else -(el (gr m (j - n)) c)) * el (a ++ b) j) = el a c - sg m.length (fun t => el b t * el (gr m t) c) := by
    intro a b ha
    rw [sg_app, sg_one (i0 := c) hc (fun j hj hne => by rw [if_pos hj, if_neg (fun hh => hne hh.symm), Int.zero_mul]), if_pos hc, if_pos rfl, Int.one_mul, el_app, if_pos (by omega), Int.sub_eq_add_neg, ← sg_neg]
    congr 1
    refine sg_congr fun t _ => ?_
    rw [if_neg (by omega), el_app, if_neg (by omega), show n + t - n = t by omega, show n + t - a.length = t by omega, Int.neg_mul, Int.mul_comm]
  have hd := dot_span (n := n + m.length) (m := catM m (idN m.length)) _ (fun i hi => by
    rw [catM_len hl] at hi
    rw [catM_gr hl, key _ _ (h _ (gr_mem hi)).1, idN_gr hi, sg_one (i0 := i) hi (fun t _ hne => by rw [unit_elN hi, if_neg (fun hh => hne hh.symm), Int.zero_mul]), unit_elN hi, if_pos rfl, Int.one_mul, Int.sub_self]
    exact Int.zero_emod p) hv
  rw [key _ _ (f5 _ (gr_mem (by omega))).1] at hd
  exact mod_of_sub hd
theorem redT_rest {p : Int} {n : Nat} {m : Rows} (hf : fdB p = true) (h : okM p n m) : ∀ i, (redT p n m).2.2 ≤ i → i < m.length → ∀ c, c < n → el (gr (redT p n m).1 i) c = 0 := by
  have h1 := redLoop_red hf n 0 m 0 (by omega) h (RedI.start m)
  obtain ⟨e1, e2⟩ := redLoop_any p n 0 m m (idN m.length) 0
  have f2 := (redT_facts hf h).2.1
  rw [e1, e2, Nat.zero_add] at h1
  intro i h2 h3 c hc
  exact h1.rest i h2 (by rw [← f2] at h3; exact h3) c hc
theorem redT_all {p : Int} {n : Nat} {m : Rows} (hf : fdB p = true) (h : okM p n m) (v : List Int) : inSpan p m.length (redT p n m).2.1 v := by
  have hp := fdB_rng hf
  exact inSpan_trans (loop_span hf n 0 m (idN m.length) 0 (by omega) h (idN_ok hp.1 _) (idN_len _) (Nat.zero_le _)).2 (idN_all v)
theorem gr_drop (m : Rows) (k i : Nat) : gr (m.drop k) i = gr m (k + i) := by
  unfold gr; rw [List.getD_eq_getElem?_getD, List.getD_eq_getElem?_getD, List.getElem?_drop]
def kerM (p : Int) (n : Nat) (m : Rows) : Rows := redM p m.length ((redT p n m).2.1.drop (redT p n m).2.2)
theorem ker_ok {p : Int} {n : Nat} {m : Rows} (hf : fdB p = true) (h : okM p n m) : okM p m.length ((redT p n m).2.1.drop (redT p n m).2.2) :=
  fun r hr => (redT_facts hf h).2.2.2.1 r (List.mem_of_mem_drop hr)
theorem kerM_red {p : Int} {n : Nat} {m : Rows} (hf : fdB p = true) (h : okM p n m) : Red p m.length (kerM p n m) := redM_red hf (ker_ok hf h)
theorem kerM_iff {p : Int} {n : Nat} {m : Rows} (hf : fdB p = true) (h : okM p n m) (x : List Int) : inSpan p m.length (kerM p n m) x ↔ lperp p n m x := by
  have hp := fdB_rng hf
  obtain ⟨f1, f2, f3, f4, f5, f6⟩ := redT_facts hf h
  have hrel := redT_rel hf h
  have hrest := redT_rest hf h
  have hsp := redM_span hf (ker_ok hf h)
  constructor
  · intro hx
    refine lperp_span (b := (redT p n m).2.1.drop (redT p n m).2.2) (fun i hi c hc => ?_) (inSpan_trans hsp.1 hx)
    rw [List.length_drop] at hi
    rw [gr_drop, ← hrel _ (by omega) c hc, hrest _ (by omega) (by omega) c hc]
    exact Int.zero_emod p
  · intro hx
    refine inSpan_trans hsp.2 ?_
    obtain ⟨y, hy⟩ := redT_all hf h x
    rw [f3] at hy
    have hL : (redT p n m).2.2 + (m.length - (redT p n m).2.2) = m.length := by omega
    -- the first coefficients are zero
    have hz : ∀ i, i < (redT p n m).2.2 → y i % p = 0 := by
      have hi := f6.indep y (fun c hc => ?_)
      · intro i h1; exact hi i (by rw [List.length_take]; omega)
      · have hlen : ((redT p n m).1.take (redT p n m).2.2).length = (redT p n m).2.2 := by rw [List.length_take]; omega
        rw [hlen, sg_congr (g := fun i => y i * el (gr (redT p n m).1 i) c) (fun i h1 => by rw [gr_take h1])]
        have e0 : sg m.length (fun i => y i * el (gr (redT p n m).1 i) c) = sg (redT p n m).2.2 (fun i => y i * el (gr (redT p n m).1 i) c) := by
          conv => lhs; rw [← hL]
          rw [sg_app, sg_zero (k := m.length - (redT p n m).2.2) (fun t ht => by rw [hrest _ (by omega) (by omega) c hc, Int.mul_zero])]
          omega
        rw [← e0, sg_mod (g := fun i => y i * sg m.length (fun t => el (gr (redT p n m).2.1 i) t * el (gr m t) c)) (fun i hi => by rw [← mul_mod2, hrel i hi c hc, mul_mod2])]
        rw [← hx c hc]
        have e1 : sg m.length (fun i => y i * sg m.length (fun t => el (gr (redT p n m).2.1 i) t * el (gr m t) c)) = sg m.length (fun t => sg m.length (fun i => y i * el (gr (redT p n m).2.1 i) t) * el (gr m t) c) := by
          rw [sg_congr (g := fun i => sg m.length (fun t => y i * (el (gr (redT p n m).2.1 i) t * el (gr m t) c))) (fun i _ => (sg_mul _ _ _).symm), sg_comm]
          refine sg_congr fun t _ => ?_
          rw [← sg_mulr]
          exact sg_congr fun i _ => (Int.mul_assoc _ _ _).symm
        rw [e1]
        exact sg_mod fun t ht => by rw [← mul_mod1, ← hy t ht, mul_mod1]
    refine ⟨fun t => y ((redT p n m).2.2 + t), fun j hj => ?_⟩
    rw [hy j hj, List.length_drop, f3]
    conv => lhs; rw [← hL]
    rw [sg_app, Int.add_emod, sg_mod (k := (redT p n m).2.2) (g := fun _ => 0) (fun i hi => by rw [mul_mod_zero (hz i hi)]; exact (Int.zero_emod p).symm), sg_zero (k := (redT p n m).2.2) (f := fun _ => 0) (fun _ _ => rfl), Int.zero_emod, Int.zero_add, mod_mod]
    exact congrArg (· % p) (sg_congr fun t _ => by rw [gr_drop])
end Go.Proofs.YteikcdofblclhaaDoor
