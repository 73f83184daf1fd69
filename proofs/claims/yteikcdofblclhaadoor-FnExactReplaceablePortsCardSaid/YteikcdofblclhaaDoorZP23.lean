/-
  Plain laws: is it a choice of inputs, which ports could be replaced. No program in sight. No condition.
-/
import Derived.Test.YteikcdofblclhaaDoorZP22
namespace Go.Proofs.YteikcdofblclhaaDoor
set_option linter.unusedVariables false
theorem sliceT {α : Type} {l : List α} {a b : Nat} (h : a ≤ b) (hb : b ≤ l.length) : sliceO l (a : Int) (b : Int) = some ((l.drop a).take (b - a)) := by
  unfold sliceO
  rw [if_pos ⟨by omega, by omega, by rw [Int.toNat_natCast]; exact hb⟩, Int.toNat_natCast, Int.toNat_natCast]

theorem forO_vN {σ τ : Type} {f : Nat → σ → Option (σ ⊕ τ)} {t : τ} (v : Nat → σ) (Q : Nat → Bool) : ∀ (n k : Nat), (∀ j, k ≤ j → j < k + n → f j (v j) = some (if Q j then .inl (v (j + 1)) else .inr t)) → forO f n k (v k) = some (if allN Q k n then .inl (v (k + n)) else .inr t)
  | 0, k, _ => rfl
  | n + 1, k, h => by
    show (f k (v k)).bind _ = _
    rw [h k (Nat.le_refl _) (by omega)]
    show _ = some (if (Q k && allN Q (k + 1) n) = true then _ else _)
    cases hQ : Q k with
    | false => rfl
    | true =>
      rw [Bool.true_and, show k + (n + 1) = k + 1 + n by omega]
      exact forO_vN v Q n (k + 1) (fun j h1 h2 => h j (by omega) (by omega))
theorem catM_drop {p : Int} {w : Nat} : ∀ {m a : Rows}, a.length = m.length → okM p w m → (catM m a).map (fun r => r.drop w) = a
  | [], [], _, _ => rfl
  | [], _ :: _, h, _ => by simp at h
  | _ :: _, [], h, _ => by simp at h
  | x :: m, y :: a, h, ho => by
    have hx := (ho x (List.mem_cons_self ..)).1
    show (x ++ y).drop w :: (catM m a).map _ = y :: a
    rw [catM_drop (by simpa using h) (fun r hr => ho r (List.mem_cons_of_mem _ hr)), ← hx, List.drop_left]
theorem choiceFunction_ {p : Int} {n : Nat} {b : Rows} {l : List Int} (hf : fdB p = true) (hb : okM p n b) (hl : Ports l n) (hn : n ≤ 24) (hbl : b.length ≤ n) :
    F_impl_choiceFunction p b (n : Int) l = some (if choB p n b l then ((chT p n b l).2.1, true) else ([], false)) := by
  have hp := fdB_rng hf
  have hll := hl.len
  have hrl : (restL l n).length ≤ n := (sieve_ports _ _).len
  refine stp ?_
  unfold choB
  by_cases h : l.length = b.length
  · rw [dT h]
    have o1 := chosM_ok hp.1 hb hl.rng
    have o2 := chosM_ok hp.1 hb (rest_below l n)
    obtain ⟨k1, k2, k3, k4, k5, k6, k7⟩ := chT_facts hf hb hl
    refine cFW (nT (dT (by omega))) (bnd (chosenAll_ hb hl.rng (by omega) (by omega)) (bnd (upTo_ (by omega)) (bnd (others_ (by omega)) (bnd (chosenAll_ hb (rest_below l n) (by omega) (by omega)) ?_))))
    refine bnd (reduction_ hf (Nat.le_refl _) (by omega) o1 o2 (by rw [chosM_len]; omega) (by rw [chosM_len, chosM_len])) (stp ?_)
    change cond (decide (((chT p n b l).2.2 : Int) < (l.length : Int))) _ (some ((chT p n b l).2.1, true)) = _
    by_cases h2 : (chT p n b l).2.2 = l.length
    · rw [dT h2]; exact cFW (dF (by omega)) rfl
    · rw [dF h2]; exact cTW (dT (by omega)) rfl
  · rw [dF h]; exact cTW (nF (dF (by omega))) rfl
theorem riFunction_ {p : Int} {n : Nat} {b : Rows} {l : List Int} (hf : fdB p = true) (hb : Red p n b) (hl : Ports l n) (hn : n ≤ 24) (hbl : b.length ≤ n) :
    F_spec_riFunction p (n : Int) b l = some (if choB p n b l then ((((restL l n).length : Int), (chT p n b l).2.1), true) else ((0, []), false)) := by
  have hm : maxN = 1099511627776 := rfl
  have hp := fdB_rng hf
  have hll := hl.len
  have hrl : (restL l n).length ≤ n := (sieve_ports _ _).len
  have hrs := rest_len hl
  have hbel := below_app hl.rng (rest_below l n)
  refine stp ?_
  by_cases h : l.length = b.length
  · refine cFW (nT (dT (by omega))) (bnd (riRest_ (by omega)) ?_)
    refine bnd (a := chosM b (l ++ restL l n)) ?_ ?_
    · refine (forS_map (chosL (l ++ restL l n)) b [] (by simp; omega) ?_).trans (by simp [chosM])
      intro j r s hj hs
      have hjl : j < b.length := (List.getElem?_eq_some_iff.1 hj).1
      have hr := (hb.ok r (mem_of_get hj)).1
      refine bnd (idxO_of hj) (bnd (own_ (by omega)) (bnd (appO_of (by omega)) (bnd (a := chosL (l ++ restL l n) r) ?_ (bnd (appO_of (by simp at hs ⊢; omega)) rfl))))
      refine (forS_map (fun i : Int => el r i.toNat) (l ++ restL l n) [] (by simp; omega) ?_).trans (by simp [chosL])
      intro i x s' hi hs'
      have hil : i < (l ++ restL l n).length := (List.getElem?_eq_some_iff.1 hi).1
      have e : el (l ++ restL l n) i = x := Option.some.inj ((el_get hil).symm.trans hi)
      have h1 := hbel i hil
      rw [e] at h1
      obtain ⟨q, rfl⟩ : ∃ q : Nat, x = (q : Int) := ⟨x.toNat, by omega⟩
      rw [Int.toNat_natCast]
      rw [List.length_append] at hil
      exact bnd (idxO_of hi) (bnd (idx_el (by omega)) (bnd (appO_of (by simp at hs' ⊢; omega)) rfl))
    · have oC := chosM_ok hp.1 hb.ok hbel
      rw [List.length_append, hrs] at oC
      have hro := (redM_ok (n := n) hp.1 oC).1
      have hrc := (redM_ok (n := n) hp.1 oC).2.1
      rw [chosM_len] at hrc
      refine bnd (spReduce_ hf (Nat.le_refl n) (by omega) oC (by rw [chosM_len]; omega)) ?_
      have hloop := forO_vN (fun j => ((redM p n (chosM b (l ++ restL l n))).take j).map (fun r => r.drop l.length)) (fun j => decide (leadN (gr (redM p n (chosM b (l ++ restL l n))) j) = j)) (redM p n (chosM b (l ++ restL l n))).length 0 (t := (((0 : Int), ([] : Rows)), false)) (f := fun (k415 : Nat) (s536 : List (List Int)) =>
        (idxO (redM p n (chosM b (l ++ restL l n))) ((k415 : Nat) : Int)).bind fun a553 =>
        (F_spec_spLead a553).bind fun y557 =>
        (some (!decide (y557 = ((k415 : Nat) : Int)))).bind fun a560 =>
        cond a560
        (some (.inr ((0, []), false)))
        ((sliceO a553 ((l.length : Nat) : Int) ((a553.length : Nat) : Int)).bind fun a564 =>
          (F_spec_l1Own a564).bind fun y568 =>
          (appO s536 [y568]).bind fun a576 =>
          some (.inl a576))) (by
        intro j _ hj
        have hj' : j < (redM p n (chosM b (l ++ restL l n))).length := by omega
        have hw := (okM_gr hro hj').1
        refine bnd (idx_gr hj') (bnd (spLead_ (by omega)) (stp ?_))
        by_cases hlj : leadN (gr (redM p n (chosM b (l ++ restL l n))) j) = j
        · rw [dT hlj]
          refine cFW (nT (dT (by omega))) (bnd (sliceT (by omega) (Nat.le_refl _)) (bnd (own_ (by simp; omega)) (bnd (appO_of (by simp; omega)) ?_)))
          rw [show ∀ v : List Int, List.take (v.length - l.length) (List.drop l.length v) = List.drop l.length v from fun v => List.take_of_length_le (by rw [List.length_drop]; omega)]
          rw [List.take_add_one, gr_get hj', List.map_append, if_pos rfl]
          rfl
        · rw [dF hlj]; exact cTW (nF (dF (by omega))) rfl)
      refine sqW hloop ?_
      rw [Nat.zero_add, List.take_of_length_le (Nat.le_refl _)]
      unfold choB
      rw [dT h, Bool.true_and]
      by_cases hc : (chT p n b l).2.2 = l.length
      · obtain ⟨c1, c2⟩ := cho_rows hf hb.ok hl h hc hrs
        obtain ⟨k1, k2, k3, k4, k5, k6, k7⟩ := chT_facts hf hb.ok hl
        have hall : allN (fun j => decide (leadN (gr (redM p n (chosM b (l ++ restL l n))) j) = j)) 0 (redM p n (chosM b (l ++ restL l n))).length = true := by
          rw [allN_true]
          intro j _ hj
          rw [c1, catM_len (by rw [k1, k2]), k1] at hj
          rw [c1]
          exact dT (c2 j (by omega))
        rw [hall, if_pos rfl, c1, catM_drop (by rw [k1, k2]) k3, dT hc]
        rfl
      · have hall : allN (fun j => decide (leadN (gr (redM p n (chosM b (l ++ restL l n))) j) = j)) 0 (redM p n (chosM b (l ++ restL l n))).length = false := by
          rw [← Bool.not_eq_true, allN_true]
          intro hA
          exact hc (cho_not hf hb hl h hrs (fun i hi => of_decide_eq_true (hA i (Nat.zero_le _) (by omega))))
        rw [hall, dF hc]
        rfl
  · refine cTW (nF (dF (by omega))) ?_
    unfold choB
    rw [dF h]; rfl
def askB (p : Int) (R : Rel) (l : List Int) : Bool := rlB p R && portB l (R.1 + R.2.1)
theorem askB_ok {p : Int} {R : Rel} {l : List Int} (h : askB p R l = true) : ∃ x r, RlOk p x r R ∧ Ports l (x + r) ∧ R.1 + R.2.1 = ((x + r : Nat) : Int) := by
  unfold askB at h
  rw [Bool.and_eq_true] at h
  obtain ⟨x, r, h1⟩ := rlB_ok h.1
  have e : R.1 + R.2.1 = ((x + r : Nat) : Int) := by have := h1.left; have := h1.right; omega
  have h2 := h.2
  rw [e] at h2
  exact ⟨x, r, h1, portB_ok h2, e⟩
theorem isAsked_ {p : Int} {R : Rel} {l : List Int} (hl : l.length ≤ 1048576) : F_impl_isAsked p R l = some (askB p R l) := by
  refine bnd (a := askB p R l) ?_ rfl
  unfold askB
  refine bndB (isRelation_ p R) (fun _ => rfl) (fun h => cTW rfl ?_)
  obtain ⟨x, r, h1⟩ := rlB_ok h
  have := h1.n24
  have e : R.1 + R.2.1 = ((x + r : Nat) : Int) := by have := h1.left; have := h1.right; omega
  refine bnd (relSize_ (l := x) (r := r) (R := R) h1) (bnd (isPortList_ (by omega) (by omega)) ?_)
  rw [e]
theorem riAsked_ {p : Int} {R : Rel} {l : List Int} (hl : l.length ≤ 1048576) : F_spec_riAsked p R l = some (askB p R l) := by
  refine bnd (a := askB p R l) ?_ rfl
  unfold askB
  refine bndB (rlGood_ p R) (fun _ => rfl) (fun h => cTW rfl ?_)
  obtain ⟨x, r, h1⟩ := rlB_ok h
  have := h1.n24
  have e1 := h1.left; have e2 := h1.right
  exact bnd (addO_of (by omega) (by omega)) (bnd (riPorts_ (by omega) (by omega)) rfl)
/-! ### ports that could be replaced -/
def selL (t : Rows) (l : List Int) (c : Nat) (k : Nat) : List Int := ((List.range k).filter fun i => !decide (el (gr t i) c = 0)).map (el l)
theorem selL_succ (t : Rows) (l : List Int) (c k : Nat) : selL t l c (k + 1) = if el (gr t k) c = 0 then selL t l c k else selL t l c k ++ [el l k] := by
  unfold selL
  rw [List.range_succ, List.filter_append, List.map_append]
  by_cases h : el (gr t k) c = 0 <;> simp [h]
theorem selL_len (t : Rows) (l : List Int) (c k : Nat) : (selL t l c k).length ≤ k := by
  unfold selL
  rw [List.length_map]
  have := List.length_filter_le (fun i => !decide (el (gr t i) c = 0)) (List.range k)
  rw [List.length_range] at this; exact this
def repB (p : Int) (R : Rel) (l : List Int) (q : Int) : Bool := askB p R l && (rng q 0 (R.1 + R.2.1 - 1) && !decide (q ∈ l))
def colN (l : List Int) (n : Nat) (q : Int) : Nat := ((restL l n).findIdx? (fun a => decide (q = a))).getD 0
theorem colN_spec {l : List Int} {n : Nat} {q : Int} (h1 : 0 ≤ q ∧ q < (n : Int)) (h2 : q ∉ l) : (restL l n).findIdx? (fun a => decide (q = a)) = some (colN l n q) ∧ colN l n q < (restL l n).length ∧ el (restL l n) (colN l n q) = q := by
  have hm : q ∈ restL l n := sieve_mem.2 ⟨q.toNat, by omega, by omega, by unfold notIn; rw [show ((q.toNat : Nat) : Int) = q by omega, dF h2]; rfl⟩
  have h3 := findIdx_mem (l := restL l n) (v := q)
  rw [dT hm] at h3
  unfold colN
  cases h : (restL l n).findIdx? (fun a => decide (q = a)) with
  | none => rw [h] at h3; cases h3
  | some k =>
    obtain ⟨hk, h4, _⟩ := List.findIdx?_eq_some_iff_getElem.1 h
    refine ⟨rfl, hk, ?_⟩
    show el (restL l n) k = q
    have e : el (restL l n) k = (restL l n)[k] := by have := el_get hk; rw [List.getElem?_eq_getElem hk] at this; exact (Option.some.inj this).symm
    rw [e]; exact (of_decide_eq_true h4).symm
def wReplaceablePorts (p : Int) (R : Rel) (l : List Int) (q : Int) : List Int × Bool :=
  if repB p R l q && choB p (R.1 + R.2.1).toNat R.2.2 l then (selL (chT p (R.1 + R.2.1).toNat R.2.2 l).2.1 l (colN l (R.1 + R.2.1).toNat q) l.length, true) else ([], false)
theorem repB_ok {p : Int} {R : Rel} {l : List Int} {q : Int} (h : repB p R l q = true) : ∃ x r, RlOk p x r R ∧ Ports l (x + r) ∧ R.1 + R.2.1 = ((x + r : Nat) : Int) ∧ (0 ≤ q ∧ q < ((x + r : Nat) : Int)) ∧ q ∉ l := by
  unfold repB at h
  simp only [Bool.and_eq_true, rng_true, Bool.not_eq_true', decide_eq_false_iff_not] at h
  obtain ⟨x, r, h1, h2, e⟩ := askB_ok h.1
  exact ⟨x, r, h1, h2, e, by omega, h.2.2⟩
theorem implChoiceF {p : Int} {R : Rel} {l : List Int} (hl : l.length ≤ 1048576) : F_impl_ChoiceFunction p R l = some (if askB p R l && choB p (R.1 + R.2.1).toNat R.2.2 l then ((R.1 + R.2.1 - (l.length : Int), (chT p (R.1 + R.2.1).toNat R.2.2 l).2.1), true) else ((0, []), false)) := by
  refine bnd (isAsked_ (R := R) hl) (stp ?_)
  cases h : askB p R l with
  | false => rfl
  | true =>
    obtain ⟨x, r, h1, h2, e⟩ := askB_ok h
    have := h1.n24
    rw [e, Int.toNat_natCast, Bool.true_and]
    refine cFW rfl (bnd (relSize_ (l := x) (r := r) (R := R) h1) (bnd (choiceFunction_ (b := R.2.2) h1.hf h1.red.ok h2 (by omega) h1.len) (stp ?_)))
    cases choB p (x + r) R.2.2 l with
    | false => rfl
    | true => exact cFW rfl (bnd (relSize_ (l := x) (r := r) (R := R) h1) (bnd (subO_of (by omega) (by omega)) rfl))
theorem implReplaceablePorts (p : Int) (R : Rel) (l : List Int) (q : Int) (hl : l.length ≤ 1048576) : F_impl_ReplaceablePorts p R l q = some (wReplaceablePorts p R l q) := by
  have hm : maxN = 1099511627776 := rfl
  refine bnd (implChoiceF (R := R) hl) ?_
  unfold wReplaceablePorts repB
  cases h : askB p R l with
  | false => rfl
  | true =>
    obtain ⟨x, r, h1, h2, e⟩ := askB_ok h
    have h24 := h1.n24
    rw [e, Int.toNat_natCast, Bool.true_and, Bool.true_and]
    cases hc : choB p (x + r) R.2.2 l with
    | false =>
      rw [Bool.and_false]; rfl
    | true =>
      rw [Bool.and_true]
      refine bnd (a := !(rng q 0 (((x + r : Nat) : Int) - 1) && !decide (q ∈ l))) (stp (cFW rfl (bnd (relSize_ (l := x) (r := r) (R := R) h1) (bnd (subO_of (by omega) (by omega)) (bndN (within_ _ _ _) (fun _ => rfl) (fun _ => stp (cFW rfl (bnd (contains_ l q) (by rw [Bool.not_not]))))))))) ?_
      cases hq : (rng q 0 (((x + r : Nat) : Int) - 1) && !decide (q ∈ l)) with
      | false => rfl
      | true =>
        simp only [Bool.and_eq_true, rng_true, Bool.not_eq_true', decide_eq_false_iff_not] at hq
        obtain ⟨c1, c2, c3⟩ := colN_spec (n := x + r) (q := q) (by omega) hq.2
        obtain ⟨k1, k2, k3, k4, k5, k6, k7⟩ := chT_facts h1.hf h1.red.ok h2
        have hlb : l.length = R.2.2.length := by
          unfold choB at hc
          rw [Bool.and_eq_true] at hc
          exact of_decide_eq_true hc.1
        refine cFW rfl (bnd (relSize_ (l := x) (r := r) (R := R) h1) (bnd (upTo_ (by omega)) (bnd (others_ (by omega)) (bnd index_ ?_))))
        rw [c1]
        refine bnd (a := selL (chT p (x + r) R.2.2 l).2.1 l (colN l (x + r) q) l.length) ?_ rfl
        have := forS_is (n := l.length) (fun i => selL (chT p (x + r) R.2.2 l).2.1 l (colN l (x + r) q) i) (f := fun (k82 : Nat) (s204 : List Int) =>
        (idxO (chT p (x + r) R.2.2 l).2.1 ((k82 : Nat) : Int)).bind fun a220 =>
        (idxO a220 ((colN l (x + r) q : Nat) : Int)).bind fun a230 =>
        (some (!decide (a230 = 0))).bind fun a232 =>
        cond a232
        ((idxO l ((k82 : Nat) : Int)).bind fun a242 =>
          (appO s204 [a242]).bind fun a247 =>
          some a247)
        (some s204)) (by
          intro i hi
          have hw := (okM_gr k4 (i := i) (by omega)).1
          have hsl := selL_len (chT p (x + r) R.2.2 l).2.1 l (colN l (x + r) q) i
          refine bnd (idx_gr (by omega)) (bnd (idx_el (by omega)) (stp ?_))
          rw [selL_succ]
          by_cases h0 : el (gr (chT p (x + r) R.2.2 l).2.1 i) (colN l (x + r) q) = 0
          · rw [if_pos h0]; exact cFW (nT (dT h0)) rfl
          · rw [if_neg h0]; exact cTW (nF (dF h0)) (bnd (idx_el hi) (bnd (appO_of (by simp; omega)) rfl)))
        have e2 : (chT p (x + r) R.2.2 l).2.1.length = l.length := by omega
        show forS _ (chT p (x + r) R.2.2 l).2.1.length 0 [] = _
        rw [e2]
        exact this
theorem specReplaceablePorts (p : Int) (R : Rel) (l : List Int) (q : Int) (hl : l.length ≤ 1048576) : F_spec_ReplaceablePorts p R l q = some (wReplaceablePorts p R l q) := by
  have hm : maxN = 1099511627776 := rfl
  refine stp ?_
  refine bnd (a := !repB p R l q) ?_ ?_
  · unfold repB
    refine bndN (riAsked_ (R := R) hl) (fun _ => rfl) (fun h => stp (cFW rfl ?_))
    obtain ⟨x, r, h1, h2, e⟩ := askB_ok h
    have h24 := h1.n24
    rw [wrapI_of (by unfold inI; omega)]
    refine bnd (subO_of (by omega) (by omega)) (bndN (l1In _ _ _) (fun _ => rfl) (fun _ => stp (cFW rfl (bnd (l1Has_ l q) (by rw [Bool.not_not])))))
  · unfold wReplaceablePorts
    cases h : repB p R l q with
    | false => rfl
    | true =>
      obtain ⟨x, r, h1, h2, e, hq1, hq2⟩ := repB_ok h
      have h24 := h1.n24
      rw [wrapI_of (by unfold inI; omega), e, Int.toNat_natCast]
      refine cFW rfl (bnd (riFunction_ (b := R.2.2) h1.hf h1.red h2 (by omega) h1.len) ?_)
      cases hc : choB p (x + r) R.2.2 l with
      | false => rfl
      | true =>
        obtain ⟨c1, c2, c3⟩ := colN_spec (n := x + r) (q := q) hq1 hq2
        obtain ⟨k1, k2, k3, k4, k5, k6, k7⟩ := chT_facts h1.hf h1.red.ok h2
        have hlb : l.length = R.2.2.length := by
          unfold choB at hc
          rw [Bool.and_eq_true] at hc
          exact of_decide_eq_true hc.1
        have hpr := sieve_ports (notIn l) (x + r)
        refine stp (cFW rfl (bnd (a := selL (chT p (x + r) R.2.2 l).2.1 l (colN l (x + r) q) l.length) ?_ rfl))
        refine forS_is (n := l.length) (fun i => selL (chT p (x + r) R.2.2 l).2.1 l (colN l (x + r) q) i) ?_
        intro i hi
        have hw := (okM_gr k4 (i := i) (by omega)).1
        have hsl := selL_len (chT p (x + r) R.2.2 l).2.1 l (colN l (x + r) q) i
        refine bnd (idx_el hi) (bnd (riRest_ (by omega)) ?_)
        have := forS_is (n := (restL l (x + r)).length) (fun j => if j ≤ colN l (x + r) q then selL (chT p (x + r) R.2.2 l).2.1 l (colN l (x + r) q) i else selL (chT p (x + r) R.2.2 l).2.1 l (colN l (x + r) q) (i + 1)) (f := fun (k599 : Nat) (s749 : List Int) =>
              (idxO (restL l (x + r)) ((k599 : Nat) : Int)).bind fun a765 =>
              ((some (decide (a765 = q))).bind fun a796 =>
                cond a796
                ((idxO (chT p (x + r) R.2.2 l).2.1 ((i : Nat) : Int)).bind fun a806 =>
                  (idxO a806 ((k599 : Nat) : Int)).bind fun a815 =>
                  (some (!decide (a815 = 0))).bind fun a817 =>
                  some a817)
                (some false)).bind fun (s790 : Bool) =>
              cond s790
              ((appO s749 [el l i]).bind fun a826 =>
                some a826)
              (some s749)) (by
          intro j hj
          refine bnd (idx_el hj) ?_
          by_cases hjc : j = colN l (x + r) q
          · subst hjc
            rw [if_pos (Nat.le_refl _), if_neg (by omega), c3]
            refine bnd (a := !decide (el (gr (chT p (x + r) R.2.2 l).2.1 i) (colN l (x + r) q) = 0)) (stp (cTW (dT rfl) (bnd (idx_gr (by omega)) (bnd (idx_el (by omega)) rfl)))) ?_
            rw [selL_succ]
            by_cases h0 : el (gr (chT p (x + r) R.2.2 l).2.1 i) (colN l (x + r) q) = 0
            · rw [if_pos h0]; exact cFW (nT (dT h0)) rfl
            · rw [if_neg h0]; exact cTW (nF (dF h0)) (bnd (appO_of (by simp; omega)) rfl)
          · have hne : el (restL l (x + r)) j ≠ q := fun he => hjc (hpr.inj hj c2 (he.trans c3.symm))
            refine bnd (a := false) (stp (cFW (dF hne) rfl)) (cFW rfl ?_)
            by_cases hlt : j ≤ colN l (x + r) q
            · rw [if_pos hlt, if_pos (by omega)]
            · rw [if_neg hlt, if_neg (by omega)])
        rw [if_pos (Nat.zero_le _), if_neg (by omega)] at this
        exact bnd this rfl
theorem boundReplaceablePorts_0 (p : Int) (R : Rel) (l : List Int) (q : Int) (hl : l.length ≤ 1048576) : (wReplaceablePorts p R l q).1.length ≤ 1048576 := by
  unfold wReplaceablePorts
  split
  · have := selL_len (chT p (R.1 + R.2.1).toNat R.2.2 l).2.1 l (colN l (R.1 + R.2.1).toNat q) l.length
    exact Nat.le_trans this hl
  · simp
end Go.Proofs.YteikcdofblclhaaDoor
