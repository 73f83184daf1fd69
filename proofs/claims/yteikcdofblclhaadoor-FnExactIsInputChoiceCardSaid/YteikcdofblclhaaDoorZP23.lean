/-
  Plain laws: is it a choice of inputs, which ports could be replaced. No program in sight. No condition.
-/
import Derived.Test.YteikcdofblclhaaDoorZP22
namespace Go.Proofs.YteikcdofblclhaaDoor
set_option linter.unusedVariables false
theorem sliceT {α : Type} {l : List α} {a b : Nat} (h : a ≤ b) (hb : b ≤ l.length) : sliceO l (a : Int) (b : Int) = some ((l.drop a).take (b - a)) := by
  unfold sliceO
  rw [if_pos ⟨by omega, by omega, by rw [Int.toNat_natCast]; exact hb⟩, Int.toNat_natCast, Int.toNat_natCast]

theorem forO_vN {σ τ : Type} {f : Nat → σ → Option (σ ⊕ τ)} {t : τ} (v : Nat → σ) (Q : Nat → Bool) : ∀ (n k : Nat), (∀ j, k ≤ j → j < k + n → f j (v j) = some (if Q j then .inl (v (j + 1)) else .inr t)) → forO f n k (v k) = some (if allN Q k n then .inl (v (k + n)) else .inr t)
  | 0, k, _ => rfl
  | n + 1, k, h => by
    show (f k (v k)).bind _ = _
    rw [h k (Nat.le_refl _) (by omega)]
    show _ = some (if (Q k && allN Q (k + 1) n) = true then _ else _)
    cases hQ : Q k with
    | false => rfl
    | true =>
      rw [Bool.true_and, show k + (n + 1) = k + 1 + n by omega]
      exact forO_vN v Q n (k + 1) (fun j h1 h2 => h j (by omega) (by omega))
theorem catM_drop {p : Int} {w : Nat} : ∀ {m a : Rows}, a.length = m.length → okM p w m → (catM m a).map (fun r => r.drop w) = a
  | [], [], _, _ => rfl
  | [], _ :: _, h, _ => by simp at h
  | _ :: _, [], h, _ => by simp at h
  | x :: m, y :: a, h, ho => by
    have hx := (ho x (List.mem_cons_self ..)).1
    show (x ++ y).drop w :: (catM m a).map _ = y :: a
    rw [catM_drop (by simpa using h) (fun r hr => ho r (List.mem_cons_of_mem _ hr)), ← hx, List.drop_left]
theorem choiceFunction_ {p : Int} {n : Nat} {b : Rows} {l : List Int} (hf : fdB p = true) (hb : okM p n b) (hl : Ports l n) (hn : n ≤ 24) (hbl : b.length ≤ n) :
    F_impl_choiceFunction p b (n : Int) l = some (if choB p n b l then ((chT p n b l).2.1, true) else ([], false)) := by
  have hp := fdB_rng hf
  have hll := hl.len
  have hrl : (restL l n).length ≤ n := (sieve_ports _ _).len
  refine stp ?_
  unfold choB
  by_cases h : l.length = b.length
  · rw [dT h]
    have o1 := chosM_ok hp.1 hb hl.rng
    have o2 := chosM_ok hp.1 hb (rest_below l n)
    obtain ⟨k1, k2, k3, k4, k5, k6, k7⟩ := chT_facts hf hb hl
    refine cFW (nT (dT (by omega))) (bnd (chosenAll_ hb hl.rng (by omega) (by omega)) (bnd (upTo_ (by omega)) (bnd (others_ (by omega)) (bnd (chosenAll_ hb (rest_below l n) (by omega) (by omega)) ?_))))
    refine bnd (reduction_ hf (Nat.le_refl _) (by omega) o1 o2 (by rw [chosM_len]; omega) (by rw [chosM_len, chosM_len])) (stp ?_)
    change cond (decide (((chT p n b l).2.2 : Int) < (l.length : Int))) _ (some ((chT p n b l).2.1, true)) = _
    by_cases h2 : (chT p n b l).2.2 = l.length
    · rw [dT h2]; exact cFW (dF (by omega)) rfl
    · rw [dF h2]; exact cTW (dT (by omega)) rfl
  · rw [dF h]; exact cTW (nF (dF (by omega))) rfl
theorem riFunction_ {p : Int} {n : Nat} {b : Rows} {l : List Int} (hf : fdB p = true) (hb : Red p n b) (hl : Ports l n) (hn : n ≤ 24) (hbl : b.length ≤ n) :
    F_spec_riFunction p (n : Int) b l = some (if choB p n b l then ((((restL l n).length : Int), (chT p n b l).2.1), true) else ((0, []), false)) := by
  have hm : maxN = 1099511627776 := rfl
  have hp := fdB_rng hf
  have hll := hl.len
  have hrl : (restL l n).length ≤ n := (sieve_ports _ _).len
  have hrs := rest_len hl
  have hbel := below_app hl.rng (rest_below l n)
  refine stp ?_
  by_cases h : l.length = b.length
  · refine cFW (nT (dT (by omega))) (bnd (riRest_ (by omega)) ?_)
    refine bnd (a := chosM b (l ++ restL l n)) ?_ ?_
    · refine (forS_map (chosL (l ++ restL l n)) b [] (by simp; omega) ?_).trans (by simp [chosM])
      intro j r s hj hs
      have hjl : j < b.length := (List.getElem?_eq_some_iff.1 hj).1
      have hr := (hb.ok r (mem_of_get hj)).1
      refine bnd (idxO_of hj) (bnd (own_ (by omega)) (bnd (appO_of (by omega)) (bnd (a := chosL (l ++ restL l n) r) ?_ (bnd (appO_of (by simp at hs ⊢; omega)) rfl))))
      refine (forS_map (fun i : Int => el r i.toNat) (l ++ restL l n) [] (by simp; omega) ?_).trans (by simp [chosL])
      intro i x s' hi hs'
      have hil : i < (l ++ restL l n).length := (List.getElem?_eq_some_iff.1 hi).1
      have e : el (l ++ restL l n) i = x := Option.some.inj ((el_get hil).symm.trans hi)
      have h1 := hbel i hil
      rw [e] at h1
      obtain ⟨q, rfl⟩ : ∃ q : Nat, x = (q : Int) := ⟨x.toNat, by omega⟩
      rw [Int.toNat_natCast]
      rw [List.length_append] at hil
      exact bnd (idxO_of hi) (bnd (idx_el (by omega)) (bnd (appO_of (by simp at hs' ⊢; omega)) rfl))
    · have oC := chosM_ok hp.1 hb.ok hbel
      rw [List.length_append, hrs] at oC
      have hro := (redM_ok (n := n) hp.1 oC).1
      have hrc := (redM_ok (n := n) hp.1 oC).2.1
      rw [chosM_len] at hrc
      refine bnd (spReduce_ hf (Nat.le_refl n) (by omega) oC (by rw [chosM_len]; omega)) ?_
      have hloop := forO_vN (fun j => ((redM p n (chosM b (l ++ restL l n))).take j).map (fun r => r.drop l.length)) (fun j => decide (leadN (gr (redM p n (chosM b (l ++ restL l n))) j) = j)) (redM p n (chosM b (l ++ restL l n))).length 0 (t := (((0 : Int), ([] : Rows)), false)) (f := fun (k415 : Nat) (s536 : List (List Int)) =>
        (idxO (redM p n (chosM b (l ++ restL l n))) ((k415 : Nat) : Int)).bind fun a553 =>
        (F_spec_spLead a553).bind fun y557 =>
        (some (!decide (y557 = ((k415 : Nat) : Int)))).bind fun a560 =>
        cond a560
        (some (.inr ((0, []), false)))
        ((sliceO a553 ((l.length : Nat) : Int) ((a553.length : Nat) : Int)).bind fun a564 =>
          (F_spec_l1Own a564).bind fun y568 =>
          (appO s536 [y568]).bind fun a576 =>
          some (.inl a576))) (by
        intro j _ hj
        have hj' : j < (redM p n (chosM b (l ++ restL l n))).length := by omega
        have hw := (okM_gr hro hj').1
        refine bnd (idx_gr hj') (bnd (spLead_ (by omega)) (stp ?_))
        by_cases hlj : leadN (gr (redM p n (chosM b (l ++ restL l n))) j) = j
        · rw [dT hlj]
          refine cFW (nT (dT (by omega))) (bnd (sliceT (by omega) (Nat.le_refl _)) (bnd (own_ (by simp; omega)) (bnd (appO_of (by simp; omega)) ?_)))
          rw [show ∀ v : List Int, List.take (v.length - l.length) (List.drop l.length v) = List.drop l.length v from fun v => List.take_of_length_le (by rw [List.length_drop]; omega)]
          rw [List.take_add_one, gr_get hj', List.map_append, if_pos rfl]
          rfl
        · rw [dF hlj]; exact cTW (nF (dF (by omega))) rfl)
      refine sqW hloop ?_
      rw [Nat.zero_add, List.take_of_length_le (Nat.le_refl _)]
      unfold choB
      rw [dT h, Bool.true_and]
      by_cases hc : (chT p n b l).2.2 = l.length
      · obtain ⟨c1, c2⟩ := cho_rows hf hb.ok hl h hc hrs
        obtain ⟨k1, k2, k3, k4, k5, k6, k7⟩ := chT_facts hf hb.ok hl
        have hall : allN (fun j => decide (leadN (gr (redM p n (chosM b (l ++ restL l n))) j) = j)) 0 (redM p n (chosM b (l ++ restL l n))).length = true := by
          rw [allN_true]
          intro j _ hj
          rw [c1, catM_len (by rw [k1, k2]), k1] at hj
          rw [c1]
          exact dT (c2 j (by omega))
        rw [hall, if_pos rfl, c1, catM_drop (by rw [k1, k2]) k3, dT hc]
        rfl
      · have hall : allN (fun j => decide (leadN (gr (redM p n (chosM b (l ++ restL l n))) j) = j)) 0 (redM p n (chosM b (l ++ restL l n))).length = false := by
          rw [← Bool.not_eq_true, allN_true]
          intro hA
          exact hc (cho_not hf hb hl h hrs (fun i hi => of_decide_eq_true (hA i (Nat.zero_le _) (by omega))))
        rw [hall, dF hc]
        rfl
  · refine cTW (nF (dF (by omega))) ?_
    unfold choB
    rw [dF h]; rfl
def askB (p : Int) (R : Rel) (l : List Int) : Bool := rlB p R && portB l (R.1 + R.2.1)
theorem askB_ok {p : Int} {R : Rel} {l : List Int} (h : askB p R l = true) : ∃ x r, RlOk p x r R ∧ Ports l (x + r) ∧ R.1 + R.2.1 = ((x + r : Nat) : Int) := by
  unfold askB at h
  rw [Bool.and_eq_true] at h
  obtain ⟨x, r, h1⟩ := rlB_ok h.1
  have e : R.1 + R.2.1 = ((x + r : Nat) : Int) := by have := h1.left; have := h1.right; omega
  have h2 := h.2
  rw [e] at h2
  exact ⟨x, r, h1, portB_ok h2, e⟩
theorem isAsked_ {p : Int} {R : Rel} {l : List Int} (hl : l.length ≤ 1048576) : F_impl_isAsked p R l = some (askB p R l) := by
  refine bnd (a := askB p R l) ?_ rfl
  unfold askB
  refine bndB (isRelation_ p R) (fun _ => rfl) (fun h => cTW rfl ?_)
  obtain ⟨x, r, h1⟩ := rlB_ok h
  have := h1.n24
  have e : R.1 + R.2.1 = ((x + r : Nat) : Int) := by have := h1.left; have := h1.right; omega
  refine bnd (relSize_ (l := x) (r := r) (R := R) h1) (bnd (isPortList_ (by omega) (by omega)) ?_)
  rw [e]
theorem riAsked_ {p : Int} {R : Rel} {l : List Int} (hl : l.length ≤ 1048576) : F_spec_riAsked p R l = some (askB p R l) := by
  refine bnd (a := askB p R l) ?_ rfl
  unfold askB
  refine bndB (rlGood_ p R) (fun _ => rfl) (fun h => cTW rfl ?_)
  obtain ⟨x, r, h1⟩ := rlB_ok h
  have := h1.n24
  have e1 := h1.left; have e2 := h1.right
  exact bnd (addO_of (by omega) (by omega)) (bnd (riPorts_ (by omega) (by omega)) rfl)
def wIsInputChoice (p : Int) (R : Rel) (l : List Int) : Bool × Bool := if askB p R l then (choB p (R.1 + R.2.1).toNat R.2.2 l, true) else (false, false)
theorem implIsInputChoice (p : Int) (R : Rel) (l : List Int) (hl : l.length ≤ 1048576) : F_impl_IsInputChoice p R l = some (wIsInputChoice p R l) := by
  refine bnd (isAsked_ (R := R) hl) (stp ?_)
  unfold wIsInputChoice
  cases h : askB p R l with
  | false => rfl
  | true =>
    obtain ⟨x, r, h1, h2, e⟩ := askB_ok h
    have := h1.n24
    rw [e, Int.toNat_natCast]
    refine cFW rfl (bnd (relSize_ (l := x) (r := r) (R := R) h1) (bnd (choiceFunction_ (b := R.2.2) h1.hf h1.red.ok h2 (by omega) h1.len) ?_))
    cases choB p (x + r) R.2.2 l <;> rfl
theorem specIsInputChoice (p : Int) (R : Rel) (l : List Int) (hl : l.length ≤ 1048576) : F_spec_IsInputChoice p R l = some (wIsInputChoice p R l) := by
  refine bnd (riAsked_ (R := R) hl) (stp ?_)
  unfold wIsInputChoice
  cases h : askB p R l with
  | false => rfl
  | true =>
    obtain ⟨x, r, h1, h2, e⟩ := askB_ok h
    have := h1.n24
    rw [e, Int.toNat_natCast]
    refine cFW rfl (bnd (a := ((x + r : Nat) : Int)) ((addO_of (by omega) (by omega)).trans (by rw [← e])) (bnd (a := choB p (x + r) R.2.2 l) (bnd (riFunction_ (b := R.2.2) h1.hf h1.red h2 (by omega) h1.len) ?_) rfl))
    cases choB p (x + r) R.2.2 l <;> rfl
/-! ### ports that could be replaced -/
end Go.Proofs.YteikcdofblclhaaDoor
