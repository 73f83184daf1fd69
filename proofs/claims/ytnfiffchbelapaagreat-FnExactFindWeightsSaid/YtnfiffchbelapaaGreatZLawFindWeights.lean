/-
  Plain laws of AreRules, AreDecreasing. No program in sight. No condition.
-/
import Derived.Test.YtnfiffchbelapaaGreatZP45
import Derived.Test.YtnfiffchbelapaaGreatZText
namespace Go.Proofs.YtnfiffchbelapaaGreat
def nms (l : List Rul) : List ByteArray := l.map fun r => r.1
noncomputable def okRl (r : Rul) : Bool := ruleB r && (decide ((wGraphOf r.2.1).1.2.1.length ≤ 12) && decide ((wGraphOf r.2.2).1.2.1.length ≤ 12))
noncomputable def dist : List ByteArray → List Rul → Bool
  | _, [] => true
  | seen, r :: t => okRl r && (!inS seen r.1 && dist (seen ++ [r.1]) t)
noncomputable def rulesB (l : List Rul) : Bool := rng (l.length : Int) 1 20 && dist [] l
theorem dist_at {l : List Rul} {j : Nat} (hj : j < l.length) : dist (nms (l.take j)) (l.drop j) = (okRl l[j] && (!inS (nms (l.take j)) l[j].1 && dist (nms (l.take (j + 1))) (l.drop (j + 1)))) := by
  rw [List.drop_eq_getElem_cons hj]
  show (okRl l[j] && _) = _
  rw [List.take_add_one, List.getElem?_eq_getElem hj]
  unfold nms
  rw [List.map_append]; rfl
theorem names_all (l : List Rul) (s : ByteArray) : (l.all fun a => !decide (a.1 = s)) = !inS (nms l) s := by
  unfold inS nms
  rw [List.any_map]
  induction l with
  | nil => rfl
  | cons a l ih => rw [List.all_cons, List.any_cons, ih]; simp
theorem cond3 {r : Rul} : ((some (!ruleB r)).bind fun a207 =>
        cond a207
        (some true)
        ((some (decide ((12 : Int) < (((wGraphOf r.2.1).1.2.1.length : Nat) : Int)))).bind fun a210 =>
          cond a210
          (some true)
          ((some (decide ((12 : Int) < (((wGraphOf r.2.2).1.2.1.length : Nat) : Int)))).bind fun a213 =>
            some a213))) = some (!okRl r) := by
  unfold okRl
  cases ruleB r with
  | false => rfl
  | true =>
    by_cases h1 : (wGraphOf r.2.1).1.2.1.length ≤ 12
    · by_cases h2 : (wGraphOf r.2.2).1.2.1.length ≤ 12
      · rw [dT h1, dT h2]; exact stp (cFW rfl (stp (cFW (dF (by omega)) (stp (congrArg some (dF (by omega)))))))
      · rw [dT h1, dF h2]; exact stp (cFW rfl (stp (cFW (dF (by omega)) (stp (congrArg some (dT (by omega)))))))
    · rw [dF h1]; exact stp (cFW rfl (stp (cTW (dT (by omega)) rfl)))
theorem dvRules_ (l : List Rul) : F_spec_dvRules l = some (rulesB l) := by
  have loop := forO_rel (n := l.length) (s := ()) (f := fun (k2 : Nat) (_ : Unit) =>
      (idxO l ((k2 : Nat) : Int)).bind fun a156 =>
      (F_spec_rwSides (a156.1, a156.2.1, a156.2.2)).bind fun y168 =>
      ((some (!y168.2.2)).bind fun a207 =>
        cond a207
        (some true)
        ((some (decide ((12 : Int) < ((y168.1.2.1.length : Nat) : Int)))).bind fun a210 =>
          cond a210
          (some true)
          ((some (decide ((12 : Int) < ((y168.2.1.2.1.length : Nat) : Int)))).bind fun a213 =>
            some a213))).bind fun (s201 : Bool) =>
      cond s201
      (some (.inr false))
      ((sliceO l 0 ((k2 : Nat) : Int)).bind fun a220 =>
        seqO (forO (fun (k224 : Nat) (_ : Unit) =>
            (idxO a220 ((k224 : Nat) : Int)).bind fun a264 =>
            (some (decide ((a264.1 : ByteArray) = a156.1))).bind fun a276 =>
            cond a276
            (some (.inr (.inr false)))
            (some (.inl ()))) a220.length 0 ()) fun (_ : Unit) =>
        some (.inl ()))) (fun j _ => dist [] l = dist (nms (l.take j)) (l.drop j)) (fun r => r = false ∧ dist [] l = false) rfl (by
      intro j u hj hI
      have hg := List.getElem?_eq_getElem hj
      rw [dist_at hj] at hI
      generalize hr : l[j] = r at hg hI
      have hS := rwSides_ r
      -- the test
      have hc : ∃ y, F_spec_rwSides r = some y ∧ ((some (!y.2.2)).bind fun a207 =>
        cond a207
        (some true)
        ((some (decide ((12 : Int) < ((y.1.2.1.length : Nat) : Int)))).bind fun a210 =>
          cond a210
          (some true)
          ((some (decide ((12 : Int) < ((y.2.1.2.1.length : Nat) : Int)))).bind fun a213 =>
            some a213))) = some (!okRl r) := by
        cases hb : ruleB r with
        | true =>
          have := cond3 (r := r)
          rw [hb] at this
          exact ⟨_, (sides_rule hb).1, this⟩
        | false =>
          refine ⟨_, hS, ?_⟩
          have hk : okRl r = false := by unfold okRl; rw [hb]; rfl
          rw [hk]
          have hz : (if headB r = true then ((wGraphOf r.2.1).1, (wGraphOf r.2.2).1, (wGraphOf r.2.1).2 && (wGraphOf r.2.2).2) else (noG, noG, false)).2.2 = false := by
            unfold ruleB at hb
            cases hh : headB r with
            | false => rfl
            | true => rw [hh] at hb; simpa using hb
          rw [hz]; rfl
      obtain ⟨y, y1, y2⟩ := hc
      cases hk : okRl r with
      | false =>
        rw [hk] at y2 hI
        exact .inr ⟨false, bnd (idxO_of hg) (bnd y1 (bnd y2 rfl)), rfl, hI⟩
      | true =>
        rw [hk] at y2 hI
        have sl : sliceO l 0 ((j : Nat) : Int) = some (l.take j) := by
          unfold sliceO; rw [if_pos ⟨by omega, by omega, by omega⟩]
          simp
        have inner : forO (fun (k224 : Nat) (_ : Unit) =>
            (idxO (l.take j) ((k224 : Nat) : Int)).bind fun a264 =>
            (some (decide ((a264.1 : ByteArray) = r.1))).bind fun a276 =>
            cond a276
            (some (.inr (.inr false)))
            (some (.inl ()))) (l.take j).length 0 () = some (if ((l.take j).all fun a => !decide (a.1 = r.1)) then .inl () else .inr (Sum.inr false : Unit ⊕ Bool)) :=
          forO_all (fun a : Rul => !decide (a.1 = r.1)) (l.take j) 0 (fun i a hi => by
            rw [Nat.zero_add]
            refine bnd (idxO_of hi) (stp ?_)
            cases decide (a.1 = r.1) <;> rfl)
        rw [names_all] at inner
        cases hi : inS (nms (l.take j)) r.1 with
        | true =>
          rw [hi] at inner hI
          exact .inr ⟨false, bnd (idxO_of hg) (bnd y1 (bnd y2 (cFW rfl (bnd sl (sqW inner rfl))))), rfl, hI⟩
        | false =>
          rw [hi] at inner hI
          exact .inl ⟨(), bnd (idxO_of hg) (bnd y1 (bnd y2 (cFW rfl (bnd sl (sqW inner rfl))))), hI⟩)
  unfold rulesB
  rcases loop with ⟨u, h1, h2⟩ | ⟨r, h1, rfl, h2⟩
  · have hd : dist [] l = true := by rw [h2, List.drop_length]; rfl
    refine sqW h1 ?_
    rw [seqO_l]
    refine bnd (l1In _ _ _) ?_
    rw [hd, Bool.and_true]
  · refine sqW h1 ?_
    rw [h2, Bool.and_false]; rfl
theorem areRules_ (l : List Rul) : F_impl_areRules l = some (rulesB l) := by
  unfold rulesB
  refine bnd (within_ _ _ _) (stp ?_)
  cases hr : rng (l.length : Int) 1 20 with
  | false => rfl
  | true =>
    refine cFW rfl ?_
    have hl := rng_true.1 hr
    have loop := forO_rel (n := l.length) (s := ([] : List ByteArray)) (f := fun (k11 : Nat) (s218 : List ByteArray) =>
        (idxO l ((k11 : Nat) : Int)).bind fun a233 =>
        ((F_impl_isRule (a233.1, a233.2.1, a233.2.2)).bind fun y286 =>
          (some (!y286)).bind fun a289 =>
          cond a289
          (some true)
          ((some (inS s218 a233.1)).bind fun a292 =>
            cond a292
            (some true)
            ((F_impl_Rule_pattern (a233.1, a233.2.1, a233.2.2)).bind fun y295 =>
              (some (decide ((12 : Int) < ((y295.2.1.length : Nat) : Int)))).bind fun a304 =>
              cond a304
              (some true)
              ((F_impl_Rule_replacement (a233.1, a233.2.1, a233.2.2)).bind fun y307 =>
                (some (decide ((12 : Int) < ((y307.2.1.length : Nat) : Int)))).bind fun a316 =>
                some a316)))).bind fun (s280 : Bool) =>
        cond s280
        (some (.inr false))
        ((putS s218 a233.1).bind fun a324 =>
          some (.inl a324))) (fun j s => s = nms (l.take j) ∧ dist [] l = dist (nms (l.take j)) (l.drop j)) (fun r => r = false ∧ dist [] l = false) ⟨rfl, rfl⟩ (by
      rintro j s hj ⟨rfl, hI⟩
      have hg := List.getElem?_eq_getElem hj
      rw [dist_at hj] at hI
      have hn : nms (l.take (j + 1)) = nms (l.take j) ++ [l[j].1] := by
        rw [List.take_add_one, hg]; unfold nms; rw [List.map_append]; rfl
      generalize hrr : l[j] = r at hg hI hn
      have hR := isRule_ r
      cases hb : ruleB r with
      | false =>
        rw [hb] at hR
        have hk : okRl r = false := by unfold okRl; rw [hb]; rfl
        rw [hk] at hI
        exact .inr ⟨false, bnd (idxO_of hg) (bnd (a := true) (bnd hR rfl) rfl), rfl, hI⟩
      | true =>
        rw [hb] at hR
        have hp := (sides_rule hb).2.1
        have hq : F_impl_Rule_replacement r = some (wGraphOf r.2.2).1 := bnd (sides_rule hb).2.2 rfl
        cases hi : inS (nms (l.take j)) r.1 with
        | true =>
          rw [hi] at hI
          refine .inr ⟨false, bnd (idxO_of hg) (bnd (a := true) (bnd hR (stp (cFW rfl (bnd (congrArg some hi) rfl)))) rfl), rfl, ?_⟩
          rw [hI]; cases okRl r <;> rfl
        | false =>
          rw [hi] at hI
          by_cases h1 : (wGraphOf r.2.1).1.2.1.length ≤ 12
          · by_cases h2 : (wGraphOf r.2.2).1.2.1.length ≤ 12
            · have hk : okRl r = true := by unfold okRl; rw [hb, dT h1, dT h2]; rfl
              rw [hk] at hI
              refine .inl ⟨_, bnd (idxO_of hg) (bnd (a := false) (bnd hR (stp (cFW rfl (bnd (congrArg some hi) (cFW rfl (bnd hp (stp (cFW (dF (by omega)) (bnd hq (stp (congrArg some (dF (by omega))))))))))))) (cFW rfl (bnd (a := nms (l.take j) ++ [r.1]) ?_ rfl))), hn.symm, hI⟩
              unfold putS; rw [if_neg (by rw [hi]; simp)]
            · have hk : okRl r = false := by unfold okRl; rw [hb, dT h1, dF h2]; rfl
              rw [hk] at hI
              exact .inr ⟨false, bnd (idxO_of hg) (bnd (a := true) (bnd hR (stp (cFW rfl (bnd (congrArg some hi) (cFW rfl (bnd hp (stp (cFW (dF (by omega)) (bnd hq (stp (congrArg some (dT (by omega))))))))))))) rfl), rfl, hI⟩
          · have hk : okRl r = false := by unfold okRl; rw [hb, dF h1]; rfl
            rw [hk] at hI
            exact .inr ⟨false, bnd (idxO_of hg) (bnd (a := true) (bnd hR (stp (cFW rfl (bnd (congrArg some hi) (cFW rfl (bnd hp (stp (cTW (dT (by omega)) rfl)))))))) rfl), rfl, hI⟩)
    rcases loop with ⟨s, h1, _, h2⟩ | ⟨r, h1, rfl, h2⟩
    · have hd : dist [] l = true := by rw [h2, List.drop_length]; rfl
      rw [hd]
      exact sqW h1 rfl
    · rw [h2]
      exact sqW h1 rfl

/-! ### AreDecreasing -/
theorem dist_mem : ∀ {l : List Rul} {seen : List ByteArray}, dist seen l = true → ∀ r ∈ l, ruleB r = true
  | [], _, _, r, hr => by cases hr
  | a :: l, seen, h, r, hr => by
    have h : (okRl a && (!inS seen a.1 && dist (seen ++ [a.1]) l)) = true := h
    simp only [Bool.and_eq_true] at h
    rcases List.mem_cons.1 hr with rfl | hr
    · have := h.1
      unfold okRl at this
      simp only [Bool.and_eq_true] at this
      exact this.1
    · exact dist_mem h.2.2 r hr
noncomputable def wtChg (w : List Int) (r : Rul) : Int := wgt (wGraphOf r.2.2).1 w - wgt (wGraphOf r.2.1).1 w
theorem wtChg_ {w : List Int} {r : Rul} (hr : ruleB r = true) (hl : wtsB w = true) : F_spec_cpChange r w = some (wtChg w r) ∧ F_impl_Rule_weightChange r w = some (wtChg w r) := by
  obtain ⟨_, _, _, g1, g2, _, _⟩ := ruleB_facts hr
  obtain ⟨a1, a2, a3, a4⟩ := wgt_ g1 hl
  obtain ⟨b1, b2, b3, b4⟩ := wgt_ g2 hl
  exact ⟨bnd (sides_rule hr).1 (bnd b1 (bnd a1 (bnd (subO_of (by omega) (by omega)) rfl))),
    bnd (bnd (sides_rule hr).2.2 rfl) (bnd b2 (bnd (sides_rule hr).2.1 (bnd a2 (bnd (subO_of (by omega) (by omega)) rfl))))⟩
noncomputable def decB (w : List Int) (l : List Rul) : Bool := l.all fun r => decide (wtChg w r < 0)
theorem cpDecrease_ {w : List Int} {l : List Rul} (h : ∀ r ∈ l, ruleB r = true) (hl : wtsB w = true) : F_spec_cpDecrease l w = some (decB w l) := by
  unfold decB
  refine sqW (forO_all (fun r : Rul => decide (wtChg w r < 0)) l 0 (t := false) (fun j r hj => ?_)) ?_
  · rw [Nat.zero_add]
    refine bnd (idxO_of hj) (bnd (wtChg_ (h r (mem_of_get hj)) hl).1 (stp ?_))
    by_cases hc : wtChg w r < 0
    · rw [dT hc]; exact cFW (dF (by omega)) rfl
    · rw [dF hc]; exact cTW (dT (by omega)) rfl
  · cases l.all fun r => decide (wtChg w r < 0) <;> rfl
theorem areDecreasing_ {w : List Int} {l : List Rul} (h : ∀ r ∈ l, ruleB r = true) (hl : wtsB w = true) : F_impl_areDecreasing l w = some (decB w l) := by
  have key : ∃ k, F_slices_IndexFunc_impl_Rule_impl_Rule_impl_areDecreasing_1 l w = some k ∧ decide ((0 : Int) ≤ k) = !decB w l := by
    rcases forO_rel (n := l.length) (s := ()) (f := fun (k4 : Nat) (_ : Unit) =>
      (idxO l ((k4 : Nat) : Int)).bind fun a41 =>
      (F_impl_areDecreasing_1 (a41.1, a41.2.1, a41.2.2) w).bind fun y49 =>
      cond y49
      (some (.inr ((k4 : Nat) : Int)))
      (some (.inl ()))) (fun j _ => ∀ i r, i < j → l[i]? = some r → wtChg w r < 0) (fun k => 0 ≤ k ∧ decB w l = false) (fun i r hi => by omega) (by
        intro j u hj hall
        have hg := List.getElem?_eq_getElem hj
        have hm := List.getElem_mem hj
        have hp : F_impl_areDecreasing_1 l[j] w = some (decide (0 ≤ wtChg w l[j])) := bnd (wtChg_ (h _ hm) hl).2 rfl
        by_cases hc : wtChg w l[j] < 0
        · rw [dF (by omega)] at hp
          refine .inl ⟨(), bnd (idxO_of hg) (bnd hp rfl), fun i r hi hr => ?_⟩
          by_cases hij : i = j
          · subst hij
            rw [hg] at hr
            obtain rfl := Option.some.inj hr
            exact hc
          · exact hall i r (by omega) hr
        · rw [dT (by omega)] at hp
          refine .inr ⟨((j : Nat) : Int), bnd (idxO_of hg) (bnd hp rfl), by omega, ?_⟩
          cases hd : decB w l with
          | false => rfl
          | true =>
            have := List.all_eq_true.1 hd _ hm
            exact (hc (of_decide_eq_true this)).elim) with ⟨u, h1, h2⟩ | ⟨k, h1, h2, h3⟩
    · refine ⟨-1, sqW h1 rfl, ?_⟩
      have : decB w l = true := List.all_eq_true.2 fun r hr => by
        obtain ⟨i, hi, rfl⟩ := List.mem_iff_getElem.1 hr
        exact dT (h2 i _ hi (List.getElem?_eq_getElem hi))
      rw [this]; rfl
    · exact ⟨k, sqW h1 rfl, by rw [h3]; exact dT h2⟩
  obtain ⟨k, h1, h2⟩ := key
  refine bnd (a := !decB w l) (bnd h1 (stp (congrArg some h2))) (stp ?_)
  rw [Bool.not_not]
theorem rulesB_mem {l : List Rul} (h : rulesB l = true) : ∀ r ∈ l, ruleB r = true := by
  unfold rulesB at h
  rw [Bool.and_eq_true] at h
  exact dist_mem h.2
end Go.Proofs.YtnfiffchbelapaaGreat
namespace Go.Proofs.YtnfiffchbelapaaGreat
set_option linter.unusedVariables false

/-! ### the first of many -/
def ff (P : Nat → Bool) : Nat → Option Nat
  | 0 => none
  | N + 1 => match ff P N with
    | some n => some n
    | none => if P N = true then some N else none
theorem ff_none {P : Nat → Bool} : ∀ {N : Nat}, (∀ n, n < N → P n = false) → ff P N = none
  | 0, _ => rfl
  | N + 1, h => by
    unfold ff
    rw [ff_none fun n hn => h n (by omega), h N (by omega)]; rfl
theorem ff_some {P : Nat → Bool} : ∀ {N n : Nat}, n < N → P n = true → (∀ m, m < n → P m = false) → ff P N = some n
  | 0, n, h, _, _ => by omega
  | N + 1, n, h, h1, h2 => by
    unfold ff
    by_cases hn : n < N
    · rw [ff_some hn h1 h2]
    · obtain rfl : n = N := by omega
      rw [ff_none h2, h1]; rfl
/-! ### digits -/
def put (M : Nat) : List Int → Nat → List Int → List Int
  | [], _, ws => ws
  | k :: t, n, ws => put M t (n % M ^ t.length) (ws.set (k - 1).toNat ((n / M ^ t.length : Nat) : Int))
def agr (t : List Int) (a b : List Int) : Prop := a.length = b.length ∧ ∀ i : Nat, ((i : Int) + 1) ∉ t → a[i]? = b[i]?
theorem agr_refl (t a : List Int) : agr t a a := ⟨rfl, fun _ _ => rfl⟩
theorem agr_set {k : Int} {t a b : List Int} (hk : 1 ≤ k) (x : Int) (h : agr (k :: t) a b) : agr t (a.set (k - 1).toNat x) (b.set (k - 1).toNat x) := by
  refine ⟨by simp [h.1], fun i hi => ?_⟩
  rw [List.getElem?_set, List.getElem?_set, h.1]
  by_cases he : (k - 1).toNat = i
  · rw [if_pos he, if_pos he]
  · rw [if_neg he, if_neg he]
    refine h.2 i fun hm => ?_
    rcases List.mem_cons.1 hm with e | e
    · omega
    · exact hi e
theorem put_agr {M : Nat} : ∀ {t : List Int} {n : Nat} {a b : List Int}, (∀ k ∈ t, 1 ≤ k) → agr t a b → put M t n a = put M t n b
  | [], n, a, b, _, h => List.ext_getElem? fun i => h.2 i (by simp)
  | k :: t, n, a, b, hk, h => put_agr (t := t) (fun k' h' => hk k' (List.mem_cons_of_mem _ h')) (agr_set (hk k (List.mem_cons_self ..)) _ h)
theorem put_set {M : Nat} : ∀ {t : List Int} {n : Nat} {a : List Int} {p : Nat} {x : Int}, (∀ k ∈ t, 1 ≤ k) → ((p : Int) + 1) ∉ t → put M t n (a.set p x) = (put M t n a).set p x
  | [], n, a, p, x, _, _ => rfl
  | k :: t, n, a, p, x, hk, hp => by
    have hk1 := hk k (List.mem_cons_self ..)
    have hne : p ≠ (k - 1).toNat := fun e => hp (by rw [List.mem_cons]; left; omega)
    show put M t _ ((a.set p x).set _ _) = (put M t _ (a.set _ _)).set p x
    rw [List.set_comm _ _ hne, put_set (fun k' h' => hk k' (List.mem_cons_of_mem _ h')) (fun h' => hp (List.mem_cons_of_mem _ h'))]
theorem put_len {M : Nat} : ∀ {t : List Int} {n : Nat} {a : List Int}, (put M t n a).length = a.length
  | [], n, a => rfl
  | k :: t, n, a => by
    show (put M t _ _).length = _
    rw [put_len]; simp
theorem wtsB_set {a : List Int} {p : Nat} {x : Int} (h : wtsB a = true) (hx : 0 ≤ x ∧ x ≤ 1000) : wtsB (a.set p x) = true := by
  unfold wtsB at h ⊢
  rw [Bool.and_eq_true] at h ⊢
  refine ⟨by rw [List.length_set]; exact h.1, List.all_eq_true.2 fun y hy => ?_⟩
  rcases List.mem_or_eq_of_mem_set hy with hy | rfl
  · exact List.all_eq_true.1 h.2 y hy
  · exact rng_true.2 hx
theorem put_wts {M : Nat} (hM : 1 ≤ M ∧ M ≤ 4) : ∀ {t : List Int} {n : Nat} {a : List Int}, n < M ^ t.length → wtsB a = true → wtsB (put M t n a) = true
  | [], n, a, _, h => h
  | k :: t, n, a, hn, h => by
    have hpos : 0 < M ^ t.length := Nat.pow_pos (by omega)
    have hd : n / M ^ t.length < M := by
      rw [Nat.div_lt_iff_lt_mul hpos, Nat.mul_comm]
      rw [List.length_cons, Nat.pow_succ] at hn; exact hn
    exact put_wts hM (t := t) (n := n % M ^ t.length) (a := a.set (k - 1).toNat ((n / M ^ t.length : Nat) : Int)) (Nat.mod_lt _ hpos) (wtsB_set h ⟨Int.natCast_nonneg _, (show ((n / M ^ t.length : Nat) : Int) ≤ ((1000 : Nat) : Int) from Int.ofNat_le.2 (Nat.le_trans (Nat.le_of_lt hd) (by omega)))⟩)
/-! ### the program's search -/
structure KsOk (ks : List Int) : Prop where
  rg : ∀ k ∈ ks, 1 ≤ k ∧ k ≤ 14
  nd : ks.Nodup
theorem search_ {l : List Rul} {ks : List Int} {most : Int} {M : Nat} (hl : ∀ r ∈ l, ruleB r = true) (hks : KsOk ks) (hkl : ks.length ≤ 14) (hm : most + 1 = (M : Int)) (hM : 1 ≤ M ∧ M ≤ 4) :
    ∀ (t : List Int) (i fuel : Nat) (ws : List Int), ks.drop i = t → i ≤ ks.length → t.length < fuel → wtsB ws = true →
      ∃ r, F_impl_FindWeights_1_n fuel (i : Int) ks l ws most = some r ∧
        ((∃ n, n < M ^ t.length ∧ decB (put M t n ws) l = true ∧ (∀ m, m < n → decB (put M t m ws) l = false) ∧ r = (put M t n ws, true)) ∨
         ((∀ n, n < M ^ t.length → decB (put M t n ws) l = false) ∧ r.2 = false ∧ agr t ws r.1 ∧ wtsB r.1 = true))
  | [], i, fuel, ws, ht, hi, hf, hw => by
    have hil : i = ks.length := by
      have := congrArg List.length ht
      rw [List.length_drop] at this; simp at this; omega
    subst hil
    obtain ⟨fuel, rfl⟩ : ∃ f, fuel = f + 1 := ⟨fuel - 1, by omega⟩
    refine ⟨(ws, decB ws l), stp (cTW (dT rfl) (bnd (areDecreasing_ hl hw) rfl)), ?_⟩
    cases hd : decB ws l with
    | true => exact .inl ⟨0, by simp, hd, fun m h => by omega, by show (ws, true) = _; rfl⟩
    | false => exact .inr ⟨fun n _ => hd, rfl, agr_refl _ _, hw⟩
  | k :: t, i, fuel, ws, ht, hi, hf, hw => by
    have hlen := congrArg List.length ht
    rw [List.length_drop, List.length_cons] at hlen
    have hil : i < ks.length := by omega
    obtain ⟨fuel, rfl⟩ : ∃ f, fuel = f + 1 := ⟨fuel - 1, by omega⟩
    have hki : ks[i]? = some k := by
      have := congrArg (fun q : List Int => q[0]?) ht
      simpa using this
    have ht2 : ks.drop (i + 1) = t := by
      rw [List.drop_add_one_eq_tail_drop, ht]; rfl
    have hkr := hks.rg k (mem_of_get hki)
    have htr : ∀ k' ∈ t, 1 ≤ k' := fun k' h' => (hks.rg k' (List.mem_of_mem_drop (by rw [ht2]; exact h'))).1
    have hktr : ∀ k' ∈ k :: t, 1 ≤ k' := fun k' h' => by
      rcases List.mem_cons.1 h' with rfl | h'
      · exact hkr.1
      · exact htr k' h'
    have hpos : 0 < M ^ t.length := Nat.pow_pos (by omega)
    have hput : ∀ w m, w < M → m < M ^ t.length → put M (k :: t) (w * M ^ t.length + m) ws = put M t m (ws.set (k - 1).toNat (w : Int)) := by
      intro w m hw' hm'
      show put M t _ (ws.set _ _) = _
      have e1 : (w * M ^ t.length + m) % M ^ t.length = m := by rw [Nat.mul_comm, Nat.mul_add_mod, Nat.mod_eq_of_lt hm']
      have e2 : (w * M ^ t.length + m) / M ^ t.length = w := by rw [Nat.mul_comm, Nat.mul_add_div hpos, Nat.div_eq_of_lt hm', Nat.add_zero]
      rw [e1, e2]
    have hwl : ws.length = 14 := by
      unfold wtsB at hw; rw [Bool.and_eq_true] at hw; exact of_decide_eq_true hw.1
    have loop := forO_rel (n := M) (s := ws) (τ := List Int × Bool) (f := fun (k14 : Nat) (s73 : List Int) =>
                (idxO ks (i : Int)).bind fun a91 =>
                (subO a91 1).bind fun a93 =>
                (setO s73 a93 ((k14 : Nat) : Int)).bind fun a101 =>
                (addO (i : Int) 1).bind fun a104 =>
                (F_impl_FindWeights_1_n fuel a104 ks l a101 most).bind fun y106 =>
                cond y106.2
                (some (.inr (y106.1, true)))
                (some (.inl y106.1)))
      (fun w s => agr (k :: t) ws s ∧ wtsB s = true ∧ ∀ n, n < w * M ^ t.length → decB (put M (k :: t) n ws) l = false)
      (fun r => ∃ n, n < M ^ (k :: t).length ∧ decB (put M (k :: t) n ws) l = true ∧ (∀ m, m < n → decB (put M (k :: t) m ws) l = false) ∧ r = (put M (k :: t) n ws, true))
      ⟨agr_refl _ _, hw, fun n hn => by simp at hn⟩ (by
        rintro w s hwM ⟨ha, hs, hno⟩
        have hsl : s.length = 14 := by rw [← ha.1]; exact hwl
        have hset : setO s (k - 1) (w : Int) = some (s.set (k - 1).toNat (w : Int)) := by
          have := setO_of (xs := s) (k := (k - 1).toNat) (w : Int) (by omega)
          rwa [show (((k - 1).toNat : Nat) : Int) = k - 1 by omega] at this
        obtain ⟨r, r1, r2⟩ := search_ hl hks hkl hm hM t (i + 1) fuel (s.set (k - 1).toNat (w : Int)) ht2 (by omega) (by rw [List.length_cons] at hf; omega) (wtsB_set hs ⟨by omega, by omega⟩)
        have hag := agr_set hkr.1 (w : Int) ha
        have hpe : ∀ m, m < M ^ t.length → put M t m (s.set (k - 1).toNat (w : Int)) = put M (k :: t) (w * M ^ t.length + m) ws := fun m hm' => by
          rw [hput w m hwM hm', put_agr htr hag]
        have hcall : ∀ {o}, (cond r.2 (some (.inr (r.1, true))) (some (.inl r.1)) : Option (List Int ⊕ (List Int × Bool))) = some o → ((idxO ks (i : Int)).bind fun a91 =>
                (subO a91 1).bind fun a93 =>
                (setO s a93 ((w : Nat) : Int)).bind fun a101 =>
                (addO (i : Int) 1).bind fun a104 =>
                (F_impl_FindWeights_1_n fuel a104 ks l a101 most).bind fun y106 =>
                cond y106.2
                (some (.inr (y106.1, true)))
                (some (.inl y106.1))) = some o := fun h => by
          refine bnd (idxO_of hki) (bnd (subO_of (by omega) (by omega)) (bnd hset (bnd (addO_of (by omega) (by omega)) (bnd ?_ h))))
          rw [show (i : Int) + 1 = ((i + 1 : Nat) : Int) by omega]; exact r1
        rcases r2 with ⟨n, n1, n2, n3, rfl⟩ | ⟨n1, n2, n3, n4⟩
        · refine .inr ⟨(put M t n (s.set (k - 1).toNat (w : Int)), true), hcall rfl, w * M ^ t.length + n, ?_, ?_, fun m hm' => ?_, ?_⟩
          · rw [List.length_cons, Nat.pow_succ]
            have : w * M ^ t.length + M ^ t.length ≤ M * M ^ t.length := by
              have := Nat.mul_le_mul_right (M ^ t.length) (show w + 1 ≤ M by omega)
              rwa [Nat.succ_mul] at this
            rw [Nat.mul_comm (M ^ t.length) M]; omega
          · rw [← hpe n n1]; exact n2
          · by_cases hlt : m < w * M ^ t.length
            · exact hno m hlt
            · have := n3 (m - w * M ^ t.length) (by omega)
              rw [hpe _ (by omega)] at this
              rwa [show w * M ^ t.length + (m - w * M ^ t.length) = m by omega] at this
          · rw [hpe n n1]
        · refine .inl ⟨r.1, hcall (by rw [n2]; rfl), ⟨?_, fun j hj => ?_⟩, n4, fun n hn => ?_⟩
          · rw [← n3.1, List.length_set]; exact ha.1
          · have hj1 : ((j : Int) + 1) ∉ t := fun h' => hj (List.mem_cons_of_mem _ h')
            have hj2 : (k - 1).toNat ≠ j := fun e => hj (by rw [List.mem_cons]; left; omega)
            rw [ha.2 j hj, ← n3.2 j hj1, List.getElem?_set, if_neg hj2]
          · by_cases hlt : n < w * M ^ t.length
            · exact hno n hlt
            · rw [Nat.succ_mul] at hn
              have := n1 (n - w * M ^ t.length) (by omega)
              rw [hpe _ (by omega)] at this
              rwa [show w * M ^ t.length + (n - w * M ^ t.length) = n by omega] at this)
    have hadd : addO most 1 = some (M : Int) := by rw [addO_of (by omega) (by omega), hm]
    have hcond : decide ((i : Int) = ((ks.length : Nat) : Int)) = false := dF (by omega)
    rcases loop with ⟨s, h1, h2, h3, h4⟩ | ⟨r, h1, h2⟩
    · refine ⟨(s, false), stp (cFW hcond (bnd hadd (bnd (cI_of (x := (M : Int)) ⟨by omega, by omega⟩) ?_))), .inr ⟨fun n hn => h4 n ?_, rfl, h2, h3⟩⟩
      · rw [Int.toNat_natCast]; exact sqW h1 rfl
      · rw [List.length_cons, Nat.pow_succ, Nat.mul_comm] at hn; exact hn
    · refine ⟨r, stp (cFW hcond (bnd hadd (bnd (cI_of (x := (M : Int)) ⟨by omega, by omega⟩) ?_))), .inl h2⟩
      rw [Int.toNat_natCast]; exact sqW h1 rfl
/-! ### the reference's search -/
theorem digits_ {ks : List Int} {most : Int} {M n : Nat} {z : List Int} (hks : KsOk ks) (hkl : ks.length ≤ 14) (hm : most + 1 = (M : Int)) (hM : 1 ≤ M ∧ M ≤ 4) (hz : z.length = 14) (hn : n < M ^ ks.length) :
    whileO (fun (s2027 : List Int × Int × Int) =>
                (some (decide ((0 : Int) ≤ s2027.2.2))).bind fun a2036 =>
                cond a2036
                ((idxO ks s2027.2.2).bind fun a2048 =>
                  (addO most 1).bind fun a2050 =>
                  (remO s2027.2.1 a2050).bind fun a2052 =>
                  (subO a2048 1).bind fun a2054 =>
                  (setO s2027.1 a2054 a2052).bind fun a2062 =>
                  (addO most 1).bind fun a2065 =>
                  (quoO s2027.2.1 a2065).bind fun a2067 =>
                  (subO s2027.2.2 1).bind fun a2069 =>
                  some (.inl (a2062, a2067, a2069)))
                (some (.inr s2027.1))) (z, (n : Int), (ks.length : Int) - 1) = some (put M ks n z) := by
  have hpw : M ^ ks.length ≤ 4 ^ 14 := Nat.le_trans (Nat.pow_le_pow_left hM.2 _) (Nat.pow_le_pow_right (by decide) hkl)
  have h4 : (4 : Nat) ^ 14 = 268435456 := by decide
  have hadd : addO most 1 = some (M : Int) := by rw [addO_of (by omega) (by omega), hm]
  have := whileO_is (f := fun (s2027 : List Int × Int × Int) =>
                (some (decide ((0 : Int) ≤ s2027.2.2))).bind fun a2036 =>
                cond a2036
                ((idxO ks s2027.2.2).bind fun a2048 =>
                  (addO most 1).bind fun a2050 =>
                  (remO s2027.2.1 a2050).bind fun a2052 =>
                  (subO a2048 1).bind fun a2054 =>
                  (setO s2027.1 a2054 a2052).bind fun a2062 =>
                  (addO most 1).bind fun a2065 =>
                  (quoO s2027.2.1 a2065).bind fun a2067 =>
                  (subO s2027.2.2 1).bind fun a2069 =>
                  some (.inl (a2062, a2067, a2069)))
                (some (.inr s2027.1))) (fun q => (put M (ks.drop (ks.length - q)) (n % M ^ q) z, ((n / M ^ q : Nat) : Int), (ks.length : Int) - 1 - (q : Int))) (t := put M ks n z) ks.length (by
      intro q hq
      dsimp only
      have hi : ks.length - 1 - q < ks.length := by omega
      have hg := List.getElem?_eq_getElem hi
      generalize hkk : ks[ks.length - 1 - q] = k at hg
      have hkm : k ∈ ks := mem_of_get hg
      have hkr := hks.rg k hkm
      have hdrop : ks.drop (ks.length - (q + 1)) = k :: ks.drop (ks.length - q) := by
        have e := List.drop_eq_getElem_cons hi
        rw [hkk] at e
        rw [show ks.length - (q + 1) = ks.length - 1 - q by omega, e, show ks.length - 1 - q + 1 = ks.length - q by omega]
      have hnin : k ∉ ks.drop (ks.length - q) := by
        have hnd := hks.nd
        rw [← List.take_append_drop (ks.length - (q + 1)) ks, hdrop] at hnd
        exact (List.nodup_cons.1 (List.nodup_append.1 hnd).2.1).1
      have hdl : (ks.drop (ks.length - q)).length = q := by rw [List.length_drop]; omega
      have hpos : 0 < M ^ q := Nat.pow_pos (by omega)
      have hnq : n / M ^ q ≤ n := Nat.div_le_self _ _
      have hstep : put M (ks.drop (ks.length - (q + 1))) (n % M ^ (q + 1)) z = (put M (ks.drop (ks.length - q)) (n % M ^ q) z).set (k - 1).toNat (((n / M ^ q) % M : Nat) : Int) := by
        rw [hdrop]
        show put M _ _ (z.set _ _) = _
        rw [hdl, Nat.mod_pow_succ, Nat.add_mul_mod_self_left, Nat.mod_mod]
        have e1 : (n % M ^ q + M ^ q * (n / M ^ q % M)) / M ^ q = n / M ^ q % M := by
          rw [Nat.add_mul_div_left _ _ hpos, Nat.div_eq_of_lt (Nat.mod_lt _ hpos), Nat.zero_add]
        rw [e1]
        exact put_set (fun k' h' => (hks.rg k' (List.mem_of_mem_drop h')).1) (by rw [show (((k - 1).toNat : Nat) : Int) + 1 = k by omega]; exact hnin)
      have hset : setO (put M (ks.drop (ks.length - q)) (n % M ^ q) z) (k - 1) (((n / M ^ q) % M : Nat) : Int) = some ((put M (ks.drop (ks.length - q)) (n % M ^ q) z).set (k - 1).toNat (((n / M ^ q) % M : Nat) : Int)) := by
        have := setO_of (xs := put M (ks.drop (ks.length - q)) (n % M ^ q) z) (k := (k - 1).toNat) (((n / M ^ q) % M : Nat) : Int) (by rw [put_len]; omega)
        rwa [show (((k - 1).toNat : Nat) : Int) = k - 1 by omega] at this
      have hrem : remO ((n / M ^ q : Nat) : Int) (M : Int) = some (((n / M ^ q) % M : Nat) : Int) := by
        rw [remO_of (by omega)]; rfl
      have hquo : quoO ((n / M ^ q : Nat) : Int) (M : Int) = some ((n / M ^ (q + 1) : Nat) : Int) := by
        unfold quoO
        rw [if_neg (by omega)]
        rw [show ((n / M ^ q : Nat) : Int).tdiv (M : Int) = ((n / M ^ q / M : Nat) : Int) from rfl, Nat.div_div_eq_div_mul, ← Nat.pow_succ]
        exact cI_of ⟨Int.le_trans (by decide) (Int.natCast_nonneg _), Int.le_trans (Int.ofNat_le.2 (Nat.div_le_self _ _)) (by omega)⟩
      refine stp (cTW (dT (by omega)) ?_)
      rw [show (ks.length : Int) - 1 - (q : Int) = ((ks.length - 1 - q : Nat) : Int) by omega]
      refine bnd (idxO_of hg) (bnd hadd (bnd hrem (bnd (subO_of (by omega) (by omega)) (bnd hset (bnd hadd (bnd hquo (bnd (subO_of (by omega) (by omega)) ?_)))))))
      rw [hstep, show ((ks.length - 1 - q : Nat) : Int) - 1 = (ks.length : Int) - 1 - ((q + 1 : Nat) : Int) by omega]) (by
      dsimp only
      refine stp (cFW (dF (by omega)) ?_)
      rw [Nat.sub_self, List.drop_zero, Nat.mod_eq_of_lt hn])
  rw [Nat.sub_zero, List.drop_length, Nat.pow_zero, Nat.div_one] at this
  simpa [put] using this
/-! ### the kinds -/
noncomputable def kndL (l : List Rul) : List Int := (l.map fun r => (wGraphOf r.2.1).1.2.1.map fun e => e.1).flatten
theorem kndL_rg {l : List Rul} (hl : ∀ r ∈ l, ruleB r = true) : ∀ k ∈ kndL l, 1 ≤ k ∧ k ≤ 14 := by
  intro k hk
  unfold kndL at hk
  obtain ⟨x, hx, hkx⟩ := List.mem_flatten.1 hk
  obtain ⟨r, hr, rfl⟩ := List.mem_map.1 hx
  obtain ⟨e, he, rfl⟩ := List.mem_map.1 hkx
  obtain ⟨_, _, _, g1, _, _, _⟩ := ruleB_facts (hl r hr)
  obtain ⟨n, hg⟩ := gOk_facts g1
  have := List.all_eq_true.1 hg.ar e he
  unfold arB genB at this
  simp only [Bool.and_eq_true] at this
  have := rng_true.1 this.1.1
  omega
theorem kndL_succ {l : List Rul} {j : Nat} (hj : j < l.length) : kndL (l.take (j + 1)) = kndL (l.take j) ++ (wGraphOf l[j].2.1).1.2.1.map fun e => e.1 := by
  unfold kndL
  rw [List.take_add_one, List.getElem?_eq_getElem hj, Option.toList_some, List.map_append, List.flatten_append]
  simp
theorem Srt_le {l : List Int} (h : Srt l) (hr : ∀ k ∈ l, 1 ≤ k ∧ k ≤ 14) : l.length ≤ 15 := Srt.len (n := 15) h fun x hx => by have := hr x hx; omega
theorem specKinds {l : List Rul} (hl : ∀ r ∈ l, ruleB r = true) : ∃ r, forS (fun (k35 : Nat) (s305 : List Int) =>
        (idxO l ((k35 : Nat) : Int)).bind fun a322 =>
        (F_spec_rwSides (a322.1, a322.2.1, a322.2.2)).bind fun y334 =>
        (forS (fun (k357 : Nat) (s409 : List Int) =>
            (idxO y334.1.2.1 ((k357 : Nat) : Int)).bind fun a425 =>
            (F_spec_l1Put s409 a425.1).bind fun y437 =>
            some y437) y334.1.2.1.length 0 s305).bind fun (s444 : List Int) =>
        some s444) l.length 0 [] = some r ∧ Srt r ∧ ∀ y, y ∈ r ↔ y ∈ kndL l := by
  have hrg := kndL_rg hl
  obtain ⟨r, h1, h2, h3⟩ := forS_rel (n := l.length) (s := ([] : List Int)) (f := fun (k35 : Nat) (s305 : List Int) =>
        (idxO l ((k35 : Nat) : Int)).bind fun a322 =>
        (F_spec_rwSides (a322.1, a322.2.1, a322.2.2)).bind fun y334 =>
        (forS (fun (k357 : Nat) (s409 : List Int) =>
            (idxO y334.1.2.1 ((k357 : Nat) : Int)).bind fun a425 =>
            (F_spec_l1Put s409 a425.1).bind fun y437 =>
            some y437) y334.1.2.1.length 0 s305).bind fun (s444 : List Int) =>
        some s444) (fun j r => Srt r ∧ ∀ y, y ∈ r ↔ y ∈ kndL (l.take j)) ⟨List.Pairwise.nil, fun y => by simp [kndL]⟩ (by
    rintro j s hj ⟨s1, s2⟩
    have hg := List.getElem?_eq_getElem hj
    have hr := hl _ (List.getElem_mem hj)
    have hks := kndL_succ hj
    have hsub : ∀ k ∈ kndL (l.take (j + 1)), 1 ≤ k ∧ k ≤ 14 := kndL_rg (fun r h => hl r (List.mem_of_mem_take h))
    obtain ⟨t, t1, t2, t3⟩ := forS_rel (n := (wGraphOf l[j].2.1).1.2.1.length) (s := s) (f := fun (k357 : Nat) (s409 : List Int) =>
            (idxO (wGraphOf l[j].2.1).1.2.1 ((k357 : Nat) : Int)).bind fun a425 =>
            (F_spec_l1Put s409 a425.1).bind fun y437 =>
            some y437) (fun i r => Srt r ∧ ∀ y, y ∈ r ↔ y ∈ s ∨ y ∈ ((wGraphOf l[j].2.1).1.2.1.take i).map fun e => e.1) ⟨s1, fun y => by simp⟩ (by
      rintro i r hi ⟨r1, r2⟩
      have hge := List.getElem?_eq_getElem hi
      have hrl : r.length ≤ 15 := Srt_le r1 fun k hk => hsub k (by
        rw [hks, List.mem_append]
        rcases (r2 k).1 hk with h | h
        · exact .inl ((s2 k).1 h)
        · right
          obtain ⟨e, he, rfl⟩ := List.mem_map.1 h
          exact List.mem_map.2 ⟨e, List.mem_of_mem_take he, rfl⟩)
      obtain ⟨q, q1, q2, q3, _, _⟩ := l1Put_ (wGraphOf l[j].2.1).1.2.1[i].1 r1 (by omega)
      refine ⟨q, bnd (idxO_of hge) (bnd q1 rfl), q2, fun y => ?_⟩
      rw [q3 y, r2 y, List.take_add_one, hge, Option.toList_some, List.map_append, List.mem_append, or_assoc]
      simp)
    refine ⟨t, bnd (idxO_of hg) (bnd (sides_rule hr).1 (bnd t1 rfl)), t2, fun y => ?_⟩
    rw [t3 y, hks, List.mem_append, s2 y, List.take_of_length_le (Nat.le_refl _)])
  rw [List.take_of_length_le (Nat.le_refl _)] at h3
  exact ⟨r, h1, h2, h3⟩
theorem implKinds {l : List Rul} (hl : ∀ r ∈ l, ruleB r = true) : ∃ s, forS (fun (k46 : Nat) (s361 : List Bool) =>
        (idxO l ((k46 : Nat) : Int)).bind fun a376 =>
        (F_impl_Rule_pattern (a376.1, a376.2.1, a376.2.2)).bind fun y388 =>
        (forS (fun (k397 : Nat) (s485 : List Bool) =>
            (idxO y388.2.1 ((k397 : Nat) : Int)).bind fun a500 =>
            (setO s485 a500.1 true).bind fun a518 =>
            some a518) y388.2.1.length 0 s361).bind fun (s523 : List Bool) =>
        some s523) l.length 0 (tabl 15 fun _ => false) = some s ∧ s.length = 15 ∧ ∀ y, M s y ↔ y ∈ kndL l := by
  obtain ⟨r, h1, h2, h3⟩ := forS_rel (n := l.length) (s := tabl 15 fun _ => false) (f := fun (k46 : Nat) (s361 : List Bool) =>
        (idxO l ((k46 : Nat) : Int)).bind fun a376 =>
        (F_impl_Rule_pattern (a376.1, a376.2.1, a376.2.2)).bind fun y388 =>
        (forS (fun (k397 : Nat) (s485 : List Bool) =>
            (idxO y388.2.1 ((k397 : Nat) : Int)).bind fun a500 =>
            (setO s485 a500.1 true).bind fun a518 =>
            some a518) y388.2.1.length 0 s361).bind fun (s523 : List Bool) =>
        some s523) (fun j s => s.length = 15 ∧ ∀ y, M s y ↔ y ∈ kndL (l.take j)) ⟨tabl_len _ _, fun y => ⟨fun h => (M_none 15 y h).elim, fun h => by simp [kndL] at h⟩⟩ (by
    rintro j s hj ⟨s1, s2⟩
    have hg := List.getElem?_eq_getElem hj
    have hr := hl _ (List.getElem_mem hj)
    have hks := kndL_succ hj
    have hsub : ∀ k ∈ kndL (l.take (j + 1)), 1 ≤ k ∧ k ≤ 14 := kndL_rg (fun r h => hl r (List.mem_of_mem_take h))
    obtain ⟨t, t1, t2, t3⟩ := forS_rel (n := (wGraphOf l[j].2.1).1.2.1.length) (s := s) (f := fun (k397 : Nat) (s485 : List Bool) =>
            (idxO (wGraphOf l[j].2.1).1.2.1 ((k397 : Nat) : Int)).bind fun a500 =>
            (setO s485 a500.1 true).bind fun a518 =>
            some a518) (fun i r => r.length = 15 ∧ ∀ y, M r y ↔ M s y ∨ y ∈ ((wGraphOf l[j].2.1).1.2.1.take i).map fun e => e.1) ⟨s1, fun y => by simp⟩ (by
      rintro i r hi ⟨r1, r2⟩
      have hge := List.getElem?_eq_getElem hi
      have hkr := hsub (wGraphOf l[j].2.1).1.2.1[i].1 (by
        rw [hks, List.mem_append]
        exact .inr (List.mem_map.2 ⟨_, List.getElem_mem hi, rfl⟩))
      obtain ⟨m1, m2⟩ := M_set (s := r) (x := (wGraphOf l[j].2.1).1.2.1[i].1) (by omega) (by omega)
      refine ⟨_, bnd (idxO_of hge) (bnd m1 rfl), by rw [List.length_set]; exact r1, fun y => ?_⟩
      rw [m2 y, r2 y, List.take_add_one, hge, Option.toList_some, List.map_append, List.mem_append, or_assoc]
      simp)
    refine ⟨t, bnd (idxO_of hg) (bnd (sides_rule hr).2.1 (bnd t1 rfl)), t2, fun y => ?_⟩
    rw [t3 y, hks, List.mem_append, s2 y, List.take_of_length_le (Nat.le_refl _)])
  rw [List.take_of_length_le (Nat.le_refl _)] at h3
  exact ⟨r, h1, h2, h3⟩
open Classical in
noncomputable def wFindWeights (l : List Rul) (most : Int) : List Int × Bool :=
  if h : rulesB l = true ∧ rng most 0 3 = true then
    (let ks := Classical.choose (specKinds (rulesB_mem h.1))
    if ks.length ≤ 6 then (match ff (fun n => decB (put (most + 1).toNat ks n (List.replicate 14 0)) l) ((most + 1).toNat ^ ks.length) with
      | some n => (put (most + 1).toNat ks n (List.replicate 14 0), true)
      | none => ([], false)) else ([], false))
  else ([], false)
theorem fw_main {l : List Rul} {most : Int} (h1 : rulesB l = true) (h2 : rng most 0 3 = true) : ∃ (ks : List Int) (m : Nat),
    most + 1 = (m : Int) ∧ 1 ≤ m ∧ m ≤ 4 ∧ KsOk ks ∧ Srt ks ∧ ks.length ≤ 15 ∧ (∀ y, y ∈ ks ↔ y ∈ kndL l) ∧
    forS (fun (k35 : Nat) (s305 : List Int) =>
        (idxO l ((k35 : Nat) : Int)).bind fun a322 =>
        (F_spec_rwSides (a322.1, a322.2.1, a322.2.2)).bind fun y334 =>
        (forS (fun (k357 : Nat) (s409 : List Int) =>
            (idxO y334.1.2.1 ((k357 : Nat) : Int)).bind fun a425 =>
            (F_spec_l1Put s409 a425.1).bind fun y437 =>
            some y437) y334.1.2.1.length 0 s305).bind fun (s444 : List Int) =>
        some s444) l.length 0 [] = some ks ∧
    wFindWeights l most = if ks.length ≤ 6 then (match ff (fun n => decB (put m ks n (List.replicate 14 0)) l) (m ^ ks.length) with
      | some n => (put m ks n (List.replicate 14 0), true)
      | none => ([], false)) else ([], false) := by
  have hm := rng_true.1 h2
  have hsp := Classical.choose_spec (specKinds (rulesB_mem h1))
  obtain ⟨k1, k2, k3⟩ := hsp
  have hrg : ∀ k ∈ Classical.choose (specKinds (rulesB_mem h1)), 1 ≤ k ∧ k ≤ 14 := fun k hk => kndL_rg (rulesB_mem h1) k ((k3 k).1 hk)
  refine ⟨Classical.choose (specKinds (rulesB_mem h1)), (most + 1).toNat, by omega, by omega, by omega, ⟨hrg, k2.nd⟩, k2, Srt_le k2 hrg, k3, k1, ?_⟩
  unfold wFindWeights
  rw [dif_pos ⟨h1, h2⟩]
theorem wts0 : wtsB (List.replicate 14 0) = true := by decide
theorem specFindWeights (l : List Rul) (most : Int) : F_spec_FindWeights l most = some (wFindWeights l most) := by
  have hmx : maxN = 1099511627776 := rfl
  refine bnd (a := !(rulesB l && rng most 0 3)) (bndN (dvRules_ l) (fun _ => rfl) (fun _ => stp (cFW rfl (bnd (l1In _ _ _) rfl)))) ?_
  cases h1 : rulesB l with
  | false => unfold wFindWeights; rw [dif_neg (fun h => by rw [h1] at h; cases h.1)]; rfl
  | true =>
    cases h2 : rng most 0 3 with
    | false => unfold wFindWeights; rw [dif_neg (fun h => by rw [h2] at h; cases h.2)]; rfl
    | true =>
      obtain ⟨ks, m, hm, m1, m4, hks, hsrt, hkl, hmem, hk, hw⟩ := fw_main h1 h2
      have hmo := rng_true.1 h2
      rw [hw]
      refine cFW rfl (bnd hk (stp ?_))
      by_cases h6 : ks.length ≤ 6
      case neg => rw [if_neg h6]; exact cTW (dT (by omega)) rfl
      rw [if_pos h6]
      have hpw : m ^ ks.length ≤ 4 ^ 6 := Nat.le_trans (Nat.pow_le_pow_left m4 _) (Nat.pow_le_pow_right (by decide) h6)
      have h46 : (4 : Nat) ^ 6 = 4096 := by decide
      have hadd : addO most 1 = some (m : Int) := by rw [addO_of (by omega) (by omega), hm]
      have hall := forS_is (n := ks.length) (f := fun (k455 : Nat) (s468 : Int) =>
          (addO most 1).bind fun a477 =>
          (mulO s468 a477).bind fun a479 =>
          some a479) (fun j => ((m ^ j : Nat) : Int)) (fun j hj => by
        have hle : m ^ (j + 1) ≤ m ^ ks.length := Nat.pow_le_pow_right m1 (by omega)
        refine bnd hadd (bnd (a := ((m ^ (j + 1) : Nat) : Int)) ?_ rfl)
        rw [Nat.pow_succ, Int.natCast_mul]
        refine mulO_of ?_ ?_
        · rw [← Int.natCast_mul]; exact Int.le_trans (by decide) (Int.natCast_nonneg _)
        · rw [← Int.natCast_mul, ← Nat.pow_succ]
          exact Int.le_trans (Int.ofNat_le.2 hle) (by omega))
      rw [Nat.pow_zero] at hall
      obtain ⟨t, t1, t2⟩ := whileO_num (s := (0 : Int)) (τ := Unit ⊕ (List Int × Bool)) (f := fun (s1810 : Int) =>
          (some (decide (s1810 < ((m ^ ks.length : Nat) : Int)))).bind fun a1819 =>
          cond a1819
          ((makeO 14 (0 : Int)).bind fun a1824 =>
            ((subO ((ks.length : Nat) : Int) 1).bind fun a1953 =>
              whileO (fun (s2027 : List Int × Int × Int) =>
                (some (decide ((0 : Int) ≤ s2027.2.2))).bind fun a2036 =>
                cond a2036
                ((idxO ks s2027.2.2).bind fun a2048 =>
                  (addO most 1).bind fun a2050 =>
                  (remO s2027.2.1 a2050).bind fun a2052 =>
                  (subO a2048 1).bind fun a2054 =>
                  (setO s2027.1 a2054 a2052).bind fun a2062 =>
                  (addO most 1).bind fun a2065 =>
                  (quoO s2027.2.1 a2065).bind fun a2067 =>
                  (subO s2027.2.2 1).bind fun a2069 =>
                  some (.inl (a2062, a2067, a2069)))
                (some (.inr s2027.1))) (a1824, s1810, a1953)).bind fun (s1947 : List Int) =>
            (F_spec_cpDecrease l s1947).bind fun y2073 =>
            cond y2073
            (some (.inr (.inr (s1947, true))))
            ((addO s1810 1).bind fun a2077 =>
              some (.inl a2077)))
          (some (.inr (.inl ())))) (fun j s => s = (j : Int) ∧ ∀ n, n < j → decB (put m ks n (List.replicate 14 0)) l = false)
        (fun t => t = match ff (fun n => decB (put m ks n (List.replicate 14 0)) l) (m ^ ks.length) with
          | some n => .inr (put m ks n (List.replicate 14 0), true)
          | none => .inl ()) (m ^ ks.length) (by
          rintro j s hj ⟨rfl, hno⟩
          by_cases hjn : j < m ^ ks.length
          · have hd := digits_ (z := List.replicate 14 0) hks (by omega) hm ⟨m1, m4⟩ (by simp) hjn
            have hwt := put_wts ⟨m1, m4⟩ (a := List.replicate 14 0) hjn wts0
            have hdec := cpDecrease_ (rulesB_mem h1) hwt
            have hmk : makeO 14 (0 : Int) = some (List.replicate 14 0) := makeO_of (n := 14) 0 (by omega)
            cases hb : decB (put m ks j (List.replicate 14 0)) l with
            | true =>
              rw [hb] at hdec
              refine .inr ⟨_, stp (cTW (dT (by omega)) (bnd hmk (bnd (bnd (subO_of (by omega) (by omega)) hd) (bnd hdec rfl)))), ?_⟩
              rw [ff_some hjn hb hno]
            | false =>
              rw [hb] at hdec
              refine .inl ⟨_, stp (cTW (dT (by omega)) (bnd hmk (bnd (bnd (subO_of (by omega) (by omega)) hd) (bnd hdec (cFW rfl (bnd (addO_of (by omega) (by omega)) rfl)))))), ⟨by omega, fun n hn => ?_⟩, hjn⟩
              by_cases h' : n < j
              · exact hno n h'
              · obtain rfl : n = j := by omega
                exact hb
          · refine .inr ⟨.inl (), stp (cFW (dF (by omega)) rfl), ?_⟩
            rw [ff_none fun n hn => hno n (by omega)]) ⟨rfl, fun n hn => by omega⟩
      refine cFW (dF (by omega)) (bnd hall ?_)
      rw [t2] at t1
      refine sqW t1 ?_
      cases ff (fun n => decB (put m ks n (List.replicate 14 0)) l) (m ^ ks.length) <;> rfl
theorem implFindWeights (l : List Rul) (most : Int) : F_impl_FindWeights l most = some (wFindWeights l most) := by
  have hmx : maxN = 1099511627776 := rfl
  refine bnd (a := !(rulesB l && rng most 0 3)) (bndN (areRules_ l) (fun _ => rfl) (fun _ => stp (cFW rfl (bnd (within_ _ _ _) rfl)))) ?_
  cases h1 : rulesB l with
  | false => unfold wFindWeights; rw [dif_neg (fun h => by rw [h1] at h; cases h.1)]; rfl
  | true =>
    cases h2 : rng most 0 3 with
    | false => unfold wFindWeights; rw [dif_neg (fun h => by rw [h2] at h; cases h.2)]; rfl
    | true =>
      obtain ⟨ks, m, hm, m1, m4, hks, hsrt, hkl, hmem, hk, hw⟩ := fw_main h1 h2
      have hmo := rng_true.1 h2
      obtain ⟨s, s1, s2, s3⟩ := implKinds (rulesB_mem h1)
      obtain ⟨r, r1, r2, r3⟩ := marked_ (s := s) (by omega)
      have hrk : r = ks := r2.uniq hsrt fun y => by rw [r3 y, s3 y, hmem y]
      subst hrk
      have hmk : makeO 15 (false : Bool) = some (tabl 15 fun _ => false) := tabl_make (n := 15) false (by omega)
      rw [hw]
      refine cFW rfl (bnd hmk (bnd s1 (bnd r1 (stp ?_))))
      by_cases h6 : r.length ≤ 6
      case neg => rw [if_neg h6]; exact cTW (dT (by omega)) rfl
      rw [if_pos h6]
      have hz : F_impl_zeros 14 = some (List.replicate 14 0) := bnd (makeO_of (n := 14) 0 (by omega)) rfl
      obtain ⟨q, q1, q2⟩ := search_ (rulesB_mem h1) hks (by omega) hm ⟨m1, m4⟩ r 0 1000000 (List.replicate 14 0) rfl (Nat.zero_le _) (by omega) wts0
      refine cFW (dF (by omega)) (bnd hz (bnd (show F_impl_FindWeights_1 0 r l (List.replicate 14 0) most = some q from q1) (stp ?_)))
      rcases q2 with ⟨n, n1, n2, n3, rfl⟩ | ⟨n1, n2, _, _⟩
      · rw [ff_some (P := fun n => decB (put m r n (List.replicate 14 0)) l) n1 n2 n3]; rfl
      · rw [ff_none (P := fun n => decB (put m r n (List.replicate 14 0)) l) n1, n2]; rfl
theorem boundFindWeights_0 (l : List Rul) (most : Int) : (wFindWeights l most).1.length ≤ 1048576 := by
  cases h1 : rulesB l with
  | false => unfold wFindWeights; rw [dif_neg (fun h => by rw [h1] at h; cases h.1)]; simp
  | true =>
    cases h2 : rng most 0 3 with
    | false => unfold wFindWeights; rw [dif_neg (fun h => by rw [h2] at h; cases h.2)]; simp
    | true =>
      obtain ⟨ks, m, hm, m1, m4, hks, hsrt, hkl, hmem, hk, hw⟩ := fw_main h1 h2
      rw [hw]
      split
      · split
        · dsimp only; rw [put_len]; simp
        · simp
      · simp
end Go.Proofs.YtnfiffchbelapaaGreat
namespace Go.Proofs.YtnfiffchbelapaaGreat
set_option linter.unusedVariables false

abbrev TyNode := Int × Int × ByteArray
def nNode (a : TyNode) : Nat := a.2.2.size
def lensNode (a : TyNode) : Prop := (a.2.2.size : Int) ≤ 9223372036854775807
theorem z_Node (a : TyNode) (left : Int) (h0 : 0 ≤ left) (h1 : left ≤ bigN) (hl : lensNode a) : F_laws_szNode a left = some (if (nNode a : Int) ≤ left then left - nNode a else -1) := by
  unfold bigN at h1
  have l0 := hl
  unfold lensNode at l0
  unfold nNode
  refine bnd (subO_of (by omega) (by omega)) (stp ?_)
  by_cases g0 : (a.2.2.size : Int) ≤ left
  case neg =>
    rw [if_neg (by omega)]
    exact cTW (dT (by omega)) rfl
  rw [if_pos (by omega)]
  refine cFW (dF (by omega)) ?_
  congr 1; try omega
theorem niceLensNode {a : TyNode} (h : Nice.ok a) : lensNode a := by
  obtain ⟨h0, h1, h2⟩ := h
  exact h2
theorem t_Node (a : TyNode) (h : nNode a ≤ 1048576) : F_laws_toNode a = some a := by
  unfold nNode at h
  exact rfl
theorem e_Node (a : TyNode) (h : nNode a ≤ 1048576) : F_laws_eqNode a a = some true := by
  unfold nNode at h
  exact stp (cFW (nT (dT rfl)) (stp (cFW (nT (dT rfl)) (stp (cFW (nT (dT rfl)) (rfl))))))
abbrev TyNodeS := List TyNode
def nNodeS (a : TyNodeS) : Nat := a.length + tot nNode a
def lensNodeS (a : TyNodeS) : Prop := lenOk a ∧ ∀ x ∈ a, lensNode x
theorem z_NodeS (a : TyNodeS) (left : Int) (h0 : 0 ≤ left) (h1 : left ≤ bigN) (hl : lensNodeS a) : F_laws_szNodeS a left = some (if (nNodeS a : Int) ≤ left then left - nNodeS a else -1) := by
  have hl1 := hl.1; unfold lenOk at hl1; unfold bigN at h1
  unfold nNodeS
  refine bnd (subO_of (by omega) (by omega)) (stp ?_)
  by_cases h : (a.length : Int) ≤ left
  · refine cFW (dF (by omega)) (sqW (sz_loop nNode a (left - a.length) ?_ ?_ a [] _ rfl ?_ (Int.le_refl _)) ?_)
    · intro j r s hj hjl hs hsB
      dsimp only
      refine stp (cTW (dT (by omega)) (bnd (idxO_of hj) (bnd (z_Node r s hs (by unfold bigN; omega) (hl.2 r (mem_of_get hj))) (stp ?_))))
      by_cases h2 : (nNode r : Int) ≤ s
      · rw [if_pos h2, if_pos h2]; exact cFW (dF (by omega)) (bnd (addO_of (by omega) (by omega)) rfl)
      · rw [if_neg h2, if_neg h2]; exact cTW (dT (by omega)) rfl
    · intro s; dsimp only; exact stp (cFW (dF (by omega)) rfl)
    · omega
    · by_cases h2 : (tot nNode a : Int) ≤ left - a.length
      · rw [if_pos h2, if_pos (by omega), seqO_l]; congr 1; omega
      · rw [if_neg h2, if_neg (by omega), seqO_r]
  · rw [if_neg (by omega)]; exact cTW (dT (by omega)) rfl
theorem niceLensNodeS {a : TyNodeS} (h : Nice.ok a) : lensNodeS a := ⟨h.1, fun x hx => niceLensNode (h.2 x hx)⟩
theorem t_NodeS (a : TyNodeS) (h : nNodeS a ≤ 1048576) : F_laws_toNodeS a = some a := by
  have hm : maxN = 1099511627776 := rfl
  unfold nNodeS at h
  refine bnd (makeO_of _ (by omega)) (bnd (to_loop _ a ?_ ?_ a [] rfl) rfl)
  · intro j x s hj hjl hs
    dsimp only
    exact stp (cTW (dT (by omega)) (bnd (idxO_of hj) (bnd (t_Node x (by have := tot_mem (n := nNode) (mem_of_get hj); omega)) (bnd (setO_of _ (by omega)) (bnd (addO_of (by omega) (by omega)) rfl)))))
  · intro s hs; dsimp only; exact stp (cFW (dF (by omega)) rfl)
theorem e_NodeS (a : TyNodeS) (h : nNodeS a ≤ 1048576) : F_laws_eqNodeS a a = some true := by
  unfold nNodeS at h
  refine stp (cFW (nT (dT rfl)) (sqW (whileO_is (fun j => (j : Int)) (t := .inl ()) a.length ?_ ?_) ?_))
  · intro j hj
    exact stp (cTW (dT (by omega)) (bnd (idxO_of (List.getElem?_eq_getElem hj)) (bnd (idxO_of (List.getElem?_eq_getElem hj)) (bnd (e_Node a[j] (by have := tot_mem (n := nNode) (List.getElem_mem hj); omega)) (stp (cFW rfl (bnd (addO_of (by omega) (by omega)) rfl)))))))
  · exact stp (cFW (dF (by omega)) rfl)
  · rfl
def mkE_Node (x : TyNode) (q : Int) : TyNode × Int := ((q, (q + 1), mText ((q + 1) + 1)), (((q + 1) + 1) + 1))
def cE_Node (x : TyNode) : Nat := 3
theorem mkE_Node_snd (x : TyNode) (q : Int) : (mkE_Node x q).2 = q + cE_Node x := by
  unfold mkE_Node cE_Node
  dsimp only
  omega
theorem cE_Node_le (x : TyNode) : cE_Node x ≤ 8 * (1 + nNode x) := by
  unfold cE_Node nNode
  omega
def mk_NodeS : TyNodeS → Int → TyNodeS × Int := mkL mkE_Node
def cNodeS (a : TyNodeS) : Nat := tot cE_Node a
theorem cNodeS_le (a : TyNodeS) : cNodeS a ≤ 8 * nNodeS a := by
  have := totLe2 cE_Node_le a
  rw [nE_sum] at this
  exact this
theorem mk_NodeS_snd (a : TyNodeS) (k : Int) : (mk_NodeS a k).2 = k + cNodeS a := mkL_snd mkE_Node cE_Node mkE_Node_snd a k
theorem m_NodeS (a : TyNodeS) (k : Int) (h0 : 0 ≤ k) (h : k + 8 * nNodeS a ≤ 1125899906842624) : F_laws_markNodeS a k = some (mk_NodeS a k) := by
  have hsum := nE_sum nNode a
  unfold nNodeS at h
  refine bnd (mark_loop2 mkE_Node cE_Node (fun x => 8 * (1 + nNode x)) mkE_Node_snd cE_Node_le a.length 1125899906842624 ?_ ?_ a [] k (by simp) h0 (by rw [hsum]; omega)) rfl
  · intro j x s q hj hs hjl hq hB
    dsimp only at hB ⊢
    unfold nNode at hB
    refine stp (cTW (dT (by omega)) ?_)
    refine bnd (idxO_of hj) ?_
    refine bnd (setO_of _ (by omega)) ?_
    refine bnd (addO_of (by omega) (by omega)) ?_
    refine bnd (idxO_of (a := (q, x.2.1, x.2.2)) (by rw [List.getElem?_set_self (by omega)])) ?_
    refine bnd (setO_of _ (by simp only [List.length_set]; omega)) ?_
    refine bnd (addO_of (by omega) (by omega)) ?_
    refine bnd (markText_ _ (by omega) (by omega)) ?_
    refine bnd (idxO_of (a := (q, (q + 1), x.2.2)) (by rw [List.getElem?_set_self (by simp only [List.length_set]; omega)])) ?_
    refine bnd (setO_of _ (by simp only [List.length_set]; omega)) ?_
    refine bnd (addO_of (by omega) (by omega)) ?_
    refine bnd (addO_of (by omega) (by omega)) ?_
    simp only [List.set_set]; rfl
  · intro s q hs; dsimp only; exact stp (cFW (dF (by omega)) rfl)
abbrev TyTerm := List (Int × Int × ByteArray)
def nTerm (a : TyTerm) : Nat := nNodeS a
def lensTerm (a : TyTerm) : Prop := lensNodeS a
theorem z_Term (a : TyTerm) (left : Int) (h0 : 0 ≤ left) (h1 : left ≤ bigN) (hl : lensTerm a) : F_laws_szTerm a left = some (if (nTerm a : Int) ≤ left then left - nTerm a else -1) := by
  unfold bigN at h1
  have l0 := hl
  unfold lensTerm at l0
  unfold nTerm
  refine bnd (z_NodeS a (left) (by omega) (by unfold bigN; omega) l0) (stp ?_)
  by_cases g0 : (nNodeS a : Int) ≤ left
  case neg =>
    rw [if_neg g0]; try rw [if_neg (by omega)]
    exact cTW (dT (by omega)) rfl
  rw [if_pos g0]
  try rw [if_pos (by omega)]
  refine cFW (dF (by omega)) ?_
  congr 1; try omega
theorem niceLensTerm {a : TyTerm} (h : Nice.ok a) : lensTerm a := by
  have h0 := h
  exact niceLensNodeS h0
theorem t_Term (a : TyTerm) (h : nTerm a ≤ 1048576) : F_laws_toTerm a = some a := by
  unfold nTerm at h
  exact bnd (t_NodeS a (by omega)) (rfl)
theorem e_Term (a : TyTerm) (h : nTerm a ≤ 1048576) : F_laws_eqTerm a a = some true := by
  unfold nTerm at h
  exact bnd (e_NodeS a (by omega)) (stp (cFW rfl (rfl)))
end Go.Proofs.YtnfiffchbelapaaGreat
namespace Go.Proofs.YtnfiffchbelapaaGreat
set_option linter.unusedVariables false

abbrev TyRule := ByteArray × (List (Int × Int × ByteArray)) × (List (Int × Int × ByteArray))
def nRule (a : TyRule) : Nat := a.1.size + nTerm a.2.1 + nTerm a.2.2
def lensRule (a : TyRule) : Prop := (a.1.size : Int) ≤ 9223372036854775807 ∧ lensTerm a.2.1 ∧ lensTerm a.2.2
theorem z_Rule (a : TyRule) (left : Int) (h0 : 0 ≤ left) (h1 : left ≤ bigN) (hl : lensRule a) : F_laws_szRule a left = some (if (nRule a : Int) ≤ left then left - nRule a else -1) := by
  unfold bigN at h1
  obtain ⟨l0, l1, l2⟩ := hl
  unfold nRule
  refine bnd (subO_of (by omega) (by omega)) (stp ?_)
  by_cases g0 : (a.1.size : Int) ≤ left
  case neg =>
    rw [if_neg (by omega)]
    exact cTW (dT (by omega)) rfl
  refine cFW (dF (by omega)) ?_
  refine bnd (z_Term a.2.1 (left - a.1.size) (by omega) (by unfold bigN; omega) l1) (stp ?_)
  by_cases g1 : (nTerm a.2.1 : Int) ≤ left - a.1.size
  case neg =>
    rw [if_neg g1]; try rw [if_neg (by omega)]
    exact cTW (dT (by omega)) rfl
  rw [if_pos g1]
  refine cFW (dF (by omega)) ?_
  refine bnd (z_Term a.2.2 (left - a.1.size - nTerm a.2.1) (by omega) (by unfold bigN; omega) l2) (stp ?_)
  by_cases g2 : (nTerm a.2.2 : Int) ≤ left - a.1.size - nTerm a.2.1
  case neg =>
    rw [if_neg g2]; try rw [if_neg (by omega)]
    exact cTW (dT (by omega)) rfl
  rw [if_pos g2]
  try rw [if_pos (by omega)]
  refine cFW (dF (by omega)) ?_
  congr 1; try omega
theorem niceLensRule {a : TyRule} (h : Nice.ok a) : lensRule a := by
  obtain ⟨h0, h1, h2⟩ := h
  exact ⟨h0, niceLensTerm h1, niceLensTerm h2⟩
theorem t_Rule (a : TyRule) (h : nRule a ≤ 1048576) : F_laws_toRule a = some a := by
  unfold nRule at h
  exact bnd (t_Term a.2.1 (by omega)) (bnd (t_Term a.2.2 (by omega)) (rfl))
theorem e_Rule (a : TyRule) (h : nRule a ≤ 1048576) : F_laws_eqRule a a = some true := by
  unfold nRule at h
  exact stp (cFW (nT (dT rfl)) (bnd (e_Term a.2.1 (by omega)) (stp (cFW rfl (bnd (e_Term a.2.2 (by omega)) (stp (cFW rfl (rfl))))))))
end Go.Proofs.YtnfiffchbelapaaGreat
namespace Go.Proofs.YtnfiffchbelapaaGreat
set_option linter.unusedVariables false

abbrev TyRuleS := List TyRule
def nRuleS (a : TyRuleS) : Nat := a.length + tot nRule a
def lensRuleS (a : TyRuleS) : Prop := lenOk a ∧ ∀ x ∈ a, lensRule x
theorem z_RuleS (a : TyRuleS) (left : Int) (h0 : 0 ≤ left) (h1 : left ≤ bigN) (hl : lensRuleS a) : F_laws_szRuleS a left = some (if (nRuleS a : Int) ≤ left then left - nRuleS a else -1) := by
  have hl1 := hl.1; unfold lenOk at hl1; unfold bigN at h1
  unfold nRuleS
  refine bnd (subO_of (by omega) (by omega)) (stp ?_)
  by_cases h : (a.length : Int) ≤ left
  · refine cFW (dF (by omega)) (sqW (sz_loop nRule a (left - a.length) ?_ ?_ a [] _ rfl ?_ (Int.le_refl _)) ?_)
    · intro j r s hj hjl hs hsB
      dsimp only
      refine stp (cTW (dT (by omega)) (bnd (idxO_of hj) (bnd (z_Rule r s hs (by unfold bigN; omega) (hl.2 r (mem_of_get hj))) (stp ?_))))
      by_cases h2 : (nRule r : Int) ≤ s
      · rw [if_pos h2, if_pos h2]; exact cFW (dF (by omega)) (bnd (addO_of (by omega) (by omega)) rfl)
      · rw [if_neg h2, if_neg h2]; exact cTW (dT (by omega)) rfl
    · intro s; dsimp only; exact stp (cFW (dF (by omega)) rfl)
    · omega
    · by_cases h2 : (tot nRule a : Int) ≤ left - a.length
      · rw [if_pos h2, if_pos (by omega), seqO_l]; congr 1; omega
      · rw [if_neg h2, if_neg (by omega), seqO_r]
  · rw [if_neg (by omega)]; exact cTW (dT (by omega)) rfl
theorem niceLensRuleS {a : TyRuleS} (h : Nice.ok a) : lensRuleS a := ⟨h.1, fun x hx => niceLensRule (h.2 x hx)⟩
theorem t_RuleS (a : TyRuleS) (h : nRuleS a ≤ 1048576) : F_laws_toRuleS a = some a := by
  have hm : maxN = 1099511627776 := rfl
  unfold nRuleS at h
  refine bnd (makeO_of _ (by omega)) (bnd (to_loop _ a ?_ ?_ a [] rfl) rfl)
  · intro j x s hj hjl hs
    dsimp only
    exact stp (cTW (dT (by omega)) (bnd (idxO_of hj) (bnd (t_Rule x (by have := tot_mem (n := nRule) (mem_of_get hj); omega)) (bnd (setO_of _ (by omega)) (bnd (addO_of (by omega) (by omega)) rfl)))))
  · intro s hs; dsimp only; exact stp (cFW (dF (by omega)) rfl)
theorem e_RuleS (a : TyRuleS) (h : nRuleS a ≤ 1048576) : F_laws_eqRuleS a a = some true := by
  unfold nRuleS at h
  refine stp (cFW (nT (dT rfl)) (sqW (whileO_is (fun j => (j : Int)) (t := .inl ()) a.length ?_ ?_) ?_))
  · intro j hj
    exact stp (cTW (dT (by omega)) (bnd (idxO_of (List.getElem?_eq_getElem hj)) (bnd (idxO_of (List.getElem?_eq_getElem hj)) (bnd (e_Rule a[j] (by have := tot_mem (n := nRule) (List.getElem_mem hj); omega)) (stp (cFW rfl (bnd (addO_of (by omega) (by omega)) rfl)))))))
  · exact stp (cFW (dF (by omega)) rfl)
  · rfl
def mkE_Rule (x : TyRule) (q : Int) : TyRule × Int := ((mText q, (mk_NodeS x.2.1 (q + 1)).1, (mk_NodeS x.2.2 (mk_NodeS x.2.1 (q + 1)).2).1), (mk_NodeS x.2.2 (mk_NodeS x.2.1 (q + 1)).2).2)
def cE_Rule (x : TyRule) : Nat := 1 + cNodeS x.2.1 + cNodeS x.2.2
theorem mkE_Rule_snd (x : TyRule) (q : Int) : (mkE_Rule x q).2 = q + cE_Rule x := by
  unfold mkE_Rule cE_Rule
  simp only [mk_NodeS_snd]
  omega
theorem cE_Rule_le (x : TyRule) : cE_Rule x ≤ 8 * (1 + nRule x) := by
  unfold cE_Rule nRule nTerm
  have hc1 := cNodeS_le x.2.1
  have hc2 := cNodeS_le x.2.2
  omega
def mk_RuleS : TyRuleS → Int → TyRuleS × Int := mkL mkE_Rule
def cRuleS (a : TyRuleS) : Nat := tot cE_Rule a
theorem cRuleS_le (a : TyRuleS) : cRuleS a ≤ 8 * nRuleS a := by
  have := totLe2 cE_Rule_le a
  rw [nE_sum] at this
  exact this
theorem mk_RuleS_snd (a : TyRuleS) (k : Int) : (mk_RuleS a k).2 = k + cRuleS a := mkL_snd mkE_Rule cE_Rule mkE_Rule_snd a k
theorem m_RuleS (a : TyRuleS) (k : Int) (h0 : 0 ≤ k) (h : k + 8 * nRuleS a ≤ 1125899906842624) : F_laws_markRuleS a k = some (mk_RuleS a k) := by
  have hsum := nE_sum nRule a
  unfold nRuleS at h
  refine bnd (mark_loop2 mkE_Rule cE_Rule (fun x => 8 * (1 + nRule x)) mkE_Rule_snd cE_Rule_le a.length 1125899906842624 ?_ ?_ a [] k (by simp) h0 (by rw [hsum]; omega)) rfl
  · intro j x s q hj hs hjl hq hB
    dsimp only at hB ⊢
    unfold nRule nTerm at hB
    have b1 := cNodeS_le x.2.1
    have b2 := cNodeS_le x.2.2
    refine stp (cTW (dT (by omega)) ?_)
    refine bnd (markText_ _ (by omega) (by omega)) ?_
    refine bnd (idxO_of hj) ?_
    refine bnd (setO_of _ (by omega)) ?_
    refine bnd (addO_of (by omega) (by omega)) ?_
    refine bnd (idxO_of (a := (mText q, x.2.1, x.2.2)) (by rw [List.getElem?_set_self (by omega)])) ?_
    refine bnd (m_NodeS x.2.1 (q + 1) (by omega) (by omega)) ?_
    refine bnd (setO_of _ (by simp only [List.length_set]; omega)) ?_
    refine bnd (idxO_of (a := (mText q, (mk_NodeS x.2.1 (q + 1)).1, x.2.2)) (by rw [List.getElem?_set_self (by simp only [List.length_set]; omega)])) ?_
    refine bnd (m_NodeS x.2.2 (mk_NodeS x.2.1 (q + 1)).2 (by simp only [mk_NodeS_snd]; omega) (by simp only [mk_NodeS_snd]; omega)) ?_
    refine bnd (setO_of _ (by simp only [List.length_set]; omega)) ?_
    refine bnd (addO_of (by omega) (by omega)) ?_
    simp only [List.set_set]; rfl
  · intro s q hs; dsimp only; exact stp (cFW (dF (by omega)) rfl)
end Go.Proofs.YtnfiffchbelapaaGreat
namespace Go.Proofs.YtnfiffchbelapaaGreat
set_option linter.unusedVariables false
theorem lawN_FindWeights (a0 : List TyRule) (a1 : Int) (i0 : Nice.ok a0) (i1 : Nice.ok a1) : F_laws_FnExactFindWeights a0 a1 = some true := by
  have hbig : bigN = 4611686018427387904 := rfl
  refine bnd (z_RuleS a0 1048576 (by omega) (by rw [hbig]; omega) (niceLensRuleS i0)) (stp ?_)
  by_cases gaRules : (nRuleS a0 : Int) ≤ 1048576
  case neg => rw [if_neg gaRules]; exact cTW (dT (by omega)) rfl
  rw [if_pos gaRules]
  refine cFW (dF (by omega)) ?_
  have haRules : nRuleS a0 ≤ 1048576 := by omega
  first
  | refine bnd (t_RuleS a0 haRules) (bnd (specFindWeights a0 a1) ?_)
  | refine bnd (bnd (t_RuleS a0 haRules) (bnd (specFindWeights a0 a1) rfl)) ?_
  refine bnd (t_RuleS a0 haRules) ?_
  refine bnd (implFindWeights a0 a1) ?_
  have b0 : nIntS (wFindWeights a0 a1).1 ≤ 1048576 := boundFindWeights_0 a0 a1
  have cb0 := cIntS_le (wFindWeights a0 a1).1
  refine bnd (a := false) (bnd (e_IntS _ b0) (stp (cFW rfl (stp (congrArg some (nT (dT rfl))))))) (cFW rfl ?_)
  refine bnd (t_RuleS _ haRules) (bnd (e_RuleS _ haRules) (stp (cFW rfl ?_)))
  have caRules := cRuleS_le a0
  refine bnd (m_RuleS a0 _ (by omega) (by omega)) ?_
  refine bnd (a := false) (stp (cFW (dF (by simp only [mk_RuleS_snd]; omega)) (bnd (e_IntS _ b0) (stp (cFW rfl (stp (congrArg some (nT (dT rfl))))))))) (cFW rfl ?_)
  refine bnd (m_IntS (wFindWeights a0 a1).1 _ (by omega) (by omega)) ?_
  refine bnd (h_IntS (wFindWeights a0 a1).1 _ (by omega) (by omega)) (stp (cFW (dF (by omega)) ?_))
  refine stp (cFW (nT (dT (by simp only [mk_IntS_snd]))) ?_)
  first
  | refine bnd (t_RuleS a0 haRules) (bnd (implFindWeights a0 a1) ?_)
  | refine bnd (bnd (t_RuleS a0 haRules) (bnd (implFindWeights a0 a1) rfl)) ?_
  refine bnd (a := false) (bnd (e_IntS _ b0) (stp (cFW rfl (stp (congrArg some (nT (dT rfl))))))) (cFW rfl ?_)
  refine bnd (h_IntS (wFindWeights a0 a1).1 _ (by omega) (by omega)) (stp (cFW (dF (by omega)) ?_))
  refine stp (cFW (nT (dT (by simp only [mk_IntS_snd]))) ?_)
  rfl
end Go.Proofs.YtnfiffchbelapaaGreat
