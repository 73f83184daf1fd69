/-
  Plain laws: names, rules (the reference's tests and the program's); IsRule. No program in sight. No condition.
-/
import Derived.Test.YtciiinolpaohpaaDoorZP43
import Derived.Test.YtciiinolpaohpaaDoorZP5
import Derived.Test.YtciiinolpaohpaaDoorZPL
namespace Go.Proofs.YtciiinolpaohpaaDoor

/-! ### names -/
instance (s : ByteArray) (l : List ByteArray) : Decidable (s ∈ l) := decidable_of_iff (l.any (fun a => decide (a = s)) = true) (by simp [List.any_eq_true])
def bt (s : ByteArray) (i : Nat) : Int := ((s.data[i]?.getD 0).toNat : Int)
theorem strO_ {s : ByteArray} {i : Nat} (h : i < s.size) : strO s (i : Int) = some (bt s i) := by
  unfold strO bt
  rw [if_pos (by omega), Int.toNat_natCast]
  have h2 : i < s.data.size := h
  rw [Array.getElem?_eq_getElem h2]
  have : s[i]? = some s.data[i] := by
    rw [getElem?_pos s i h]; rfl
  rw [this]; rfl
def lowB (x : Int) : Bool := rng x 97 122
def digB (x : Int) : Bool := rng x 48 57
def chrB (x : Int) : Bool := lowB x || digB x
def words : List ByteArray := [⟨#[105, 100]⟩, ⟨#[115, 119, 97, 112]⟩, ⟨#[99, 111, 112, 121]⟩, ⟨#[100, 105, 115, 99, 97, 114, 100]⟩, ⟨#[97, 100, 100]⟩, ⟨#[122, 101, 114, 111]⟩, ⟨#[115, 99, 97, 108, 101]⟩, ⟨#[100, 101, 108, 97, 121]⟩, ⟨#[99, 111, 99, 111, 112, 121]⟩, ⟨#[99, 111, 100, 105, 115, 99, 97, 114, 100]⟩, ⟨#[99, 111, 97, 100, 100]⟩, ⟨#[99, 111, 122, 101, 114, 111]⟩, ⟨#[99, 111, 115, 99, 97, 108, 101]⟩, ⟨#[99, 111, 100, 101, 108, 97, 121]⟩]
def chrs (s : ByteArray) : Bool := (List.range s.size).all fun i => chrB (bt s i)
def nmB (s : ByteArray) : Bool := rng (s.size : Int) 1 8 && (lowB (bt s 0) && (chrs s && !decide (s ∈ words)))
theorem chrs_true {s : ByteArray} : chrs s = true ↔ ∀ i, i < s.size → chrB (bt s i) = true := by
  unfold chrs
  rw [List.all_eq_true]
  exact ⟨fun h i hi => h i (List.mem_range.2 hi), fun h i hi => h i (List.mem_range.1 hi)⟩
theorem rng_false {x a b : Int} : rng x a b = false ↔ ¬ (a ≤ x ∧ x ≤ b) := by
  rw [← rng_true]; simp
theorem l1HasS_ (l : List ByteArray) (s : ByteArray) : F_spec_l1HasS l s = some (decide (s ∈ l)) := by
  refine sqW (forO_all (fun a => !decide (a = s)) l 0 ?_ (t := true)) ?_
  · intro j a hj
    rw [Nat.zero_add]
    refine bnd (idxO_of hj) (stp ?_)
    by_cases h : a = s
    · rw [dT h]; rfl
    · rw [dF h]; rfl
  · have : (l.all fun a => !decide (a = s)) = !decide (s ∈ l) := by
      rw [Bool.eq_iff_iff, List.all_eq_true]
      constructor
      · intro h
        simp only [Bool.not_eq_true', decide_eq_false_iff_not]
        intro hv
        have := h s hv
        simp at this
      · intro h a ha
        simp only [Bool.not_eq_true', decide_eq_false_iff_not] at h ⊢
        rintro rfl; exact h ha
    rw [this]
    cases decide (s ∈ l) <;> rfl
theorem lbWord_ (s : ByteArray) : F_spec_lbWord s = some (rng (s.size : Int) 1 8 && (lowB (bt s 0) && chrs s)) := by
  cases hr : rng (s.size : Int) 1 8 with
  | false => exact bnd (a := true) (bnd (l1In _ _ _) (stp (by rw [hr]; rfl))) rfl
  | true =>
    have hl := rng_true.1 hr
    have h0 : strO s 0 = some (bt s 0) := strO_ (i := 0) (by omega)
    cases hb : lowB (bt s 0) with
    | false =>
      have hb := rng_false.1 hb
      have hk : ((some (decide ((bt s 0 : Int) < 97))).bind fun a32 =>
      cond a32
      (some true)
      ((strO s 0).bind fun a35 =>
        (some (decide ((122 : Int) < a35))).bind fun a37 =>
        some a37)) = some true := by
        by_cases h1 : bt s 0 < 97
        · exact stp (cTW (dT h1) rfl)
        · exact stp (cFW (dF h1) (bnd h0 (stp (congrArg some (dT (by omega))))))
      exact bnd (a := true) (bnd (l1In _ _ _) (stp (by rw [hr]; exact cFW rfl (bnd h0 hk)))) rfl
    | true =>
      have hb1 := rng_true.1 hb
      refine bnd (a := false) (bnd (l1In _ _ _) (stp (by rw [hr]; exact cFW rfl (bnd h0 (stp (cFW (dF (by omega)) (bnd h0 (stp (congrArg some (dF (by omega)))))))))) ) (cFW rfl ?_)
      obtain ⟨t, h1, h2⟩ := whileO_rel (s := (1 : Int)) (f := fun (s469 : Int) =>
        (some (decide (s469 < ((s.size : Nat) : Int)))).bind fun a478 =>
        cond a478
        (((strO s s469).bind fun a521 =>
            (some (decide ((a521 : Int) < 97))).bind fun a523 =>
            cond a523
            ((strO s s469).bind fun a543 =>
              (some (decide ((a543 : Int) < 48))).bind fun a545 =>
              cond a545
              (some true)
              ((strO s s469).bind fun a548 =>
                (some (decide ((57 : Int) < a548))).bind fun a550 =>
                some a550))
            ((strO s s469).bind fun a526 =>
              (some (decide ((122 : Int) < a526))).bind fun a528 =>
              cond a528
              ((strO s s469).bind fun a532 =>
                (some (decide ((a532 : Int) < 48))).bind fun a534 =>
                cond a534
                (some true)
                ((strO s s469).bind fun a537 =>
                  (some (decide ((57 : Int) < a537))).bind fun a539 =>
                  some a539))
              (some false))).bind fun (s515 : Bool) =>
          cond s515
          (some (.inr (.inr false)))
          ((addO s469 1).bind fun a556 =>
            some (.inl a556)))
        (some (.inr (.inl ())))) (fun k => ∃ j : Nat, k = (j : Int) ∧ 1 ≤ j ∧ j ≤ s.size ∧ ∀ i, i < j → chrB (bt s i) = true)
        (fun r => r = if chrs s = true then Sum.inl () else Sum.inr false) (fun k => s.size - k.toNat) (by
          rintro k ⟨j, rfl, hj1, hj2, hall⟩
          by_cases hj : j < s.size
          · have hs := strO_ hj
            have hch : (((strO s ((j : Nat) : Int)).bind fun a521 =>
            (some (decide ((a521 : Int) < 97))).bind fun a523 =>
            cond a523
            ((strO s ((j : Nat) : Int)).bind fun a543 =>
              (some (decide ((a543 : Int) < 48))).bind fun a545 =>
              cond a545
              (some true)
              ((strO s ((j : Nat) : Int)).bind fun a548 =>
                (some (decide ((57 : Int) < a548))).bind fun a550 =>
                some a550))
            ((strO s ((j : Nat) : Int)).bind fun a526 =>
              (some (decide ((122 : Int) < a526))).bind fun a528 =>
              cond a528
              ((strO s ((j : Nat) : Int)).bind fun a532 =>
                (some (decide ((a532 : Int) < 48))).bind fun a534 =>
                cond a534
                (some true)
                ((strO s ((j : Nat) : Int)).bind fun a537 =>
                  (some (decide ((57 : Int) < a537))).bind fun a539 =>
                  some a539))
              (some false)))) = some (!chrB (bt s j)) := by
              rw [hs]
              simp only [Option.bind_some]
              generalize bt s j = x
              unfold chrB lowB digB rng
              by_cases c1 : x < 97
              · by_cases c2 : x < 48
                · simp [c1, c2, show ¬ 97 ≤ x by omega, show ¬ 48 ≤ x by omega]
                · by_cases c3 : 57 < x
                  · simp [c1, c2, c3, show ¬ 97 ≤ x by omega, show ¬ x ≤ 57 by omega]
                  · simp [c1, c2, c3, show ¬ 97 ≤ x by omega, show 48 ≤ x by omega, show x ≤ 57 by omega]
              · by_cases c2 : 122 < x
                · simp [c1, c2, show ¬ x < 48 by omega, show ¬ x ≤ 122 by omega, show ¬ x ≤ 57 by omega, show 57 < x by omega]
                · simp [c1, c2, show 97 ≤ x by omega, show x ≤ 122 by omega]
            cases hc : chrB (bt s j) with
            | true =>
              rw [hc] at hch
              refine .inl ⟨((j + 1 : Nat) : Int), stp (cTW (dT (by omega)) (bnd hch (cFW rfl (bnd (addO_of (by omega) (by omega)) rfl)))), ⟨j + 1, rfl, by omega, by omega, fun i hi => ?_⟩, by omega⟩
              by_cases hij : i = j
              · subst hij; exact hc
              · exact hall i (by omega)
            | false =>
              rw [hc] at hch
              refine .inr ⟨.inr false, stp (cTW (dT (by omega)) (bnd hch (cTW rfl rfl))), ?_⟩
              rw [if_neg (fun h => by have := chrs_true.1 h j hj; rw [hc] at this; cases this)]
          · refine .inr ⟨.inl (), stp (cFW (dF (by omega)) rfl), ?_⟩
            rw [if_pos (chrs_true.2 fun i hi => hall i (by omega))]) ⟨1, rfl, by omega, by omega, fun i hi => by
              obtain rfl : i = 0 := by omega
              unfold chrB; rw [hb]; rfl⟩
      refine sqW h1 ?_
      rw [h2]
      cases chrs s <;> rfl
theorem lbName_ (s : ByteArray) : F_spec_lbName s = some (nmB s) := by
  unfold nmB
  refine bnd (a := rng (s.size : Int) 1 8 && (lowB (bt s 0) && (chrs s && !decide (s ∈ words)))) (bnd (lbWord_ s) ?_) rfl
  cases rng (s.size : Int) 1 8 <;> cases lowB (bt s 0) <;> cases chrs s <;> try rfl
  exact cTW rfl (bnd (a := words) rfl (bnd (l1HasS_ _ _) rfl))
theorem kindOf_ (s : ByteArray) (h : 1 ≤ s.size) : ∃ k, F_impl_kindOf s = some k ∧ decide (k = 17) = !decide (s ∈ words) := by
  have hw : F_impl_kindWords = some (.empty :: words) := rfl
  have hne : s ≠ .empty := by rintro rfl; exact absurd h (by decide)
  rcases forO_rel (n := (ByteArray.empty :: words).length) (s := ()) (f := fun (k6 : Nat) (_ : Unit) =>
      (idxO (ByteArray.empty :: words) ((k6 : Nat) : Int)).bind fun a36 =>
      (some (decide ((a36 : ByteArray) = s))).bind fun a38 =>
      cond a38
      (some (.inr ((k6 : Nat) : Int)))
      (some (.inl ()))) (fun j _ => ∀ i, i < j → (ByteArray.empty :: words)[i]? ≠ some s) (fun r => s ∈ words ∧ r < 17) (fun i hi => by omega) (by
      intro j u hj hall
      have hg := List.getElem?_eq_getElem hj
      by_cases h : (ByteArray.empty :: words)[j] = s
      · refine .inr ⟨((j : Nat) : Int), bnd (idxO_of hg) (stp (cTW (dT h) rfl)), ?_, ?_⟩
        · have := List.getElem_mem hj
          rw [h] at this
          rcases List.mem_cons.1 this with h | h
          · exact (hne h).elim
          · exact h
        · have : (ByteArray.empty :: words).length = 15 := rfl
          omega
      · refine .inl ⟨(), bnd (idxO_of hg) (stp (cFW (dF h) rfl)), fun i hi => ?_⟩
        by_cases hij : i = j
        · subst hij; rw [hg]; exact fun h' => h (Option.some.inj h')
        · exact hall i (by omega)) with ⟨u, h1, h2⟩ | ⟨k, h1, h2, h3⟩
  · refine ⟨17, bnd hw (sqW h1 rfl), ?_⟩
    have : s ∉ words := fun hm => by
      obtain ⟨i, hi, he⟩ := List.mem_iff_getElem.1 hm
      exact h2 (i + 1) (by simpa using hi) (by rw [List.getElem?_cons_succ, List.getElem?_eq_getElem hi, he])
    rw [dF this]; rfl
  · refine ⟨k, bnd hw (sqW h1 rfl), ?_⟩
    rw [dT h2, dF (by omega)]; rfl
theorem isLower_ (x : Int) : F_impl_isLower x = some (lowB x) := by
  unfold F_impl_isLower lowB rng
  by_cases h1 : 97 ≤ x <;> by_cases h2 : x ≤ 122 <;> simp [h1, h2]
theorem isDigit_ (x : Int) : F_impl_isDigit x = some (digB x) := by
  unfold F_impl_isDigit digB rng
  by_cases h1 : 48 ≤ x <;> by_cases h2 : x ≤ 57 <;> simp [h1, h2]
theorem isName_ (s : ByteArray) : F_impl_isName s = some (nmB s) := by
  unfold nmB
  cases hr : rng (s.size : Int) 1 8 with
  | false => exact bnd (a := true) (bnd (within_ _ _ _) (stp (by rw [hr]; rfl))) rfl
  | true =>
    have hl := rng_true.1 hr
    have h0 : strO s 0 = some (bt s 0) := strO_ (i := 0) (by omega)
    cases hb : lowB (bt s 0) with
    | false => exact bnd (a := true) (bnd (within_ _ _ _) (stp (by rw [hr]; exact cFW rfl (bnd h0 (bnd (isLower_ _) (stp (by rw [hb]; rfl))))))) rfl
    | true =>
      obtain ⟨k, k1, k2⟩ := kindOf_ s (by omega)
      cases hw : decide (s ∈ words) with
      | true =>
        rw [hw] at k2
        have : F_impl_isName s = some false := bnd (a := true) (bnd (within_ _ _ _) (stp (by rw [hr]; exact cFW rfl (bnd h0 (bnd (isLower_ _) (stp (by rw [hb]; exact cFW rfl (bnd k1 (stp (by rw [k2]; rfl)))))))))) rfl
        rw [this]; cases chrs s <;> rfl
      | false =>
        rw [hw] at k2
        refine bnd (a := false) (bnd (within_ _ _ _) (stp (by rw [hr]; exact cFW rfl (bnd h0 (bnd (isLower_ _) (stp (by rw [hb]; exact cFW rfl (bnd k1 (stp (by rw [k2]; rfl))))))))) ) (cFW rfl ?_)
        refine bnd (cI_of ⟨by omega, by omega⟩) ?_
        have loop := forO_rel (n := s.size) (s := ()) (f := fun (k52 : Nat) (_ : Unit) =>
        ((strO s ((k52 : Nat) : Int)).bind fun a130 =>
          (F_impl_isLower a130).bind fun y132 =>
          (some (!y132)).bind fun a135 =>
          cond a135
          ((strO s ((k52 : Nat) : Int)).bind fun a139 =>
            (F_impl_isDigit a139).bind fun y141 =>
            (some (!y141)).bind fun a144 =>
            some a144)
          (some false)).bind fun (s124 : Bool) =>
        cond s124
        (some (.inr false))
        (some (.inl ()))) (fun j _ => ∀ i, i < j → chrB (bt s i) = true) (fun r => r = false ∧ chrs s = false) (fun i hi => by omega) (by
          intro j u hj hall
          have hs := strO_ hj
          have hch : ((strO s ((j : Nat) : Int)).bind fun a130 =>
          (F_impl_isLower a130).bind fun y132 =>
          (some (!y132)).bind fun a135 =>
          cond a135
          ((strO s ((j : Nat) : Int)).bind fun a139 =>
            (F_impl_isDigit a139).bind fun y141 =>
            (some (!y141)).bind fun a144 =>
            some a144)
          (some false)) = some (!chrB (bt s j)) := by
            refine bnd hs (bnd (isLower_ _) (stp ?_))
            unfold chrB
            cases lowB (bt s j) with
            | true => rfl
            | false => exact cTW rfl (bnd hs (bnd (isDigit_ _) rfl))
          cases hc : chrB (bt s j) with
          | true =>
            rw [hc] at hch
            refine .inl ⟨(), bnd hch rfl, fun i hi => ?_⟩
            by_cases hij : i = j
            · subst hij; exact hc
            · exact hall i (by omega)
          | false =>
            rw [hc] at hch
            refine .inr ⟨false, bnd hch rfl, rfl, ?_⟩
            cases hq : chrs s with
            | false => rfl
            | true => have := chrs_true.1 hq j hj; rw [hc] at this; cases this)
        rw [Int.toNat_natCast]
        rcases loop with ⟨u, h1, h2⟩ | ⟨r, h1, rfl, h2⟩
        · refine sqW h1 ?_
          rw [chrs_true.2 h2]; rfl
        · refine sqW h1 ?_
          rw [h2]; rfl

/-! ### rules -/
theorem tmType_ (t : List Nod) : F_spec_tmType t = some (if validB t = true then ((tyT t).1, (tyT t).2, true) else (0, 0, false)) := by
  obtain ⟨x, h1, h2⟩ := lbScan_ t
  refine bnd (tmScan_eq h1) (stp ?_)
  cases hv : validB t with
  | false => rfl
  | true =>
    obtain ⟨T, w, rfl, hw, hl⟩ := validB_tree hv
    have hp := flat_pos T
    have hr := run_tree hw []
    obtain ⟨_, ⟨_, _, s3, s4, _⟩, _⟩ := h2 _ hr (rng_true.2 (by omega))
    have ht : tyT (flat T) = w := by unfold tyT; rw [hr]
    rw [ht]
    exact cFW rfl (bnd (a := (((flat T).length - 1 : Nat) : Int)) (by rw [subO_of (by omega) (by omega)]; congr 1; omega) (bnd (idxO_of s3) (bnd (idxO_of s4) rfl)))
theorem wires_ (t : List Nod) : ∃ w, F_impl_Term_wires t = some (w, validB t) ∧ (validB t = true → w = tyT t) := by
  obtain ⟨w, h1, h2⟩ := typed_ t
  exact ⟨w, bnd h1 rfl, h2⟩
theorem hgMadeV {t : List Nod} (h : validB t = true) : F_spec_hgMade t = some (wGraphOf t) ∧ F_impl_graphOf t = some (wGraphOf t) := by
  obtain ⟨T, w, rfl, h2, h3, h4⟩ := wGraphOf_eq h
  rw [h4]
  exact ⟨hgMade_ 1000000 h2 h3 (by omega), graphOf_ h2 h3⟩
abbrev Rul := ByteArray × List Nod × List Nod
def headB (r : Rul) : Bool := nmB r.1 && (validB r.2.1 && (validB r.2.2 && (decide ((tyT r.2.1).1 = (tyT r.2.2).1) && decide ((tyT r.2.1).2 = (tyT r.2.2).2))))
noncomputable def ruleB (r : Rul) : Bool := headB r && ((wGraphOf r.2.1).2 && (wGraphOf r.2.2).2)
theorem headB_true {r : Rul} (h : headB r = true) : nmB r.1 = true ∧ validB r.2.1 = true ∧ validB r.2.2 = true ∧ (tyT r.2.1).1 = (tyT r.2.2).1 ∧ (tyT r.2.1).2 = (tyT r.2.2).2 := by
  unfold headB at h
  simpa only [Bool.and_eq_true, decide_eq_true_eq] using h
theorem rwSides_ (r : Rul) : F_spec_rwSides r = some (if headB r = true then ((wGraphOf r.2.1).1, (wGraphOf r.2.2).1, (wGraphOf r.2.1).2 && (wGraphOf r.2.2).2) else (noG, noG, false)) := by
  refine bnd (tmType_ _) (bnd (tmType_ _) (bnd (a := !headB r) (bnd (lbName_ _) ?_) ?_))
  · unfold headB
    cases nmB r.1 <;> cases validB r.2.1 <;> cases validB r.2.2 <;> try rfl
    simp only [if_true, Option.bind_some, Bool.not_true, cond_false, Bool.true_and]
    by_cases h1 : (tyT r.2.1).1 = (tyT r.2.2).1
    · simp [h1]
    · simp [h1]
  · cases hh : headB r with
    | false => rfl
    | true =>
      obtain ⟨_, v1, v2, _, _⟩ := headB_true hh
      refine cFW rfl (bnd (hgMadeV v1).1 (bnd (hgMadeV v2).1 ?_))
      cases h : (wGraphOf r.2.1).2 with
      | true => rfl
      | false => rfl
theorem rwIs_ (r : Rul) : F_spec_rwIs r = some (ruleB r) := by
  refine bnd (rwSides_ r) ?_
  unfold ruleB
  cases headB r <;> rfl
theorem isRule_ (r : Rul) : F_impl_isRule r = some (ruleB r) := by
  obtain ⟨w1, a1, b1⟩ := wires_ r.2.1
  obtain ⟨w2, a2, b2⟩ := wires_ r.2.2
  refine bnd a1 (bnd a2 (bnd (a := !headB r) ?_ ?_))
  · unfold headB
    cases hv1 : validB r.2.1 with
    | false => cases nmB r.1 <;> rfl
    | true =>
      cases hv2 : validB r.2.2 with
      | false => cases nmB r.1 <;> rfl
      | true =>
        rw [b1 hv1, b2 hv2]
        refine stp (cFW rfl (stp (cFW rfl (stp ?_))))
        by_cases h1 : (tyT r.2.1).1 = (tyT r.2.2).1
        · by_cases h2 : (tyT r.2.1).2 = (tyT r.2.2).2
          · refine cFW (nT (dT (by rw [h1, h2]))) (bnd (isName_ _) (stp ?_))
            rw [h1, h2]; simp
          · refine cTW (nF (dF (by simp [h1, h2]))) ?_
            simp [h2]
        · refine cTW (nF (dF (by simp [h1]))) ?_
          simp [h1]
  · unfold ruleB
    cases hh : headB r with
    | false => rfl
    | true =>
      obtain ⟨_, v1, v2, _, _⟩ := headB_true hh
      refine cFW rfl (bnd (hgMadeV v1).2 (bnd (hgMadeV v2).2 ?_))
      cases h : (wGraphOf r.2.1).2 <;> rfl
def ovN (p : Int) (n : Nod) : Bool := !(decide (n.1 = 7 ∨ n.1 = 13) && decide (p ≤ n.2.1))
def ovB (p : Int) (t : List Nod) : Bool := validB t && (fdB p && t.all (ovN p))
theorem hasValue_ (k : Int) : F_impl_hasValue k = some (decide (k = 7 ∨ k = 13)) := by
  unfold F_impl_hasValue
  by_cases h1 : k = 7
  · simp [h1]
  · by_cases h2 : k = 13 <;> simp [h1, h2]
theorem tmGood_ (p : Int) (t : List Nod) : F_spec_tmGood p t = some (ovB p t) := by
  obtain ⟨x, h1, _⟩ := lbScan_ t
  unfold ovB
  refine bnd (tmScan_eq h1) ?_
  cases hv : validB t with
  | false => rfl
  | true =>
    cases hf : fdB p with
    | false => exact bnd (a := true) (stp (cFW rfl (bnd (fdGood p) (stp (by rw [hf]; rfl))))) rfl
    | true =>
      refine bnd (a := false) (stp (cFW rfl (bnd (fdGood p) (stp (by rw [hf]; rfl))))) (cFW rfl ?_)
      refine sqW (forO_all (ovN p) t 0 ?_ (t := false)) ?_
      · intro j n hj
        rw [Nat.zero_add]
        refine bnd (idxO_of hj) ?_
        unfold ovN
        by_cases k7 : n.1 = 7
        · by_cases hp : p ≤ n.2.1 <;> simp [k7, hp]
        · by_cases k13 : n.1 = 13
          · by_cases hp : p ≤ n.2.1 <;> simp [k13, hp]
          · simp [k7, k13]
      · cases t.all (ovN p) <;> rfl
theorem isOver_ (p : Int) (t : List Nod) : F_impl_Term_isOver t p = some (ovB p t) := by
  unfold ovB
  cases hf : fdB p with
  | false =>
    refine (bnd (a := true) (bnd (isField_ p) (stp (by rw [hf]; rfl))) rfl : _ = some false).trans ?_
    cases validB t <;> rfl
  | true =>
    cases hv : validB t with
    | false => exact bnd (a := true) (bnd (isField_ p) (stp (by rw [hf]; exact cFW rfl (bnd (isValid_ t) (stp (by rw [hv]; rfl)))))) rfl
    | true =>
      refine bnd (a := false) (bnd (isField_ p) (stp (by rw [hf]; exact cFW rfl (bnd (isValid_ t) (stp (by rw [hv]; rfl)))))) (cFW rfl ?_)
      refine sqW (forO_all (ovN p) t 0 ?_ (t := false)) ?_
      · intro j n hj
        rw [Nat.zero_add]
        refine bnd (idxO_of hj) ?_
        have hh := hasValue_ n.1
        unfold ovN
        by_cases k : n.1 = 7 ∨ n.1 = 13
        · by_cases hp : p ≤ n.2.1 <;> simp [hh, k, hp]
        · simp [hh, k]
      · cases t.all (ovN p) <;> rfl
noncomputable def wIsRule (p : Int) (r : Rul) : Bool := ruleB r && (ovB p r.2.1 && ovB p r.2.2)
theorem specIsRule (p : Int) (r : Rul) : F_spec_IsRule p r = some (wIsRule p r) := by
  refine bnd (a := wIsRule p r) (bnd (a := wIsRule p r) (bnd (rwIs_ r) ?_) rfl) rfl
  unfold wIsRule
  cases ruleB r with
  | false => rfl
  | true =>
    refine cTW rfl (bnd (tmGood_ p r.2.1) ?_)
    cases ovB p r.2.1 with
    | false => rfl
    | true => exact cTW rfl (bnd (tmGood_ p r.2.2) rfl)
theorem implIsRule (p : Int) (r : Rul) : F_impl_IsRule p r = some (wIsRule p r) := by
  refine bnd (a := wIsRule p r) (bnd (isRule_ r) ?_) rfl
  unfold wIsRule
  cases ruleB r with
  | false => rfl
  | true =>
    refine cTW rfl (bnd (isOver_ p r.2.1) ?_)
    cases ovB p r.2.1 with
    | false => rfl
    | true => exact cTW rfl (bnd (isOver_ p r.2.2) rfl)
end Go.Proofs.YtciiinolpaohpaaDoor
