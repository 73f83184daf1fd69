/-
  Plain law of GraphOf: the reference's function and the program's answer alike. No program in sight. No condition.
-/
import Derived.Test.YtciiinolpaohpaaDoorZP40
import Derived.Test.YtciiinolpaohpaaDoorZP42
import Derived.Test.YtciiinolpaohpaaDoorZP6
namespace Go.Proofs.YtciiinolpaohpaaDoor

/-! ### trees that are typed -/
def typT : Tr → Option (Int × Int)
  | .leaf n => if lfB n = true then some (lfT n) else none
  | .node k a b => if k = 15 ∨ k = 16 then (typT a).bind fun x => (typT b).bind fun y => jn k x y else none
def typS (S : Stk) : Prop := ∀ p ∈ S, typT p.1 = some p.2
theorem stepT_typ {S S' : Stk} {n : Nod} (hS : typS S) (h : stepT S n = some S') : typS S' := by
  unfold stepT at h
  split at h
  · rename_i hk
    split at h
    · split at h
      · rename_i b y a x S0
        obtain ⟨w, hw, rfl⟩ := Option.map_eq_some_iff.1 h
        intro p hp
        rcases List.mem_cons.1 hp with rfl | hp
        · have h1 := hS (a, x) (by simp)
          have h2 := hS (b, y) (by simp)
          dsimp only at h1 h2
          show (if n.1 = 15 ∨ n.1 = 16 then _ else none) = _
          rw [if_pos hk, h1, h2]; exact hw
        · exact hS p (by simp [hp])
      · cases h
    · cases h
  · split at h
    · obtain rfl := Option.some.inj h
      intro p hp
      rcases List.mem_cons.1 hp with rfl | hp
      · show (if lfB n = true then _ else none) = _
        rw [if_pos ‹_›]
      · exact hS p hp
    · cases h
theorem runT_typ : ∀ (t : List Nod) (S S' : Stk), typS S → runT t S = some S' → typS S'
  | [], S, S', hS, h => by obtain rfl := Option.some.inj h; exact hS
  | n :: t, S, S', hS, h => by
    obtain ⟨S1, h1, h2⟩ := bindS h
    exact runT_typ t S1 S' (stepT_typ hS h1) h2
theorem typ_node {k : Int} {a b : Tr} {w : Int × Int} (h : typT (.node k a b) = some w) : (k = 15 ∨ k = 16) ∧ ∃ x y, typT a = some x ∧ typT b = some y ∧ jn k x y = some w := by
  unfold typT at h
  split at h
  · obtain ⟨x, h1, h2⟩ := bindS h
    obtain ⟨y, h3, h4⟩ := bindS h2
    exact ⟨‹_›, x, y, h1, h3, h4⟩
  · cases h
theorem typ_leaf {n : Nod} {w : Int × Int} (h : typT (.leaf n) = some w) : lfB n = true ∧ w = lfT n := by
  unfold typT at h
  split at h
  · exact ⟨‹_›, (Option.some.inj h).symm⟩
  · cases h
theorem lfB_k {n : Nod} (h : lfB n = true) : 1 ≤ n.1 ∧ n.1 ≤ 14 := by
  unfold lfB at h; simp only [Bool.and_eq_true] at h
  exact rng_true.1 h.2.1
theorem run_tree : ∀ {T : Tr} {w : Int × Int}, typT T = some w → ∀ S, runT (flat T) S = some ((T, w) :: S)
  | .leaf n, w, h, S => by
    obtain ⟨h1, rfl⟩ := typ_leaf h
    have hk := lfB_k h1
    show (stepT S n).bind _ = _
    unfold stepT
    rw [if_neg (by omega), if_pos h1]; rfl
  | .node k a b, w, h, S => by
    obtain ⟨hk, x, y, h1, h2, h3⟩ := typ_node h
    show runT (flat a ++ flat b ++ [(k, 0, .empty)]) S = _
    rw [runT_app, runT_app, run_tree h1 S]
    show ((runT (flat b) ((a, x) :: S)).bind _) = _
    rw [run_tree h2]
    show (stepT ((b, y) :: (a, x) :: S) (k, 0, .empty)).bind _ = _
    unfold stepT
    rw [if_pos hk, if_pos ⟨rfl, rfl⟩]
    show ((jn k x y).map _).bind _ = _
    rw [h3]; rfl
theorem validB_tree {t : List Nod} (h : validB t = true) : ∃ T w, t = flat T ∧ typT T = some w ∧ t.length ≤ 400 := by
  unfold validB at h
  rw [Bool.and_eq_true] at h
  have hl := rng_true.1 h.1
  cases hr : runT t [] with
  | none => rw [hr] at h; cases h.2
  | some S =>
    rw [hr] at h
    match S, hr, h.2 with
    | [(T, w)], hr, _ =>
      have h1 := runT_flat _ _ _ hr
      have h2 := runT_typ _ _ _ (fun p hp => by cases hp) hr
      refine ⟨T, w, ?_, h2 (T, w) (by simp), by omega⟩
      unfold stkN at h1
      simpa using h1.symm

/-! ### a tree's two halves -/
theorem tmScan_eq {t : List Nod} {x : List Int × List Int × List Int} {b : Bool} (h : F_spec_lbScan [] t = some (x, b)) : F_spec_tmScan t = some (x, b) := bnd h rfl
theorem tmOwn_ {t : List Nod} (h : t.length ≤ maxN) : F_spec_tmOwn t = some t := bnd (appO_of (by simpa using h)) rfl
theorem tmParts_ {k : Int} {a b : Tr} {w : Int × Int} (h : typT (.node k a b) = some w) (hl : (flat (.node k a b)).length ≤ 400) : F_spec_tmParts (flat (.node k a b)) = some (flat a, flat b) := by
  have hm : maxN = 1099511627776 := rfl
  obtain ⟨hk, x, y, h1, h2, h3⟩ := typ_node h
  obtain ⟨X, hX, hs⟩ := lbScan_ (flat (.node k a b))
  have hpa := flat_pos a
  have hpb := flat_pos b
  have hlen : (flat (.node k a b)).length = (flat a).length + (flat b).length + 1 := by simp [flat]; omega
  obtain ⟨k1, _, hsc⟩ := hs _ (run_tree h []) (rng_true.2 (by omega))
  have hsc := hsc [(b, y), (a, x)] (flat a ++ flat b) [(k, 0, .empty)] rfl (by
    rw [runT_app, run_tree h1]
    show runT (flat b) [(a, x)] = _
    rw [run_tree h2])
  obtain ⟨_, s2, _⟩ := hsc
  rw [List.length_append, Nat.add_sub_cancel] at s2
  have sl1 : sliceO (flat (.node k a b)) 0 (((flat a).length : Nat) : Int) = some (flat a) := by
    unfold sliceO; rw [if_pos ⟨by omega, by omega, by omega⟩]
    simp [flat]
  have sl2 : sliceO (flat (.node k a b)) (((flat a).length : Nat) : Int) (((flat a).length + (flat b).length : Nat) : Int) = some (flat b) := by
    unfold sliceO; rw [if_pos ⟨by omega, by omega, by omega⟩]
    have e : (((flat a).length : Int) + ((flat b).length : Int)).toNat - (flat a).length = (flat b).length := by omega
    simp [flat, e]
  refine bnd (tmScan_eq hX) (bnd (a := (((flat a).length + (flat b).length : Nat) : Int)) (by rw [hlen, subO_of (by omega) (by omega)]; congr 1; omega)
    (bnd (a := (((flat a).length + (flat b).length - 1 : Nat) : Int)) (by rw [subO_of (by omega) (by omega)]; congr 1; omega) (bnd (idxO_of s2) (bnd sl1 (bnd sl2 (bnd (tmOwn_ (by omega)) (bnd (tmOwn_ (by omega)) rfl)))))))

/-! ### the graph of a leaf -/
def frL (a b : Nat) : List Int := (List.range b).map fun j : Nat => ((j : Int) + (a : Int))
theorem frL_len (a b : Nat) : (frL a b).length = b := by simp [frL]
def ugL (n : Nat) : List Int := (List.range n).map fun q : Nat => (q : Int)
theorem ugL_len (n : Nat) : (ugL n).length = n := by simp [ugL]
theorem ugTo_ {n : Nat} (hn : n ≤ 1048576) : F_impl_upTo (n : Int) = some (ugL n) := upT_ hn
theorem ugL_succ (n : Nat) : ugL (n + 1) = ugL n ++ [(n : Int)] := by unfold ugL; rw [List.range_succ]; simp
theorem frL_succ (a b : Nat) : frL a (b + 1) = frL a b ++ [(b : Int) + a] := by unfold frL; rw [List.range_succ]; simp
theorem tabl_frL (a b : Nat) : (tabl b fun k => (k : Int) + a) = frL a b := rfl
def leafG (n : Nod) : Gra := if n.1 = 1 then (n.2.1, [], ugL n.2.1.toNat, ugL n.2.1.toNat) else if n.1 = 2 then (2, [], [0, 1], [1, 0]) else
  ((kd n.1).1 + (kd n.1).2, [(n.1, n.2.1, ugL (kd n.1).1.toNat, frL (kd n.1).1.toNat (kd n.1).2.toNat)], ugL (kd n.1).1.toNat, frL (kd n.1).1.toNat (kd n.1).2.toNat)
theorem hgId_ {n : Nat} (hn : n ≤ 1000) : F_spec_hgId (n : Int) = some ((n : Int), [], ugL n, ugL n) := by
  have hm : maxN = 1099511627776 := rfl
  have loop := whileO_is (f := fun (s166 : List Int × List Int × Int) =>
      (some (decide (s166.2.2 < (n : Int)))).bind fun a179 =>
      cond a179
      ((appO s166.1 [s166.2.2]).bind fun a187 =>
        (appO s166.2.1 [s166.2.2]).bind fun a196 =>
        (addO s166.2.2 1).bind fun a202 =>
        some (.inl (a187, a196, a202)))
      (some (.inr (s166.1, s166.2.1)))) (fun j => (ugL j, ugL j, (j : Int))) (t := (ugL n, ugL n)) n (fun j hj => by
    refine stp (cTW (dT (by dsimp only; omega)) ?_)
    have e : appO (ugL j) [(j : Int)] = some (ugL (j + 1)) := by rw [ugL_succ]; exact appO_of (by rw [ugL_len]; simp; omega)
    exact bnd e (bnd e (bnd (addO_of (by dsimp only; omega) (by dsimp only; omega)) rfl)))
    (stp (cFW (dF (by dsimp only; omega)) rfl))
  exact bnd loop rfl
theorem hgLeafLoop {a b : Nat} (ha : a ≤ 1000) (hb : b ≤ 1000) : whileO (fun (s328 : List Int × List Int × List Int × List Int × Int) =>
          (addO (a : Int) (b : Int)).bind fun a345 =>
          (some (decide (s328.2.2.2.2 < a345))).bind fun a347 =>
          cond a347
          ((some (decide (s328.2.2.2.2 < (a : Int)))).bind fun a352 =>
            cond a352
            ((appO s328.1 [s328.2.2.2.2]).bind fun a379 =>
              (appO s328.2.2.1 [s328.2.2.2.2]).bind fun a388 =>
              (addO s328.2.2.2.2 1).bind fun a394 =>
              some (.inl (a379, s328.2.1, a388, s328.2.2.2.1, a394)))
            ((appO s328.2.1 [s328.2.2.2.2]).bind fun a358 =>
              (appO s328.2.2.2.1 [s328.2.2.2.2]).bind fun a367 =>
              (addO s328.2.2.2.2 1).bind fun a373 =>
              some (.inl (s328.1, a358, s328.2.2.1, a367, a373))))
          (some (.inr (s328.1, s328.2.1, s328.2.2.1, s328.2.2.2.1)))) (([] : List Int), ([] : List Int), ([] : List Int), ([] : List Int), (0 : Int)) = some (ugL a, frL a b, ugL a, frL a b) := by
  have hm : maxN = 1099511627776 := rfl
  have hs : addO (a : Int) (b : Int) = some ((a : Int) + b) := addO_of (by omega) (by omega)
  have loop := whileO_is (f := fun (s328 : List Int × List Int × List Int × List Int × Int) =>
          (addO (a : Int) (b : Int)).bind fun a345 =>
          (some (decide (s328.2.2.2.2 < a345))).bind fun a347 =>
          cond a347
          ((some (decide (s328.2.2.2.2 < (a : Int)))).bind fun a352 =>
            cond a352
            ((appO s328.1 [s328.2.2.2.2]).bind fun a379 =>
              (appO s328.2.2.1 [s328.2.2.2.2]).bind fun a388 =>
              (addO s328.2.2.2.2 1).bind fun a394 =>
              some (.inl (a379, s328.2.1, a388, s328.2.2.2.1, a394)))
            ((appO s328.2.1 [s328.2.2.2.2]).bind fun a358 =>
              (appO s328.2.2.2.1 [s328.2.2.2.2]).bind fun a367 =>
              (addO s328.2.2.2.2 1).bind fun a373 =>
              some (.inl (s328.1, a358, s328.2.2.1, a367, a373))))
          (some (.inr (s328.1, s328.2.1, s328.2.2.1, s328.2.2.2.1)))) (fun j => (ugL (min j a), frL a (j - a), ugL (min j a), frL a (j - a), (j : Int))) (t := (ugL a, frL a b, ugL a, frL a b)) (a + b) (fun j hj => by
    refine bnd hs (stp (cTW (dT (by dsimp only; omega)) ?_))
    have e1 : addO ((j : Nat) : Int) 1 = some ((j + 1 : Nat) : Int) := addO_of (by omega) (by omega)
    by_cases hja : j < a
    · have e : appO (ugL (min j a)) [(j : Int)] = some (ugL (min (j + 1) a)) := by
        rw [Nat.min_eq_left (by omega), Nat.min_eq_left (by omega), ugL_succ]; exact appO_of (by rw [ugL_len]; simp; omega)
      refine stp (cTW (dT (by dsimp only; omega)) (bnd e (bnd e (bnd e1 ?_))))
      rw [show j + 1 - a = j - a by omega]
    · have e : appO (frL a (j - a)) [(j : Int)] = some (frL a (j + 1 - a)) := by
        rw [show j + 1 - a = j - a + 1 by omega, frL_succ, show ((j - a : Nat) : Int) + a = j by omega]; exact appO_of (by rw [frL_len]; simp; omega)
      refine stp (cFW (dF (by dsimp only; omega)) (bnd e (bnd e (bnd e1 ?_))))
      rw [Nat.min_eq_right (by omega), Nat.min_eq_right (by omega)])
    (bnd hs (stp (cFW (dF (by dsimp only; omega)) (by rw [Nat.min_eq_right (by omega), Nat.add_sub_cancel_left]))))
  rw [Nat.zero_min, Nat.zero_sub] at loop
  exact loop
theorem kd_nat (k : Int) : ∃ a b : Nat, kd k = ((a : Int), (b : Int)) ∧ a ≤ 2 ∧ b ≤ 2 := by
  have h := kd_le k
  refine ⟨(kd k).1.toNat, (kd k).2.toNat, Prod.ext (by dsimp only; omega) (by dsimp only; omega), by omega, by omega⟩
theorem lfB_id {n : Nod} (h : lfB n = true) (h1 : n.1 = 1) : 0 ≤ n.2.1 ∧ n.2.1 ≤ 12 := by
  unfold lfB at h
  simp only [Bool.and_eq_true] at h
  rw [if_pos h1] at h
  exact rng_true.1 h.2.2
theorem hgLeaf_ {n : Nod} (h : lfB n = true) : F_spec_hgLeaf n = some (leafG n) := by
  obtain ⟨k, v, s⟩ := n
  unfold F_spec_hgLeaf leafG
  by_cases h1 : k = 1
  · have hv := lfB_id h h1
    dsimp only at hv
    obtain ⟨m, rfl⟩ : ∃ m : Nat, v = (m : Int) := ⟨v.toNat, by omega⟩
    simp [h1, hgId_ (n := m) (by omega)]
  by_cases h2 : k = 2
  · simp [h2]
  obtain ⟨a, b, hk, ha, hb⟩ := kd_nat k
  have hs : addO (a : Int) (b : Int) = some ((a : Int) + b) := addO_of (by omega) (by omega)
  rw [if_neg h1, if_neg h2]
  refine stp (cFW (dF h1) (stp (cFW (dF h2) (bnd (tmKind_ k) ?_))))
  simp only [hk, Int.toNat_natCast]
  exact bnd hs (bnd (hgLeafLoop (by omega) (by omega)) rfl)
theorem leafGraph_ {n : Nod} (h : lfB n = true) : F_impl_leafGraph n = some (leafG n) := by
  have hm : maxN = 1099511627776 := rfl
  have hkk := lfB_k h
  obtain ⟨k, v, s⟩ := n
  dsimp only at hkk
  unfold F_impl_leafGraph leafG
  by_cases h1 : k = 1
  · have hv := lfB_id h h1
    dsimp only at hv
    obtain ⟨m, rfl⟩ : ∃ m : Nat, v = (m : Int) := ⟨v.toNat, by omega⟩
    have : F_impl_identityGraph (m : Int) = some ((m : Int), [], ugL m, ugL m) := bnd (ugTo_ (by omega)) (bnd (ugTo_ (by omega)) rfl)
    simp [h1, this]
  by_cases h2 : k = 2
  · simp [h2]
  obtain ⟨a, b, hk, ha, hb⟩ := kd_nat k
  have hs : addO (a : Int) (b : Int) = some ((a : Int) + b) := addO_of (by omega) (by omega)
  have hr : rng k 3 14 = true := rng_true.2 (by omega)
  have c1 : F_impl_clone (ugL a) = some (ugL a) := clone_ (by rw [ugL_len]; omega)
  have c2 : F_impl_clone (frL a b) = some (frL a b) := clone_ (by rw [frL_len]; omega)
  have f1 := from_ (n := b) (a := a) (by omega) (by omega)
  rw [tabl_frL] at f1
  simp only [h1, h2, generatorWires_ hr, hk, decide_false, cond_false, Option.bind_some, hs, if_false, Int.toNat_natCast, ugTo_ (n := a) (by omega), f1, c1, c2]
theorem leafG_ok {n : Nod} (h : lfB n = true) : gOk (leafG n) = true ∧ ((leafG n).2.2.1.length : Int) = (lfT n).1 ∧ ((leafG n).2.2.2.length : Int) = (lfT n).2 := by
  have hkk := lfB_k h
  obtain ⟨k, v, s⟩ := n
  dsimp only at hkk
  unfold leafG lfT
  by_cases h1 : k = 1
  · have hv := lfB_id h h1
    dsimp only at hv
    obtain ⟨m, rfl⟩ : ∃ m : Nat, v = (m : Int) := ⟨v.toNat, by omega⟩
    have key : ∀ m : Nat, m < 13 → gOk ((m : Int), [], ugL m, ugL m) = true := by decide
    simp only [h1, if_true, Int.toNat_natCast, ugL_len]
    exact ⟨key m (by omega), trivial, trivial⟩
  by_cases h2 : k = 2
  · subst h2
    have e : gOk (2, [], [0, 1], [1, 0]) = true := by decide
    exact ⟨e, rfl, rfl⟩
  have hr : rng k 3 14 = true := rng_true.2 (by omega)
  have hg : genB k v = true := by
    unfold lfB at h
    simp only [Bool.and_eq_true] at h
    rw [if_neg h1] at h
    unfold genB
    rw [hr, Bool.true_and]; exact h.2.2
  obtain ⟨a, b, hk, ha, hb⟩ := kd_nat k
  have h0 := hk
  simp only [h1, h2, if_false, hk, Int.toNat_natCast, ugL_len, frL_len, and_true]
  have hE : edW ((a : Int) + b) (k, v, ugL a, frL a b) = (wOk ((a : Int) + b) (ugL a) && wOk ((a : Int) + b) (frL a b)) := by
    unfold edW arB edI edO
    simp only [hg, hk, ugL_len, frL_len, decide_true, Bool.true_and]
  have e1 : ((a : Int) + b) = ((a + b : Nat) : Int) := by omega
  unfold gOk allW
  simp only [List.all_cons, List.all_nil, hE, ugL_len, frL_len, List.map_cons, List.map_nil]
  have key : ∀ a : Nat, a < 3 → ∀ b : Nat, b < 3 → (rng ((a : Int) + b) 0 100 && (decide (1 ≤ 60) && (decide (a ≤ 12) && (decide (b ≤ 12) && (wOk ((a : Int) + b) (ugL a) && (wOk ((a : Int) + b) (frL a b) && ((wOk ((a : Int) + b) (ugL a) && wOk ((a : Int) + b) (frL a b) && true) && (List.range ((a : Int) + b).toNat).all fun j : Nat => decide ((j : Int) ∈ ugL a ++ frL a b ++ ([ugL a ++ frL a b]).flatten)))))))) = true := by decide
  exact key a (by omega) b (by omega)

/-! ### the graph of a tree -/
def comb (k : Int) (a b : Gra) : Gra := if k = 15 then pSeq a.1.toNat b.1.toNat a b else pPar a.1.toNat b.1.toNat a b
def made : Tr → Gra × Bool
  | .leaf n => (leafG n, true)
  | .node k a b => if (made a).2 = true ∧ (made b).2 = true then ifG (comb k (made a).1 (made b).1) else (noG, false)
theorem ifG_ok {g : Gra} (h : (ifG g).2 = true) : gOk g = true ∧ (ifG g).1 = g := by
  unfold ifG at h ⊢
  split at h
  · rename_i hg
    rw [if_pos hg]; exact ⟨hg, rfl⟩
  · cases h
theorem pSeq_len (n m : Nat) (a b : Gra) : (pSeq n m a b).2.2.1.length = a.2.2.1.length ∧ (pSeq n m a b).2.2.2.length = b.2.2.2.length := by
  unfold pSeq gluG mpG befG
  dsimp only
  rw [mp_len, mp_len, mp_len]; exact ⟨rfl, rfl⟩
theorem pPar_len (n m : Nat) (a b : Gra) : (pPar n m a b).2.2.1.length = a.2.2.1.length + b.2.2.1.length ∧ (pPar n m a b).2.2.2.length = a.2.2.2.length + b.2.2.2.length := by
  unfold pPar
  dsimp only
  rw [List.length_append, List.length_append, mp_len, mp_len]; exact ⟨rfl, rfl⟩
def lens (g : Gra) (w : Int × Int) : Prop := (g.2.2.1.length : Int) = w.1 ∧ (g.2.2.2.length : Int) = w.2
theorem comb_lens {k : Int} {a b : Gra} {x y w : Int × Int} (ha : lens a x) (hb : lens b y) (h : jn k x y = some w) : lens (comb k a b) w ∧ (k = 15 → a.2.2.2.length = b.2.2.1.length) := by
  obtain ⟨a1, a2⟩ := ha
  obtain ⟨b1, b2⟩ := hb
  unfold comb
  unfold jn at h
  by_cases hk : k = 15
  · rw [if_pos hk] at h ⊢
    split at h
    · obtain rfl := Option.some.inj h
      have := pSeq_len a.1.toNat b.1.toNat a b
      exact ⟨⟨by dsimp only; omega, by dsimp only; omega⟩, fun _ => by omega⟩
    · cases h
  · rw [if_neg hk] at h ⊢
    split at h
    · obtain rfl := Option.some.inj h
      have := pPar_len a.1.toNat b.1.toNat a b
      exact ⟨⟨by dsimp only; omega, by dsimp only; omega⟩, fun h => (hk h).elim⟩
    · cases h
theorem made_ok : ∀ {T : Tr} {w : Int × Int}, typT T = some w → (made T).2 = true → gOk (made T).1 = true ∧ lens (made T).1 w
  | .leaf n, w, h, _ => by
    obtain ⟨h1, rfl⟩ := typ_leaf h
    have := leafG_ok h1
    exact ⟨this.1, this.2.1, this.2.2⟩
  | .node k a b, w, h, hm => by
    obtain ⟨hk, x, y, h1, h2, h3⟩ := typ_node h
    unfold made at hm ⊢
    split at hm
    · rename_i hab
      rw [if_pos hab]
      obtain ⟨g1, g2⟩ := ifG_ok hm
      rw [g2]
      exact ⟨g1, (comb_lens (made_ok h1 hab.1).2 (made_ok h2 hab.2).2 h3).1⟩
    · cases hm
theorem hgComb {k : Int} {a b : Gra} (ga : gOk a = true) (gb : gOk b = true) (hl : k = 15 → a.2.2.2.length = b.2.2.1.length) : (k = 15 → F_spec_hgSeq a b = some (comb k a b) ∧ F_impl_seqGraphs a b = some (comb k a b)) ∧ (k ≠ 15 → F_spec_hgPar a b = some (comb k a b) ∧ F_impl_parGraphs a b = some (comb k a b)) := by
  obtain ⟨n, ha⟩ := gOk_facts ga
  obtain ⟨m, hb⟩ := gOk_facts gb
  have n1 := ha.n100; have m1 := hb.n100
  unfold comb
  rw [ha.w, hb.w, Int.toNat_natCast, Int.toNat_natCast]
  constructor
  · intro h; rw [if_pos h]; exact ⟨hgSeq_ ha hb (hl h), seqGraphs_ ha hb (hl h)⟩
  · intro h; rw [if_neg h]; exact ⟨bnd (hgBeside_ (by omega) (by omega) ha.w hb.w ha.rgd hb.rgd) rfl, parGraphs_ (by omega) (by omega) ha.w hb.w ha.rgd hb.rgd⟩
theorem tmTop_leaf (n : Nod) : F_spec_tmTop (flat (.leaf n)) = some n.1 := rfl
theorem tmTop_node (k : Int) (a b : Tr) (hl : (flat (.node k a b)).length ≤ 400) : F_spec_tmTop (flat (.node k a b)) = some k := by
  have hlen : (flat (.node k a b)).length = (flat a).length + (flat b).length + 1 := by simp [flat]; omega
  refine bnd (a := (((flat a).length + (flat b).length : Nat) : Int)) (by rw [hlen, subO_of (by omega) (by omega)]; congr 1; omega) (bnd (a := (k, 0, .empty)) (idxO_of ?_) rfl)
  show (flat a ++ flat b ++ [_])[_]? = _
  rw [List.getElem?_append_right (by simp)]; simp
theorem hgMade_ : ∀ (fuel : Nat) {T : Tr} {w : Int × Int}, typT T = some w → (flat T).length ≤ 400 → (flat T).length ≤ fuel → F_spec_hgMade_n fuel (flat T) = some (made T)
  | 0, T, _, _, _, hf => by have := flat_pos T; omega
  | fuel + 1, .leaf n, w, h, hl, hf => by
    obtain ⟨h1, rfl⟩ := typ_leaf h
    have hk := lfB_k h1
    exact bnd (tmTop_leaf n) (stp (cTW (dT (by omega)) (bnd (a := n) rfl (bnd (hgLeaf_ h1) rfl))))
  | fuel + 1, .node k a b, w, h, hl, hf => by
    obtain ⟨hk, x, y, h1, h2, h3⟩ := typ_node h
    have hpa := flat_pos a
    have hpb := flat_pos b
    have hlen : (flat (.node k a b)).length = (flat a).length + (flat b).length + 1 := by simp [flat]; omega
    have ia := hgMade_ fuel h1 (by omega) (by omega)
    have ib := hgMade_ fuel h2 (by omega) (by omega)
    refine bnd (tmTop_node k a b hl) (stp (cFW (dF (by omega)) (bnd (tmParts_ h hl) (bnd ia (bnd ib ?_)))))
    rw [made]
    cases ma : (made a).2 with
    | false =>
      rw [if_neg (fun h => by cases h.1)]
      exact bnd (a := true) rfl rfl
    | true =>
      cases mb : (made b).2 with
      | false =>
        rw [if_neg (fun h => by cases h.2)]
        exact bnd (a := true) rfl rfl
      | true =>
        rw [if_pos ⟨rfl, rfl⟩]
        obtain ⟨ga, la⟩ := made_ok h1 ma
        obtain ⟨gb, lb⟩ := made_ok h2 mb
        have hc := hgComb (k := k) ga gb (comb_lens la lb h3).2
        refine bnd (a := false) rfl (cFW rfl ?_)
        by_cases h15 : k = 15
        · exact stp (cTW (dT h15) (bnd (hc.1 h15).1 (bnd (hgIf_ _) rfl)))
        · exact stp (cFW (dF h15) (bnd (hc.2 h15).1 (bnd (hgIf_ _) rfl)))

/-! ### the program's stack of graphs -/
noncomputable def gStep (t_ : List Nod) (k11 : Nat) (s383 : List Gra) : Option (List Gra ⊕ (Gra × Bool)) :=
      (idxO t_ ((k11 : Nat) : Int)).bind fun a399 =>
      (subO ((s383.length : Nat) : Int) 1).bind fun a407 =>
      (some (decide (a399.1 = 15))).bind fun a412 =>
      cond a412
      ((subO a407 1).bind fun a522 =>
        (idxO s383 a522).bind fun a530 =>
        (idxO s383 a407).bind fun a542 =>
        (F_impl_seqGraphs (a530.1, a530.2.1, a530.2.2.1, a530.2.2.2) (a542.1, a542.2.1, a542.2.2.1, a542.2.2.2)).bind fun y548 =>
        (subO a407 1).bind fun a558 =>
        (sliceO s383 0 a558).bind fun a560 =>
        (F_impl_Graph_isGraph (y548.1, y548.2.1, y548.2.2.1, y548.2.2.2)).bind fun y564 =>
        (some (!y564)).bind fun a567 =>
        cond a567
        (some (.inr ((0, [], [], []), false)))
        ((appO a560 [(y548.1, y548.2.1, y548.2.2.1, y548.2.2.2)]).bind fun a577 =>
          some (.inl a577)))
      ((some (decide (a399.1 = 16))).bind fun a415 =>
        cond a415
        ((subO a407 1).bind fun a454 =>
          (idxO s383 a454).bind fun a462 =>
          (idxO s383 a407).bind fun a474 =>
          (F_impl_parGraphs (a462.1, a462.2.1, a462.2.2.1, a462.2.2.2) (a474.1, a474.2.1, a474.2.2.1, a474.2.2.2)).bind fun y480 =>
          (subO a407 1).bind fun a490 =>
          (sliceO s383 0 a490).bind fun a492 =>
          (F_impl_Graph_isGraph (y480.1, y480.2.1, y480.2.2.1, y480.2.2.2)).bind fun y496 =>
          (some (!y496)).bind fun a499 =>
          cond a499
          (some (.inr ((0, [], [], []), false)))
          ((appO a492 [(y480.1, y480.2.1, y480.2.2.1, y480.2.2.2)]).bind fun a509 =>
            some (.inl a509)))
        ((F_impl_leafGraph (a399.1, a399.2.1, a399.2.2)).bind fun y418 =>
          (F_impl_Graph_isGraph (y418.1, y418.2.1, y418.2.2.1, y418.2.2.2)).bind fun y428 =>
          (some (!y428)).bind fun a431 =>
          cond a431
          (some (.inr ((0, [], [], []), false)))
          ((appO s383 [(y418.1, y418.2.1, y418.2.2.1, y418.2.2.2)]).bind fun a441 =>
            some (.inl a441))))
theorem gStep_leaf {t : List Nod} {j : Nat} {n : Nod} {s : List Gra} (ht : t[j]? = some n) (hn : lfB n = true) (hs : s.length ≤ 1000) : gStep t j s = some (.inl (s ++ [leafG n])) := by
  have hm : maxN = 1099511627776 := rfl
  have hk := lfB_k hn
  refine bnd (idxO_of ht) (bnd (subO_of (by omega) (by omega)) (stp (cFW (dF (by omega)) (stp (cFW (dF (by omega)) (bnd (leafGraph_ hn) (bnd (isGraph_ _) (stp ?_))))))))
  rw [(leafG_ok hn).1]
  exact cFW rfl (bnd (appO_of (by simp; omega)) rfl)
theorem gStep_node {t : List Nod} {j : Nat} {k : Int} {s : List Gra} {a b : Gra} (ht : t[j]? = some (k, 0, .empty)) (hk : k = 15 ∨ k = 16) (hs : s.length ≤ 1000) (ga : gOk a = true) (gb : gOk b = true) (hl : k = 15 → a.2.2.2.length = b.2.2.1.length) :
    gStep t j (s ++ [a] ++ [b]) = if gOk (comb k a b) = true then some (.inl (s ++ [comb k a b])) else some (.inr (noG, false)) := by
  have hm : maxN = 1099511627776 := rfl
  have hlen : (s ++ [a] ++ [b]).length = s.length + 2 := by simp
  have e1 : subO (((s ++ [a] ++ [b]).length : Nat) : Int) 1 = some ((s.length + 1 : Nat) : Int) := by rw [hlen, subO_of (by omega) (by omega)]; congr 1; omega
  have e2 : subO ((s.length + 1 : Nat) : Int) 1 = some ((s.length : Nat) : Int) := by rw [subO_of (by omega) (by omega)]; congr 1; omega
  have i1 : (s ++ [a] ++ [b])[s.length]? = some a := by rw [List.append_assoc, List.getElem?_append_right (Nat.le_refl _), Nat.sub_self]; rfl
  have i2 : (s ++ [a] ++ [b])[s.length + 1]? = some b := by rw [List.append_assoc, List.getElem?_append_right (by omega), Nat.add_sub_cancel_left]; rfl
  have sl : sliceO (s ++ [a] ++ [b]) 0 ((s.length : Nat) : Int) = some s := by
    unfold sliceO; rw [if_pos ⟨by omega, by omega, by rw [hlen]; omega⟩, List.append_assoc]
    simp
  have hc := hgComb (k := k) ga gb hl
  refine bnd (idxO_of ht) (bnd e1 ?_)
  by_cases h15 : k = 15
  · refine stp (cTW (dT h15) (bnd e2 (bnd (idxO_of i1) (bnd (idxO_of i2) (bnd (hc.1 h15).2 (bnd e2 (bnd sl (bnd (isGraph_ _) (stp ?_)))))))))
    cases hg : gOk (comb k a b) with
    | false => rfl
    | true => exact cFW rfl (bnd (appO_of (by simp; omega)) rfl)
  · refine stp (cFW (dF h15) (stp (cTW (dT (by dsimp only; omega)) (bnd e2 (bnd (idxO_of i1) (bnd (idxO_of i2) (bnd (hc.2 h15).2 (bnd e2 (bnd sl (bnd (isGraph_ _) (stp ?_)))))))))))
    cases hg : gOk (comb k a b) with
    | false => rfl
    | true => exact cFW rfl (bnd (appO_of (by simp; omega)) rfl)
theorem forO_stepL {σ τ : Type} {f : Nat → σ → Option (σ ⊕ τ)} {n k : Nat} {s s' : σ} (h : f k s = some (.inl s')) : forO f (n + 1) k s = forO f n (k + 1) s' := by
  show (f k s).bind _ = _
  rw [h]; rfl
theorem forO_stepR {σ τ : Type} {f : Nat → σ → Option (σ ⊕ τ)} {n k : Nat} {s : σ} {r : τ} (h : f k s = some (.inr r)) : forO f (n + 1) k s = some (.inr r) := by
  show (f k s).bind _ = _
  rw [h]; rfl
theorem graph_loop {t : List Nod} (ht : t.length ≤ 400) : ∀ {T : Tr} {w : Int × Int}, typT T = some w → ∀ (p q : List Nod) (r : List Gra), t = p ++ (flat T ++ q) → r.length ≤ p.length →
    forO (gStep t) ((flat T).length + q.length) p.length r = if (made T).2 = true then forO (gStep t) q.length (p.length + (flat T).length) (r ++ [(made T).1]) else some (.inr (noG, false))
  | .leaf n, w, h, p, q, r, e, hr => by
    obtain ⟨h1, rfl⟩ := typ_leaf h
    have hlt : p.length < t.length := by rw [e]; simp [flat]
    have hn : t[p.length]? = some n := by rw [e, List.getElem?_append_right (Nat.le_refl _), Nat.sub_self]; rfl
    rw [show (flat (.leaf n)).length + q.length = q.length + 1 by simp [flat]; omega, forO_stepL (gStep_leaf hn h1 (by omega))]
    rfl
  | .node k a b, w, h, p, q, r, e, hr => by
    obtain ⟨hk, x, y, h1, h2, h3⟩ := typ_node h
    have hlen : (flat (.node k a b)).length = (flat a).length + (flat b).length + 1 := by simp [flat]; omega
    have htl : t.length = p.length + ((flat a).length + (flat b).length + 1 + q.length) := by rw [e, List.length_append, List.length_append, hlen]
    have ea : t = p ++ (flat a ++ (flat b ++ ([((k, (0 : Int), ByteArray.empty) : Nod)] ++ q))) := by rw [e]; simp [flat]
    have eb : t = (p ++ flat a) ++ (flat b ++ ([((k, (0 : Int), ByteArray.empty) : Nod)] ++ q)) := by rw [ea]; simp
    have hpa := flat_pos a
    have la := graph_loop ht h1 p (flat b ++ ([((k, (0 : Int), ByteArray.empty) : Nod)] ++ q)) r ea hr
    rw [show (flat (.node k a b)).length + q.length = (flat a).length + (flat b ++ ([((k, (0 : Int), ByteArray.empty) : Nod)] ++ q)).length by rw [hlen]; simp; omega, la, made]
    cases ma : (made a).2 with
    | false => simp
    | true =>
      rw [if_pos rfl]
      have lb := graph_loop ht h2 (p ++ flat a) ([((k, (0 : Int), ByteArray.empty) : Nod)] ++ q) (r ++ [(made a).1]) eb (by simp; omega)
      rw [show (p ++ flat a).length = p.length + (flat a).length from List.length_append] at lb
      rw [show (flat b ++ ([((k, (0 : Int), ByteArray.empty) : Nod)] ++ q)).length = (flat b).length + ([((k, (0 : Int), ByteArray.empty) : Nod)] ++ q).length from List.length_append, lb]
      cases mb : (made b).2 with
      | false => simp
      | true =>
        have e3 : (if true = true ∧ true = true then ifG (comb k (made a).1 (made b).1) else (noG, false)) = ifG (comb k (made a).1 (made b).1) := if_pos ⟨rfl, rfl⟩
        have e4 : ∀ {α : Type} (u v : α), (if true = true then u else v) = u := fun u v => if_pos rfl
        rw [e3, e4]
        obtain ⟨ga, la⟩ := made_ok h1 ma
        obtain ⟨gb, lb⟩ := made_ok h2 mb
        have hn : t[p.length + (flat a).length + (flat b).length]? = some (k, 0, .empty) := by
          rw [show t = (p ++ flat a ++ flat b) ++ ([((k, (0 : Int), ByteArray.empty) : Nod)] ++ q) by rw [ea]; simp, List.getElem?_append_right (by simp; omega)]
          simp [Nat.add_assoc]
        have st := gStep_node (s := r) hn hk (by omega) ga gb (comb_lens la lb h3).2
        rw [show ([((k, (0 : Int), ByteArray.empty) : Nod)] ++ q).length = q.length + 1 by simp]
        by_cases hg : gOk (comb k (made a).1 (made b).1) = true
        · rw [if_pos hg] at st
          have hi : ifG (comb k (made a).1 (made b).1) = (comb k (made a).1 (made b).1, true) := if_pos hg
          rw [forO_stepL st]
          simp only [hi, and_self, if_true]
          rw [hlen, show p.length + ((flat a).length + (flat b).length + 1) = p.length + (flat a).length + (flat b).length + 1 by omega]
        · rw [if_neg hg] at st
          have hi : ifG (comb k (made a).1 (made b).1) = (noG, false) := if_neg hg
          rw [forO_stepR st]
          simp [hi]
theorem graphOf_ {T : Tr} {w : Int × Int} (h : typT T = some w) (hl : (flat T).length ≤ 400) : F_impl_graphOf (flat T) = some (made T) := by
  have loop := graph_loop hl h [] [] [] (by simp) (by simp)
  rw [List.length_nil, Nat.add_zero, Nat.zero_add, List.nil_append] at loop
  have e : F_impl_graphOf (flat T) = seqO (forO (gStep (flat T)) (flat T).length 0 []) fun s590 => (idxO s590 0).bind fun a599 => some ((a599.1, a599.2.1, a599.2.2.1, a599.2.2.2), true) := rfl
  rw [e, loop]
  cases hm : (made T).2 with
  | false =>
    have : made T = (noG, false) := by
      cases T with
      | leaf n => cases hm
      | node k a b =>
        rw [made] at hm ⊢
        split
        · rename_i hab
          rw [if_pos hab] at hm
          unfold ifG at hm ⊢
          split at hm
          · cases hm
          · rw [if_neg ‹_›]
        · rfl
    rw [if_neg (by simp), this]; rfl
  | true =>
    rw [if_pos rfl]
    refine congrArg some (Prod.ext rfl hm.symm)
open Classical in
noncomputable def wGraphOf (t : List Nod) : Gra × Bool := if h : validB t = true then made (Classical.choose (validB_tree h)) else (noG, false)
theorem wGraphOf_eq {t : List Nod} (h : validB t = true) : ∃ T w, t = flat T ∧ typT T = some w ∧ t.length ≤ 400 ∧ wGraphOf t = made T := by
  obtain ⟨w, h1, h2, h3⟩ := Classical.choose_spec (validB_tree h)
  exact ⟨_, w, h1, h2, h3, by unfold wGraphOf; rw [dif_pos h]⟩
end Go.Proofs.YtciiinolpaohpaaDoor
