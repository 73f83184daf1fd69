/-
  Plain laws: minimal state spaces. No program in sight. No condition.
-/
import Derived.Test.YteikcdofblclhaaDoorZP28
import Derived.Test.YteikcdofblclhaaDoorZP18
namespace Go.Proofs.YteikcdofblclhaaDoor
set_option linter.unusedVariables false

def keepL (H : Rows) (r : Nat) : List Int := sieve (fun j => !isL H j) r
theorem sieve_below (P : Nat → Bool) (n : Nat) : below (sieve P n) n := by
  have h : ∀ x ∈ sieve P n, 0 ≤ x ∧ x < (n : Int) := by
    intro x hx
    unfold sieve at hx
    obtain ⟨q, hq, rfl⟩ := List.mem_map.1 hx
    have := List.mem_range.1 (List.mem_filter.1 hq).1
    omega
  intro k hk
  exact h _ (el_mem hk)
theorem isL_take {H : Rows} {i j : Nat} (hi : i < H.length) : isL (H.take (i + 1)) j = (isL (H.take i) j || decide (leadN (gr H i) = j)) := by
  unfold isL
  rw [List.take_add_one, gr_get hi, List.any_append]
  simp
theorem keepS_ {H : Rows} {r : Nat} {p : Int} (hH : okM p r H) (hr : r ≤ 1048576) (hHl : H.length ≤ 1048576) :
    whileO (fun (s862 : List Int × Int) =>
      (some (decide (s862.2 < (r : Int)))).bind fun a873 =>
      cond a873
      ((forS (fun (k878 : Nat) (s915 : Bool) =>
            (idxO H ((k878 : Nat) : Int)).bind fun a930 =>
            cond s915
            ((F_spec_spLead a930).bind fun y936 =>
              (some (!decide (y936 = s862.2))).bind fun a939 =>
              some a939)
            (some false)) H.length 0 true).bind fun (s943 : Bool) =>
        cond s943
        ((appO s862.1 [s862.2]).bind fun a952 =>
          (addO s862.2 1).bind fun a957 =>
          some (.inl (a952, a957)))
        ((addO s862.2 1).bind fun a946 =>
          some (.inl (s862.1, a946))))
      (some (.inr s862.1))) (([] : List Int), (0 : Int)) = some (keepL H r) := by
  have hm : maxN = 1099511627776 := rfl
  refine whileO_is (fun j => (sieve (fun j => !isL H j) j, (j : Int))) (t := keepL H r) r ?_ ?_
  · intro j hj
    dsimp only
    have hsl := sieve_len (fun j => !isL H j) j
    refine stp (cTW (dT (by omega)) (bnd (a := !isL H j) ?_ ?_))
    · refine (forS_is (fun i => !isL (H.take i) j) ?_).trans (by rw [List.take_length])
      intro i hi
      have hw := (okM_gr hH hi).1
      refine bnd (idx_gr hi) ?_
      rw [isL_take hi]
      cases isL (H.take i) j with
      | true => exact cFW rfl rfl
      | false =>
        refine cTW rfl (bnd (spLead_ (by omega)) (stp (congrArg some ?_)))
        rw [show decide (((leadN (gr H i) : Nat) : Int) = (j : Int)) = decide (leadN (gr H i) = j) from decide_eq_decide.2 (by omega)]
        rfl
    · rw [sieve_succ]
      cases isL H j with
      | true => exact cFW rfl (bnd (addO_of (by omega) (by omega)) rfl)
      | false => exact cTW rfl (bnd (appO_of (by simp; omega)) (bnd (addO_of (by omega) (by omega)) rfl))
  · dsimp only; exact stp (cFW (dF (by omega)) rfl)
def bdL (r : Nat) (H : Rows) : Nat → List Bool
  | 0 => List.replicate r false
  | i + 1 => (bdL r H i).set (leadN (gr H i)) true
theorem bdL_len (r : Nat) (H : Rows) : ∀ i, (bdL r H i).length = r
  | 0 => by simp [bdL]
  | i + 1 => by unfold bdL; rw [List.length_set]; exact bdL_len r H i
theorem bdL_get {r : Nat} {H : Rows} {j : Nat} (hj : j < r) : ∀ i, i ≤ H.length → (bdL r H i)[j]? = some (isL (H.take i) j)
  | 0, _ => by
    show (List.replicate r false)[j]? = _
    rw [List.getElem?_replicate, if_pos hj]; rfl
  | i + 1, hi => by
    have ih := bdL_get (H := H) hj i (by omega)
    show ((bdL r H i).set (leadN (gr H i)) true)[j]? = _
    rw [isL_take (by omega), List.getElem?_set, bdL_len]
    by_cases h : leadN (gr H i) = j
    · rw [if_pos h, if_pos (by omega), dT h, Bool.or_true]
    · rw [if_neg h, ih, dF h, Bool.or_false]
theorem unmarked_ {marks : List Bool} {P : Nat → Bool} {r : Nat} (hl : marks.length = r) (hr : r ≤ 1048576) (h : ∀ j, j < r → marks[j]? = some (P j)) : F_impl_unmarked marks = some (sieve (fun j => !P j) r) := by
  have hm : maxN = 1099511627776 := rfl
  subst hl
  refine bnd (forS_is (fun j => sieve (fun j => !P j) j) ?_) rfl
  intro j hj
  have hsl := sieve_len (fun j => !P j) j
  refine bnd (idxO_of (h j hj)) (stp ?_)
  rw [sieve_succ]
  cases P j with
  | true => exact cFW rfl rfl
  | false => exact cTW rfl (bnd (appO_of (by simp; omega)) rfl)

/-! ### cleared vectors -/
def clrL (p : Int) (H : Rows) (keep v : List Int) : List Int := chosL keep (restN p v H H.length)
theorem specClear_ {p : Int} {r : Nat} {H : Rows} {keep v : List Int} (hp : 2 ≤ p ∧ p ≤ 97) (hb : Red p r H) (hv : okR p r v) (hk : below keep r) (hr : r ≤ 1048576) (hkl : keep.length ≤ 1048576) : F_spec_ssClear p H keep v = some (clrL p H keep v) := by
  have hm : maxN = 1099511627776 := rfl
  refine bnd (own_ (by rw [hv.1]; omega)) (bnd (forS_is (fun i => restN p v H i) ?_) (bnd ((forS_map (fun i : Int => el (restN p v H H.length) i.toNat) keep [] (by simp; omega) ?_)) rfl))
  · intro i hi
    have hl1 := hb.lt i hi
    have hro := okM_gr hb.ok hi
    have hok := restN_ok (b := H) hp.1 hv i
    have hel := hok.2 _ (el_mem (r := restN p v H i) (c := leadN (gr H i)) (by rw [hok.1]; exact hl1))
    refine bnd (idx_gr hi) (bnd (spLead_ (by omega)) (bnd (idx_el (by rw [hok.1]; exact hl1)) (bnd (a := restN p v H (i + 1)) ?_ rfl)))
    refine (forS_is (fun k => part (subG p (el (restN p v H i) (leadN (gr H i))) (gr H i)) (restN p v H i) k) ?_).trans (by rw [partN]; rfl)
    intro k hk'
    have hk2 : k < r := by rw [← hok.1]; exact hk'
    have hgk := okM_el hb.ok hi hk2
    have hvk := hok.2 _ (el_mem (r := restN p v H i) hk')
    refine bnd (idxO_of (part_get _ _ hk')) (bnd (idx_el (by omega)) (bnd (fdMul_ hp hel hgk) (bnd (fdSub_ hp hvk ⟨Int.emod_nonneg _ (by omega), Int.emod_lt_of_pos _ (by omega)⟩) (bnd (setO_of _ (by rw [part_len]; exact hk')) ?_))))
    rw [sub_mod]
    exact congrArg some (part_set (subG p (el (restN p v H i) (leadN (gr H i))) (gr H i)) (restN p v H i) hk')
  · intro j i s hj hs
    have hok := restN_ok (b := H) hp.1 hv H.length
    have hjl : j < keep.length := (List.getElem?_eq_some_iff.1 hj).1
    have e : el keep j = i := Option.some.inj ((el_get hjl).symm.trans hj)
    have h1 := hk j hjl
    rw [e] at h1
    obtain ⟨q, rfl⟩ : ∃ q : Nat, i = (q : Int) := ⟨i.toNat, by omega⟩
    rw [Int.toNat_natCast]
    exact bnd (idxO_of hj) (bnd (idx_el (by rw [hok.1]; omega)) (bnd (appO_of (by simp at hs ⊢; omega)) rfl))
theorem implClear_ {p : Int} {r : Nat} {H rows : Rows} {keep : List Int} (hp : 2 ≤ p ∧ p ≤ 97) (hb : Red p r H) (hv : okM p r rows) (hk : below keep r) (hr : r ≤ 1048576) (hkl : keep.length ≤ 1048576) (hrl : rows.length ≤ 1048576) :
    F_impl_StateSpace_withoutHidden_1 rows H p keep = some (rows.map (clrL p H keep)) := by
  have hm : maxN = 1099511627776 := rfl
  refine bnd (forS_map (clrL p H keep) rows [] (by simp; omega) ?_) rfl
  intro j v s hj hs
  have hjl : j < rows.length := (List.getElem?_eq_some_iff.1 hj).1
  have hv1 := hv v (mem_of_get hj)
  refine bnd (idxO_of hj) (bnd (clone_ (by rw [hv1.1]; omega)) (bnd (forS_is (fun i => restN p v H i) ?_) (bnd (chosen_ (restN_ok hp.1 hv1 H.length).1 hk hkl) (bnd (appO_of (by simp at hs ⊢; omega)) rfl))))
  intro i hi
  have hl1 := hb.lt i hi
  have hro := okM_gr hb.ok hi
  have hok := restN_ok (b := H) hp.1 hv1 i
  have hel := hok.2 _ (el_mem (r := restN p v H i) (c := leadN (gr H i)) (by rw [hok.1]; exact hl1))
  exact bnd (idx_gr hi) (bnd (lead_ _) (bnd (idx_el (by rw [hok.1]; exact hl1)) (bnd (cI_of ⟨by omega, by omega⟩) (bnd (implSub hp hok.2 hro.2 (by rw [hok.1, hro.1]) hel) rfl))))

/-! ### without the states that are not reached -/
def ssR (p : Int) (n o : Nat) (s : SSt) : SSt :=
  (((rcN p n s.2.2.2.1 s.2.2.2.2.1).length : Int), s.2.1, s.2.2.1, (mulM p n (rcN p n s.2.2.2.1 s.2.2.2.2.1) s.2.2.2.1).map (coordsL (rcN p n s.2.2.2.1 s.2.2.2.2.1)), s.2.2.2.2.1.map (coordsL (rcN p n s.2.2.2.1 s.2.2.2.2.1)), mulM p o (rcN p n s.2.2.2.1 s.2.2.2.2.1) s.2.2.2.2.2.1, s.2.2.2.2.2.2)
theorem coords_rows {p : Int} {n : Nat} {R m : Rows} (hR : Red p n R) (hm : okM p n m) : okM p R.length (m.map (coordsL R)) := by
  intro r hr
  obtain ⟨v, hv, rfl⟩ := List.mem_map.1 hr
  exact ⟨by simp [coordsL], coords_in hR (hm v hv)⟩
theorem ssR_ok {p : Int} {n k o : Nat} {s : SSt} (h : SSok p n k o s) (hf : fdB p = true) : SSok p (rcN p n s.2.2.2.1 s.2.2.2.2.1).length k o (ssR p n o s) := by
  have hm : maxN = 1099511627776 := rfl
  have g1 := h.hn; have g2 := h.ho
  have hR := rcN_red hf (by omega) h.a.2 h.a.1 h.b.2
  have hl := rcN_len hf (by omega) h.a.2 h.a.1 h.b.2
  have hA : okM p n (mulM p n (rcN p n s.2.2.2.1 s.2.2.2.2.1) s.2.2.2.1) := mulM_ok h.hp (by omega) h.a.2 hR.ok (Nat.le_of_eq h.a.1)
  exact ⟨h.hp, rfl, h.h2, h.h3, by omega, h.hk, h.ho, ⟨by show (List.map _ _).length = _; rw [List.length_map, mulM_len], coords_rows hR hA⟩, ⟨by show (List.map _ _).length = _; rw [List.length_map]; exact h.b.1, coords_rows hR h.b.2⟩,
    ⟨mulM_len _ _ _ _, mulM_ok h.hp (by omega) h.c.2 hR.ok (Nat.le_of_eq h.c.1)⟩, h.d⟩
theorem ssReached_ {p : Int} {n k o : Nat} {s : SSt} (h : SSok p n k o s) (hf : fdB p = true) : F_spec_ssReached p s = some (ssR p n o s) := by
  have hm : maxN = 1099511627776 := rfl
  have g1 := h.hn; have g2 := h.ho; have g3 := h.hk
  have hR := rcN_red hf (by omega) h.a.2 h.a.1 h.b.2
  have hl := rcN_len hf (by omega) h.a.2 h.a.1 h.b.2
  have hA : okM p n (mulM p n (rcN p n s.2.2.2.1 s.2.2.2.2.1) s.2.2.2.1) := mulM_ok h.hp (by omega) h.a.2 hR.ok (Nat.le_of_eq h.a.1)
  have hAl := mulM_len p n (rcN p n s.2.2.2.1 s.2.2.2.2.1) s.2.2.2.1
  have t1 := ssTimes_ h.hp (by omega) h.a.2 hR.ok (Nat.le_of_eq h.a.1) (by omega)
  have t2 := ssTimes_ h.hp (by omega) h.c.2 hR.ok (Nat.le_of_eq h.c.1) (by omega)
  have all : ∀ {m : Rows}, okM p n m → m.length ≤ 1000 → forS (fun (k89 : Nat) (s174 : List (List Int)) =>
      (idxO m ((k89 : Nat) : Int)).bind fun a191 =>
      (F_spec_spCoords (rcN p n s.2.2.2.1 s.2.2.2.2.1) a191).bind fun y196 =>
      (appO s174 [y196]).bind fun a204 =>
      some a204) m.length 0 [] = some (m.map (coordsL (rcN p n s.2.2.2.1 s.2.2.2.2.1))) := by
    intro m hmo hml
    refine (forS_map (coordsL (rcN p n s.2.2.2.1 s.2.2.2.2.1)) m [] (by simp; omega) ?_).trans (by simp)
    intro j v q hj hq
    have hjl : j < m.length := (List.getElem?_eq_some_iff.1 hj).1
    exact bnd (idxO_of hj) (bnd (spCoords_ hR (hmo v (mem_of_get hj)).1 (by omega) (by omega)) (bnd (appO_of (by simp at hq ⊢; omega)) rfl))
  rw [← h.h1] at t1
  rw [← h.h3] at t2
  refine bnd (h.reachS hf) (bnd (bnd (ssCopy_ (by rw [h.d.1]; omega) (rowsP_len h.d.2 (by omega))) rfl) (bnd t1 (bnd (all hA (by omega)) (bnd (all h.b.2 (by rw [h.b.1]; omega)) (bnd t2 rfl)))))
theorem allCoordinates_ {p : Int} {n : Nat} {R m : Rows} (hf : fdB p = true) (hR : Red p n R) (hRl : R.length ≤ 1000) (hn : n ≤ 1000) (hmo : okM p n m) (hml : m.length ≤ 1000) : F_impl_allCoordinates p R m = some (m.map (coordsL R)) := by
  have hm : maxN = 1099511627776 := rfl
  refine bnd (forS_map (coordsL R) m [] (by simp; omega) ?_) rfl
  intro j v q hj hq
  have hjl : j < m.length := (List.getElem?_eq_some_iff.1 hj).1
  exact bnd (idxO_of hj) (bnd (coordinates_ hf hR (hmo v (mem_of_get hj)) (by omega) (by omega)) (bnd (appO_of (by simp at hq ⊢; omega)) rfl))
theorem withoutUnreachable_ {p : Int} {n k o : Nat} {s : SSt} (h : SSok p n k o s) (hf : fdB p = true) : F_impl_StateSpace_withoutUnreachable s p = some (ssR p n o s) := by
  have hm : maxN = 1099511627776 := rfl
  have g1 := h.hn; have g2 := h.ho; have g3 := h.hk
  have hR := rcN_red hf (by omega) h.a.2 h.a.1 h.b.2
  have hl := rcN_len hf (by omega) h.a.2 h.a.1 h.b.2
  have hA : okM p n (mulM p n (rcN p n s.2.2.2.1 s.2.2.2.2.1) s.2.2.2.1) := mulM_ok h.hp (by omega) h.a.2 hR.ok (Nat.le_of_eq h.a.1)
  have hAl := mulM_len p n (rcN p n s.2.2.2.1 s.2.2.2.2.1) s.2.2.2.1
  have t1 := product_ h.hp (by omega) h.a.2 hR.ok (Nat.le_of_eq h.a.1) (by omega)
  have t2 := product_ h.hp (by omega) h.c.2 hR.ok (Nat.le_of_eq h.c.1) (by omega)
  rw [← h.h1] at t1
  rw [← h.h3] at t2
  exact bnd (h.reachI hf) (bnd (bnd (clones_ (by rw [h.d.1]; omega) (rowsP_len h.d.2 (by omega))) rfl) (bnd t1 (bnd (allCoordinates_ hf hR (by omega) (by omega) hA (by omega)) (bnd (allCoordinates_ hf hR (by omega) (by omega) h.b.2 (by rw [h.b.1]; omega)) (bnd t2 rfl)))))

/-! ### without the states that are hidden -/
def ssH (p : Int) (n o : Nat) (s : SSt) : SSt :=
  (((keepL (hidM p n o s.2.2.2.1 s.2.2.2.2.2.1) n).length : Int), s.2.1, s.2.2.1,
    (keepL (hidM p n o s.2.2.2.1 s.2.2.2.2.2.1) n).map (fun q => clrL p (hidM p n o s.2.2.2.1 s.2.2.2.2.2.1) (keepL (hidM p n o s.2.2.2.1 s.2.2.2.2.2.1) n) (gr s.2.2.2.1 q.toNat)),
    s.2.2.2.2.1.map (clrL p (hidM p n o s.2.2.2.1 s.2.2.2.2.2.1) (keepL (hidM p n o s.2.2.2.1 s.2.2.2.2.2.1) n)),
    (keepL (hidM p n o s.2.2.2.1 s.2.2.2.2.2.1) n).map (fun q => gr s.2.2.2.2.2.1 q.toNat), s.2.2.2.2.2.2)
theorem map_take {α β : Type} (f : α → β) {l : List α} {k : Nat} {x : α} (h : l[k]? = some x) : (l.take (k + 1)).map f = (l.take k).map f ++ [f x] := by
  rw [List.take_add_one, h, List.map_append]; rfl
theorem ssMinimize_ {p : Int} {n k o : Nat} {s : SSt} (h : SSok p n k o s) (hf : fdB p = true) : F_spec_ssMinimize p s = some (ssH p (rcN p n s.2.2.2.1 s.2.2.2.2.1).length o (ssR p n o s)) := by
  have hm : maxN = 1099511627776 := rfl
  refine bnd (ssReached_ h hf) ?_
  have h' := ssR_ok h hf
  generalize (rcN p n s.2.2.2.1 s.2.2.2.2.1).length = r at h' ⊢
  generalize ssR p n o s = t at h' ⊢
  have g1 := h'.hn; have g2 := h'.ho; have g3 := h'.hk
  have hH := h'.hid_red hf
  have hHl := red_len hf hH
  refine bnd (h'.hidS hf) ?_
  unfold ssH
  generalize hidM p r o t.2.2.2.1 t.2.2.2.2.2.1 = H at hH hHl ⊢
  have hkl : (keepL H r).length ≤ r := sieve_len _ r
  have hkb : below (keepL H r) r := sieve_below _ r
  have hks := keepS_ (H := H) (r := r) hH.ok (by omega) (by omega)
  rw [← h'.h1] at hks
  refine bnd hks (bnd (forS_is (fun j => (((keepL H r).take j).map (fun q => clrL p H (keepL H r) (gr t.2.2.2.1 q.toNat)), ((keepL H r).take j).map (fun q => gr t.2.2.2.2.2.1 q.toNat))) ?_) (bnd (forS_map (clrL p H (keepL H r)) t.2.2.2.2.1 [] (by rw [h'.b.1]; simp; omega) ?_) ?_))
  · intro j hj
    have hj1 := hkb j hj
    have hj2 := el_get hj
    obtain ⟨q, hq⟩ : ∃ q : Nat, el (keepL H r) j = (q : Int) := ⟨(el (keepL H r) j).toNat, by omega⟩
    rw [hq] at hj1 hj2
    have hqa : q < t.2.2.2.1.length := by rw [h'.a.1]; omega
    have hqc : q < t.2.2.2.2.2.1.length := by rw [h'.c.1]; omega
    refine bnd (idxO_of hj2) (bnd (idx_gr hqa) (bnd (specClear_ h'.hp hH (okM_gr h'.a.2 hqa) hkb (by omega) (by omega)) (bnd (appO_of (by simp; omega)) (bnd (idx_gr hqc) (bnd (own_ (by rw [(okM_gr h'.c.2 hqc).1]; omega)) (bnd (appO_of (by simp; omega)) ?_))))))
    rw [map_take _ hj2, map_take _ hj2, Int.toNat_natCast]
  · intro j v q hj hq
    have hjl : j < t.2.2.2.2.1.length := (List.getElem?_eq_some_iff.1 hj).1
    have := h'.b.1
    exact bnd (idxO_of hj) (bnd (specClear_ h'.hp hH (h'.b.2 v (mem_of_get hj)) hkb (by omega) (by omega)) (bnd (appO_of (by simp at hq ⊢; omega)) rfl))
  · rw [List.take_length]; rfl
theorem minimized_ {p : Int} {n k o : Nat} {s : SSt} (h : SSok p n k o s) (hf : fdB p = true) : F_impl_StateSpace_minimized s p = some (ssH p (rcN p n s.2.2.2.1 s.2.2.2.2.1).length o (ssR p n o s)) := by
  have hm : maxN = 1099511627776 := rfl
  refine bnd (withoutUnreachable_ h hf) (bnd (a := ssH p (rcN p n s.2.2.2.1 s.2.2.2.2.1).length o (ssR p n o s)) ?_ rfl)
  have h' := ssR_ok h hf
  generalize (rcN p n s.2.2.2.1 s.2.2.2.2.1).length = r at h' ⊢
  generalize ssR p n o s = t at h' ⊢
  have g1 := h'.hn; have g2 := h'.ho; have g3 := h'.hk
  have hH := h'.hid_red hf
  have hHl := red_len hf hH
  refine bnd (h'.hidI hf) ?_
  unfold ssH
  generalize hidM p r o t.2.2.2.1 t.2.2.2.2.2.1 = H at hH hHl ⊢
  have hkl : (keepL H r).length ≤ r := sieve_len _ r
  have hkb : below (keepL H r) r := sieve_below _ r
  have hmk : makeO t.1 false = some (bdL r H 0) := by rw [h'.h1]; exact makeO_of false (by omega)
  refine bnd hmk (bnd (forS_is (fun i => bdL r H i) ?_) ?_)
  · intro i hi
    exact bnd (idx_gr hi) (bnd (lead_ _) (bnd (setO_of _ (by rw [bdL_len]; exact hH.lt i hi)) rfl))
  refine bnd (unmarked_ (P := isL H) (bdL_len r H H.length) (by omega) (fun j hj => by rw [bdL_get hj H.length (Nat.le_refl _), List.take_length])) ?_
  change (Option.bind (Option.bind _ _) _) = _
  refine bnd (bnd (clones_ (by rw [h'.d.1]; omega) (rowsP_len h'.d.2 (by omega))) rfl) (bnd (forS_is (fun j => (((keepL H r).take j).map (fun q => gr t.2.2.2.1 q.toNat), ((keepL H r).take j).map (fun q => gr t.2.2.2.2.2.1 q.toNat))) ?_) ?_)
  · intro j hj
    replace hj : j < (keepL H r).length := hj
    have hj1 := hkb j hj
    have hj2 := el_get hj
    obtain ⟨q, hq⟩ : ∃ q : Nat, el (keepL H r) j = (q : Int) := ⟨(el (keepL H r) j).toNat, by omega⟩
    rw [hq] at hj1 hj2
    have hqa : q < t.2.2.2.1.length := by rw [h'.a.1]; omega
    have hqc : q < t.2.2.2.2.2.1.length := by rw [h'.c.1]; omega
    refine bnd (idxO_of hj2) (bnd (idx_gr hqa) (bnd (appO_of (by simp; omega)) (bnd (idx_gr hqc) (bnd (clone_ (by rw [(okM_gr h'.c.2 hqc).1]; omega)) (bnd (appO_of (by simp; omega)) ?_)))))
    rw [map_take _ hj2, map_take _ hj2, Int.toNat_natCast]
  · have hlen : (sieve (fun j => !isL H j) r).length = (keepL H r).length := rfl
    rw [hlen, List.take_length]
    have hrows : okM p r ((keepL H r).map fun q => gr t.2.2.2.1 q.toNat) := by
      intro v hv
      obtain ⟨q, hq, rfl⟩ := List.mem_map.1 hv
      obtain ⟨i, hi, rfl⟩ := mem_el.1 hq
      have := hkb i hi
      exact h'.a.2 _ (gr_mem (by rw [h'.a.1]; omega))
    refine bnd (implClear_ (keep := keepL H r) h'.hp hH hrows hkb (by omega) (by omega) (by simp; omega)) (bnd (implClear_ (keep := keepL H r) h'.hp hH h'.b.2 hkb (by omega) (by omega) (by rw [h'.b.1]; omega)) ?_)
    rw [List.map_map]; rfl
def wMinimizeSpace (p : Int) (s : SSt) : SSt × Bool := if ssB p s then (ssH p (rcN p s.1.toNat s.2.2.2.1 s.2.2.2.2.1).length s.2.2.1.toNat (ssR p s.1.toNat s.2.2.1.toNat s), true) else ((0, 0, 0, [], [], [], []), false)
theorem specMinimizeSpace (p : Int) (s : SSt) : F_spec_MinimizeSpace p s = some (wMinimizeSpace p s) := by
  refine bnd (ssGood p s) (stp ?_)
  unfold wMinimizeSpace
  cases h : ssB p s with
  | false => rfl
  | true =>
    obtain ⟨n, k, o, sa⟩ := ssB_ok h
    have e1 := sa.h1; have e3 := sa.h3
    rw [if_pos rfl, show s.1.toNat = n by omega, show s.2.2.1.toNat = o by omega]
    exact cFW rfl (bnd (ssMinimize_ sa (ssB_f h)) rfl)
theorem implMinimizeSpace (p : Int) (s : SSt) : F_impl_MinimizeSpace p s = some (wMinimizeSpace p s) := by
  refine bnd (isSS p s) (stp ?_)
  unfold wMinimizeSpace
  cases h : ssB p s with
  | false => rfl
  | true =>
    obtain ⟨n, k, o, sa⟩ := ssB_ok h
    have e1 := sa.h1; have e3 := sa.h3
    rw [if_pos rfl, show s.1.toNat = n by omega, show s.2.2.1.toNat = o by omega]
    exact cFW rfl (bnd (minimized_ sa (ssB_f h)) rfl)
theorem rowsN_tiny {m : Rows} (h : ∀ r ∈ m, r.length ≤ 24) (hl : m.length ≤ 24) : rowsN m ≤ 1000 := by
  unfold rowsN
  have := tot_le (n := rowN) (c := 24) (l := m) (fun r hr => h r hr)
  omega
theorem boundMinimizeSpace_0 (p : Int) (s : SSt) : nStateSpace (wMinimizeSpace p s).1 ≤ 1048576 := by
  unfold wMinimizeSpace
  split
  · rename_i h
    obtain ⟨n, k, o, sa⟩ := ssB_ok h
    have e1 := sa.h1; have e3 := sa.h3
    have hf := ssB_f h
    rw [show s.1.toNat = n by omega, show s.2.2.1.toNat = o by omega]
    have h' := ssR_ok sa hf
    dsimp only
    generalize (rcN p n s.2.2.2.1 s.2.2.2.2.1).length = r at h' ⊢
    generalize ssR p n o s = t at h' ⊢
    have g1 := h'.hn; have g2 := h'.ho; have g3 := h'.hk
    unfold nStateSpace ssH
    dsimp only
    generalize hidM p r o t.2.2.2.1 t.2.2.2.2.2.1 = H
    have hkl : (keepL H r).length ≤ r := sieve_len _ r
    have hkb : below (keepL H r) r := sieve_below _ r
    have i1 : nIntSS ((keepL H r).map fun q => clrL p H (keepL H r) (gr t.2.2.2.1 q.toNat)) ≤ 1000 := by
      refine rowsN_tiny (fun v hv => ?_) (by simp; omega)
      obtain ⟨q, hq, rfl⟩ := List.mem_map.1 hv
      unfold clrL; rw [chosL_len]; omega
    have i2 : nIntSS (t.2.2.2.2.1.map (clrL p H (keepL H r))) ≤ 1000 := by
      refine rowsN_tiny (fun v hv => ?_) (by rw [List.length_map, h'.b.1]; omega)
      obtain ⟨q, hq, rfl⟩ := List.mem_map.1 hv
      unfold clrL; rw [chosL_len]; omega
    have i3 : nIntSS ((keepL H r).map fun q => gr t.2.2.2.2.2.1 q.toNat) ≤ 1000 := by
      refine rowsN_tiny (fun v hv => ?_) (by simp; omega)
      obtain ⟨q, hq, rfl⟩ := List.mem_map.1 hv
      obtain ⟨i, hi, rfl⟩ := mem_el.1 hq
      have := hkb i hi
      have := (h'.c.2 _ (gr_mem (i := (el (keepL H r) i).toNat) (by rw [h'.c.1]; omega))).1
      omega
    have i4 : nIntSS t.2.2.2.2.2.2 ≤ 1000 := rowsN_tiny (fun v hv => by have := (h'.d.2 v hv).1; omega) (by rw [h'.d.1]; omega)
    omega
  · show nIntSS [] + nIntSS [] + nIntSS [] + nIntSS [] ≤ _
    decide
end Go.Proofs.YteikcdofblclhaaDoor
