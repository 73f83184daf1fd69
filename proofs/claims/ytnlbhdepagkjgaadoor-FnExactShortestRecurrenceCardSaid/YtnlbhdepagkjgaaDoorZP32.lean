/-
  Plain laws: the functions of ShortestRecurrence. No program in sight. No condition.
-/
import Derived.Test.YtnlbhdepagkjgaaDoorZP31
namespace Go.Proofs.YtnlbhdepagkjgaaDoor
set_option linter.unusedVariables false

def turnP (rows : Rows) (K i j : Nat) : Rows := (List.range K).map fun j' => (List.range rows.length).map fun i' => if i' < i ∨ (i' = i ∧ j' < j) then el (gr rows i') j' else 0
theorem turnP_set {rows : Rows} {K i j : Nat} (hi : i < rows.length) (hj : j < K) : (turnP rows K i j).set j ((gr (turnP rows K i j) j).set i (el (gr rows i) j)) = turnP rows K i (j + 1) := by
  have hg : gr (turnP rows K i j) j = (List.range rows.length).map fun i' => if i' < i ∨ (i' = i ∧ j < j) then el (gr rows i') j else 0 := by unfold turnP; exact gr_rmap _ hj
  rw [hg]
  refine List.ext_getElem (by simp [turnP]) (fun a h1 h2 => ?_)
  rw [List.getElem_set]
  by_cases haj : j = a
  · subst haj
    rw [if_pos rfl]
    simp only [turnP, List.getElem_map, List.getElem_range]
    refine List.ext_getElem (by simp) (fun b h3 h4 => ?_)
    rw [List.getElem_set]
    simp only [List.getElem_map, List.getElem_range]
    by_cases hbi : i = b
    · subst hbi; rw [if_pos rfl, if_pos (by omega)]
    · rw [if_neg hbi]
      by_cases hlt : b < i
      · rw [if_pos (by omega), if_pos (by omega)]
      · rw [if_neg (by omega), if_neg (by omega)]
  · rw [if_neg haj]
    simp only [turnP, List.getElem_map, List.getElem_range]
    refine List.map_congr_left (fun b hb => ?_)
    by_cases hlt : b < i ∨ (b = i ∧ a < j)
    · rw [if_pos hlt, if_pos (by omega)]
    · rw [if_neg hlt, if_neg (by omega)]
theorem turnP_next (rows : Rows) (K i : Nat) : turnP rows K i K = turnP rows K (i + 1) 0 := by
  unfold turnP
  refine List.map_congr_left (fun j hj => List.map_congr_left (fun b hb => ?_))
  have := List.mem_range.1 hj
  by_cases hlt : b < i + 1
  · rw [if_pos (by omega), if_pos (by omega)]
  · rw [if_neg (by omega), if_neg (by omega)]
theorem mxTurn_ {rows : Rows} {K : Nat} (hl : rows.length ≤ 1048576) (hK : K ≤ 1048576) (hw : ∀ r ∈ rows, r.length = K) : F_spec_mxTurn ((K : Int), rows) = some ((rows.length : Int), trM rows K) := by
  have hm : maxN = 1099511627776 := rfl
  refine bnd (mxZero_ (r := K) (c := rows.length) (by omega) (by omega)) ?_
  have e0 : List.replicate K (List.replicate rows.length (0 : Int)) = turnP rows K 0 0 := by
    refine (List.eq_replicate_iff.2 ⟨by simp [turnP], fun r hr => ?_⟩).symm
    obtain ⟨j, hj, rfl⟩ := List.mem_map.1 hr
    refine List.eq_replicate_iff.2 ⟨by simp, fun x hx => ?_⟩
    obtain ⟨b, hb, rfl⟩ := List.mem_map.1 hx
    rw [if_neg (by omega)]
  have eN : turnP rows K rows.length 0 = trM rows K := by
    refine List.ext_getElem (by rw [trM_len]; simp [turnP]) (fun a h1 h2 => ?_)
    rw [trM_len] at h2
    have e : (trM rows K)[a]'(by rw [trM_len]; exact h2) = colM rows a := by
      rw [← trM_gr h2]
      have := gr_get (m := trM rows K) (i := a) (by rw [trM_len]; exact h2)
      rw [List.getElem?_eq_getElem (by rw [trM_len]; exact h2)] at this; exact Option.some.inj this
    rw [e]
    simp only [turnP, List.getElem_map, List.getElem_range]
    refine ext_el (by simp [colM]) (fun b hb => ?_)
    rw [rmap_len] at hb
    rw [el_rmap _ hb, colM_el hb, if_pos (by omega)]
  refine bnd (a := trM rows K) ?_ rfl
  rw [← eN]
  show forS _ rows.length 0 (List.replicate K (List.replicate rows.length (0 : Int))) = _
  rw [e0]
  refine forS_is (fun i => turnP rows K i 0) ?_
  intro i hi
  refine bnd (idx_gr hi) (bnd (a := turnP rows K (i + 1) 0) ?_ rfl)
  rw [← turnP_next]
  have hwi := hw _ (gr_mem hi)
  rw [hwi]
  refine forS_is (fun j => turnP rows K i j) ?_
  intro j hj
  have hl1 : (turnP rows K i j).length = K := by simp [turnP]
  have hl2 : (gr (turnP rows K i j) j).length = rows.length := by unfold turnP; rw [gr_rmap _ hj, rmap_len]
  refine bnd (idx_el (r := gr rows i) (by omega)) (bnd (idx_gr (m := turnP rows K i j) (by omega)) (bnd (setO_of _ (by omega)) (bnd (setO_of _ (by omega)) ?_)))
  rw [turnP_set hi hj]
theorem rcWant_succ (p : Int) (s : List Int) (m t : Nat) : rcWant p s m (t + 1) = rcWant p s m t ++ [(p - el s (m + t)) % p] := by simp [rcWant, List.range_succ]
theorem rcW_succ (p : Int) (s : List Int) (m t : Nat) : rcW p s m (t + 1) = rcW p s m t ++ [((List.range m).map fun i => el s (t + i)) ++ [(p - el s (m + t)) % p]] := by simp [rcW, List.range_succ]
theorem rcRow_succ (s : List Int) (m t : Nat) : (rcRow s m t).mapIdx (fun i r => r ++ [el s (m + t - 1 - i)]) = rcRow s m (t + 1) := by
  refine List.ext_getElem (by simp [rcRow]) (fun a h1 h2 => ?_)
  simp [rcRow, List.getElem_mapIdx, List.range_succ]
/-- one length, by the reference -/
theorem rzRecurrence_ {p : Int} {s : List Int} {m K : Nat} (hf : fdB p = true) (hs : inP p s) (hK : m + K = s.length) (hl : s.length ≤ 60) :
    F_spec_rzRecurrence p s (m : Int) = some (if solB p K (rcRow s m K) (rcWant p s m K) then (restN p (solX p K (rcRow s m K) (rcWant p s m K)) (rcKer p s m K) (rcKer p s m K).length, true) else ([], false)) := by
  have hm : maxN = 1099511627776 := rfl
  have hp := fdB_rng hf
  have hwl : (rcWant p s m K).length = K := rmap_len _
  have e0 : List.replicate m ([] : List Int) = rcRow s m 0 := by
    refine (List.eq_replicate_iff.2 ⟨rmap_len _, fun r hr => ?_⟩).symm
    obtain ⟨j, hj, rfl⟩ := List.mem_map.1 hr
    rfl
  refine bnd ((makeO_of [] (by omega)).trans (by rw [e0])) (bnd (a := (rcRow s m K, rcWant p s m K)) (whileO_is (fun t => (rcRow s m t, ((m + t : Nat) : Int), rcWant p s m t)) K ?_ ?_) ?_)
  · intro t ht
    dsimp only
    have hx := hs _ (el_mem (r := s) (c := m + t) (by omega))
    refine stp (cTW (dT (by omega)) (bnd (idx_el (by omega)) (bnd (fdNeg_ hp hx) (bnd (appO_of (by rw [show (rcWant p s m t).length = t from rmap_len _]; show t + 1 ≤ _; omega)) (bnd (a := rcRow s m (t + 1)) ?_ (bnd (addO_of (by omega) (by omega)) ?_))))))
    · refine (forS_is (fun i => partG (fun i r => r ++ [el s (m + t - 1 - i)]) (rcRow s m t) i) ?_).trans (by rw [partGN, rcRow_succ])
      intro i hi
      have hi' : i < m := by have : i < (rcRow s m t).length := hi; rw [rcRow_len] at this; exact this
      have hpl : i < (partG (fun i r => r ++ [el s (m + t - 1 - i)]) (rcRow s m t) i).length := by rw [partG_len]; exact hi
      have hg : gr (partG (fun i r => r ++ [el s (m + t - 1 - i)]) (rcRow s m t) i) i = gr (rcRow s m t) i := by rw [gr_part hi, if_neg (by omega)]
      have e2 := part_setG (g := fun i r => r ++ [el s (m + t - 1 - i)]) (m := rcRow s m t) hi
      have hw : (gr (rcRow s m t) i).length = t := by unfold rcRow; rw [gr_rmap _ hi', rmap_len]
      refine bnd (idx_gr hpl) (bnd (subO_of (by omega) (by omega)) (bnd (subO_of (by omega) (by omega)) ?_))
      rw [show ((m + t : Nat) : Int) - 1 - (i : Int) = ((m + t - 1 - i : Nat) : Int) by omega, hg]
      exact bnd (idx_el (by omega)) (bnd (appO_of (by rw [hw]; show t + 1 ≤ _; omega)) (bnd (setO_of _ hpl) (congrArg some e2)))
    · rw [rcWant_succ, show ((m + t : Nat) : Int) + 1 = ((m + (t + 1) : Nat) : Int) by omega]
  · dsimp only
    exact stp (cFW (dF (by omega)) rfl)
  show (F_spec_mxSolve p ((((rcWant p s m K).length : Nat) : Int), rcRow s m K) (rcWant p s m K)).bind _ = _
  rw [hwl]
  refine bnd (mxSolve_ (n := K) hf (rcRow_ok hs hK) (rcWant_ok hp.1) (by omega) (by rw [rcRow_len]; omega)) (stp ?_)
  cases hb : solB p K (rcRow s m K) (rcWant p s m K) with
  | false => rfl
  | true =>
    have hKer : Red p m (rcKer p s m K) := nulM_red hf
    have hco : okR p m (solX p K (rcRow s m K) (rcWant p s m K)) := by have := solX_ok (v := rcWant p s m K) hf (rcRow_ok (p := p) hs hK); rw [rcRow_len] at this; exact this
    have hTr := rcTr_ok hs hK
    refine cFW rfl (bnd (mxTurn_ (by rw [rcRow_len]; omega) (by omega) (fun r hr => ((rcRow_ok hs hK) r hr).1)) (bnd (spNull_ (n := m) hf (by omega) hTr (by rw [trM_len]; omega)) (bnd (forS_is (fun i => restN p (solX p K (rcRow s m K) (rcWant p s m K)) (rcKer p s m K) i) ?_) rfl)))
    intro i hi
    replace hi : i < (rcKer p s m K).length := hi
    have hl1 := hKer.lt i hi
    have hro := okM_gr hKer.ok hi
    have hok := restN_ok (b := rcKer p s m K) hp.1 hco i
    have hel := hok.2 _ (el_mem (r := restN p (solX p K (rcRow s m K) (rcWant p s m K)) (rcKer p s m K) i) (c := leadN (gr (rcKer p s m K) i)) (by rw [hok.1]; exact hl1))
    refine bnd (idx_gr (m := rcKer p s m K) hi) (bnd (spLead_ (r := gr (rcKer p s m K) i) (by omega)) (bnd (idx_el (r := restN p (solX p K (rcRow s m K) (rcWant p s m K)) (rcKer p s m K) i) (by rw [hok.1]; exact hl1)) (bnd (mxLess_ hp hok.2 hro.2 (by rw [hok.1, hro.1]) hel) rfl)))
/-- one length, by the program -/
theorem recurrenceOfLength_ {p : Int} {s : List Int} {m K : Nat} (hf : fdB p = true) (hs : inP p s) (hK : m + K = s.length) (hl : s.length ≤ 60) :
    F_impl_recurrenceOfLength p s (m : Int) = some (if fsB m (redM p (m + 1) (rcW p s m K)) then (fsX m (redM p (m + 1) (rcW p s m K)) (redM p (m + 1) (rcW p s m K)).length, true) else ([], false)) := by
  have hm : maxN = 1099511627776 := rfl
  have hp := fdB_rng hf
  -- the equations
  let q : Nat → Rows := fun t => (List.range t).map fun u => ((List.range m).map fun i => el s (m + u - 1 - i)) ++ [(p - el s (m + u)) % p]
  refine bnd (a := q K) (whileO_is (fun t => (q t, ((m + t : Nat) : Int))) K ?_ ?_) ?_
  · intro t ht
    dsimp only
    have hx := hs _ (el_mem (r := s) (c := m + t) (by omega))
    have hql : (q t).length = t := rmap_len _
    refine stp (cTW (dT (by omega)) (bnd (cI_of ⟨by omega, by omega⟩) ?_))
    rw [Int.toNat_natCast]
    refine bnd (forS_is (fun i => (List.range i).map fun i => el s (m + t - 1 - i)) ?_) (bnd (idx_el (by omega)) (bnd (cI_of ⟨by omega, by omega⟩) (bnd (modG hp ⟨by omega, by omega⟩) (bnd (appO_of (by rw [rmap_len]; show m + 1 ≤ _; omega)) (bnd (appO_of (by rw [hql]; show t + 1 ≤ _; omega)) (bnd (addO_of (by omega) (by omega)) ?_))))))
    · intro i hi
      refine bnd (subO_of (by omega) (by omega)) (bnd (subO_of (by omega) (by omega)) ?_)
      rw [show ((m + t : Nat) : Int) - 1 - (i : Int) = ((m + t - 1 - i : Nat) : Int) by omega]
      exact bnd (idx_el (by omega)) (bnd (appO_of (by rw [rmap_len]; show i + 1 ≤ _; omega)) (by simp [List.range_succ]))
    · have e1 : (0 - el s (m + t)) % p = (p - el s (m + t)) % p := mod_of_sub (Int.emod_eq_zero_of_dvd ⟨-1, by omega⟩)
      rw [e1, show ((m + t : Nat) : Int) + 1 = ((m + (t + 1) : Nat) : Int) by omega]
      have e2 : q (t + 1) = q t ++ [((List.range m).map fun i => el s (m + t - 1 - i)) ++ [(p - el s (m + t)) % p]] := by
        show (List.range (t + 1)).map _ = (List.range t).map _ ++ _
        rw [List.range_succ, List.map_append]; rfl
      rw [e2]
  · dsimp only
    exact stp (cFW (dF (by omega)) rfl)
  -- the first solution
  have hqK : (q K).length = K := rmap_len _
  have hW := rcW_ok hp.1 hs hK
  have hR := redM_red hf hW
  have hRl := (redM_ok (n := m + 1) hp.1 hW).2.2
  refine bnd (a := if fsB m (redM p (m + 1) (rcW p s m K)) then (fsX m (redM p (m + 1) (rcW p s m K)) (redM p (m + 1) (rcW p s m K)).length, true) else ([], false)) ?_ rfl
  refine bnd (a := rcW p s m K) ?_ ?_
  · have hall := forS_is (n := (q K).length) (fun t => rcW p s m t) (f := fun (k5 : Nat) (s439 : List (List Int)) =>
      (idxO (q K) ((k5 : Nat) : Int)).bind fun a455 =>
      ((subO (m : Int) 1).bind fun a553 =>
        whileO (fun (s604 : List Int × Int) =>
          (some (decide ((0 : Int) ≤ s604.2))).bind fun a614 =>
          cond a614
          ((idxO a455 s604.2).bind fun a625 =>
            (appO s604.1 [a625]).bind fun a630 =>
            (subO s604.2 1).bind fun a635 =>
            some (.inl (a630, a635)))
          (some (.inr s604.1))) (([] : List Int), a553)).bind fun (s546 : List Int) =>
      (idxO a455 (m : Int)).bind fun a645 =>
      (appO s546 [a645]).bind fun a650 =>
      (appO s439 [a650]).bind fun a658 =>
      some a658) (by
      intro t ht
      rw [hqK] at ht
      have hqt : gr (q K) t = ((List.range m).map fun i => el s (m + t - 1 - i)) ++ [(p - el s (m + t)) % p] := gr_rmap _ ht
      have hlt : (gr (q K) t).length = m + 1 := by rw [hqt]; simp
      refine bnd (idx_gr (by omega)) (bnd (a := (List.range m).map fun i => el s (t + i)) (bnd (subO_of (by omega) (by omega)) ?_) ?_)
      · have hwh := whileO_is (f := fun (s604 : List Int × Int) =>
          (some (decide ((0 : Int) ≤ s604.2))).bind fun a614 =>
          cond a614
          ((idxO (gr (q K) t) s604.2).bind fun a625 =>
            (appO s604.1 [a625]).bind fun a630 =>
            (subO s604.2 1).bind fun a635 =>
            some (.inl (a630, a635)))
          (some (.inr s604.1))) (fun r => ((List.range r).map fun i => el s (t + i), (m : Int) - 1 - (r : Int))) (t := (List.range m).map fun i => el s (t + i)) m (by
            intro r hr
            dsimp only
            refine stp (cTW (dT (by omega)) ?_)
            rw [show (m : Int) - 1 - (r : Int) = ((m - 1 - r : Nat) : Int) by omega]
            refine bnd (idx_el (by omega)) (bnd (appO_of (by rw [rmap_len]; show r + 1 ≤ _; omega)) (bnd (subO_of (by omega) (by omega)) ?_))
            rw [hqt, el_app, rmap_len, if_pos (by omega), el_rmap _ (by omega), show m + t - 1 - (m - 1 - r) = t + r by omega, List.range_succ, List.map_append, show ((m - 1 - r : Nat) : Int) - 1 = (m : Int) - 1 - ((r + 1 : Nat) : Int) by omega]
            rfl) (by
            dsimp only
            exact stp (cFW (dF (by omega)) rfl))
        rw [show ((m : Int) - 1 - ((0 : Nat) : Int)) = (m : Int) - 1 by omega] at hwh
        exact hwh
      · refine bnd (idx_el (by omega)) (bnd (appO_of (by rw [rmap_len]; show m + 1 ≤ _; omega)) (bnd (appO_of (by rw [show (rcW p s m t).length = t from rmap_len _]; show t + 1 ≤ _; omega)) ?_))
        rw [hqt, el_app, rmap_len, if_neg (by omega), Nat.sub_self, rcW_succ]
        rfl)
    exact hall.trans (by rw [hqK])
  refine bnd (zeros_ (by omega)) (bnd (a := ((m + 1 : Nat) : Int)) ((addO_of (by omega) (by omega)).trans (congrArg some (by omega))) (bnd (reduced_ (n := m + 1) hf (Nat.le_refl _) (by omega) hW (by rw [show (rcW p s m K).length = K from rmap_len _]; omega)) ?_))
  generalize redM p (m + 1) (rcW p s m K) = R at hR hRl ⊢
  have hstep : ∀ i, i < R.length → leadN (gr R i) ≠ m → (idxO R ((i : Nat) : Int)).bind (fun a816 =>
      (F_impl_lead a816).bind fun y820 =>
      (some (decide (y820 = (m : Int)))).bind fun a823 =>
      cond a823
      (some ((Sum.inr (([] : List Int), false)) : List Int ⊕ (List Int × Bool)))
      ((subO (m : Int) 1).bind fun a826 =>
        (subO a826 y820).bind fun a828 =>
        (idxO a816 (m : Int)).bind fun a836 =>
        (setO (fsX m R i) a828 a836).bind fun a844 =>
        some (Sum.inl a844))) = some (Sum.inl (fsX m R (i + 1))) := by
    intro i hi hne
    have hlt := hR.lt i hi
    have hw := (okM_gr hR.ok hi).1
    refine bnd (idx_gr hi) (bnd (lead_ _) (stp (cFW (dF (by omega)) (bnd (subO_of (by omega) (by omega)) (bnd (subO_of (by omega) (by omega)) ?_)))))
    rw [show (m : Int) - 1 - (leadN (gr R i) : Int) = ((m - 1 - leadN (gr R i) : Nat) : Int) by omega]
    exact bnd (idx_el (by omega)) (bnd (setO_of _ (by rw [(fsX_ok hp.1 hR.ok i (by omega)).1]; omega)) rfl)
  cases hb : fsB m R with
  | true =>
    have hne := fsB_iff.1 hb
    exact sqW (forO_is (fun i => fsX m R i) (fun i hi => hstep i hi (hne i hi))) rfl
  | false =>
    rcases first_of (P := fun i => leadN (gr R i) = m) R.length with h | ⟨k, h1, h2, h3⟩
    · have := fsB_iff.2 h
      rw [hb] at this; cases this
    · refine sqW (forO_stop (fun i => fsX m R i) (t := (([] : List Int), false)) k h1 (fun i hi => hstep i (by omega) (h2 i hi)) ?_) rfl
      exact bnd (idx_gr h1) (bnd (lead_ _) (stp (cTW (dT (by rw [h3])) rfl)))

def srB (p : Int) (s : List Int) : Bool := fdB p && (decide ((s.length : Int) ≤ 60) && inB p s)
theorem sr_main (p : Int) (s : List Int) : ∃ W : List Int × Bool, F_spec_ShortestRecurrence p s = some W ∧ F_impl_ShortestRecurrence p s = some W ∧ W.1.length ≤ 60 := by
  have g1 : F_spec_rzList p s = some (srB p s) := by
    refine bnd (a := srB p s) ?_ rfl
    unfold srB
    refine bndB (fdGood p) (fun _ => rfl) (fun h => cTW rfl (stp ?_))
    cases decide ((s.length : Int) ≤ 60) with
    | false => rfl
    | true => exact cTW rfl (bnd (fdIn (fdB_rng h) s) rfl)
  cases hB : srB p s with
  | false =>
    refine ⟨([], false), bnd g1 (stp ?_), ?_, Nat.zero_le _⟩
    · rw [hB]; rfl
    · refine bnd (a := !srB p s) ?_ (by rw [hB]; rfl)
      unfold srB
      refine bndN (isField_ p) (fun _ => rfl) (fun _ => stp (cFW rfl (stp ?_)))
      by_cases h60 : (s.length : Int) ≤ 60
      · rw [dT h60]
        refine cFW (dF (by omega)) (bnd (isVector_ p _ s) (stp ?_))
        rw [dT rfl]
      · rw [dF h60]
        exact cTW (dT (by omega)) rfl
  | true =>
    have hB' := hB
    unfold srB at hB'
    rw [Bool.and_eq_true, Bool.and_eq_true] at hB'
    obtain ⟨hf, hl0, hin⟩ := hB'
    have hl : s.length ≤ 60 := by have := of_decide_eq_true hl0; omega
    have hs := inB_true.1 hin
    have hp := fdB_rng hf
    -- the least length
    obtain ⟨k, hk1, hk2, hk3⟩ : ∃ k, k ≤ s.length ∧ (∀ j, j < k → ¬ fsB j (redM p (j + 1) (rcW p s j (s.length - j))) = true) ∧ fsB k (redM p (k + 1) (rcW p s k (s.length - k))) = true := by
      rcases first_of (P := fun j => fsB j (redM p (j + 1) (rcW p s j (s.length - j))) = true) (s.length + 1) with h | ⟨k, h1, h2, h3⟩
      · exfalso
        refine h s.length (by omega) (fsB_iff.2 (fun i hi => ?_))
        have hW := rcW_ok (m := s.length) (K := s.length - s.length) hp.1 hs (by omega)
        have := (redM_ok (n := s.length + 1) hp.1 hW).2.1
        rw [show (rcW p s s.length (s.length - s.length)).length = s.length - s.length from rmap_len _] at this
        omega
      · exact ⟨k, by omega, h2, h3⟩
    have hspec : ∀ j, j ≤ s.length → F_spec_rzRecurrence p s (j : Int) = some (if fsB j (redM p (j + 1) (rcW p s j (s.length - j))) then (fsX j (redM p (j + 1) (rcW p s j (s.length - j))) (redM p (j + 1) (rcW p s j (s.length - j))).length, true) else ([], false)) := by
      intro j hj
      have hK : j + (s.length - j) = s.length := by omega
      rw [rzRecurrence_ hf hs hK hl]
      by_cases hb : fsB j (redM p (j + 1) (rcW p s j (s.length - j))) = true
      · rw [if_pos hb, if_pos ((rc_iff hf hs hK).2 hb), rc_same hf hs hK hb]
      · rw [if_neg hb, if_neg (fun h => hb ((rc_iff hf hs hK).1 h))]
    have hW := rcW_ok (m := k) (K := s.length - k) hp.1 hs (by omega)
    have hok := fsX_ok hp.1 (redM_red hf hW).ok (redM p (k + 1) (rcW p s k (s.length - k))).length (Nat.le_refl _)
    refine ⟨(fsX k (redM p (k + 1) (rcW p s k (s.length - k))) (redM p (k + 1) (rcW p s k (s.length - k))).length, true), ?_, ?_, ?_⟩
    · refine bnd g1 (stp ?_)
      rw [hB]
      refine cFW rfl (sqW (whileO_is (fun j => (j : Int)) (t := .inr (fsX k (redM p (k + 1) (rcW p s k (s.length - k))) (redM p (k + 1) (rcW p s k (s.length - k))).length, true)) k ?_ ?_) rfl)
      · intro j hj
        refine stp (cTW (dT (by omega)) (bnd (hspec j (by omega)) ?_))
        rw [if_neg (hk2 j hj)]
        exact cFW rfl (bnd (addO_of (by omega) (by omega)) rfl)
      · refine stp (cTW (dT (by omega)) (bnd (hspec k hk1) ?_))
        rw [if_pos hk3]
        exact cTW rfl rfl
    · refine bnd (a := !srB p s) ?_ ?_
      · unfold srB
        refine bndN (isField_ p) (fun _ => rfl) (fun _ => stp (cFW rfl (stp ?_)))
        rw [hl0]
        refine cFW (dF (by omega)) (bnd (isVector_ p _ s) (stp ?_))
        rw [dT rfl]
      · rw [hB]
        refine cFW rfl (whileO_is (fun j => (j : Int)) k ?_ ?_)
        · intro j hj
          refine bnd (recurrenceOfLength_ hf hs (show j + (s.length - j) = s.length by omega) hl) ?_
          rw [if_neg (hk2 j hj)]
          exact cFW rfl (bnd (addO_of (by omega) (by omega)) rfl)
        · refine bnd (recurrenceOfLength_ hf hs (show k + (s.length - k) = s.length by omega) hl) ?_
          rw [if_pos hk3]
          exact cTW rfl rfl
    · dsimp only; rw [hok.1]; omega
noncomputable def wShortestRecurrence (p : Int) (s : List Int) : List Int × Bool := (F_spec_ShortestRecurrence p s).getD ([], false)
theorem specShortestRecurrence (p : Int) (s : List Int) : F_spec_ShortestRecurrence p s = some (wShortestRecurrence p s) := by
  obtain ⟨W, h1, h2, h3⟩ := sr_main p s
  unfold wShortestRecurrence; rw [h1]; rfl
theorem implShortestRecurrence (p : Int) (s : List Int) : F_impl_ShortestRecurrence p s = some (wShortestRecurrence p s) := by
  obtain ⟨W, h1, h2, h3⟩ := sr_main p s
  unfold wShortestRecurrence; rw [h1, h2]; rfl
theorem boundShortestRecurrence_0 (p : Int) (s : List Int) : (wShortestRecurrence p s).1.length ≤ 1048576 := by
  obtain ⟨W, h1, h2, h3⟩ := sr_main p s
  unfold wShortestRecurrence; rw [h1]
  show W.1.length ≤ _
  omega
end Go.Proofs.YtnlbhdepagkjgaaDoor
