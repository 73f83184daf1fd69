/-
  Plain laws: the relation of a function of ports. No program in sight. No condition.
-/
import Derived.Test.YteikcdofblclhaaDoorZP23
namespace Go.Proofs.YteikcdofblclhaaDoor
set_option linter.unusedVariables false

def setAll (z : List Int) : List Int → List Int → List Int
  | a :: l, v :: vs => setAll (z.set a.toNat v) l vs
  | _, _ => z
theorem setAll_nil (z vs : List Int) : setAll z [] vs = z := by cases vs <;> rfl
theorem setAll_len : ∀ (l vs z : List Int), (setAll z l vs).length = z.length
  | [], vs, z => by rw [setAll_nil]
  | _ :: _, [], _ => rfl
  | a :: l, v :: vs, z => by show (setAll (z.set a.toNat v) l vs).length = _; rw [setAll_len l vs]; simp
theorem setAll_app : ∀ (l vs : List Int) (z l' vs' : List Int), l.length = vs.length → setAll z (l ++ l') (vs ++ vs') = setAll (setAll z l vs) l' vs'
  | [], [], _, _, _, _ => rfl
  | [], _ :: _, _, _, _, h => by simp at h
  | _ :: _, [], _, _, _, h => by simp at h
  | a :: l, v :: vs, z, l', vs', h => setAll_app l vs (z.set a.toNat v) l' vs' (by simpa using h)
theorem setAll_ok {p : Int} {n : Nat} : ∀ (l vs z : List Int), okR p n z → inP p vs → okR p n (setAll z l vs)
  | [], vs, z, h, _ => by rw [setAll_nil]; exact h
  | _ :: _, [], z, h, _ => h
  | a :: l, v :: vs, z, h, hv => setAll_ok l vs _ ⟨by rw [List.length_set]; exact h.1, fun x hx => by
      rcases List.mem_or_eq_of_mem_set hx with h1 | rfl
      · exact h.2 x h1
      · exact hv _ (List.mem_cons_self ..)⟩ (fun x hx => hv x (List.mem_cons_of_mem _ hx))
theorem el_set {z : List Int} {i j : Nat} {v : Int} (h : i < z.length) : el (z.set i v) j = if i = j then v else el z j := by
  unfold el
  rw [List.getD_eq_getElem?_getD, List.getD_eq_getElem?_getD, List.getElem?_set]
  by_cases e : i = j
  · subst e; simp [h]
  · rw [if_neg e, if_neg e]
theorem setAll_miss {n : Nat} : ∀ (l vs z : List Int), z.length = n → below l n → ∀ q : Nat, (∀ j, j < l.length → el l j ≠ (q : Int)) → el (setAll z l vs) q = el z q
  | [], vs, z, _, _, q, _ => by rw [setAll_nil]
  | _ :: _, [], z, _, _, q, _ => rfl
  | a :: l, v :: vs, z, hz, hb, q, hq => by
    have h0 := hb 0 (by simp)
    have h1 := hq 0 (by simp)
    rw [el_zero] at h0 h1
    show el (setAll (z.set a.toNat v) l vs) q = _
    rw [setAll_miss (n := n) l vs _ (by rw [List.length_set]; exact hz) (fun k hk => by have := hb (k + 1) (by simpa using hk); rw [el_succ] at this; exact this) q (fun j hj => by have := hq (j + 1) (by simpa using hj); rw [el_succ] at this; exact this), el_set (by omega), if_neg (by omega)]
theorem setAll_hit {n : Nat} : ∀ (l vs z : List Int), z.length = n → below l n → (∀ i j, i < j → j < l.length → el l i < el l j) → l.length = vs.length → ∀ j, j < l.length → el (setAll z l vs) (el l j).toNat = el vs j
  | [], _, _, _, _, _, _, j, hj => by simp at hj
  | _ :: _, [], _, _, _, _, h, _, _ => by simp at h
  | a :: l, v :: vs, z, hz, hb, hi, hl, j, hj => by
    have hb' : below l n := fun k hk => by have := hb (k + 1) (by simpa using hk); rw [el_succ] at this; exact this
    have hi' : ∀ i j, i < j → j < l.length → el l i < el l j := fun i j hij hj => by have := hi (i + 1) (j + 1) (by omega) (by simpa using hj); rw [el_succ, el_succ] at this; exact this
    have h0 := hb 0 (by simp)
    rw [el_zero] at h0
    show el (setAll (z.set a.toNat v) l vs) _ = _
    cases j with
    | zero =>
      rw [el_zero, el_zero, setAll_miss (n := n) l vs _ (by rw [List.length_set]; exact hz) hb' _ (fun t ht => ?_), el_set (by omega), if_pos rfl]
      have := hi 0 (t + 1) (by omega) (by simpa using ht)
      rw [el_zero, el_succ] at this
      omega
    | succ j =>
      rw [el_succ, el_succ]
      exact setAll_hit l vs _ (by rw [List.length_set]; exact hz) hb' hi' (by simpa using hl) j (by simpa using hj)
/-- a unit laid at ports -/
theorem setAll_unit {n i : Nat} {l : List Int} (hl : Ports l n) (hi : i < l.length) : setAll (List.replicate n 0) l (unitN l.length i) = (List.replicate n 0).set (el l i).toNat 1 := by
  have hr := hl.rng i hi
  refine ext_el (by rw [setAll_len]; simp) fun q hq => ?_
  rw [setAll_len, List.length_replicate] at hq
  rw [el_set (by simp; omega)]
  by_cases h : ∃ j, j < l.length ∧ el l j = (q : Int)
  · obtain ⟨j, hj, e⟩ := h
    have := setAll_hit (n := n) l (unitN l.length i) (List.replicate n 0) (by simp) hl.rng hl.inc (by simp [unitN]) j hj
    rw [e, Int.toNat_natCast] at this
    rw [this, unit_el hj]
    by_cases hij : i = j
    · subst hij; rw [if_pos rfl, if_pos (by omega)]
    · rw [if_neg hij, if_neg (fun he => hij (hl.inj hi hj (by omega))), el_rep]
  · rw [setAll_miss (n := n) l _ _ (by simp) hl.rng q (fun j hj he => h ⟨j, hj, he⟩), el_rep, if_neg (fun he => h ⟨i, hi, by omega⟩)]
/-- the loop that sets -/
theorem set_is {n : Nat} {l vs z : List Int} {f : Nat → List Int → Option (List Int)} (hz : z.length = n) (hb : below l n) (hl : vs.length ≤ l.length) (hf : ∀ (j : Nat) (s : List Int), j < vs.length → s.length = n → f j s = some (s.set (el l j).toNat (el vs j))) : forS f vs.length 0 z = some (setAll z l vs) := by
  have key : ∀ j, j ≤ vs.length → setAll z (l.take j) (vs.take j) = setAll z (l.take j) (vs.take j) := fun _ _ => rfl
  have := forS_is (n := vs.length) (fun j => setAll z (l.take j) (vs.take j)) (f := f) (by
    intro j hj
    rw [hf j _ hj (by rw [setAll_len, hz])]
    rw [List.take_add_one, List.take_add_one, el_get (show j < l.length by omega), el_get hj]
    rw [setAll_app _ _ _ _ _ (by simp; omega)]
    rfl)
  rw [List.take_zero, setAll_nil, List.take_of_length_le (Nat.le_refl vs.length)] at this
  rw [this]
  congr 1
  have hs : setAll z l vs = setAll (setAll z (l.take vs.length) vs) (l.drop vs.length) [] := by
    have := setAll_app (l.take vs.length) vs z (l.drop vs.length) [] (by simp; omega)
    rw [List.take_append_drop, List.append_nil] at this; exact this
  rw [hs]
  cases l.drop vs.length <;> rfl
theorem setO_at {s : List Int} {i a : Int} {n : Nat} (h : 0 ≤ i ∧ i < (n : Int)) (hs : s.length = n) : setO s i a = some (s.set i.toNat a) := by
  obtain ⟨q, rfl⟩ : ∃ q : Nat, i = (q : Int) := ⟨i.toNat, by omega⟩
  rw [Int.toNat_natCast]
  exact setO_of a (by omega)
def rofRow (n : Nat) (l : List Int) (row : List Int) (i : Nat) : List Int := setAll ((List.replicate n 0).set (el l i).toNat 1) (restL l n) row
def rofM (n : Nat) (l : List Int) (m : Rows) : Rows := m.mapIdx fun i row => rofRow n l row i
theorem rofRow_ok {p : Int} {n : Nat} {l row : List Int} {i : Nat} (hp : 2 ≤ p) (hrow : inP p row) : okR p n (rofRow n l row i) :=
  setAll_ok _ _ _ ⟨by simp, fun x hx => by
    rcases List.mem_or_eq_of_mem_set hx with h1 | rfl
    · exact (okR_zero hp n).2 x h1
    · omega⟩ hrow
theorem rofM_ok {p : Int} {n w : Nat} {l : List Int} {m : Rows} (hp : 2 ≤ p) (h : okM p w m) : okM p n (rofM n l m) := by
  intro x hx
  obtain ⟨i, hi, rfl⟩ := List.mem_iff_getElem.1 hx
  unfold rofM at hi ⊢
  rw [List.getElem_mapIdx]
  exact rofRow_ok hp (h _ (List.getElem_mem (by simpa using hi))).2
theorem rofM_len (n : Nat) (l : List Int) (m : Rows) : (rofM n l m).length = m.length := by simp [rofM]
theorem mapIdx_take {α β : Type} (g : Nat → α → β) (l : List α) {j : Nat} {a : α} (h : l[j]? = some a) : (l.take (j + 1)).mapIdx g = (l.take j).mapIdx g ++ [g j a] := by
  have hj : j < l.length := (List.getElem?_eq_some_iff.1 h).1
  rw [List.take_add_one, h, List.mapIdx_append]
  simp only [Option.toList_some, List.mapIdx_cons, List.mapIdx_nil, List.length_take, Nat.min_eq_left (Nat.le_of_lt hj), Nat.zero_add]
def fitB (l r : Int) : Bool := rng l 0 24 && (rng r 0 24 && decide (l + r ≤ 24))
def rofB (p l r : Int) (ports : List Int) (m : Mat) : Bool := matB p m && (fitB l r && (portB ports (l + r) && (decide ((m.2.length : Int) = (ports.length : Int)) && decide (m.1 = l + r - (ports.length : Int)))))
def wRelationOfFunction (p l r : Int) (ports : List Int) (m : Mat) : Rel × Bool := if rofB p l r ports m then ((l, r, redM p (l + r).toNat (rofM (l + r).toNat ports m.2)), true) else ((0, 0, []), false)
theorem fitB_true {l r : Int} : fitB l r = true ↔ (0 ≤ l ∧ l ≤ 24) ∧ (0 ≤ r ∧ r ≤ 24) ∧ l + r ≤ 24 := by unfold fitB; simp [rng_true]
theorem rofB_ok {p l r : Int} {ports : List Int} {m : Mat} (h : rofB p l r ports m = true) : ∃ n w : Nat, l + r = (n : Int) ∧ n ≤ 24 ∧ fdB p = true ∧ Ports ports n ∧ m.2.length = ports.length ∧ m.1 = (w : Int) ∧ w + ports.length = n ∧ okM p w m.2 ∧ 0 ≤ l ∧ 0 ≤ r := by
  unfold rofB at h
  simp only [Bool.and_eq_true, decide_eq_true_eq] at h
  obtain ⟨h1, h2, h3, h4, h5⟩ := h
  have h2 := fitB_true.1 h2
  obtain ⟨w, e1, e2, e3, e4, e5⟩ := matB_ok h1
  have e : l + r = ((l + r).toNat : Int) := by omega
  rw [e] at h3
  exact ⟨(l + r).toNat, w, e, by omega, e2, portB_ok h3, by omega, e1, by omega, e5, by omega, by omega⟩
theorem implRelationOfFunction (p l r : Int) (ports : List Int) (m : Mat) (hl : ports.length ≤ 1048576) : F_impl_RelationOfFunction p l r ports m = some (wRelationOfFunction p l r ports m) := by
  have hm : maxN = 1099511627776 := rfl
  refine stp ?_
  refine bnd (a := !rofB p l r ports m) ?_ ?_
  · unfold rofB
    refine bndN (isMatrix_ p m) (fun _ => rfl) (fun _ => stp (cFW rfl (bndN (b := fitB l r) (fits_ l r) (fun _ => rfl) (fun h2 => stp (cFW rfl ?_)))))
    have h2 := fitB_true.1 h2
    rw [wrapI_of (by unfold inI; omega)]
    refine bndN (isPortList_ (by omega) (by omega)) (fun _ => rfl) (fun _ => stp (cFW rfl (stp ?_)))
    cases decide ((m.2.length : Int) = (ports.length : Int)) with
    | false => rfl
    | true => exact cFW rfl (bnd (subO_of (by omega) (by omega)) rfl)
  · unfold wRelationOfFunction
    cases h : rofB p l r ports m with
    | false => rfl
    | true =>
      obtain ⟨n, w, e, hn, hf, hp, hlen, hw, hwn, ho, hl0, hr0⟩ := rofB_ok h
      have hpp := fdB_rng hf
      have hrl := rest_len hp
      rw [wrapI_of (by unfold inI; omega), e, Int.toNat_natCast]
      have hfl : ([ports, restL ports n] : Rows).flatten = ports ++ restL ports n := by simp
      refine cFW rfl (bnd (upTo_ (by omega)) (bnd (others_ (by omega)) (bnd (joined_ (by rw [hfl, List.length_append]; omega)) ?_)))
      rw [hfl]
      refine bnd (a := m.2.mapIdx fun i row => unitN ports.length i ++ row) ?_ ?_
      · have := forS_is (n := m.2.length) (fun j => (m.2.take j).mapIdx fun i row => unitN ports.length i ++ row) (f := fun (k102 : Nat) (s174 : List (List Int)) =>
        (idxO m.2 ((k102 : Nat) : Int)).bind fun a190 =>
        (F_impl_unit ((ports.length : Nat) : Int) ((k102 : Nat) : Int)).bind fun y194 =>
        (F_impl_joined [y194, a190]).bind fun y204 =>
        (appO s174 [y204]).bind fun a212 =>
        some a212) (by
          intro j hj
          have hrow := (okM_gr ho hj).1
          have hul : (unitN ports.length j).length = ports.length := by simp [unitN]
          have hf2 : ([unitN ports.length j, gr m.2 j] : Rows).flatten = unitN ports.length j ++ gr m.2 j := by simp
          refine bnd (idx_gr hj) (bnd (unit_ (by omega) (by omega)) (bnd (joined_ (by rw [hf2, List.length_append]; omega)) (bnd (appO_of (by simp; omega)) ?_)))
          rw [hf2, mapIdx_take _ _ (gr_get hj)])
        rw [List.take_of_length_le (Nat.le_refl _)] at this
        exact this
      · refine bnd (a := rofM n ports m.2) (bnd (a := rofM n ports m.2) ?_ rfl) ?_
        · have := forS_is (n := m.2.length) (fun j => (m.2.take j).mapIdx fun i row => rofRow n ports row i) (f := fun (k6 : Nat) (s244 : List (List Int)) =>
      (idxO (m.2.mapIdx fun i row => unitN ports.length i ++ row) ((k6 : Nat) : Int)).bind fun a260 =>
      (F_impl_zeros (n : Int)).bind fun y264 =>
      (forS (fun (k269 : Nat) (s324 : List Int) =>
          (idxO a260 ((k269 : Nat) : Int)).bind fun a339 =>
          (idxO (ports ++ restL ports n) ((k269 : Nat) : Int)).bind fun a347 =>
          (setO s324 a347 a339).bind fun a355 =>
          some a355) a260.length 0 y264).bind fun (s360 : List Int) =>
      (appO s244 [s360]).bind fun a365 =>
      some a365) (by
            intro j hj
            have hrow := (okM_gr ho hj).1
            have hul : (unitN ports.length j).length = ports.length := by simp [unitN]
            have hg : (m.2.mapIdx fun i row => unitN ports.length i ++ row)[j]? = some (unitN ports.length j ++ gr m.2 j) := by rw [List.getElem?_mapIdx, gr_get hj]; rfl
            have hbel := below_app hp.rng (rest_below ports n)
            refine bnd (idxO_of hg) (bnd (zeros_ (by omega)) (bnd (a := rofRow n ports (gr m.2 j) j) ?_ (bnd (appO_of (by simp; omega)) ?_)))
            · refine (set_is (n := n) (l := ports ++ restL ports n) (vs := unitN ports.length j ++ gr m.2 j) (z := List.replicate n 0) (by simp) hbel (by rw [List.length_append, List.length_append, hul]; omega) ?_).trans ?_
              · intro t s ht hs
                have ht2 : t < (ports ++ restL ports n).length := by rw [List.length_append] at ht ⊢; omega
                exact bnd (idx_el ht) (bnd (idx_el ht2) (bnd (setO_at (hbel t ht2) hs) rfl))
              · rw [setAll_app _ _ _ _ _ (by rw [hul]), setAll_unit hp (by omega)]; rfl
            · rw [mapIdx_take _ _ (gr_get hj)])
          rw [List.take_of_length_le (Nat.le_refl _)] at this
          have e2 : (m.2.mapIdx fun i row => unitN ports.length i ++ row).length = m.2.length := by simp
          show forS _ (m.2.mapIdx fun i row => unitN ports.length i ++ row).length 0 [] = _
          rw [e2]
          exact this
        · refine bnd (a := (l, r, redM p n (rofM n ports m.2))) (bnd (addO_of (by omega) (by omega)) ?_) rfl
          rw [e]
          exact bnd (reduced_ hf (Nat.le_refl n) (by omega) (rofM_ok hpp.1 ho) (by rw [rofM_len]; omega)) rfl
theorem rof_assoc (a b c d : Bool) : (c && ((a && b) && d)) = (a && (b && (c && d))) := by cases a <;> cases b <;> cases c <;> cases d <;> rfl
theorem specRelationOfFunction (p l r : Int) (ports : List Int) (m : Mat) (hl : ports.length ≤ 1048576) : F_spec_RelationOfFunction p l r ports m = some (wRelationOfFunction p l r ports m) := by
  have hm : maxN = 1099511627776 := rfl
  refine bnd (a := !rofB p l r ports m) ?_ ?_
  · have hfit : fitB l r = (rng l 0 24 && rng r 0 (24 - l)) := by
      rw [Bool.eq_iff_iff, fitB_true, Bool.and_eq_true, rng_true, rng_true]; omega
    unfold rofB
    rw [hfit, rof_assoc]
    refine bndN (l1In _ _ _) (fun _ => rfl) (fun h1 => stp (cFW rfl ?_))
    have h1 := rng_true.1 h1
    refine bnd (subO_of (by omega) (by omega)) (bndN (l1In _ _ _) (fun _ => rfl) (fun h2 => stp (cFW rfl ?_)))
    have h2 := rng_true.1 h2
    refine bndN (mxGood_ p m) (fun _ => rfl) (fun _ => stp (cFW rfl (bnd (addO_of (by omega) (by omega)) (bndN (riPorts_ (by omega) (by omega)) (fun _ => rfl) (fun _ => stp (cFW rfl (stp ?_)))))))
    cases decide ((m.2.length : Int) = (ports.length : Int)) with
    | false => rfl
    | true => exact cFW rfl (bnd (addO_of (by omega) (by omega)) (bnd (subO_of (by omega) (by omega)) rfl))
  · unfold wRelationOfFunction
    cases h : rofB p l r ports m with
    | false => rfl
    | true =>
      obtain ⟨n, w, e, hn, hf, hp, hlen, hw, hwn, ho, hl0, hr0⟩ := rofB_ok h
      have hpp := fdB_rng hf
      have hrl := rest_len hp
      have hadd : addO l r = some (n : Int) := (addO_of (by omega) (by omega)).trans (by rw [e])
      rw [e, Int.toNat_natCast]
      refine cFW rfl (bnd hadd (bnd (riRest_ (by omega)) (bnd (a := rofM n ports m.2) ?_ (bnd hadd (bnd (spReduce_ hf (Nat.le_refl n) (by omega) (rofM_ok hpp.1 ho) (by rw [rofM_len]; omega)) rfl)))))
      have := forS_is (n := m.2.length) (fun j => (m.2.take j).mapIdx fun i row => rofRow n ports row i) (f := fun (k109 : Nat) (s386 : List (List Int)) =>
        (idxO ports ((k109 : Nat) : Int)).bind fun a403 =>
        (addO l r).bind fun a405 =>
        (makeO a405 (0 : Int)).bind fun a407 =>
        (setO a407 a403 1).bind fun a418 =>
        (idxO m.2 ((k109 : Nat) : Int)).bind fun a427 =>
        (forS (fun (k431 : Nat) (s486 : List Int) =>
            (idxO a427 ((k431 : Nat) : Int)).bind fun a501 =>
            (idxO (restL ports n) ((k431 : Nat) : Int)).bind fun a509 =>
            (setO s486 a509 a501).bind fun a517 =>
            some a517) a427.length 0 a418).bind fun (s522 : List Int) =>
        (appO s386 [s522]).bind fun a527 =>
        some a527) (by
        intro j hj
        have hrow := (okM_gr ho hj).1
        have hbel := rest_below ports n
        refine bnd (idx_el (by omega)) (bnd hadd (bnd (makeO_of _ (by omega)) (bnd (setO_at (n := n) (hp.rng j (by omega)) (by simp)) (bnd (idx_gr hj) (bnd (a := rofRow n ports (gr m.2 j) j) ?_ (bnd (appO_of (by simp; omega)) ?_))))))
        · refine set_is (n := n) (l := restL ports n) (vs := gr m.2 j) (by simp) hbel (by omega) ?_
          intro t s ht hs
          exact bnd (idx_el ht) (bnd (idx_el (by omega)) (bnd (setO_at (hbel t (by omega)) hs) rfl))
        · rw [mapIdx_take _ _ (gr_get hj)])
      rw [List.take_of_length_le (Nat.le_refl _)] at this
      rw [← hlen]
      exact this
theorem rel_size {p : Int} {n : Nat} {m : Rows} (hp : 2 ≤ p) (h : okM p n m) (hn : n ≤ 1000) : rowsN (redM p n m) ≤ 1048576 := by
  obtain ⟨k1, _, k3⟩ := redM_ok (n := n) hp h
  have key : ∀ b : Rows, okM p n b → tot rowN b = b.length * n := by
    intro b hb
    induction b with
    | nil => simp [tot]
    | cons r b ih =>
      rw [tot_cons, ih (fun x hx => hb x (List.mem_cons_of_mem _ hx)), List.length_cons, Nat.succ_mul]
      have := (hb r (List.mem_cons_self ..)).1
      unfold rowN; omega
  unfold rowsN
  rw [key _ k1]
  have : (redM p n m).length * n ≤ 1000 * 1000 := Nat.mul_le_mul (by omega) hn
  omega
theorem boundRelationOfFunction_0 (p l r : Int) (ports : List Int) (m : Mat) (hl : ports.length ≤ 1048576) : rowsN (wRelationOfFunction p l r ports m).1.2.2 ≤ 1048576 := by
  unfold wRelationOfFunction
  split
  · rename_i h
    obtain ⟨n, w, e, hn, hf, hp, hlen, hw, hwn, ho, hl0, hr0⟩ := rofB_ok h
    rw [e, Int.toNat_natCast]
    exact rel_size (fdB_rng hf).1 (rofM_ok (fdB_rng hf).1 ho) (by omega)
  · decide
end Go.Proofs.YteikcdofblclhaaDoor
