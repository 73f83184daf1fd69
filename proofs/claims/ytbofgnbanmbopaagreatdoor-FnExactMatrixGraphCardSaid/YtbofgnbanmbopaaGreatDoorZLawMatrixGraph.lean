/-
  Plain laws: the matrices that both programs draw; MatrixGraph. No program in sight. No condition.
-/
import Derived.Test.YtbofgnbanmbopaaGreatDoorZP97
import Derived.Test.YtbofgnbanmbopaaGreatDoorZP36
namespace Go.Proofs.YtbofgnbanmbopaaGreatDoor
set_option linter.unusedVariables false

/-! ### lists of lists in pairs -/
def LLsR (P : List (Int × Int)) : List (List Int) → List (List Int) → Prop
  | [], [] => True
  | x :: l, y :: l' => LsR P x y ∧ LLsR P l l'
  | _, _ => False
theorem LLsR.mono {P Q : List (Int × Int)} (h : ∀ p ∈ P, p ∈ Q) : ∀ {l l' : List (List Int)}, LLsR P l l' → LLsR Q l l'
  | [], [], _ => trivial
  | x :: l, y :: l', hl => ⟨hl.1.mono h, LLsR.mono h hl.2⟩
  | [], _ :: _, hl => hl.elim
  | _ :: _, [], hl => hl.elim
theorem LLsR.len {P : List (Int × Int)} : ∀ {l l' : List (List Int)}, LLsR P l l' → l.length = l'.length
  | [], [], _ => rfl
  | x :: l, y :: l', hl => congrArg (· + 1) hl.2.len
  | [], _ :: _, hl => hl.elim
  | _ :: _, [], hl => hl.elim
theorem LLsR.get {P : List (Int × Int)} : ∀ {l l' : List (List Int)} {i : Nat}, LLsR P l l' → i < l.length → ∃ x y, l[i]? = some x ∧ l'[i]? = some y ∧ LsR P x y
  | [], [], _, _, h => by simp at h
  | x :: l, y :: l', 0, hl, _ => ⟨x, y, rfl, rfl, hl.1⟩
  | x :: l, y :: l', i + 1, hl, h => by
    obtain ⟨x, y, h1, h2, h3⟩ := hl.2.get (i := i) (by simpa using h)
    exact ⟨x, y, by simpa using h1, by simpa using h2, h3⟩
  | [], _ :: _, _, hl, _ => hl.elim
  | _ :: _, [], _, hl, _ => hl.elim
theorem LLsR.set {P : List (Int × Int)} {a b : List Int} (hab : LsR P a b) : ∀ {l l' : List (List Int)} (i : Nat), LLsR P l l' → LLsR P (l.set i a) (l'.set i b)
  | [], [], i, _ => by simp [LLsR]
  | x :: l, y :: l', 0, hl => ⟨hab, hl.2⟩
  | x :: l, y :: l', i + 1, hl => ⟨hl.1, LLsR.set hab i hl.2⟩
  | [], _ :: _, _, hl => hl.elim
  | _ :: _, [], _, hl => hl.elim
theorem LLsR.rep (P : List (Int × Int)) : ∀ n, LLsR P (List.replicate n []) (List.replicate n [])
  | 0 => trivial
  | n + 1 => ⟨trivial, LLsR.rep P n⟩
theorem flat_set : ∀ {A : List (List Int)} {j : Nat} {l : List Int} (w x : Int), A[j]? = some l → (A.set j (l ++ [w])).flatten.count x = A.flatten.count x + (if x = w then 1 else 0)
  | [], j, l, w, x, h => by simp at h
  | a :: A, 0, l, w, x, h => by
    obtain rfl := Option.some.inj h
    simp only [List.set_cons_zero, List.flatten_cons, List.count_append, cnt1]; omega
  | a :: A, j + 1, l, w, x, h => by
    have ih := flat_set (A := A) (j := j) w x (by simpa using h)
    simp only [List.set_cons_succ, List.flatten_cons, List.count_append, ih]; omega
theorem forS_rel2 {σ τ : Type} {f : Nat → σ → Option σ} {g : Nat → τ → Option τ} (I : Nat → σ → τ → Prop) : ∀ (n k : Nat) (s : σ) (t : τ), I k s t → (∀ j s t, k ≤ j → j < k + n → I j s t → ∃ s' t', f j s = some s' ∧ g j t = some t' ∧ I (j + 1) s' t') →
    ∃ r q, forS f n k s = some r ∧ forS g n k t = some q ∧ I (k + n) r q
  | 0, k, s, t, h0, _ => ⟨s, t, rfl, rfl, h0⟩
  | n + 1, k, s, t, h0, h => by
    obtain ⟨s', t', h1, h2, h3⟩ := h k s t (Nat.le_refl _) (by omega) h0
    obtain ⟨r, q, h4, h5, h6⟩ := forS_rel2 I n (k + 1) s' t' h3 (fun j s t hj hl hi => h j s t (by omega) (by omega) hi)
    refine ⟨r, q, ?_, ?_, by rwa [show k + 1 + n = k + (n + 1) by omega] at h6⟩
    · show (f k s).bind _ = _
      rw [h1]; exact h4
    · show (g k t).bind _ = _
      rw [h2]; exact h5

/-! ### the places of a row that are not 0 -/
def plN (row : List Int) : Nat → List Int
  | 0 => []
  | j + 1 => match row[j]? with
    | some a => if a = 0 then plN row j else plN row j ++ [(j : Int)]
    | none => plN row j
theorem plN_step {row : List Int} {j : Nat} (hj : j < row.length) : plN row (j + 1) = if row[j] = 0 then plN row j else plN row j ++ [(j : Int)] := by
  show (match row[j]? with
    | some a => if a = 0 then plN row j else plN row j ++ [(j : Int)]
    | none => plN row j) = _
  rw [List.getElem?_eq_getElem hj]
theorem plN_len (row : List Int) : ∀ j, j ≤ row.length → (plN row j).length ≤ j
  | 0, _ => Nat.le_refl _
  | j + 1, hj => by
    have := plN_len row j (by omega)
    rw [plN_step (by omega)]
    split
    · omega
    · simp; omega
theorem plN_mem (row : List Int) : ∀ j, j ≤ row.length → ∀ x ∈ plN row j, ∃ k : Nat, x = (k : Int) ∧ ∃ h : k < row.length, row[k] ≠ 0
  | 0, _, x, hx => by cases hx
  | j + 1, hj, x, hx => by
    rw [plN_step (by omega)] at hx
    split at hx
    · exact plN_mem row j (by omega) x hx
    · rcases List.mem_append.1 hx with hx | hx
      · exact plN_mem row j (by omega) x hx
      · simp at hx
        exact ⟨j, hx, by omega, ‹_›⟩
theorem plS_ {row : List Int} (hl : row.length ≤ 1000) {f : Nat → List Int → Option (List Int)} (hf : ∀ k s, f k s = ((idxO row ((k : Nat) : Int)).bind fun a => (some (!decide (a = 0))).bind fun b => cond b ((appO s [((k : Nat) : Int)]).bind fun c => some c) (some s))) :
    forS f row.length 0 [] = some (plN row row.length) := by
  have hm : maxN = 1099511627776 := rfl
  refine forS_is (f := f) (n := row.length) (fun j => plN row j) (fun j hj => ?_)
  rw [hf]
  have := plN_len row j (by omega)
  rw [plN_step hj]
  refine bnd (idxO_of (List.getElem?_eq_getElem hj)) (stp ?_)
  by_cases h0 : row[j] = 0
  · rw [if_pos h0]
    exact cFW (nT (dT h0)) rfl
  · rw [if_neg h0]
    exact cTW (nF (dF h0)) (bnd (appO_of (by simp; omega)) rfl)

/-! ### a row -/
/-- the state of both drawings among a matrix -/
structure Mx (cols : Nat) (P : List (Int × Int)) (U V D : List Int) (n : Nat) (I : List Int) (E : List Edg) (n' : Nat) (E' : List Edg) (B : Nat) (A A' : List (List Int)) : Prop where
  d : Dw P U V (A.flatten ++ D) n I E n' E' B
  r : LLsR P A A'
  l : A.length = cols
/-- a wire goes to a column -/
theorem Mx.put {cols : Nat} {P : List (Int × Int)} {U V D : List Int} {n n' B : Nat} {I : List Int} {E E' : List Edg} {A A' : List (List Int)} {j : Nat} {x y : Int} {a b : List Int}
    (d : Dw P U V (x :: (A.flatten ++ D)) n I E n' E' B) (r : LLsR P A A') (l : A.length = cols) (ha : A[j]? = some a) (hb : A'[j]? = some b) (hab : LsR P a b) (hxy : (x, y) ∈ P) : Mx cols P U V D n I E n' E' B (A.set j (a ++ [x])) (A'.set j (b ++ [y])) := by
  refine ⟨d.perm fun z => ?_, r.set (hab.app (m := [x]) (m' := [y]) ⟨hxy, trivial⟩) j, by rw [List.length_set]; exact l⟩
  rw [cntC, List.count_append, List.count_append, flat_set x z ha]; omega
theorem flat_len : ∀ {A : List (List Int)} {j : Nat} {a : List Int}, A[j]? = some a → a.length ≤ A.flatten.length
  | [], _, _, h => by simp at h
  | b :: A, 0, a, h => by
    obtain rfl := Option.some.inj h
    rw [List.flatten_cons, List.length_append]; omega
  | b :: A, j + 1, a, h => by
    have := flat_len (A := A) (j := j) (by simpa using h)
    rw [List.flatten_cons, List.length_append]; omega
theorem fan0S {fuel : Nat} {n : Int} {E : List Edg} {I O : List Int} (w : Int) (hE : E.length ≤ 1000000) : F_spec_axMake_fan_n (fuel + 1) (n, E, I, O) w 0 = some ((n, E ++ [(4, 0, [w], [])], I, O), []) := stp (cTW rfl (bnd (edgeS_ hE _ _ _ _) rfl))
theorem fan0I {fuel : Nat} {n : Int} {E : List Edg} {I O : List Int} (w : Int) (hE : E.length ≤ 1000000) : F_impl_drawing_fanOut_n (fuel + 1) (n, E, I, O) w 0 = some ((n, E ++ [(4, 0, [w], [])], I, O), []) := stp (cTW rfl (bnd (edgeI_ hE _ _ _ _) rfl))
theorem row_sim (I2 O2 I3 O3 : List Int) {cols : Nat} {row : List Int} (hrow : row.length = cols) (hcols : cols ≤ 24) {P : List (Int × Int)} {U V D : List Int} {n n' B : Nat} {I : List Int} {E E' : List Edg} {A A' : List (List Int)} {w w' : Int}
    (h : Mx cols P U V (w :: D) n I E n' E' B A A') (hw : (w, w') ∈ P) (hz : plN row row.length = [] → w ∈ I) (hB : B ≤ 100000) :
    ∃ P' n1 E1 n1' E1' A1 A1',
      ((F_spec_axMake_fan ((n : Int), E, I2, O2) w (((plN row row.length).length : Nat) : Int)).bind fun y1105 =>
        (forS (fun (k1112 : Nat) (s1358 : Int × (List (Int × Int × List Int × List Int)) × List (List Int)) =>
          (idxO y1105.2 ((k1112 : Nat) : Int)).bind fun a1374 =>
          (idxO (plN row row.length) ((k1112 : Nat) : Int)).bind fun a1382 =>
          ((idxO row a1382).bind fun a1431 =>
            (some (!decide (a1431 = 1))).bind fun a1433 =>
            cond a1433
            ((F_spec_axMake_wire (s1358.1, s1358.2.1, I2, O2)).bind fun y1437 =>
              (idxO row a1382).bind fun a1446 =>
              (F_spec_axMake_edge (y1437.1.1, s1358.2.1, I2, O2) 7 a1446 [a1374] [y1437.2]).bind fun y1454 =>
              some (y1454.1, y1454.2.1, y1437.2))
            (some (s1358.1, s1358.2.1, a1374))).bind fun (s1418 : Int × (List (Int × Int × List Int × List Int)) × Int) =>
          (idxO s1358.2.2 a1382).bind fun a1467 =>
          (appO a1467 [s1418.2.2]).bind fun a1474 =>
          (setO s1358.2.2 a1382 a1474).bind fun a1486 =>
          some (s1418.1, s1418.2.1, a1486)) y1105.2.length 0 (y1105.1.1, y1105.1.2.1, A))) = some (((n1 : Nat) : Int), E1, A1) ∧
      ((F_impl_drawing_fanOut ((n' : Int), E', I3, O3) w' (((plN row row.length).length : Nat) : Int)).bind fun y1012 =>
        (forS (fun (k1019 : Nat) (s1233 : Int × (List (Int × Int × List Int × List Int)) × List (List Int)) =>
          (idxO y1012.2 ((k1019 : Nat) : Int)).bind fun a1249 =>
          (idxO (plN row row.length) ((k1019 : Nat) : Int)).bind fun a1257 =>
          ((idxO row a1257).bind fun a1298 =>
            (some (!decide (a1298 = 1))).bind fun a1300 =>
            cond a1300
            ((F_impl_drawing_wire (s1233.1, s1233.2.1, I3, O3)).bind fun y1304 =>
              (F_impl_drawing_edge (y1304.1.1, s1233.2.1, I3, O3) 7 a1298 [a1249] [y1304.2]).bind fun y1313 =>
              some (y1313.1, y1313.2.1, y1304.2))
            (some (s1233.1, s1233.2.1, a1249))).bind fun (s1285 : Int × (List (Int × Int × List Int × List Int)) × Int) =>
          (idxO s1233.2.2 a1257).bind fun a1326 =>
          (appO a1326 [s1285.2.2]).bind fun a1333 =>
          (setO s1233.2.2 a1257 a1333).bind fun a1345 =>
          some (s1285.1, s1285.2.1, a1345)) y1012.2.length 0 (y1012.1.1, y1012.1.2.1, A'))) = some (((n1' : Nat) : Int), E1', A1') ∧
      (∀ p ∈ P, p ∈ P') ∧ Mx cols P' U V D n1 I E1 n1' E1' (B + 80) A1 A1' := by
  have hm : maxN = 1099511627776 := rfl
  have hk := plN_len row row.length (Nat.le_refl _)
  have hpm := plN_mem row row.length (Nat.le_refl _)
  generalize plN row row.length = cl at hk hpm hz
  have d0 := h.d
  have b1 := d0.b1; have b2 := d0.b2; have b3 := d0.b3
  have hle := d0.ed.len
  by_cases h0 : cl = []
  · subst h0
    have d1 := (d0.perm (D1 := w :: (A.flatten ++ D)) (fun x => by simp only [List.count_append, cntC]; omega)).edge0 4 0 hw (fun S h1 _ => h1 w (hz rfl))
    refine ⟨P, n, _, n', _, A, A', ?_, ?_, fun p hp => hp, d1.up (by omega), h.r, h.l⟩
    · exact bnd (fan0S (fuel := 999999) w (by omega)) rfl
    · exact bnd (fan0I (fuel := 999999) w' (by omega)) rfl
  have hpos : 1 ≤ cl.length := List.length_pos_iff.2 h0
  obtain ⟨P1, n1, E1, n1', E1', r, r', k1, k2, k3, k4, k5, k6⟩ := fan_sim I2 O2 I3 O3 cl.length 1000000 hpos (by omega) (d0.perm (D1 := w :: (A.flatten ++ D)) (fun x => by simp only [List.count_append, cntC]; omega)) hw (by omega)
  obtain ⟨s, t, h1, h2, P2, n2, E2, n2', E2', A2, A2', rfl, rfl, h3, h4⟩ := forS_rel2 (f := fun (k1112 : Nat) (s1358 : Int × (List (Int × Int × List Int × List Int)) × List (List Int)) =>
          (idxO r ((k1112 : Nat) : Int)).bind fun a1374 =>
          (idxO cl ((k1112 : Nat) : Int)).bind fun a1382 =>
          ((idxO row a1382).bind fun a1431 =>
            (some (!decide (a1431 = 1))).bind fun a1433 =>
            cond a1433
            ((F_spec_axMake_wire (s1358.1, s1358.2.1, I2, O2)).bind fun y1437 =>
              (idxO row a1382).bind fun a1446 =>
              (F_spec_axMake_edge (y1437.1.1, s1358.2.1, I2, O2) 7 a1446 [a1374] [y1437.2]).bind fun y1454 =>
              some (y1454.1, y1454.2.1, y1437.2))
            (some (s1358.1, s1358.2.1, a1374))).bind fun (s1418 : Int × (List (Int × Int × List Int × List Int)) × Int) =>
          (idxO s1358.2.2 a1382).bind fun a1467 =>
          (appO a1467 [s1418.2.2]).bind fun a1474 =>
          (setO s1358.2.2 a1382 a1474).bind fun a1486 =>
          some (s1418.1, s1418.2.1, a1486))
    (g := fun (k1019 : Nat) (s1233 : Int × (List (Int × Int × List Int × List Int)) × List (List Int)) =>
          (idxO r' ((k1019 : Nat) : Int)).bind fun a1249 =>
          (idxO cl ((k1019 : Nat) : Int)).bind fun a1257 =>
          ((idxO row a1257).bind fun a1298 =>
            (some (!decide (a1298 = 1))).bind fun a1300 =>
            cond a1300
            ((F_impl_drawing_wire (s1233.1, s1233.2.1, I3, O3)).bind fun y1304 =>
              (F_impl_drawing_edge (y1304.1.1, s1233.2.1, I3, O3) 7 a1298 [a1249] [y1304.2]).bind fun y1313 =>
              some (y1313.1, y1313.2.1, y1304.2))
            (some (s1233.1, s1233.2.1, a1249))).bind fun (s1285 : Int × (List (Int × Int × List Int × List Int)) × Int) =>
          (idxO s1233.2.2 a1257).bind fun a1326 =>
          (appO a1326 [s1285.2.2]).bind fun a1333 =>
          (setO s1233.2.2 a1257 a1333).bind fun a1345 =>
          some (s1285.1, s1285.2.1, a1345))
    (fun j s t => ∃ P2 n2 E2 n2' E2' A2 A2', s = (((n2 : Nat) : Int), E2, A2) ∧ t = (((n2' : Nat) : Int), E2', A2') ∧ (∀ p ∈ P1, p ∈ P2) ∧ Mx cols P2 U V (r.drop j ++ D) n2 I E2 n2' E2' (B + 2 * cl.length + j) A2 A2') cl.length 0 (((n1 : Nat) : Int), E1, A) (((n1' : Nat) : Int), E1', A')
    ⟨P1, n1, E1, n1', E1', A, A', rfl, rfl, fun p hp => hp, k6.perm (fun x => by simp only [List.drop_zero, List.count_append]; omega), h.r.mono k3, h.l⟩ (by
      rintro j s t _ hj ⟨P2, n2, E2, n2', E2', A2, A2', rfl, rfl, hP, hd, hr, hl⟩
      rw [Nat.zero_add] at hj
      obtain ⟨x, y, hx, hy, hxy⟩ := (k4.mono hP).get (i := j) (by omega)
      have hxr : r.drop j = x :: r.drop (j + 1) := by
        obtain ⟨q1, q2⟩ := List.getElem?_eq_some_iff.1 hx
        rw [List.drop_eq_getElem_cons q1, q2]
      obtain ⟨c, hc, hcl, hcn⟩ := hpm _ (List.getElem_mem hj)
      obtain ⟨a, b, ha, hb, hab⟩ := hr.get (i := c) (by omega)
      have e1 := hd.b1; have e2 := hd.b2; have e3 := hd.b3; have el := hd.ed.len
      have hda := hd.len
      have hfl := flat_len ha
      rw [List.length_append] at hda
      have hal := hab.len
      have hci : idxO cl (j : Int) = some (c : Int) := by rw [← hc]; exact idxO_of (List.getElem?_eq_getElem hj)
      have hrc : idxO row (c : Int) = some row[c] := idxO_of (List.getElem?_eq_getElem hcl)
      have hd2 := hd.perm (D1 := x :: (A2.flatten ++ (r.drop (j + 1) ++ D))) (fun z => by rw [hxr]; simp only [List.count_append, List.cons_append, cntC]; omega)
      have hcA : c < A2.length := by omega
      have hcA' : c < A2'.length := by rw [← hr.len]; omega
      by_cases h1 : row[c] = 1
      · have hmx := Mx.put hd2 hr hl ha hb hab hxy
        refine ⟨_, _, ?_, ?_, P2, n2, E2, n2', E2', _, _, rfl, rfl, hP, hmx.1.up (by omega), hmx.2, hmx.3⟩
        · exact bnd (idxO_of hx) (bnd hci (bnd (bnd hrc (stp (cFW (nT (dT h1)) rfl))) (bnd (idxO_of ha) (bnd (appO_of (by simp; omega)) (bnd (setO_of _ hcA) rfl)))))
        · exact bnd (idxO_of hy) (bnd hci (bnd (bnd hrc (stp (cFW (nT (dT h1)) rfl))) (bnd (idxO_of hb) (bnd (appO_of (by simp; omega)) (bnd (setO_of _ hcA') rfl)))))
      · have hd3 := Dw.edge1 (ins := [x]) (ins' := [y]) 7 row[c] hd2.wireI ⟨hxy, trivial⟩
        have hsub : ∀ p ∈ P2, p ∈ P2 ++ [((n2 : Int), (n2' : Int))] := fun p hp => List.mem_append_left _ hp
        have hmx := Mx.put (y := (n2' : Int)) (hd3.setB (B1 := B + 2 * cl.length + (j + 1)) (by omega) (by omega) (by simp; omega)) (hr.mono hsub) hl ha hb (hab.mono hsub) (by simp)
        refine ⟨_, _, ?_, ?_, _, n2 + 1, _, n2' + 1, _, _, _, rfl, rfl, fun p hp => hsub p (hP p hp), hmx⟩
        · exact bnd (idxO_of hx) (bnd hci (bnd (bnd hrc (stp (cTW (nF (dF h1)) (bnd (wireS_ (by omega)) (bnd hrc (bnd (edgeS_ (by dsimp only; omega) _ _ _ _) rfl)))))) (bnd (idxO_of ha) (bnd (appO_of (by simp; omega)) (bnd (setO_of _ hcA) rfl)))))
        · exact bnd (idxO_of hy) (bnd hci (bnd (bnd hrc (stp (cTW (nF (dF h1)) (bnd (wireI_ (by omega)) (bnd (edgeI_ (by dsimp only; omega) _ _ _ _) rfl))))) (bnd (idxO_of hb) (bnd (appO_of (by simp; omega)) (bnd (setO_of _ hcA') rfl))))))
  refine ⟨P2, n2, E2, n2', E2', A2, A2', bnd k1 ?_, bnd k2 ?_, fun p hp => h3 p (k3 p hp), (h4.d.perm fun x => ?_).up (by omega), h4.r, h4.l⟩
  · dsimp only
    rw [k5]; exact h1
  · dsimp only
    rw [← k4.len, k5]; exact h2
  · rw [Nat.zero_add, ← k5, List.drop_length, List.nil_append]

/-! ### a matrix -/
theorem matrix_sim (I2 O2 I3 O3 : List Int) {cols : Nat} {rows : List (List Int)} (hrows : ∀ row ∈ rows, row.length = cols) (hcols : cols ≤ 24) (hr24 : rows.length ≤ 24) {P : List (Int × Int)} {U V D : List Int} {n n' B : Nat} {I : List Int} {E E' : List Edg} {ins ins' : List Int}
    (h : Dw P U V (ins ++ D) n I E n' E' B) (hi : LsR P ins ins') (hl : ins.length = rows.length) (hz : ∀ (i : Nat) (row : List Int) (w : Int), rows[i]? = some row → ins[i]? = some w → plN row row.length = [] → w ∈ I) (hB : B ≤ 1000) :
    ∃ P' n1 E1 n1' E1' out out', F_spec_axMake_matrix ((n : Int), E, I2, O2) ins rows (cols : Int) = some ((((n1 : Nat) : Int), E1, I2, O2), out) ∧ F_impl_drawing_matrix ((n' : Int), E', I3, O3) ins' rows (cols : Int) = some ((((n1' : Nat) : Int), E1', I3, O3), out') ∧
      (∀ p ∈ P, p ∈ P') ∧ LsR P' out out' ∧ out.length = cols ∧ Dw P' U V (out ++ D) n1 I E1 n1' E1' 20000 := by
  have hm : maxN = 1099511627776 := rfl
  -- the rows
  obtain ⟨s, t, h1, h2, P1, n1, E1, n1', E1', A1, A1', rfl, rfl, h3, h4⟩ := forS_rel2 (f := fun (k10 : Nat) (s994 : Int × (List (Int × Int × List Int × List Int)) × List (List Int)) =>
      (idxO rows ((k10 : Nat) : Int)).bind fun a1010 =>
      (forS (fun (k1014 : Nat) (s1061 : List Int) =>
          (idxO a1010 ((k1014 : Nat) : Int)).bind fun a1078 =>
          (some (!decide (a1078 = 0))).bind fun a1080 =>
          cond a1080
          ((appO s1061 [((k1014 : Nat) : Int)]).bind fun a1087 =>
            some a1087)
          (some s1061)) a1010.length 0 []).bind fun (s1094 : List Int) =>
      (idxO ins ((k10 : Nat) : Int)).bind fun a1103 =>
      (F_spec_axMake_fan (s994.1, s994.2.1, I2, O2) a1103 ((s1094.length : Nat) : Int)).bind fun y1105 =>
      (forS (fun (k1112 : Nat) (s1358 : Int × (List (Int × Int × List Int × List Int)) × List (List Int)) =>
          (idxO y1105.2 ((k1112 : Nat) : Int)).bind fun a1374 =>
          (idxO s1094 ((k1112 : Nat) : Int)).bind fun a1382 =>
          ((idxO a1010 a1382).bind fun a1431 =>
            (some (!decide (a1431 = 1))).bind fun a1433 =>
            cond a1433
            ((F_spec_axMake_wire (s1358.1, s1358.2.1, I2, O2)).bind fun y1437 =>
              (idxO a1010 a1382).bind fun a1446 =>
              (F_spec_axMake_edge (y1437.1.1, s1358.2.1, I2, O2) 7 a1446 [a1374] [y1437.2]).bind fun y1454 =>
              some (y1454.1, y1454.2.1, y1437.2))
            (some (s1358.1, s1358.2.1, a1374))).bind fun (s1418 : Int × (List (Int × Int × List Int × List Int)) × Int) =>
          (idxO s1358.2.2 a1382).bind fun a1467 =>
          (appO a1467 [s1418.2.2]).bind fun a1474 =>
          (setO s1358.2.2 a1382 a1474).bind fun a1486 =>
          some (s1418.1, s1418.2.1, a1486)) y1105.2.length 0 (y1105.1.1, y1105.1.2.1, s994.2.2)).bind fun (s1490 : Int × (List (Int × Int × List Int × List Int)) × List (List Int)) =>
      some (s1490.1, s1490.2.1, s1490.2.2))
    (g := fun (k10 : Nat) (s900 : Int × (List (Int × Int × List Int × List Int)) × List (List Int)) =>
      (idxO rows ((k10 : Nat) : Int)).bind fun a916 =>
      (forS (fun (k923 : Nat) (s969 : List Int) =>
          (idxO a916 ((k923 : Nat) : Int)).bind fun a985 =>
          (some (!decide (a985 = 0))).bind fun a987 =>
          cond a987
          ((appO s969 [((k923 : Nat) : Int)]).bind fun a994 =>
            some a994)
          (some s969)) a916.length 0 ([] : List Int)).bind fun (s1001 : List Int) =>
      (idxO ins' ((k10 : Nat) : Int)).bind fun a1010 =>
      (F_impl_drawing_fanOut (s900.1, s900.2.1, I3, O3) a1010 ((s1001.length : Nat) : Int)).bind fun y1012 =>
      (forS (fun (k1019 : Nat) (s1233 : Int × (List (Int × Int × List Int × List Int)) × List (List Int)) =>
          (idxO y1012.2 ((k1019 : Nat) : Int)).bind fun a1249 =>
          (idxO s1001 ((k1019 : Nat) : Int)).bind fun a1257 =>
          ((idxO a916 a1257).bind fun a1298 =>
            (some (!decide (a1298 = 1))).bind fun a1300 =>
            cond a1300
            ((F_impl_drawing_wire (s1233.1, s1233.2.1, I3, O3)).bind fun y1304 =>
              (F_impl_drawing_edge (y1304.1.1, s1233.2.1, I3, O3) 7 a1298 [a1249] [y1304.2]).bind fun y1313 =>
              some (y1313.1, y1313.2.1, y1304.2))
            (some (s1233.1, s1233.2.1, a1249))).bind fun (s1285 : Int × (List (Int × Int × List Int × List Int)) × Int) =>
          (idxO s1233.2.2 a1257).bind fun a1326 =>
          (appO a1326 [s1285.2.2]).bind fun a1333 =>
          (setO s1233.2.2 a1257 a1333).bind fun a1345 =>
          some (s1285.1, s1285.2.1, a1345)) y1012.2.length 0 (y1012.1.1, y1012.1.2.1, s900.2.2)).bind fun (s1349 : Int × (List (Int × Int × List Int × List Int)) × List (List Int)) =>
      some (s1349.1, s1349.2.1, s1349.2.2))
    (fun i s t => ∃ P1 n1 E1 n1' E1' A1 A1', s = (((n1 : Nat) : Int), E1, A1) ∧ t = (((n1' : Nat) : Int), E1', A1') ∧ (∀ p ∈ P, p ∈ P1) ∧ Mx cols P1 U V (ins.drop i ++ D) n1 I E1 n1' E1' (B + 80 * i) A1 A1') rows.length 0 ((n : Int), E, List.replicate cols []) ((n' : Int), E', List.replicate cols [])
    ⟨P, n, E, n', E', _, _, rfl, rfl, fun p hp => hp, h.perm (fun x => by simp [List.count_append]), LLsR.rep P cols, by simp⟩ (by
      rintro i s t _ hj ⟨P1, n1, E1, n1', E1', A1, A1', rfl, rfl, hP, hx⟩
      rw [Nat.zero_add] at hj
      obtain ⟨w, w', hw, hw', hww⟩ := (hi.mono hP).get (i := i) (by omega)
      have hwr : ins.drop i = w :: ins.drop (i + 1) := by
        obtain ⟨q1, q2⟩ := List.getElem?_eq_some_iff.1 hw
        rw [List.drop_eq_getElem_cons q1, q2]
      have hrow := hrows _ (List.getElem_mem hj)
      rw [hwr] at hx
      obtain ⟨P2, n2, E2, n2', E2', A2, A2', k1, k2, k3, k4⟩ := row_sim I2 O2 I3 O3 hrow hcols hx hww (hz i _ w (List.getElem?_eq_getElem hj) hw) (by omega)
      refine ⟨_, _, bnd (idxO_of (List.getElem?_eq_getElem hj)) (bnd (plS_ (by omega) (fun _ _ => rfl)) (bnd (idxO_of hw) ?_)), bnd (idxO_of (List.getElem?_eq_getElem hj)) (bnd (plS_ (by omega) (fun _ _ => rfl)) (bnd (idxO_of hw') ?_)), P2, n2, E2, n2', E2', A2, A2', rfl, rfl, fun p hp => k3 p (hP p hp), k4.d.up (by omega), k4.r, k4.l⟩
      · revert k1
        generalize (F_spec_axMake_fan _ _ _) = m
        intro k1
        cases m with
        | none => cases k1
        | some y => exact stp (bnd k1 rfl)
      · revert k2
        generalize (F_impl_drawing_fanOut _ _ _) = m
        intro k2
        cases m with
        | none => cases k2
        | some y => exact stp (bnd k2 rfl))
  rw [Nat.zero_add] at h4
  have d4 : Dw P1 U V (A1.flatten ++ D) n1 I E1 n1' E1' (B + 80 * rows.length) := h4.d.perm fun x => by rw [← hl, List.drop_length, List.nil_append]
  have hn1 := d4.b1
  have hfl : A1.flatten.length ≤ 3000 := by
    have := d4.len
    rw [List.length_append] at this
    omega
  -- the columns
  have hAl := h4.l
  have hAr := h4.r
  have hdl : ∀ (A : List (List Int)) (j : Nat) (a : List Int), A[j]? = some a → (A.drop j).flatten.length = a.length + (A.drop (j + 1)).flatten.length := fun A j a ha => by
    obtain ⟨q1, q2⟩ := List.getElem?_eq_some_iff.1 ha
    rw [List.drop_eq_getElem_cons q1, q2]; simp
  obtain ⟨s, t, c1, c2, P2, n2, E2, n2', E2', out, out', rfl, rfl, c3, c4, c5, c6⟩ := forS_rel2 (f := fun (k1498 : Nat) (s1578 : Int × (List (Int × Int × List Int × List Int)) × List Int) =>
      (idxO A1 ((k1498 : Nat) : Int)).bind fun a1596 =>
      (F_spec_axMake_sum (s1578.1, s1578.2.1, I2, O2) a1596).bind fun y1600 =>
      (appO s1578.2.2 [y1600.2]).bind fun a1608 =>
      some (y1600.1.1, y1600.1.2.1, a1608))
    (g := fun (k1360 : Nat) (s1438 : Int × (List (Int × Int × List Int × List Int)) × List Int) =>
      (idxO A1' ((k1360 : Nat) : Int)).bind fun a1455 =>
      (F_impl_drawing_sum (s1438.1, s1438.2.1, I3, O3) a1455).bind fun y1459 =>
      (appO s1438.2.2 [y1459.2]).bind fun a1467 =>
      some (y1459.1.1, y1459.1.2.1, a1467))
    (fun j s t => ∃ P2 n2 E2 n2' E2' out out', s = (((n2 : Nat) : Int), E2, out) ∧ t = (((n2' : Nat) : Int), E2', out') ∧ (∀ p ∈ P1, p ∈ P2) ∧ LsR P2 out out' ∧ out.length = j ∧ Dw P2 U V (out ++ ((A1.drop j).flatten ++ D)) n2 I E2 n2' E2' (10000 - 2 * (A1.drop j).flatten.length + 2 * j)) cols 0 (((n1 : Nat) : Int), E1, []) (((n1' : Nat) : Int), E1', [])
    ⟨P1, n1, E1, n1', E1', [], [], rfl, rfl, fun p hp => hp, trivial, rfl, d4.up (by rw [List.drop_zero]; omega)⟩ (by
      rintro j s t _ hj ⟨P2, n2, E2, n2', E2', out, out', rfl, rfl, hP, ho, hol, hd⟩
      rw [Nat.zero_add] at hj
      obtain ⟨a, b, ha, hb, hab⟩ := (hAr.mono hP).get (i := j) (by omega)
      have hd1 := hdl A1 j a ha
      have hdr : A1.drop j = a :: A1.drop (j + 1) := by
        obtain ⟨q1, q2⟩ := List.getElem?_eq_some_iff.1 ha
        rw [List.drop_eq_getElem_cons q1, q2]
      have hdf : (A1.drop j).flatten.length ≤ 3000 := by
        have : (A1.take j).flatten.length + (A1.drop j).flatten.length = A1.flatten.length := by
          rw [← List.length_append, ← List.flatten_append, List.take_append_drop]
        omega
      have hd2 := hd.perm (D1 := a ++ (out ++ ((A1.drop (j + 1)).flatten ++ D))) (fun x => by
        rw [hdr, List.flatten_cons]
        simp only [List.count_append]; omega)
      obtain ⟨P3, n3, E3, n3', E3', x, y, k1, k2, k3, k4, k5⟩ := sum_sim I2 O2 I3 O3 a.length 1000000 (by omega) rfl hd2 hab (by omega)
      refine ⟨_, _, bnd (idxO_of ha) (bnd k1 (bnd (appO_of (by simp; omega)) rfl)), bnd (idxO_of hb) (bnd k2 (bnd (appO_of (by rw [← ho.len]; simp; omega)) rfl)), P3, n3, E3, n3', E3', out ++ [x], out' ++ [y], rfl, rfl, fun p hp => k3 p (hP p hp), (ho.mono k3).app (m := [x]) (m' := [y]) ⟨k4, trivial⟩, by simp [hol], (k5.perm fun z => ?_).up (by omega)⟩
      rw [cntC]
      simp only [List.count_append, cnt1]; omega)
  rw [Nat.zero_add] at c5 c6
  refine ⟨P2, n2, E2, n2', E2', out, out', ?_, ?_, fun p hp => c3 p (h3 p hp), c4, c5, (c6.perm fun x => ?_).up (by omega)⟩
  · refine bnd (makeO_of _ (by omega)) (bnd h1 ?_)
    dsimp only
    rw [hAl]
    exact bnd c1 rfl
  · refine bnd (makeO_of _ (by omega)) (bnd h2 ?_)
    dsimp only
    rw [← hAr.len, hAl]
    exact bnd c2 rfl
  · rw [← hAl, List.drop_length, List.flatten_nil, List.nil_append]
end Go.Proofs.YtbofgnbanmbopaaGreatDoor
namespace Go.Proofs.YtbofgnbanmbopaaGreatDoor

end Go.Proofs.YtbofgnbanmbopaaGreatDoor
namespace Go.Proofs.YtbofgnbanmbopaaGreatDoor

abbrev Rows := List (List Int)

/-- rows of n numbers of a field -/
def okM (p : Int) (n : Nat) (m : Rows) : Prop := rowsP p n m

/-! ### one row -/

/-! ### the reference's and the program's steps -/
end Go.Proofs.YtbofgnbanmbopaaGreatDoor
namespace Go.Proofs.YtbofgnbanmbopaaGreatDoor

/-! ### lists changed at every place -/

/-! ### the steps -/

/-! ### the reference -/
end Go.Proofs.YtbofgnbanmbopaaGreatDoor
namespace Go.Proofs.YtbofgnbanmbopaaGreatDoor

/-! ### the whole -/
end Go.Proofs.YtbofgnbanmbopaaGreatDoor
namespace Go.Proofs.YtbofgnbanmbopaaGreatDoor

/-! ### leads -/

/-! ### rows by their elements -/

/-! ### reduced lists -/

/-! ### valid spaces -/
end Go.Proofs.YtbofgnbanmbopaaGreatDoor
namespace Go.Proofs.YtbofgnbanmbopaaGreatDoor

/-! ### sums -/

/-! ### combinations -/

/-! ### coordinates -/

/-! ### has a vector -/

/-! ### relations -/

/-! ### the first choice -/
end Go.Proofs.YtbofgnbanmbopaaGreatDoor
namespace Go.Proofs.YtbofgnbanmbopaaGreatDoor

/-! ### lists of matrices in the law -/

/-! ### matrices and responses -/
def matB (p : Int) (m : Mat) : Bool := fdB p && (rng m.1 0 24 && (decide ((m.2.length : Int) ≤ 24) && rowsB p m.1 m.2))
theorem isMatrix_ (p : Int) (m : Mat) : F_impl_isMatrix p m = some (matB p m) := by
  refine bnd (a := matB p m) ?_ rfl
  refine bndB (isField_ p) (fun _ => rfl) (fun _ => cTW rfl ?_)
  refine bndB (within_ _ _ _) (fun _ => rfl) (fun _ => cTW rfl (stp ?_))
  cases decide ((m.2.length : Int) ≤ 24) with
  | false => rfl
  | true => exact cTW rfl (bnd (areVectors_ p m.1 m.2) rfl)
theorem mxGood_ (p : Int) (m : Mat) : F_spec_mxGood p m = some (matB p m) := by
  unfold matB
  refine bnd (a := !(fdB p && (rng m.1 0 24 && decide ((m.2.length : Int) ≤ 24)))) ?_ ?_
  · refine bndN (fdGood p) (fun _ => rfl) (fun _ => stp (cFW rfl ?_))
    refine bndN (l1In _ _ _) (fun _ => rfl) (fun _ => stp (cFW rfl (stp ?_)))
    by_cases h : (m.2.length : Int) ≤ 24
    · rw [dT h, dF (by omega)]; rfl
    · rw [dF h, dT (by omega)]; rfl
  · cases hb : (fdB p && (rng m.1 0 24 && decide ((m.2.length : Int) ≤ 24))) with
    | false =>
      refine cTW rfl ?_
      rw [← Bool.and_assoc (rng m.1 0 24), ← Bool.and_assoc (fdB p), hb]; rfl
    | true =>
      refine cFW rfl ?_
      rw [← Bool.and_assoc (rng m.1 0 24), ← Bool.and_assoc (fdB p), hb, Bool.true_and]
      have hp := fdB_rng (by rw [Bool.and_eq_true] at hb; exact hb.1 : fdB p = true)
      refine sqW (forO_all (fun r : List Int => decide ((r.length : Int) = m.1) && inB p r) m.2 0 ?_ (t := false)) ?_
      · intro j r hj
        rw [Nat.zero_add]
        refine bnd (idxO_of hj) ?_
        refine bnd (a := !(decide ((r.length : Int) = m.1) && inB p r)) (stp ?_) ?_
        · cases decide ((r.length : Int) = m.1) with
          | false => rfl
          | true => exact cFW rfl (bnd (fdIn hp r) rfl)
        · cases (decide ((r.length : Int) = m.1) && inB p r) <;> rfl
      · show _ = some (m.2.all _)
        cases (m.2.all fun r => decide ((r.length : Int) = m.1) && inB p r) <;> rfl
end Go.Proofs.YtbofgnbanmbopaaGreatDoor
namespace Go.Proofs.YtbofgnbanmbopaaGreatDoor
set_option linter.unusedVariables false

/-! ### identity matrices -/

/-! ### linear equations -/
theorem matB_ok {p : Int} {m : Mat} (h : matB p m = true) : ∃ n : Nat, m.1 = (n : Int) ∧ fdB p = true ∧ n ≤ 24 ∧ m.2.length ≤ 24 ∧ okM p n m.2 := by
  unfold matB at h
  simp only [Bool.and_eq_true, rng_true, decide_eq_true_eq] at h
  obtain ⟨h1, h2, h3, h4⟩ := h
  have e : m.1 = (m.1.toNat : Int) := by omega
  rw [e] at h4
  exact ⟨m.1.toNat, e, h1, by omega, by omega, rowsB_true.1 h4⟩
end Go.Proofs.YtbofgnbanmbopaaGreatDoor
namespace Go.Proofs.YtbofgnbanmbopaaGreatDoor
set_option linter.unusedVariables false

theorem matrixGraph_both (p : Int) (m : Mat) : ∃ G, F_spec_MatrixGraph p m = some G ∧ F_impl_MatrixGraph p m = some G ∧ nGraph G.1 ≤ 1048576 := by
  by_cases hb : matB p m = true ∧ m.2.length ≤ 12 ∧ m.1 ≤ 12
  · obtain ⟨h1, h2, h3⟩ := hb
    obtain ⟨c, hc, hf, hc24, hr24, hok⟩ := matB_ok h1
    obtain ⟨mc, rows⟩ := m
    dsimp only at hc h2 h3 hr24 hok
    subst hc
    have n1 : ¬ (12 : Int) < ((rows.length : Nat) : Int) := by omega
    have n2 : ¬ (12 : Int) < (c : Int) := by omega
    have hd := (dw_inputs rows.length).perm (D1 := ug rows.length ++ []) (fun x => by simp)
    obtain ⟨P', a1, E1, a1', E1', out, out', k1, k2, k3, k4, k5, k6⟩ := matrix_sim (ug rows.length) [] (ug rows.length) [] (fun row hr => (hok row hr).1) hc24 (by omega) hd (dg_ls rows.length) (ug_len _) (fun i row w _ hw _ => List.mem_of_getElem? hw) (by omega)
    obtain ⟨G, g1, g2, g3⟩ := finish_same (h := k6.perm (D1 := out) (fun x => by simp)) ((dg_ls rows.length).mono k3) k4
    refine ⟨G, ?_, ?_, g3⟩
    · refine bnd (a := false) (bnd (fdGood p) (stp (cFW (nT hf) (bnd (mxGood_ p ((c : Int), rows)) (stp (cFW (nT h1) (stp (cFW (dF n1) (stp (congrArg some (dF n2)))))))))) ) (cFW rfl ?_)
      exact bnd (inputs_ (n := rows.length) (by omega)) (bnd k1 (bnd g1 rfl))
    · refine bnd (a := false) (bnd (isMatrix_ p ((c : Int), rows)) (stp (cFW (nT h1) (stp (cFW (dF n1) (stp (congrArg some (dF n2)))))))) (cFW rfl ?_)
      exact bnd (wires0_ (n := rows.length) (by omega)) (bnd k2 (bnd g2 rfl))
  · refine ⟨(noG, false), bnd (a := true) ?_ (cTW rfl rfl), bnd (a := true) ?_ (cTW rfl rfl), by decide⟩
    · cases hf : fdB p with
      | false => exact bnd (fdGood p) (stp (cTW (nF hf) rfl))
      | true =>
        refine bnd (fdGood p) (stp (cFW (nT hf) ?_))
        cases h1 : matB p m with
        | false => exact bnd (mxGood_ p m) (stp (cTW (nF h1) rfl))
        | true =>
          refine bnd (mxGood_ p m) (stp (cFW (nT h1) (stp ?_)))
          by_cases h2 : (12 : Int) < ((m.2.length : Nat) : Int)
          · exact cTW (dT h2) rfl
          · refine cFW (dF h2) (stp (congrArg some (dT ?_)))
            exact Decidable.byContradiction fun h3 => hb ⟨h1, by omega, by omega⟩
    · cases h1 : matB p m with
      | false => exact bnd (isMatrix_ p m) (stp (cTW (nF h1) rfl))
      | true =>
        refine bnd (isMatrix_ p m) (stp (cFW (nT h1) (stp ?_)))
        by_cases h2 : (12 : Int) < ((m.2.length : Nat) : Int)
        · exact cTW (dT h2) rfl
        · refine cFW (dF h2) (stp (congrArg some (dT ?_)))
          exact Decidable.byContradiction fun h3 => hb ⟨h1, by omega, by omega⟩
noncomputable def wMatrixGraph (p : Int) (m : Mat) : Gra × Bool := (matrixGraph_both p m).choose
theorem specMatrixGraph (p : Int) (m : Mat) : F_spec_MatrixGraph p m = some (wMatrixGraph p m) := (matrixGraph_both p m).choose_spec.1
theorem implMatrixGraph (p : Int) (m : Mat) : F_impl_MatrixGraph p m = some (wMatrixGraph p m) := (matrixGraph_both p m).choose_spec.2.1
theorem boundMatrixGraph_0 (p : Int) (m : Mat) : nGraph (wMatrixGraph p m).1 ≤ 1048576 := (matrixGraph_both p m).choose_spec.2.2

/-! ### the graph of a relation -/
end Go.Proofs.YtbofgnbanmbopaaGreatDoor
namespace Go.Proofs.YtbofgnbanmbopaaGreatDoor
set_option linter.unusedVariables false
theorem lawN_MatrixGraph (a0 : Int) (a1 : TyMatrix) (i0 : Nice.ok a0) (i1 : Nice.ok a1) : F_laws_FnExactMatrixGraph a0 a1 = some true := by
  have hbig : bigN = 4611686018427387904 := rfl
  refine bnd (z_Matrix a1 1048576 (by omega) (by rw [hbig]; omega) (niceLensMatrix i1)) (stp ?_)
  by_cases gaM : (nMatrix a1 : Int) ≤ 1048576
  case neg => rw [if_neg gaM]; exact cTW (dT (by omega)) rfl
  rw [if_pos gaM]
  refine cFW (dF (by omega)) ?_
  have haM : nMatrix a1 ≤ 1048576 := by omega
  first
  | refine bnd (t_Matrix a1 haM) (bnd (specMatrixGraph a0 a1) ?_)
  | refine bnd (bnd (t_Matrix a1 haM) (bnd (specMatrixGraph a0 a1) rfl)) ?_
  refine bnd (t_Matrix a1 haM) ?_
  refine bnd (implMatrixGraph a0 a1) ?_
  have b0 : nGraph (wMatrixGraph a0 a1).1 ≤ 1048576 := boundMatrixGraph_0 a0 a1
  have cb0 := cGraph_le (wMatrixGraph a0 a1).1
  refine bnd (a := false) (bnd (e_Graph _ b0) (stp (cFW rfl (stp (congrArg some (nT (dT rfl))))))) (cFW rfl ?_)
  refine bnd (t_Matrix _ haM) (bnd (e_Matrix _ haM) (stp (cFW rfl ?_)))
  have caM := cMatrix_le a1
  refine bnd (m_Matrix a1 _ (by omega) (by omega)) ?_
  refine bnd (a := false) (stp (cFW (dF (by simp only [mk_Matrix_snd]; omega)) (bnd (e_Graph _ b0) (stp (cFW rfl (stp (congrArg some (nT (dT rfl))))))))) (cFW rfl ?_)
  refine bnd (m_Graph (wMatrixGraph a0 a1).1 _ (by omega) (by omega)) ?_
  refine bnd (h_Graph (wMatrixGraph a0 a1).1 _ (by omega) (by omega)) (stp (cFW (dF (by omega)) ?_))
  refine stp (cFW (nT (dT (by simp only [mk_Graph_snd]))) ?_)
  first
  | refine bnd (t_Matrix a1 haM) (bnd (implMatrixGraph a0 a1) ?_)
  | refine bnd (bnd (t_Matrix a1 haM) (bnd (implMatrixGraph a0 a1) rfl)) ?_
  refine bnd (a := false) (bnd (e_Graph _ b0) (stp (cFW rfl (stp (congrArg some (nT (dT rfl))))))) (cFW rfl ?_)
  refine bnd (h_Graph (wMatrixGraph a0 a1).1 _ (by omega) (by omega)) (stp (cFW (dF (by omega)) ?_))
  refine stp (cFW (nT (dT (by simp only [mk_Graph_snd]))) ?_)
  rfl
end Go.Proofs.YtbofgnbanmbopaaGreatDoor
