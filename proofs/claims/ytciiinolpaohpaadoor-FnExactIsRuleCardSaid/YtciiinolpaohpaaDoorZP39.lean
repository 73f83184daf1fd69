/-
  Plain laws: wires made one (the reference's classes and the program's), SeqGraphs. No program in sight. No condition.
-/
import Derived.Test.YtciiinolpaohpaaDoorZP38
namespace Go.Proofs.YtciiinolpaohpaaDoor

/-! ### classes -/
def joinC (c : Nat → Nat) (u v : Nat) : Nat → Nat := fun w => if c w = max (c u) (c v) then min (c u) (c v) else c w
def clsL (P : List (Int × Int)) : Nat → Nat := P.foldl (fun c p => joinC c p.1.toNat p.2.toNat) id
theorem clsL_snoc (P : List (Int × Int)) (p : Int × Int) : clsL (P ++ [p]) = joinC (clsL P) p.1.toNat p.2.toNat := by unfold clsL; rw [List.foldl_append]; rfl
theorem clsL_take {P : List (Int × Int)} {j : Nat} (hj : j < P.length) : clsL (P.take (j + 1)) = joinC (clsL (P.take j)) P[j].1.toNat P[j].2.toNat := by
  rw [List.take_add_one, List.getElem?_eq_getElem hj]; exact clsL_snoc _ _
structure Cls (c : Nat → Nat) : Prop where
  le : ∀ w, c w ≤ w
  idem : ∀ w, c (c w) = c w
theorem Cls.join {c : Nat → Nat} (h : Cls c) (u v : Nat) : Cls (joinC c u v) := by
  have iu := h.idem u; have iv := h.idem v
  refine ⟨fun w => ?_, fun w => ?_⟩
  · unfold joinC
    have := h.le w
    split <;> omega
  · unfold joinC
    by_cases hw : c w = max (c u) (c v)
    · rw [if_pos hw]
      have hk : c (min (c u) (c v)) = min (c u) (c v) := by
        rcases Nat.le_total (c u) (c v) with h1 | h1
        · rw [Nat.min_eq_left h1, iu]
        · rw [Nat.min_eq_right h1, iv]
      rw [hk]
      split <;> rfl
    · rw [if_neg hw, h.idem w, if_neg hw]
theorem clsL_ok : ∀ P : List (Int × Int), Cls (clsL P) := by
  intro P
  have key : ∀ (P : List (Int × Int)) (c : Nat → Nat), Cls c → Cls (P.foldl (fun c p => joinC c p.1.toNat p.2.toNat) c) := by
    intro P
    induction P with
    | nil => intro c h; exact h
    | cons p P ih => intro c h; exact ih _ (h.join _ _)
  exact key P id ⟨fun w => Nat.le_refl _, fun w => rfl⟩

/-! ### the program's forest -/
structure Forest (n : Nat) (c cls : Nat → Nat) : Prop where
  le : ∀ w, w < n → c w ≤ w
  fix : ∀ w, w < n → c w = w → cls w = w
  up : ∀ w, w < n → cls (c w) = cls w
def tabN (n : Nat) (c : Nat → Nat) : List Int := tabl n fun k => (c k : Int)
theorem root_ {n : Nat} {c cls : Nat → Nat} (h : Forest n c cls) {w : Nat} (hw : w < n) : F_impl_classes_root (tabN n c) (w : Int) = some (cls w : Int) := by
  obtain ⟨t, h1, rfl⟩ := whileO_rel (f := fun (s126 : Int) =>
      (idxO (tabN n c) s126).bind fun a141 =>
      (some (!decide (a141 = s126))).bind fun a143 =>
      cond a143
      ((idxO (tabN n c) s126).bind fun a154 =>
        some (.inl a154))
      (some (.inr s126))) (fun s => ∃ k : Nat, s = (k : Int) ∧ k < n ∧ cls k = cls w) (fun t => t = (cls w : Int)) (fun s => s.toNat) (by
    rintro s ⟨k, rfl, hk, he⟩
    have hi : idxO (tabN n c) (k : Int) = some (c k : Int) := tabl_idx _ hk
    have hle := h.le k hk
    by_cases hf : c k = k
    · refine .inr ⟨(k : Int), bnd hi (stp (cFW (nT (dT (by omega))) rfl)), ?_⟩
      rw [← he, h.fix k hk hf]
    · exact .inl ⟨(c k : Int), bnd hi (stp (cTW (nF (dF (by omega))) (bnd hi rfl))), ⟨c k, rfl, by omega, by rw [h.up k hk, he]⟩, by omega⟩) (s := (w : Int)) ⟨w, rfl, hw, rfl⟩
  exact bnd h1 rfl
theorem Forest.join {n : Nat} {c cls : Nat → Nat} (h : Forest n c cls) (hc : Cls cls) (u v : Nat) : Forest n (fun k => if k = max (cls u) (cls v) then min (cls u) (cls v) else c k) (joinC cls u v) := by
  have iu := hc.idem u; have iv := hc.idem v
  have hm : cls (max (cls u) (cls v)) = max (cls u) (cls v) := by
    rcases Nat.le_total (cls u) (cls v) with h1 | h1
    · rw [Nat.max_eq_right h1, iv]
    · rw [Nat.max_eq_left h1, iu]
  have hk : cls (min (cls u) (cls v)) = min (cls u) (cls v) := by
    rcases Nat.le_total (cls u) (cls v) with h1 | h1
    · rw [Nat.min_eq_left h1, iu]
    · rw [Nat.min_eq_right h1, iv]
  refine ⟨fun w hw => ?_, fun w hw => ?_, fun w hw => ?_⟩
  · have := h.le w hw
    split <;> omega
  · unfold joinC
    intro hf
    by_cases hwm : w = max (cls u) (cls v)
    · rw [if_pos hwm] at hf
      subst hwm
      rw [hm, if_pos rfl]; exact hf
    · rw [if_neg hwm] at hf
      have := h.fix w hw hf
      rw [this, if_neg hwm]
  · unfold joinC
    by_cases hwm : w = max (cls u) (cls v)
    · rw [if_pos hwm, hwm, hm, if_pos rfl, hk]
      split <;> rfl
    · rw [if_neg hwm, h.up w hw]
theorem maxI2_nat (a b : Nat) : maxI2 (a : Int) (b : Int) = ((max a b : Nat) : Int) := by unfold maxI2; split <;> omega
theorem minI2_nat (a b : Nat) : minI2 (a : Int) (b : Int) = ((min a b : Nat) : Int) := by unfold minI2; split <;> omega
theorem join_ {n : Nat} {c cls : Nat → Nat} (h : Forest n c cls) (hc : Cls cls) {u v : Nat} (hu : u < n) (hv : v < n) : F_impl_classes_join (tabN n c) (u : Int) (v : Int) = some (tabN n fun k => if k = max (cls u) (cls v) then min (cls u) (cls v) else c k) := by
  have l1 := hc.le u; have l2 := hc.le v
  refine bnd (root_ h hu) (bnd (root_ h hv) (stp (stp ?_)))
  rw [maxI2_nat, minI2_nat]
  refine bnd (tabl_setO _ _ (by omega)) (congrArg some (tabl_ext fun k _ => ?_))
  show _ = ((if k = max (cls u) (cls v) then min (cls u) (cls v) else c k : Nat) : Int)
  split <;> rfl

/-! ### which classes are used, and their numbers -/
def usedW (cls : Nat → Nat) (W : List Int) (r : Nat) : Bool := W.any fun x => decide (cls x.toNat = r)
def numW (cls : Nat → Nat) (W : List Int) (j : Nat) : Nat := (List.range j).countP fun k => decide (cls k = k) && usedW cls W k
theorem numW_succ (cls : Nat → Nat) (W : List Int) (j : Nat) : numW cls W (j + 1) = numW cls W j + (if (decide (cls j = j) && usedW cls W j) = true then 1 else 0) := by
  unfold numW
  rw [List.range_succ, List.countP_append, List.countP_singleton]
theorem numW_le (cls : Nat → Nat) (W : List Int) (j : Nat) : numW cls W j ≤ j := by
  have := List.countP_le_length (p := fun k => decide (cls k = k) && usedW cls W k) (l := List.range j)
  rwa [List.length_range] at this
def toW (cls : Nat → Nat) (W : List Int) (k : Nat) : Int := if usedW cls W (cls k) = true then (numW cls W (cls k) : Int) else -1
theorem usedW_range {n : Nat} {cls : Nat → Nat} {W : List Int} (h : inRg n W) (r : Nat) : ((List.range n).any fun w => decide ((w : Int) ∈ W) && decide (cls w = r)) = usedW cls W r := by
  unfold usedW
  rw [Bool.eq_iff_iff, List.any_eq_true, List.any_eq_true]
  constructor
  · rintro ⟨w, hw, hb⟩
    simp only [Bool.and_eq_true, decide_eq_true_eq] at hb
    exact ⟨(w : Int), hb.1, dT (by rw [Int.toNat_natCast]; exact hb.2)⟩
  · rintro ⟨x, hx, hb⟩
    have hb := of_decide_eq_true hb
    have := h x hx
    refine ⟨x.toNat, List.mem_range.2 (by omega), ?_⟩
    have e : ((x.toNat : Nat) : Int) = x := by omega
    rw [e, dT hx, dT hb]; rfl
/-- the program's marks of the classes that occur -/
theorem glue1_ {n : Nat} {c cls : Nat → Nat} (h : Forest n c cls) (hc : Cls cls) {l : List Int} (hl : inRg n l) (d : List Int) : F_impl_Graph_glue_1 l (tabl n (usedW cls d)) (tabN n c) = some (tabl n (usedW cls (d ++ l))) := by
  have := forS_is (n := l.length) (fun j => tabl n (usedW cls (d ++ l.take j))) (f := fun (k6 : Nat) (s53 : List Bool) =>
      (idxO l ((k6 : Nat) : Int)).bind fun a68 =>
      (F_impl_classes_root (tabN n c) a68).bind fun y71 =>
      (setO s53 y71 true).bind fun a80 =>
      some a80) (fun j hj => by
    have hx := hl _ (List.getElem_mem hj)
    obtain ⟨m, hm⟩ : ∃ m : Nat, l[j] = (m : Int) := ⟨l[j].toNat, by omega⟩
    have hle := hc.le m
    refine bnd (idxO_of (List.getElem?_eq_getElem hj)) ?_
    rw [hm]
    refine bnd (root_ h (by omega)) (bnd (tabl_setO _ _ (by omega)) (congrArg some (tabl_ext fun k _ => ?_)))
    have e : l.take (j + 1) = l.take j ++ [(m : Int)] := by rw [List.take_add_one, List.getElem?_eq_getElem hj, hm]; rfl
    rw [e]
    unfold usedW
    rw [← List.append_assoc, List.any_append (xs := d ++ l.take j)]
    simp only [List.any_cons, List.any_nil, Bool.or_false, Int.toNat_natCast]
    by_cases hk : k = cls m
    · rw [if_pos hk, dT hk.symm, Bool.or_true]
    · rw [if_neg hk, dF (fun e => hk e.symm), Bool.or_false])
  rw [List.take_zero, List.append_nil, List.take_length] at this
  exact bnd this rfl
theorem glueL_ {n : Nat} {c cls : Nat → Nat} (h : Forest n c cls) (hc : Cls cls) {g : Gra} (hg : Rgd n g) : F_impl_Graph_lists_impl_Graph_glue_1 g (tabl n fun _ => false) (tabN n c) = some (tabl n (usedW cls (allW g))) := by
  obtain ⟨w0, E, I, O⟩ := g
  have h0 : (tabl n fun _ => false) = tabl n (usedW cls []) := rfl
  rw [h0]
  refine bnd (glue1_ h hc hg.i []) (bnd (glue1_ h hc hg.o ([] ++ I)) ?_)
  have := forS_is (n := E.length) (fun j => tabl n (usedW cls ([] ++ I ++ O ++ ((E.take j).map fun e => edI e ++ edO e).flatten))) (f := fun (k17 : Nat) (s70 : List Bool) =>
      (idxO E ((k17 : Nat) : Int)).bind fun a85 =>
      (F_impl_Graph_glue_1 a85.2.2.1 s70 (tabN n c)).bind fun y97 =>
      (F_impl_Graph_glue_1 a85.2.2.2 y97 (tabN n c)).bind fun y100 =>
      some y100) (fun j hj => by
    have e1 : [] ++ I ++ O ++ ((E.take (j + 1)).map fun e => edI e ++ edO e).flatten = [] ++ I ++ O ++ ((E.take j).map fun e => edI e ++ edO e).flatten ++ edI E[j] ++ edO E[j] := by
      rw [List.take_add_one, List.getElem?_eq_getElem hj, List.map_append, List.flatten_append]
      simp only [Option.toList_some, List.map_cons, List.map_nil, List.flatten_cons, List.flatten_nil, List.append_nil, List.append_assoc]
    have he := hg.e _ (List.getElem_mem hj)
    rw [e1]
    exact bnd (idxO_of (List.getElem?_eq_getElem hj)) (bnd (glue1_ h hc he.1 _) (bnd (glue1_ h hc he.2 _) rfl)))
  simp only [List.take_zero, List.take_length, List.map_nil, List.flatten_nil, List.append_nil] at this
  refine bnd this ?_
  unfold allW
  simp only [List.nil_append]
def gluG (g : Gra) (n : Nat) (P : List (Int × Int)) : Gra := mpG (numW (clsL P) (allW g) n : Int) (toW (clsL P) (allW g)) g
theorem glue_ {n : Nat} {g : Gra} {P : List (Int × Int)} (hn : n ≤ 1000) (hw : g.1 = (n : Int)) (hg : Rgd n g) (hP : ∀ p ∈ P, (0 ≤ p.1 ∧ p.1 < (n : Int)) ∧ (0 ≤ p.2 ∧ p.2 < (n : Int))) :
    F_impl_Graph_glue g P = some (gluG g n P, tabl n (toW (clsL P) (allW g))) := by
  have hm : maxN = 1099511627776 := rfl
  obtain ⟨w0, E, I, O⟩ := g
  obtain rfl : w0 = (n : Int) := hw
  have hcl := clsL_ok P
  obtain ⟨s, a1, c, rfl, hF⟩ := forS_rel (n := P.length) (s := tabl n fun k => (k : Int)) (f := fun (k20 : Nat) (s59 : List Int) =>
      (idxO P ((k20 : Nat) : Int)).bind fun a74 =>
      (F_impl_classes_join s59 a74.1 a74.2).bind fun y82 =>
      some y82) (fun j s => ∃ c, s = tabN n c ∧ Forest n c (clsL (P.take j))) ⟨id, rfl, fun w _ => Nat.le_refl _, fun w _ _ => rfl, fun w _ => rfl⟩ (by
    rintro j s hj ⟨c, rfl, hF⟩
    obtain ⟨p1, p2⟩ := hP _ (List.getElem_mem hj)
    obtain ⟨u, hu⟩ : ∃ u : Nat, P[j].1 = (u : Int) := ⟨P[j].1.toNat, by omega⟩
    obtain ⟨v, hv⟩ : ∃ v : Nat, P[j].2 = (v : Int) := ⟨P[j].2.toNat, by omega⟩
    have hj2 := join_ hF (clsL_ok _) (u := u) (v := v) (by omega) (by omega)
    rw [← hu, ← hv] at hj2
    refine ⟨_, bnd (idxO_of (List.getElem?_eq_getElem hj)) (bnd hj2 rfl), _, rfl, ?_⟩
    rw [clsL_take hj, hu, hv, Int.toNat_natCast, Int.toNat_natCast]
    exact hF.join (clsL_ok _) u v)
  rw [List.take_length] at hF
  generalize hcls : clsL P = cls at hcl hF
  generalize hW : allW ((n : Int), E, I, O) = W
  have hG := glueL_ hF hcl hg
  rw [hW] at hG
  have hz : F_impl_zeros (n : Int) = some (tabl n fun _ => (0 : Int)) := by rw [zeros_ (by omega), tabl_rep]
  have fin := forS_is (n := n) (fun j => (tabl n (tabF (toW cls W) (fun _ => 0) j), (numW cls W j : Int))) (f := fun (k106 : Nat) (s223 : List Int × Int) =>
      (F_impl_classes_root (tabN n c) ((k106 : Nat) : Int)).bind fun y232 =>
      (idxO (tabl n (usedW cls W)) y232).bind fun a241 =>
      (some (!a241)).bind fun a243 =>
      cond a243
      ((setO s223.1 ((k106 : Nat) : Int) (-1)).bind fun a285 =>
        some (a285, s223.2))
      ((some (decide (y232 < ((k106 : Nat) : Int)))).bind fun a246 =>
        cond a246
        ((idxO s223.1 y232).bind fun a267 =>
          (setO s223.1 ((k106 : Nat) : Int) a267).bind fun a275 =>
          some (a275, s223.2))
        ((setO s223.1 ((k106 : Nat) : Int) s223.2).bind fun a255 =>
          (addO s223.2 1).bind fun a258 =>
          some (a255, a258)))) (fun j hj => by
    have hle := hcl.le j
    have hid := hcl.idem j
    have hnl := numW_le cls W j
    have hns := numW_succ cls W j
    refine bnd (root_ hF hj) (bnd (tabl_idx _ (by omega)) (stp ?_))
    rw [← tabF_step]
    cases hu : usedW cls W (cls j) with
    | false =>
      have ht : toW cls W j = -1 := by unfold toW; rw [hu]; rfl
      have hn0 : numW cls W (j + 1) = numW cls W j := by
        rw [hns]
        by_cases he : cls j = j
        · rw [he] at hu; rw [hu, Bool.and_false]; rfl
        · rw [dF he]; rfl
      refine cTW rfl (bnd (tabl_setO _ _ hj) ?_)
      rw [ht, hn0]
    | true =>
      have ht : toW cls W j = (numW cls W (cls j) : Int) := by unfold toW; rw [hu]; rfl
      by_cases he : cls j = j
      · have hn1 : numW cls W (j + 1) = numW cls W j + 1 := by
          rw [hns, dT he]; rw [he] at hu; rw [hu]; rfl
        refine cFW rfl (stp (cFW (dF (by omega)) (bnd (tabl_setO _ _ hj) (bnd (addO_of (by dsimp only; omega) (by dsimp only; omega)) ?_))))
        rw [ht, he, hn1]; push_cast; rfl
      · have hn0 : numW cls W (j + 1) = numW cls W j := by rw [hns, dF he]; rfl
        have hlt : cls j < j := by omega
        refine cFW rfl (stp (cTW (dT (by omega)) (bnd (tabl_idx _ (by omega)) (bnd (tabl_setO _ _ hj) ?_))))
        have e : tabF (toW cls W) (fun _ => 0) j (cls j) = toW cls W j := by
          unfold tabF; rw [if_pos hlt]; unfold toW; rw [hid]
        rw [e, hn0])
  have e0 : tabl n (tabF (toW cls W) (fun _ => 0) 0) = tabl n fun _ => 0 := tabl_ext fun k _ => by unfold tabF; rw [if_neg (by omega)]
  have e1 : tabl n (tabF (toW cls W) (fun _ => 0) n) = tabl n (toW cls W) := tabl_ext fun k hk => by unfold tabF; rw [if_pos hk]
  have e2 : numW cls W 0 = 0 := rfl
  rw [e0, e1, e2] at fin
  refine bnd (upT_ (by omega)) (bnd a1 (bnd (tabl_make _ (by omega)) (bnd hG (bnd hz ?_))))
  rw [tabl_len]
  refine bnd fin (bnd (moved_ _ _ hg) ?_)
  unfold gluG
  rw [hcls, hW]

theorem inRg_app' {n : Nat} {a b : List Int} (ha : inRg n a) (hb : inRg n b) : inRg n (a ++ b) := by
  intro x hx
  rcases List.mem_append.1 hx with h | h
  · exact ha x h
  · exact hb x h
/-! ### the reference's classes -/
theorem l1Most_ (a b : Nat) : F_spec_l1Most (a : Int) (b : Int) = some ((max a b : Nat) : Int) := by
  unfold F_spec_l1Most
  by_cases h : b < a
  · refine stp (cTW (dT (by omega)) ?_); rw [Nat.max_eq_left (by omega)]
  · refine stp (cFW (dF (by omega)) ?_); rw [Nat.max_eq_right (by omega)]
theorem l1Least_ (a b : Nat) : F_spec_l1Least (a : Int) (b : Int) = some ((min a b : Nat) : Int) := by
  unfold F_spec_l1Least
  by_cases h : a < b
  · refine stp (cTW (dT (by omega)) ?_); rw [Nat.min_eq_left (by omega)]
  · refine stp (cFW (dF (by omega)) ?_); rw [Nat.min_eq_right (by omega)]
theorem cnt_mem {E : List Edg} {I O : List Int} {w : Int} (j : Nat) : (j : Int) ∈ allW (w, E, I, O) ↔ (0 : Int) < ((I.count (j : Int) + cntE E edO j : Nat) : Int) + ((O.count (j : Int) + cntE E edI j : Nat) : Int) := by
  rw [mem_allW]
  dsimp only
  have z1 : I.count (j : Int) = 0 ↔ ¬ (j : Int) ∈ I := List.count_eq_zero
  have z2 : O.count (j : Int) = 0 ↔ ¬ (j : Int) ∈ O := List.count_eq_zero
  have z3 := mem_cnt (E := E) (s := edI) (k := j)
  have z4 := mem_cnt (E := E) (s := edO) (k := j)
  constructor
  · intro h
    refine Decidable.byContradiction fun h0 => ?_
    have y1 := z1.1 (by omega); have y2 := z2.1 (by omega); have y3 := z3.1 (by omega); have y4 := z4.1 (by omega)
    rcases h with h | h | ⟨e, he, h | h⟩
    · exact y1 h
    · exact y2 h
    · exact y3 ⟨e, he, h⟩
    · exact y4 ⟨e, he, h⟩
  · intro h
    refine Decidable.byContradiction fun hc => ?_
    simp only [not_or] at hc
    have y1 := z1.2 hc.1; have y2 := z2.2 hc.2.1
    have y3 := z3.2 (fun ⟨e, he, hk⟩ => hc.2.2 ⟨e, he, .inl hk⟩)
    have y4 := z4.2 (fun ⟨e, he, hk⟩ => hc.2.2 ⟨e, he, .inr hk⟩)
    omega
theorem hgGlued_ {n : Nat} {g : Gra} {A B : List Int} (hn : n ≤ 1000) (hw : g.1 = (n : Int)) (hg : Rgd n g) (hA : inRg n A) (hB : inRg n B) (hl : A.length = B.length) :
    F_spec_hgGlued g A B = some (gluG g n (A.zip B), tabl n (toW (clsL (A.zip B)) (allW g))) := by
  have hm : maxN = 1099511627776 := rfl
  obtain ⟨w0, E, I, O⟩ := g
  obtain rfl : w0 = (n : Int) := hw
  have hcl := clsL_ok (A.zip B)
  have hzl : (A.zip B).length = A.length := by rw [List.length_zip, hl, Nat.min_self]
  have li := hg.li; have lo := hg.lo; have ti := hg.ti; have to := hg.to
  dsimp only at li lo ti to
  -- the classes
  have a1 := forS_is (n := A.length) (fun j => tabN n (clsL ((A.zip B).take j))) (f := fun (k62 : Nat) (s337 : List Int) =>
      (idxO A ((k62 : Nat) : Int)).bind fun a353 =>
      (idxO B ((k62 : Nat) : Int)).bind fun a361 =>
      (idxO s337 a353).bind fun a369 =>
      (idxO s337 a361).bind fun a377 =>
      (forS (fun (k379 : Nat) (s440 : List Int) =>
          (idxO s440 ((k379 : Nat) : Int)).bind fun a456 =>
          (F_spec_l1Most a369 a377).bind fun y458 =>
          (some (decide (a456 = y458))).bind fun a461 =>
          cond a461
          ((F_spec_l1Least a369 a377).bind fun y465 =>
            (setO s440 ((k379 : Nat) : Int) y465).bind fun a474 =>
            some a474)
          (some s440)) s337.length 0 s337).bind fun (s479 : List Int) =>
      some s479) (fun j hj => by
    have hjz : j < (A.zip B).length := by omega
    have hz : (A.zip B)[j] = (A[j], B[j]'(by omega)) := List.getElem_zip
    have h1 := hA _ (List.getElem_mem hj)
    have h2 := hB _ (List.getElem_mem (show j < B.length by omega))
    obtain ⟨u, hu⟩ : ∃ u : Nat, A[j] = (u : Int) := ⟨A[j].toNat, by omega⟩
    obtain ⟨v, hv⟩ : ∃ v : Nat, B[j]'(by omega) = (v : Int) := ⟨(B[j]'(by omega)).toNat, by omega⟩
    have hun : u < n := by omega
    have hvn : v < n := by omega
    rw [clsL_take hjz, hz]
    dsimp only
    rw [hu, hv, Int.toNat_natCast, Int.toNat_natCast]
    generalize clsL ((A.zip B).take j) = cls
    refine bnd (idxO_of (List.getElem?_eq_getElem hj)) (bnd (idxO_of (List.getElem?_eq_getElem (show j < B.length by omega))) ?_)
    rw [hu, hv]
    refine bnd (tabl_idx _ hun) (bnd (tabl_idx _ hvn) (bnd (a := tabN n (joinC cls u v)) ?_ rfl))
    unfold tabN
    rw [tabl_len]
    refine fill_loop (fun k => (joinC cls u v k : Int)) (fun k => (cls k : Int)) (fun k hk => ?_)
    have e : tabF (fun k => (joinC cls u v k : Int)) (fun k => (cls k : Int)) k k = (cls k : Int) := by unfold tabF; rw [if_neg (by omega)]
    refine bnd (tabl_idx _ hk) ?_
    rw [e]
    refine bnd (l1Most_ _ _) (stp ?_)
    by_cases hc : cls k = max (cls u) (cls v)
    · refine cTW (dT (by omega)) (bnd (l1Least_ _ _) (bnd (tabl_setO _ _ hk) ?_))
      unfold joinC; rw [if_pos hc]
    · refine cFW (dF (by omega)) (congrArg some (tabl_ext fun q _ => ?_))
      by_cases hq : q = k
      · subst hq; rw [if_pos rfl, e]; unfold joinC; rw [if_neg hc]
      · rw [if_neg hq])
  rw [show clsL ((A.zip B).take 0) = id from by rw [List.take_zero]; rfl, show (A.zip B).take A.length = A.zip B from by rw [← hzl, List.take_length]] at a1
  generalize hcls : clsL (A.zip B) = cls at hcl a1
  generalize hW : allW ((n : Int), E, I, O) = W
  have hWr : inRg n W := by
    rw [← hW]
    unfold allW
    refine inRg_app' (inRg_app' hg.i hg.o) (fun x hx => ?_)
    obtain ⟨l, hl', hx⟩ := List.mem_flatten.1 hx
    obtain ⟨e, he, rfl⟩ := List.mem_map.1 hl'
    rcases List.mem_append.1 hx with h | h
    · exact (hg.e e he).1 x h
    · exact (hg.e e he).2 x h
  -- the classes that are used
  have a2 := forS_is (n := n) (fun j => tabl n fun r => (List.range j).any fun w => decide ((w : Int) ∈ W) && decide (cls w = r)) (f := fun (k497 : Nat) (s582 : List Bool) =>
      (idxO (tabN n cls) ((k497 : Nat) : Int)).bind fun a597 =>
      (idxO (tabl n fun k => ((I.count (k : Int) + cntE E edO k : Nat) : Int)) ((k497 : Nat) : Int)).bind fun a606 =>
      (idxO (tabl n fun k => ((O.count (k : Int) + cntE E edI k : Nat) : Int)) ((k497 : Nat) : Int)).bind fun a614 =>
      (addO a606 a614).bind fun a616 =>
      (some (decide ((0 : Int) < a616))).bind fun a618 =>
      cond a618
      ((setO s582 a597 true).bind fun a628 =>
        some a628)
      (some s582)) (fun j hj => by
    have hle := hcl.le j
    have c1 : I.count (j : Int) ≤ I.length := List.count_le_length
    have c2 : O.count (j : Int) ≤ O.length := List.count_le_length
    have c3 : cntE E edI j ≤ totE E edI := List.count_le_length
    have c4 : cntE E edO j ≤ totE E edO := List.count_le_length
    have hmem := cnt_mem (E := E) (I := I) (O := O) (w := (n : Int)) j
    rw [hW] at hmem
    refine bnd (tabl_idx _ hj) (bnd (tabl_idx _ hj) (bnd (tabl_idx _ hj) (bnd (addO_of (by omega) (by omega)) (stp ?_))))
    by_cases hin : (j : Int) ∈ W
    · refine cTW (dT (hmem.1 hin)) (bnd (tabl_setO _ _ (by omega)) (congrArg some (tabl_ext fun k _ => ?_)))
      rw [List.range_succ, List.any_append]
      simp only [List.any_cons, List.any_nil, Bool.or_false, dT hin, Bool.true_and]
      by_cases hk : k = cls j
      · rw [if_pos hk, dT hk.symm, Bool.or_true]
      · rw [if_neg hk, dF (fun e => hk e.symm), Bool.or_false]
    · refine cFW (dF (fun h => hin (hmem.2 h))) (congrArg some (tabl_ext fun k _ => ?_))
      rw [List.range_succ, List.any_append]
      simp only [List.any_cons, List.any_nil, Bool.or_false, dF hin, Bool.false_and])
  have e2 : (tabl n fun r => (List.range n).any fun w => decide ((w : Int) ∈ W) && decide (cls w = r)) = tabl n (usedW cls W) := tabl_ext fun k _ => usedW_range hWr k
  have e20 : (tabl n fun r => (List.range 0).any fun w => decide ((w : Int) ∈ W) && decide (cls w = r)) = tabl n fun _ => false := rfl
  rw [e2, e20] at a2
  -- the numbers of the classes
  have a3 := forS_is (n := n) (fun j => (tabl n (tabF (fun k => if (decide (cls k = k) && usedW cls W k) = true then (numW cls W k : Int) else 0) (fun _ => 0) j), (numW cls W j : Int))) (f := fun (k640 : Nat) (s767 : List Int × Int) =>
      ((idxO (tabN n cls) ((k640 : Nat) : Int)).bind fun a808 =>
        (some (decide (a808 = ((k640 : Nat) : Int)))).bind fun a810 =>
        cond a810
        ((idxO (tabl n (usedW cls W)) ((k640 : Nat) : Int)).bind fun a820 =>
          some a820)
        (some false)).bind fun (s796 : Bool) =>
      cond s796
      ((setO s767.1 ((k640 : Nat) : Int) s767.2).bind fun a832 =>
        (addO s767.2 1).bind fun a835 =>
        some (a832, a835))
      (some (s767.1, s767.2))) (fun j hj => by
    have hns := numW_succ cls W j
    have hnl := numW_le cls W j
    have hcond : ((idxO (tabN n cls) (j : Int)).bind fun a808 =>
        (some (decide (a808 = (j : Int)))).bind fun a810 =>
        cond a810
        ((idxO (tabl n (usedW cls W)) (j : Int)).bind fun a820 =>
          some a820)
        (some false)) = some (decide (cls j = j) && usedW cls W j) := by
      refine bnd (tabl_idx _ hj) (stp ?_)
      by_cases he : cls j = j
      · rw [dT he]; exact cTW (dT (by omega)) (bnd (tabl_idx _ hj) rfl)
      · rw [dF he]; exact cFW (dF (by omega)) rfl
    refine bnd hcond ?_
    rw [← tabF_step]
    cases hb : (decide (cls j = j) && usedW cls W j) with
    | true =>
      rw [hb] at hns
      refine cTW rfl (bnd (tabl_setO _ _ hj) (bnd (addO_of (by dsimp only; omega) (by dsimp only; omega)) ?_))
      rw [hns, if_pos rfl, if_pos rfl]; push_cast; rfl
    | false =>
      rw [hb] at hns
      refine cFW rfl (congrArg some (Prod.ext (tabl_ext fun k _ => ?_) ?_))
      · by_cases hk : k = j
        · subst hk; rw [if_pos rfl, if_neg (by simp)]; unfold tabF; rw [if_neg (by omega)]
        · rw [if_neg hk]
      · show (numW cls W j : Int) = (numW cls W (j + 1) : Int); rw [hns, if_neg (by simp)]; rfl)
  have e3 : ∀ f : Nat → Int, tabl n (tabF f (fun _ => 0) n) = tabl n f := fun f => tabl_ext fun k hk => by unfold tabF; rw [if_pos hk]
  have e30 : ∀ f : Nat → Int, tabl n (tabF f (fun _ => 0) 0) = tabl n fun _ => 0 := fun f => tabl_ext fun k hk => by unfold tabF; rw [if_neg (by omega)]
  rw [e3, e30, show numW cls W 0 = 0 from rfl] at a3
  -- .. and of all wires
  have a4 := fill_loop (n := n) (toW cls W) (fun k => if (decide (cls k = k) && usedW cls W k) = true then (numW cls W k : Int) else 0) (g := fun (k841 : Nat) (s954 : List Int) =>
      (idxO (tabN n cls) ((k841 : Nat) : Int)).bind fun a969 =>
      (idxO s954 a969).bind fun a977 =>
      (setO s954 ((k841 : Nat) : Int) a977).bind fun a985 =>
      (idxO (tabN n cls) ((k841 : Nat) : Int)).bind fun a994 =>
      (idxO (tabl n (usedW cls W)) a994).bind fun a1002 =>
      (some (!a1002)).bind fun a1004 =>
      cond a1004
      ((setO a985 ((k841 : Nat) : Int) (-1)).bind fun a1014 =>
        some a1014)
      (some a985)) (fun j hj => by
    have hle := hcl.le j
    have hid := hcl.idem j
    refine bnd (tabl_idx _ hj) (bnd (tabl_idx _ (by omega)) (bnd (tabl_setO _ _ hj) (bnd (tabl_idx _ hj) (bnd (tabl_idx _ (by omega)) (stp ?_)))))
    cases hu : usedW cls W (cls j) with
    | false =>
      have ht : toW cls W j = -1 := by unfold toW; rw [hu]; rfl
      refine cTW rfl (bnd (tabl_setO _ _ hj) (congrArg some (tabl_ext fun k _ => ?_)))
      rw [ht]
      by_cases hk : k = j
      · rw [if_pos hk, if_pos hk]
      · rw [if_neg hk, if_neg hk, if_neg hk]
    | true =>
      have ht : toW cls W j = (numW cls W (cls j) : Int) := by unfold toW; rw [hu]; rfl
      refine cFW rfl (congrArg some (tabl_ext fun k _ => ?_))
      by_cases hk : k = j
      · rw [if_pos hk, if_pos hk, ht]
        unfold tabF
        by_cases he : cls j < j
        · rw [if_pos he]; unfold toW; rw [hid, hu]; rfl
        · have he : cls j = j := by omega
          rw [he] at hu ⊢
          rw [if_neg (by omega)]
          show (if (decide (cls j = j) && usedW cls W j) = true then (numW cls W j : Int) else 0) = (numW cls W j : Int)
          rw [dT he, hu]; rfl
      · rw [if_neg hk, if_neg hk])
  refine bnd (tabl_make _ (by omega)) ?_
  rw [tabl_len]
  refine bnd (fill_loop (fun k => (k : Int)) (fun _ => 0) (fun j hj => bnd (tabl_setO _ _ hj) rfl)) ?_
  refine bnd a1 ?_
  refine bnd (hgCounts_ (E := E) (I := I) (O := O) (by omega) hg.i hg.o hg.e (by omega)) (bnd (tabl_make _ (by omega)) ?_)
  have hlN : (tabN n cls).length = n := tabl_len _ _
  rw [hlN]
  refine bnd a2 (bnd (tabl_make _ (by omega)) ?_)
  rw [tabl_len]
  refine bnd a3 ?_
  dsimp only
  rw [tabl_len]
  refine bnd a4 (bnd (hgMap_ _ _ hg) ?_)
  unfold gluG
  rw [hcls, hW]
end Go.Proofs.YtciiinolpaohpaaDoor
