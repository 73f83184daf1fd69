/-
  Plain laws of RealizeMarkov, RealizeSequence: the reference, and both together. No program in sight. No condition.
-/
import Derived.Test.YtocpeclcoikdpaaDoorZP66
import Derived.Test.YtocpeclcoikdpaaDoorZP22
namespace Go.Proofs.YtocpeclcoikdpaaDoor
set_option linter.unusedVariables false
theorem sqL {σ τ : Type} {x : σ} {k : σ → Option τ} {y : Option τ} (h : k x = y) : seqO (some (.inl x)) k = y := h
section
variable {p : Int} {l : List Mat} {R C : Nat}
theorem rz0 (h : Resp p R C l) (h0 : rzN l = 0) (x : Nat) (hx : x < R) : rzOk p l R C x = true ∧ rzX p l R C x = [] := by
  have f := rzF h
  have hch : rzCh p l R C = [] := by
    cases hq : rzCh p l R C with
    | nil => rfl
    | cons a t => have := f.chl a (by rw [hq]; simp); rw [h0, Nat.zero_mul] at this; omega
  have hrow := f.ok _ (gr_mem (i := x) (by rw [f.len]; omega))
  have hsz : rzN l * C = 0 := by rw [h0, Nat.zero_mul]
  constructor
  · exact (solB_iff h.hf f.bok hrow).2 ⟨fun _ => 0, fun j hj => by rw [hsz] at hj; omega⟩
  · have := (solX_ok (v := gr (rzAll l R) x) h.hf f.bok).1
    rw [f.blen, hch] at this
    exact List.eq_nil_of_length_eq_zero this
theorem rzRealize_ (h : Resp p R C l) : F_spec_rzRealize p l = some (if rzGood p l R C = true then (rzS p l R C, true) else (zSS, false)) := by
  have hm : maxN = 1099511627776 := rfl
  have f := rzF h
  have hl := h.len; have hR := h.R8; have hC := h.C8
  have hm0 := h.mat (gm l 0) (mem_of_get (gm_get hl.1))
  have q1 := quo3 hl.1 (by omega)
  have c1 := f.sz; have c2 := f.cl; have c3 := f.sr; have c4 := f.n29; have c5 := f.n2; have c6 := f.len; have c7 := f.blen
  have hi0 : idxO l 0 = some (gm l 0) := idx_gm hl.1
  have k1 := rzHankel_ h (n := rzN l) (c := rzN l) (by omega)
  have k2 := rzHankel_ h (n := rzN l + 1) (c := rzN l) (by omega)
  have hcp := mxCopy_ (m := gm l 0) (by have := hm0.2.1; omega) (fun r hr => by have := (hm0.2.2 r hr).1; omega)
  obtain ⟨al, ha, hal⟩ : ∃ al : Rows, ((some (decide ((0 : Int) < ((rzN l : Nat) : Int)))).bind fun a78 =>
      cond a78
      ((addO ((rzN l : Nat) : Int) 1).bind fun a82 =>
        (F_spec_rzHankel l a82 ((rzN l : Nat) : Int)).bind fun y84 =>
        some y84)
      (some (hank l (rzN l) R (rzN l)))) = some al ∧ ((0 < rzN l ∧ al = rzAll l R) ∨ (rzN l = 0 ∧ al = [])) := by
    rcases Nat.eq_zero_or_pos (rzN l) with h0 | h0
    · refine ⟨[], stp (cFW (dF (by omega)) ?_), .inr ⟨h0, rfl⟩⟩
      rw [h0]; rfl
    · refine ⟨rzAll l R, stp (cTW (dT (by omega)) (bnd (a := ((rzN l + 1 : Nat) : Int)) ((addO_of (by omega) (by omega)).trans (congrArg some (by omega))) (bnd k2 rfl))), .inl ⟨h0, rfl⟩⟩
  have htake : al.take (rzN l * R) = (rzAll l R).take (rzN l * R) := by
    rcases hal with ⟨_, rfl⟩ | ⟨h0, rfl⟩
    · rfl
    · rw [h0, Nat.zero_mul]; rfl
  have hlen : rzN l * R ≤ al.length := by
    rcases hal with ⟨_, rfl⟩ | ⟨h0, rfl⟩
    · omega
    · rw [h0, Nat.zero_mul]; exact Nat.zero_le _
  have hpos : ∀ x ∈ rzCh p l R C, al = rzAll l R := fun x hx => by
    rcases hal with ⟨_, e⟩ | ⟨h0, _⟩
    · exact e
    · have := f.chl x hx; rw [h0, Nat.zero_mul] at this; omega
  have hch := rzChosen_ h.hf f.ok (K := rzN l * R) (by omega) (by omega) (by omega) (N := ((rzN l * C : Nat) : Int)) rfl
  have htl : (toI (rzCh p l R C)).length = (rzCh p l R C).length := by simp [toI]
  have hbase : forS (fun (k110 : Nat) (s175 : List (List Int)) =>
      (idxO (toI (rzCh p l R C)) ((k110 : Nat) : Int)).bind fun a192 =>
      (idxO al a192).bind fun a201 =>
      (appO s175 [a201]).bind fun a209 =>
      some a209) (toI (rzCh p l R C)).length 0 [] = some (rzBase p l R C) := by
    have := forS_map (f := fun (k110 : Nat) (s175 : List (List Int)) =>
      (idxO (toI (rzCh p l R C)) ((k110 : Nat) : Int)).bind fun a192 =>
      (idxO al a192).bind fun a201 =>
      (appO s175 [a201]).bind fun a209 =>
      some a209) (fun x : Int => gr (rzAll l R) x.toNat) (toI (rzCh p l R C)) [] (by simp [toI]; omega) (fun j a s hj hs => by
      have hjl := (List.getElem?_eq_some_iff.1 hj).1
      obtain ⟨i, hi, rfl⟩ := List.mem_map.1 (mem_of_get hj)
      have hlt := f.chl i hi
      rw [hpos i hi]
      refine bnd (idxO_of hj) (bnd (idx_gr (by omega)) (bnd (appO_of (by simp at hs ⊢; omega)) ?_))
      rw [Int.toNat_natCast])
    rw [this, List.nil_append]
    congr 1
    unfold rzBase selM toI
    rw [List.map_map]
    exact List.map_congr_left fun x _ => by simp
  have hloop := forO_tm (τ := SSt × Bool) (f := fun (k221 : Nat) (s368 : List (List Int) × List (List Int)) =>
      (idxO (toI (rzCh p l R C)) ((k221 : Nat) : Int)).bind fun a387 =>
      (addO a387 (R : Int)).bind fun a390 =>
      (idxO al a390).bind fun a398 =>
      (F_spec_mxSolve p (((rzN l * C : Nat) : Int), rzBase p l R C) a398).bind fun y402 =>
      (some (!y402.2)).bind fun a407 =>
      cond a407
      (some (.inr ((0, 0, 0, [], [], [], []), false)))
      ((appO s368.1 [y402.1]).bind fun a413 =>
        (idxO al a387).bind fun a426 =>
        (sliceO a426 0 (C : Int)).bind fun a430 =>
        (F_spec_l1Own a430).bind fun y434 =>
        (appO s368.2 [y434]).bind fun a442 =>
        some (.inl (a413, a442)))) (fun x : Int => rzOk p l R C (x.toNat + R)) (fun x : Int => rzX p l R C (x.toNat + R)) (fun x : Int => (gr (rzAll l R) x.toNat).take C) (zSS, false) (toI (rzCh p l R C)) 0 ([], []) (fun j a s hj h1 h2 => by
    rw [Nat.zero_add]
    have hjl := (List.getElem?_eq_some_iff.1 hj).1
    rw [htl] at hjl
    obtain ⟨i, hi, rfl⟩ := List.mem_map.1 (mem_of_get hj)
    have hlt := f.chl i hi
    have hn0 : 0 < rzN l := Nat.pos_of_ne_zero fun e => by rw [e, Nat.zero_mul] at hlt; omega
    have hCn : C ≤ rzN l * C := Nat.le_mul_of_pos_left C hn0
    rw [hpos i hi]
    have hrow := f.ok _ (gr_mem (i := i + R) (by omega))
    have hrow2 := f.ok _ (gr_mem (i := i) (by omega))
    have hs := mxSolve_ (m := rzBase p l R C) h.hf f.bok hrow (by omega) (by omega)
    have l1 : s.1.length ≤ 1000 := by simp at h1; omega
    have l2 : s.2.length ≤ 1000 := by simp at h2; omega
    refine bnd (idxO_of hj) (bnd (a := ((i + R : Nat) : Int)) ((addO_of (by omega) (by omega)).trans (congrArg some (by omega))) (bnd (idx_gr (by omega)) (bnd hs (stp ?_))))
    rw [Int.toNat_natCast]
    unfold rzOk rzX
    cases solB p (rzN l * C) (rzBase p l R C) (gr (rzAll l R) (i + R)) with
    | false => rfl
    | true => exact cFW rfl (bnd (appO_of (by simp; omega)) (bnd (idx_gr (by omega)) (bnd (slice0 (by omega)) (bnd (own_ (by simp; omega)) (bnd (appO_of (by simp; omega)) rfl))))))
  have hallI : ∀ (P : Nat → Bool), (toI (rzCh p l R C)).all (fun x : Int => P x.toNat) = (rzCh p l R C).all P := fun P => by
    unfold toI; rw [List.all_map]
    exact congrArg (List.all _) (funext fun x => by simp)
  have hmapI : ∀ (G : Nat → List Int), (toI (rzCh p l R C)).map (fun x : Int => G x.toNat) = (rzCh p l R C).map G := fun G => by
    unfold toI; rw [List.map_map]
    exact List.map_congr_left fun x _ => by simp
  rw [hallI (fun i => rzOk p l R C (i + R)), hmapI (fun i => rzX p l R C (i + R)), hmapI (fun i => (gr (rzAll l R) i).take C)] at hloop
  have hsz : mulO (((l.length - 1) / 2 : Nat) : Int) (gm l 0).1 = some ((rzN l * C : Nat) : Int) := by
    rw [hm0.1, show (((l.length - 1) / 2 : Nat) : Int) = ((rzN l : Nat) : Int) from rfl, mulO_of (by rw [← Int.natCast_mul]; omega) (by rw [← Int.natCast_mul]; omega), Int.natCast_mul]
  have hsr : mulO (((l.length - 1) / 2 : Nat) : Int) (((gm l 0).2.length : Nat) : Int) = some ((rzN l * R : Nat) : Int) := by
    rw [hm0.2.1, show (((l.length - 1) / 2 : Nat) : Int) = ((rzN l : Nat) : Int) from rfl, mulO_of (by rw [← Int.natCast_mul]; omega) (by rw [← Int.natCast_mul]; omega), Int.natCast_mul]
  refine bnd q1.1 (bnd q1.2 (bnd hi0 (bnd hi0 (bnd hi0 (bnd hcp (bnd k1 (bnd ha (bnd hsz (bnd hsr (bnd (slice0 hlen) (bnd (by rw [htake]; exact hch) (bnd hsz (bnd hbase ?_)))))))))))))
  rw [hm0.1, hm0.2.1]
  refine sqW hloop ?_
  unfold rzGood
  cases hg1 : (rzCh p l R C).all (fun i => rzOk p l R C (i + R)) with
  | false => rfl
  | true =>
    rw [if_pos rfl, Bool.true_and]
    obtain ⟨t, t1, t2⟩ := whileO_num (s := (([] : Rows), (0 : Int))) (τ := Rows ⊕ (SSt × Bool)) (f := fun (s1019 : List (List Int) × Int) =>
      (some (decide (s1019.2 < (R : Int)))).bind fun a1030 =>
      cond a1030
      (seqO ((some (decide ((((l.length - 1) / 2 : Nat) : Int) = 0))).bind fun a1086 =>
          cond a1086
          ((appO s1019.1 [[]]).bind fun a1131 =>
            some (.inl a1131))
          ((idxO al s1019.2).bind fun a1096 =>
            (F_spec_mxSolve p (((rzN l * C : Nat) : Int), rzBase p l R C) a1096).bind fun y1100 =>
            (some (!y1100.2)).bind fun a1105 =>
            cond a1105
            (some (.inr (.inr (.inr ((0, 0, 0, [], [], [], []), false)))))
            ((appO s1019.1 [y1100.1]).bind fun a1111 =>
              some (.inl a1111)))) fun (s1079 : List (List Int)) =>
        (addO s1019.2 1).bind fun a1139 =>
        some (.inl (s1079, a1139)))
      (some (.inr (.inl s1019.1)))) (fun j s => s = ((List.range j).map (rzX p l R C), (j : Int)) ∧ ∀ u, u < j → rzOk p l R C u = true)
      (fun t => t = if (List.range R).all (rzOk p l R C) = true then .inl ((List.range R).map (rzX p l R C)) else .inr (zSS, false)) R (by
        rintro j s hj ⟨rfl, hall⟩
        dsimp only
        have hstep : (List.range (j + 1)).map (rzX p l R C) = (List.range j).map (rzX p l R C) ++ [rzX p l R C j] := by rw [List.range_succ, List.map_append]; rfl
        have hll : ((List.range j).map (rzX p l R C)).length = j := by simp
        by_cases hjR : j < R
        · rcases hal with ⟨h0, rfl⟩ | ⟨h0, rfl⟩
          · have hrow := f.ok _ (gr_mem (i := j) (by omega))
            have hs := mxSolve_ (m := rzBase p l R C) h.hf f.bok hrow (by omega) (by omega)
            cases hok : rzOk p l R C j with
            | true =>
              refine .inl ⟨_, stp (cTW (dT (by omega)) (sqW (r := some (.inl ((List.range (j + 1)).map (rzX p l R C)))) (stp (cFW (dF (by unfold rzN at h0; omega)) (bnd (idx_gr (by omega)) (bnd hs (stp ?_))))) (sqL (bnd (addO_of (by omega) (by omega)) rfl)))), ⟨?_, fun u hu => ?_⟩, hjR⟩
              · unfold rzOk at hok
                rw [hok, hstep]
                exact cFW rfl (bnd (appO_of (by simp; omega)) rfl)
              · congr 1
              · by_cases h' : u < j
                · exact hall u h'
                · obtain rfl : u = j := by omega
                  exact hok
            | false =>
              refine .inr ⟨.inr (zSS, false), stp (cTW (dT (by omega)) (sqW (r := some (.inr (.inr (.inr (zSS, false))))) (stp (cFW (dF (by unfold rzN at h0; omega)) (bnd (idx_gr (by omega)) (bnd hs (stp ?_))))) rfl)), ?_⟩
              · unfold rzOk at hok
                rw [hok]; rfl
              · rw [if_neg]
                intro hq
                have := List.all_eq_true.1 hq j (List.mem_range.2 hjR)
                rw [hok] at this; cases this
          · obtain ⟨z1, z2⟩ := rz0 (C := C) h h0 j hjR
            refine .inl ⟨_, stp (cTW (dT (by omega)) (sqW (r := some (.inl ((List.range (j + 1)).map (rzX p l R C)))) (stp (cTW (dT (by unfold rzN at h0; omega)) (bnd (appO_of (by simp; omega)) (by rw [hstep, z2])))) (sqL (bnd (addO_of (by omega) (by omega)) rfl)))), ⟨?_, fun u hu => ?_⟩, hjR⟩
            · congr 1
            · by_cases h' : u < j
              · exact hall u h'
              · obtain rfl : u = j := by omega
                exact z1
        · obtain rfl : j = R := by omega
          refine .inr ⟨.inl ((List.range j).map (rzX p l j C)), stp (cFW (dF (by omega)) rfl), ?_⟩
          rw [if_pos (List.all_eq_true.2 fun u hu => hall u (List.mem_range.1 hu))]) ⟨rfl, fun u hu => by omega⟩
    rw [t2] at t1
    cases hg2 : (List.range R).all (rzOk p l R C) with
    | true =>
      rw [hg2, if_pos rfl] at t1
      rw [if_pos rfl]
      refine sqL (sqW (r := some (.inl ((List.range R).map (rzX p l R C)))) t1 (sqL ?_))
      rw [htl]; rfl
    | false =>
      rw [hg2] at t1
      refine sqL (sqW (r := some (.inr (zSS, false))) t1 rfl)
def wRealizeMarkov (p : Int) (l : List Mat) : SSt × Bool := if respB p l then rzW p l (gm l 0).2.length (gm l 0).1.toNat else (zSS, false)
theorem resp_core {p : Int} {l : List Mat} (h : respB p l = true) : Resp p (gm l 0).2.length (gm l 0).1.toNat l := by
  obtain ⟨R, C, hr, h1, h2⟩ := rank_core h
  rw [h1, h2, Int.toNat_natCast]; exact hr
theorem implRealizeMarkov (p : Int) (l : List Mat) : F_impl_RealizeMarkov p l = some (wRealizeMarkov p l) := by
  refine bnd (isResponse_ p l) (stp ?_)
  unfold wRealizeMarkov
  cases h : respB p l with
  | false => rfl
  | true => exact cFW rfl (bnd (realize_ (resp_core h)) rfl)
theorem specRealizeMarkov (p : Int) (l : List Mat) : F_spec_RealizeMarkov p l = some (wRealizeMarkov p l) := by
  refine bnd (rzResponse_ p l) (stp ?_)
  unfold wRealizeMarkov
  cases h : respB p l with
  | false => rfl
  | true =>
    have hr := resp_core h
    rw [if_pos rfl]
    generalize (gm l 0).2.length = R at hr ⊢
    generalize (gm l 0).1.toNat = C at hr ⊢
    have hl := hr.len
    refine cFW rfl (bnd (rzRealize_ hr) ?_)
    unfold rzW
    cases hg : rzGood p l R C with
    | false => rfl
    | true =>
      rw [if_pos rfl, Bool.true_and]
      by_cases hc : (rzCh p l R C).length ≤ 24
      · have hSS := rzS_ok hr hc
        have hsb := ssB_of hr.hf hSS
        have hmk := ssMarkov_ hSS l.length (by omega)
        have hIs : F_spec_rzIs p (rzS p l R C) l = some (decide ((mkv p (rzCh p l R C).length C (rzS p l R C) l.length).1 = l)) := by
          refine bnd hmk ?_
          refine sqW (forO_eq9 _ l 0 (mkv_ok hSS l.length).1 ?_) ?_
          · intro j x y hx hy
            rw [Nat.zero_add]
            refine bnd (idxO_of hx) (bnd (idxO_of hy) (bnd (spSame x.2 y.2) ?_))
            have f1 := mkv_fst p (rzCh p l R C).length C (rzS p l R C) l.length x (mem_of_get hx)
            have f2 := (hr.mat y (mem_of_get hy)).1
            have hxy : (x.2 = y.2) ↔ x = y := ⟨fun h => Prod.ext (by omega) h, fun h => by rw [h]⟩
            rw [show decide (x.2 = y.2) = decide (x = y) from decide_eq_decide.2 hxy]
            exact stepE
          · by_cases h : (mkv p (rzCh p l R C).length C (rzS p l R C) l.length).1 = l
            · rw [if_pos h, dT h]; rfl
            · rw [if_neg h, dF h]; rfl
        rw [dT hc, Bool.true_and]
        refine bnd (a := !decide ((mkv p (rzCh p l R C).length C (rzS p l R C) l.length).1 = l)) (stp (cFW rfl (bnd (ssGood p _) (stp ?_)))) ?_
        · have hsb2 : ssB p (rzS p l R C) = true := hsb
          refine cFW (nT hsb2) (bnd hIs rfl)
        · cases decide ((mkv p (rzCh p l R C).length C (rzS p l R C) l.length).1 = l) <;> rfl
      · have hsb : ssB p (rzS p l R C) = false := by
          cases hq : ssB p (rzS p l R C) with
          | false => rfl
          | true =>
            unfold ssB at hq
            simp only [Bool.and_eq_true, rng_true] at hq
            have := hq.1.1.1.1.1.1.2
            unfold rzS at this
            dsimp only at this
            omega
        rw [dF hc, Bool.false_and]
        refine bnd (a := true) (stp (cFW rfl (bnd (ssGood p _) (stp (cTW (nF hsb) rfl))))) rfl
theorem boundRealizeMarkov_0 (p : Int) (l : List Mat) : nStateSpace (wRealizeMarkov p l).1 ≤ 1048576 := by
  unfold wRealizeMarkov
  cases h : respB p l with
  | false =>
    show nStateSpace zSS ≤ _
    decide
  | true =>
    have hr := resp_core h
    rw [if_pos rfl]
    generalize (gm l 0).2.length = R at hr ⊢
    generalize (gm l 0).1.toNat = C at hr ⊢
    unfold rzW
    by_cases hc : (rzCh p l R C).length ≤ 24
    · have hSS := rzS_ok hr hc
      have hk := hSS.hk; have ho := hSS.ho
      split
      · have b1 : nIntSS (rzS p l R C).2.2.2.1 ≤ 1000 := rowsN_tiny (m := (rzS p l R C).2.2.2.1) (fun r hr => by have := (hSS.a.2 r hr).1; omega) (by have := hSS.a.1; omega)
        have b2 : nIntSS (rzS p l R C).2.2.2.2.1 ≤ 1000 := rowsN_tiny (m := (rzS p l R C).2.2.2.2.1) (fun r hr => by have := (hSS.b.2 r hr).1; omega) (by have := hSS.b.1; omega)
        have b3 : nIntSS (rzS p l R C).2.2.2.2.2.1 ≤ 1000 := rowsN_tiny (m := (rzS p l R C).2.2.2.2.2.1) (fun r hr => by have := (hSS.c.2 r hr).1; omega) (by have := hSS.c.1; omega)
        have b4 : nIntSS (rzS p l R C).2.2.2.2.2.2 ≤ 1000 := rowsN_tiny (m := (rzS p l R C).2.2.2.2.2.2) (fun r hr => by have := (hSS.d.2 r hr).1; omega) (by have := hSS.d.1; omega)
        show nStateSpace (rzS p l R C) ≤ _
        unfold nStateSpace
        omega
      · show nStateSpace zSS ≤ _
        decide
    · rw [dF hc, Bool.false_and, Bool.and_false]
      show nStateSpace zSS ≤ _
      decide
end
end Go.Proofs.YtocpeclcoikdpaaDoor
namespace Go.Proofs.YtocpeclcoikdpaaDoor
set_option linter.unusedVariables false
def seqM (s : List Int) : List Mat := s.map fun x => ((1 : Int), [[x]])
def sqB (p : Int) (s : List Int) : Bool := fdB p && (decide ((s.length : Int) ≤ 60) && inB p s)
theorem rzList_ (p : Int) (s : List Int) : F_spec_rzList p s = some (sqB p s) := by
  refine bnd (a := sqB p s) (bnd (fdGood p) ?_) rfl
  unfold sqB
  cases hf : fdB p with
  | false => rfl
  | true =>
    refine cTW rfl (stp ?_)
    cases decide ((s.length : Int) ≤ 60) with
    | false => rfl
    | true => exact cTW rfl (bnd (fdIn (fdB_rng hf) s) rfl)
theorem seqM_resp (p : Int) (s : List Int) : respB p (seqM s) = (sqB p s && !decide ((s.length : Int) = 0)) := by
  unfold respB sqB
  have hl : (seqM s).length = s.length := by simp [seqM]
  rw [hl]
  cases hf : fdB p with
  | false => rfl
  | true =>
    by_cases h0 : s.length = 0
    · have e : rng (s.length : Int) 1 60 = false := by
        cases hq : rng (s.length : Int) 1 60 with
        | false => rfl
        | true => have := rng_true.1 hq; omega
      rw [e, dT (show (s.length : Int) = 0 by omega)]
      simp
    · rw [dF (show ¬ (s.length : Int) = 0 by omega)]
      have hg0 : gm (seqM s) 0 = ((1 : Int), [[s.getD 0 0]]) := by
        have := gm_get (l := seqM s) (i := 0) (by omega)
        unfold seqM at this
        rw [List.getElem?_map, List.getElem?_eq_getElem (by omega : 0 < s.length)] at this
        rw [List.getD_eq_getElem?_getD, List.getElem?_eq_getElem (by omega : 0 < s.length)]
        exact (Option.some.inj this).symm
      by_cases hl6 : (s.length : Int) ≤ 60
      · rw [dT hl6, rng_true.2 ⟨by omega, hl6⟩, hg0]
        have hp := fdB_rng hf
        have hall : (seqM s).all (oneB p (seqM s)) = inB p s := by
          unfold seqM inB
          rw [List.all_map]
          refine congrArg (List.all s) (funext fun x => ?_)
          have hg1 := hg0
          unfold seqM at hg1
          show oneB p _ ((1 : Int), [[x]]) = _
          unfold oneB matB rowsB inB
          rw [hg1, hf]
          simp [rng]
        rw [hall]
        cases inB p s <;> rfl
      · have e : rng (s.length : Int) 1 60 = false := by
          cases hq : rng (s.length : Int) 1 60 with
          | false => rfl
          | true => have := rng_true.1 hq; omega
        rw [e, dF hl6]; rfl
def wRealizeSequence (p : Int) (s : List Int) : SSt × Bool := wRealizeMarkov p (seqM s)
theorem seq_loop (s : List Int) (h : s.length ≤ 1048576) : forS (fun (k9 : Nat) (s63 : List (Int × List (List Int))) =>
      (idxO s ((k9 : Nat) : Int)).bind fun a79 =>
      (appO s63 [(1, [[a79]])]).bind fun a92 =>
      some a92) s.length 0 ([] : List (Int × List (List Int))) = some (seqM s) := by
  have hm : maxN = 1099511627776 := rfl
  refine (forS_map (fun x => ((1 : Int), [[x]])) s [] (by simp; omega) (fun j a s' hj hs => ?_)).trans (by simp [seqM])
  have hjl := (List.getElem?_eq_some_iff.1 hj).1
  exact bnd (idxO_of hj) (bnd (appO_of (by simp at hs ⊢; omega)) rfl)
theorem implRealizeSequence (p : Int) (s : List Int) (h : s.length ≤ 1048576) : F_impl_RealizeSequence p s = some (wRealizeSequence p s) :=
  bnd (seq_loop s h) (bnd (implRealizeMarkov p _) rfl)
theorem specRealizeSequence (p : Int) (s : List Int) (h : s.length ≤ 1048576) : F_spec_RealizeSequence p s = some (wRealizeSequence p s) := by
  refine bnd (a := !respB p (seqM s)) ?_ ?_
  · rw [seqM_resp]
    refine bndN (rzList_ p s) (fun _ => rfl) (fun _ => stp (cFW rfl (stp ?_)))
    rw [Bool.not_not]
  · unfold wRealizeSequence
    cases hr : respB p (seqM s) with
    | false => unfold wRealizeMarkov; rw [hr]; rfl
    | true => exact cFW rfl (bnd (seq_loop s h) (bnd (specRealizeMarkov p _) rfl))
theorem boundRealizeSequence_0 (p : Int) (s : List Int) (h : s.length ≤ 1048576) : nStateSpace (wRealizeSequence p s).1 ≤ 1048576 := boundRealizeMarkov_0 p _
end Go.Proofs.YtocpeclcoikdpaaDoor
namespace Go.Proofs.YtocpeclcoikdpaaDoor
set_option linter.unusedVariables false
theorem lawN_RealizeSequence (a0 : Int) (a1 : List Int) (i0 : Nice.ok a0) (i1 : Nice.ok a1) : F_laws_FnExactRealizeSequence a0 a1 = some true := by
  have hbig : bigN = 4611686018427387904 := rfl
  refine stp ?_
  by_cases gaS : (1048576 : Int) < ((a1.length : Nat) : Int)
  · exact cTW (dT gaS) rfl
  refine cFW (dF gaS) ?_
  have haS : nIntS a1 ≤ 1048576 := by unfold nIntS; omega
  first
  | refine bnd (t_IntS a1 haS) (bnd (specRealizeSequence a0 a1 haS) ?_)
  | refine bnd (bnd (t_IntS a1 haS) (bnd (specRealizeSequence a0 a1 haS) rfl)) ?_
  refine bnd (t_IntS a1 haS) ?_
  refine bnd (implRealizeSequence a0 a1 haS) ?_
  have b0 : nStateSpace (wRealizeSequence a0 a1).1 ≤ 1048576 := boundRealizeSequence_0 a0 a1 haS
  have cb0 := cStateSpace_le (wRealizeSequence a0 a1).1
  refine bnd (a := false) (bnd (e_StateSpace _ b0) (stp (cFW rfl (stp (congrArg some (nT (dT rfl))))))) (cFW rfl ?_)
  refine bnd (t_IntS _ haS) (bnd (e_IntS _ haS) (stp (cFW rfl ?_)))
  have caS := cIntS_le a1
  refine bnd (m_IntS a1 _ (by omega) (by omega)) ?_
  refine bnd (a := false) (stp (cFW (dF (by simp only [mk_IntS_snd]; omega)) (bnd (e_StateSpace _ b0) (stp (cFW rfl (stp (congrArg some (nT (dT rfl))))))))) (cFW rfl ?_)
  refine bnd (m_StateSpace (wRealizeSequence a0 a1).1 _ (by omega) (by omega)) ?_
  refine bnd (h_StateSpace (wRealizeSequence a0 a1).1 _ (by omega) (by omega)) (stp (cFW (dF (by omega)) ?_))
  refine stp (cFW (nT (dT (by simp only [mk_StateSpace_snd]))) ?_)
  first
  | refine bnd (t_IntS a1 haS) (bnd (implRealizeSequence a0 a1 haS) ?_)
  | refine bnd (bnd (t_IntS a1 haS) (bnd (implRealizeSequence a0 a1 haS) rfl)) ?_
  refine bnd (a := false) (bnd (e_StateSpace _ b0) (stp (cFW rfl (stp (congrArg some (nT (dT rfl))))))) (cFW rfl ?_)
  refine bnd (h_StateSpace (wRealizeSequence a0 a1).1 _ (by omega) (by omega)) (stp (cFW (dF (by omega)) ?_))
  refine stp (cFW (nT (dT (by simp only [mk_StateSpace_snd]))) ?_)
  rfl
end Go.Proofs.YtocpeclcoikdpaaDoor
