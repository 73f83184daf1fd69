/-
  Plain law of HankelRank: the law's partial function yields true. No program in sight. No condition.
-/
import Derived.Test.YtnlbhdepagkjgaaDoorYP14
namespace Go.Proofs.YtnlbhdepagkjgaaDoor

/-- the first c elements of a Hankel row -/
def flatJ (l : List Mat) (i u : Nat) : Nat → List Int
  | 0 => []
  | c + 1 => flatJ l i u c ++ gr (gm l (i + c + 1)).2 u
theorem flatJ_ok {p : Int} {R C : Nat} {l : List Mat} (h : Resp p R C l) {i u : Nat} (hu : u < R) : ∀ c, i + c < l.length → (flatJ l i u c).length = c * C ∧ inP p (flatJ l i u c)
  | 0, _ => ⟨by simp [flatJ], fun x hx => by cases hx⟩
  | c + 1, hc => by
    obtain ⟨h1, h2⟩ := flatJ_ok (i := i) h hu c (by omega)
    have h3 := h.mat (gm l (i + c + 1)) (mem_of_get (gm_get (i := i + c + 1) (by omega)))
    have h4 := okM_gr h3.2.2 (i := u) (by omega)
    refine ⟨?_, fun x hx => ?_⟩
    · show (flatJ l i u c ++ _).length = _
      rw [List.length_append, h1, h4.1, Nat.succ_mul]
    · rcases List.mem_append.1 hx with hx | hx
      · exact h2 x hx
      · exact h4.2 x hx
def blkU (l : List Mat) (i c : Nat) (R : Nat) : Rows := (List.range R).map fun u => flatJ l i u c
def hank (l : List Mat) (c R : Nat) : Nat → Rows
  | 0 => []
  | i + 1 => hank l c R i ++ blkU l i c R
theorem blkU_succ (l : List Mat) (i c R : Nat) : blkU l i c (R + 1) = blkU l i c R ++ [flatJ l i R c] := by simp [blkU, List.range_succ]
theorem blkU_len (l : List Mat) (i c R : Nat) : (blkU l i c R).length = R := by simp [blkU]
theorem hank_len (l : List Mat) (c R : Nat) : ∀ i, (hank l c R i).length = i * R
  | 0 => by simp [hank]
  | i + 1 => by show (hank l c R i ++ _).length = _; rw [List.length_append, hank_len l c R i, blkU_len, Nat.succ_mul]
theorem hank_ok {p : Int} {R C : Nat} {l : List Mat} (h : Resp p R C l) (c : Nat) : ∀ i, i + c ≤ l.length → okM p (c * C) (hank l c R i)
  | 0, _ => fun x hx => by cases hx
  | i + 1, hi => by
    intro x hx
    rcases List.mem_append.1 hx with hx | hx
    · exact hank_ok h c i (by omega) x hx
    · obtain ⟨u, hu, rfl⟩ := List.mem_map.1 hx
      exact flatJ_ok h (List.mem_range.1 hu) c (by omega)
theorem mulC {c C : Nat} (hc : c ≤ 60) (hC : C ≤ 8) : c * C ≤ 480 := Nat.mul_le_mul hc hC
theorem rzHankel_ {p : Int} {R C : Nat} {l : List Mat} (h : Resp p R C l) {n c : Nat} (hn : n + c ≤ l.length) : F_spec_rzHankel l (n : Int) (c : Int) = some (hank l c R n) := by
  have hm : maxN = 1099511627776 := rfl
  have hl := h.len
  have hR := h.R8
  have hC := h.C8
  have h0 := h.mat (gm l 0) (mem_of_get (gm_get hl.1))
  refine bnd (whileO_is (fun i => (hank l c R i, (i : Int))) (t := hank l c R n) n ?_ ?_) rfl
  · intro i hi
    dsimp only
    refine stp (cTW (dT (by omega)) (bnd (idx_gm hl.1) ?_))
    have := forS_is (n := R) (fun u => hank l c R i ++ blkU l i c u) (f := fun (k4383 : Nat) (s4939 : List (List Int)) =>
            (whileO (fun (s5165 : List Int × Int) =>
                (some (decide (s5165.2 < (c : Int)))).bind fun a5176 =>
                cond a5176
                ((addO (i : Int) s5165.2).bind fun a5181 =>
                  (addO a5181 1).bind fun a5183 =>
                  (idxO l a5183).bind fun a5191 =>
                  (idxO a5191.2 ((k4383 : Nat) : Int)).bind fun a5203 =>
                  (appO s5165.1 a5203).bind fun a5207 =>
                  (addO s5165.2 1).bind fun a5212 =>
                  some (.inl (a5207, a5212)))
                (some (.inr s5165.1))) (([] : List Int), (0 : Int))).bind fun (s5078 : List Int) =>
            (appO s4939 [s5078]).bind fun a5219 =>
            some a5219) (by
      intro u hu
      refine bnd (whileO_is (fun j => (flatJ l i u j, (j : Int))) (t := flatJ l i u c) c ?_ ?_) ?_
      · intro j hj
        dsimp only
        have h3 := h.mat (gm l (i + j + 1)) (mem_of_get (gm_get (by omega)))
        have h4 := okM_gr h3.2.2 (i := u) (by omega)
        have h5 := (flatJ_ok h hu j (by omega : i + j < l.length)).1
        have h6 := mulC (c := j) (C := C) (by omega) hC
        refine stp (cTW (dT (by omega)) (bnd (addO_of (by omega) (by omega)) (bnd (addO_of (by omega) (by omega)) ?_)))
        rw [show (i : Int) + (j : Int) + 1 = ((i + j + 1 : Nat) : Int) by omega]
        exact bnd (idx_gm (by omega)) (bnd (idx_gr (by omega)) (bnd (appO_of (by omega)) (bnd (addO_of (by omega) (by omega)) rfl)))
      · dsimp only; exact stp (cFW (dF (by omega)) rfl)
      · have h7 := hank_len l c R i
        have h8 := mulC (c := i) (C := R) (by omega) hR
        refine bnd (appO_of (by rw [List.length_append, blkU_len]; simp; omega)) ?_
        rw [blkU_succ, List.append_assoc])
    rw [show blkU l i c 0 = [] from rfl, List.append_nil] at this
    rw [h0.2.1]
    exact bnd this (bnd (addO_of (by omega) (by omega)) rfl)
  · dsimp only; exact stp (cFW (dF (by omega)) rfl)
theorem sliceM {α : Type} {l : List α} {a b : Nat} (h : a ≤ b) (hb : b ≤ l.length) : sliceO l (a : Int) (b : Int) = some ((l.drop a).take (b - a)) := by
  unfold sliceO
  rw [if_pos (by omega), Int.toNat_natCast, Int.toNat_natCast]
theorem hankel_ {p : Int} {R C : Nat} {l : List Mat} (h : Resp p R C l) {n c : Nat} (hn : n + c ≤ l.length) : F_impl_hankel l (n : Int) (c : Int) = some (hank l c R n) := by
  have hm : maxN = 1099511627776 := rfl
  have hl := h.len
  have hR := h.R8
  have hC := h.C8
  have h0 := h.mat (gm l 0) (mem_of_get (gm_get hl.1))
  refine bnd (cI_of ⟨by omega, by omega⟩) ?_
  rw [Int.toNat_natCast]
  refine bnd (forS_is (fun i => hank l c R i) ?_) rfl
  intro i hi
  refine bnd (idx_gm hl.1) (bnd (addO_of (by omega) (by omega)) (bnd (addO_of (by omega) (by omega)) (bnd (addO_of (by omega) (by omega)) ?_)))
  rw [show (i : Int) + 1 + (c : Int) = ((i + 1 + c : Nat) : Int) by omega, show (i : Int) + 1 = ((i + 1 : Nat) : Int) by omega]
  refine bnd (sliceM (by omega) (by omega)) ?_
  rw [h0.2.1, show i + 1 + c - (i + 1) = c by omega]
  have hbl : ((l.drop (i + 1)).take c).length = c := by simp; omega
  have hbg : ∀ j, j < c → ((l.drop (i + 1)).take c)[j]? = some (gm l (i + j + 1)) := fun j hj => by
    rw [List.getElem?_take, if_pos hj, List.getElem?_drop, show i + 1 + j = i + j + 1 by omega, gm_get (by omega)]
  have hb : F_impl_beside (R : Int) ((l.drop (i + 1)).take c) = some (blkU l i c R) := by
    refine bnd (makeO_of _ (by omega)) ?_
    have := forS_is (n := R) (fun u => partG (fun k (_ : List Int) => flatJ l i k c) (List.replicate R ([] : List Int)) u) (f := fun (k7 : Nat) (s354 : List (List Int)) =>
      (forS (fun (k363 : Nat) (s470 : List (List Int)) =>
          (idxO ((l.drop (i + 1)).take c) ((k363 : Nat) : Int)).bind fun a485 =>
          (idxO s470 ((k7 : Nat) : Int)).bind fun a502 =>
          (idxO a485.2 ((k7 : Nat) : Int)).bind fun a511 =>
          (appO a502 a511).bind fun a516 =>
          (setO s470 ((k7 : Nat) : Int) a516).bind fun a528 =>
          some a528) ((l.drop (i + 1)).take c).length 0 s354).bind fun (s532 : List (List Int)) =>
      some s532) (by
      intro u hu
      have hur : u < (List.replicate R ([] : List Int)).length := by simpa using hu
      have hg : gr (partG (fun k (_ : List Int) => flatJ l i k c) (List.replicate R ([] : List Int)) u) u = [] := by
        rw [gr_part hur, if_neg (by omega)]
        have := gr_get hur
        rw [List.getElem?_replicate, if_pos (by simpa using hu)] at this
        exact (Option.some.inj this).symm
      have hpl : u < (partG (fun k (_ : List Int) => flatJ l i k c) (List.replicate R ([] : List Int)) u).length := by rw [partG_len]; exact hur
      have hs := part_setG (g := fun k (_ : List Int) => flatJ l i k c) (m := List.replicate R ([] : List Int)) (j := u) hur
      rw [← hs]
      generalize partG (fun k (_ : List Int) => flatJ l i k c) (List.replicate R ([] : List Int)) u = w at hg hpl
      have := forS_is (n := c) (fun j => w.set u (flatJ l i u j)) (f := fun (k363 : Nat) (s470 : List (List Int)) =>
          (idxO ((l.drop (i + 1)).take c) ((k363 : Nat) : Int)).bind fun a485 =>
          (idxO s470 ((u : Nat) : Int)).bind fun a502 =>
          (idxO a485.2 ((u : Nat) : Int)).bind fun a511 =>
          (appO a502 a511).bind fun a516 =>
          (setO s470 ((u : Nat) : Int) a516).bind fun a528 =>
          some a528) (by
        intro j hj
        have h3 := h.mat (gm l (i + j + 1)) (mem_of_get (gm_get (by omega)))
        have h4 := okM_gr h3.2.2 (i := u) (by omega)
        have h5 := (flatJ_ok h hu j (by omega : i + j < l.length)).1
        have h6 := mulC (c := j) (C := C) (by omega) hC
        have hl2 : u < (w.set u (flatJ l i u j)).length := by rw [List.length_set]; exact hpl
        have hg2 := idx_gr hl2
        rw [gr_set hpl, if_pos rfl] at hg2
        refine bnd (idxO_of (hbg j hj)) (bnd hg2 (bnd (idx_gr (by omega)) (bnd (appO_of (by omega)) (bnd (setO_of _ hl2) ?_))))
        rw [List.set_set]; rfl)
      have e0 : w.set u (flatJ l i u 0) = w := by
        have := set_gr hpl
        rw [hg] at this
        exact this
      rw [e0] at this
      rw [hbl]
      exact bnd this rfl)
    rw [partG0] at this
    have e : partG (fun k (_ : List Int) => flatJ l i k c) (List.replicate R ([] : List Int)) R = blkU l i c R := by
      have := partGN (fun k (_ : List Int) => flatJ l i k c) (List.replicate R ([] : List Int))
      rw [List.length_replicate] at this
      rw [this]
      apply List.ext_getElem
      · simp [blkU]
      · intro q h1 h2; simp [blkU]
    rw [e] at this
    rw [List.length_replicate]
    exact bnd this rfl
  have h7 := hank_len l c R i
  have h8 := mulC (c := i) (C := R) (by omega) hR
  exact bnd hb (bnd (appO_of (by rw [blkU_len]; omega)) rfl)
def rankL (p : Int) (l : List Mat) : Int × Bool := if respB p l then (((redM p (l.length / 2 * (gm l 0).1.toNat) (hank l (l.length / 2) (gm l 0).2.length (l.length / 2))).length : Int), true) else (0, false)
theorem rank_core {p : Int} {l : List Mat} (h : respB p l = true) : ∃ R C : Nat, Resp p R C l ∧ (gm l 0).1 = (C : Int) ∧ (gm l 0).2.length = R := by
  obtain ⟨R, C, hr⟩ := respB_ok h
  have h0 := hr.mat (gm l 0) (mem_of_get (gm_get hr.len.1))
  exact ⟨R, C, hr, h0.1, h0.2.1⟩
theorem half_ {l : List Mat} : ((l.length : Nat) : Int).tdiv 2 = ((l.length / 2 : Nat) : Int) := by
  rw [Int.tdiv_eq_ediv_of_nonneg (by omega)]; omega
theorem quoO_of {a b : Int} (hb : b ≠ 0) (h : inI (a.tdiv b)) : quoO a b = some (a.tdiv b) := by unfold quoO; rw [if_neg hb]; exact cI_of h
theorem specRank (p : Int) (l : List Mat) : F_spec_HankelRank p l = some (rankL p l) := by
  refine bnd (rzResponse_ p l) (stp ?_)
  unfold rankL
  cases hb : respB p l with
  | false => rfl
  | true =>
    obtain ⟨R, C, hr, e1, e2⟩ := rank_core hb
    have hl := hr.len
    have hq := half_ (l := l)
    have hC := hr.C8
    have hm := mulC (c := l.length / 2) (C := C) (by omega) hC
    have hm2 := mulC (c := l.length / 2) (C := R) (by omega) hr.R8
    have ho := hank_ok hr (l.length / 2) (l.length / 2) (by omega)
    have hlen := hank_len l (l.length / 2) R (l.length / 2)
    refine cFW rfl (bnd (quoO_of (by decide) (by rw [hq]; exact ⟨by omega, by omega⟩)) (bnd (idx_gm hl.1) ?_))
    rw [hq, e1, e2, Int.toNat_natCast]
    have e3 : ((l.length / 2 : Nat) : Int) * (C : Int) = ((l.length / 2 * C : Nat) : Int) := by rw [Int.natCast_mul]
    refine bnd (mulO_of (by rw [e3]; omega) (by rw [e3]; omega)) ?_
    rw [e3]
    refine bnd (rzHankel_ hr (by omega)) (bnd (spReduce_ hr.hf (Nat.le_refl _) (by omega) ho (by rw [hlen]; omega)) ?_)
    rfl
theorem implRank (p : Int) (l : List Mat) : F_impl_HankelRank p l = some (rankL p l) := by
  refine bnd (isResponse_ p l) (stp ?_)
  unfold rankL
  cases hb : respB p l with
  | false => rfl
  | true =>
    obtain ⟨R, C, hr, e1, e2⟩ := rank_core hb
    have hl := hr.len
    have hq := half_ (l := l)
    have hC := hr.C8
    have hm := mulC (c := l.length / 2) (C := C) (by omega) hC
    have hm2 := mulC (c := l.length / 2) (C := R) (by omega) hr.R8
    have ho := hank_ok hr (l.length / 2) (l.length / 2) (by omega)
    have hlen := hank_len l (l.length / 2) R (l.length / 2)
    refine cFW rfl (bnd (quoO_of (by decide) (by rw [hq]; exact ⟨by omega, by omega⟩)) (bnd (idx_gm hl.1) ?_))
    rw [hq, e1, e2, Int.toNat_natCast]
    have e3 : ((l.length / 2 : Nat) : Int) * (C : Int) = ((l.length / 2 * C : Nat) : Int) := by rw [Int.natCast_mul]
    refine bnd (mulO_of (by rw [e3]; omega) (by rw [e3]; omega)) ?_
    rw [e3]
    refine bnd (hankel_ hr (by omega)) (bnd (reduced_ hr.hf (Nat.le_refl _) (by omega) ho (by rw [hlen]; omega)) ?_)
    rfl
theorem eqMatrixS_of (a : List Mat) (h : matsS a ≤ 1048576) : F_laws_eqMatrixS a a = some true := by
  refine eqMatrixS_same a (by unfold lenOk; unfold matsS at h; omega) (fun m hm => lensOk_of (Nat.le_trans (mats_mem hm) h))
theorem lawN_HankelRank (p : Int) (l : List Mat) (_ : Nice.ok p) (n1 : Nice.ok l) : F_laws_FnExactHankelRank p l = some true := by
  refine bnd (szMatrixS_ l 1048576 (by decide) (by decide) n1.1 (fun m hm => niceLens (n1.2 m hm).2)) (stp ?_)
  by_cases h : (matsS l : Int) ≤ 1048576
  · rw [if_pos h]
    have hn : matsS l ≤ 1048576 := by omega
    refine cFW (dF (by omega)) ?_
    refine bnd (toMatrixS_ l hn) (bnd (specRank p l) (bnd (toMatrixS_ l hn) (bnd (implRank p l) ?_)))
    have e1 : (!decide ((rankL p l).2 = (rankL p l).2)) = false := nT (dT rfl)
    refine bnd (a := false) (stp (cFW (nT (dT rfl)) (stp (by rw [e1])))) (cFW rfl ?_)
    exact bnd (toMatrixS_ l hn) (bnd (eqMatrixS_of l hn) (stp (cFW rfl rfl)))
  · rw [if_neg h]; exact cTW (dT (by omega)) rfl
end Go.Proofs.YtnlbhdepagkjgaaDoor
