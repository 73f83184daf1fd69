/-
  Plain law of HankelRank: the law's partial function yields true. No program in sight. No condition.
-/
import Derived.Test.YtocpeclcoikdpaaDoorZP18
import Derived.Test.YtocpeclcoikdpaaDoorZP63
namespace Go.Proofs.YtocpeclcoikdpaaDoor

/-- the first c elements of a Hankel row -/
def flatJ (l : List Mat) (i u : Nat) : Nat → List Int
  | 0 => []
  | c + 1 => flatJ l i u c ++ gr (gm l (i + c + 1)).2 u
theorem flatJ_ok {p : Int} {R C : Nat} {l : List Mat} (h : Resp p R C l) {i u : Nat} (hu : u < R) : ∀ c, i + c < l.length → (flatJ l i u c).length = c * C ∧ inP p (flatJ l i u c)
  | 0, _ => ⟨by simp [flatJ], fun x hx => by cases hx⟩
  | c + 1, hc => by
    obtain ⟨h1, h2⟩ := flatJ_ok (i := i) h hu c (by omega)
    have h3 := h.mat (gm l (i + c + 1)) (mem_of_get (gm_get (i := i + c + 1) (by omega)))
    have h4 := okM_gr h3.2.2 (i := u) (by omega)
    refine ⟨?_, fun x hx => ?_⟩
    · show (flatJ l i u c ++ _).length = _
      rw [List.length_append, h1, h4.1, Nat.succ_mul]
    · rcases List.mem_append.1 hx with hx | hx
      · exact h2 x hx
      · exact h4.2 x hx
def blkU (l : List Mat) (i c : Nat) (R : Nat) : Rows := (List.range R).map fun u => flatJ l i u c
def hank (l : List Mat) (c R : Nat) : Nat → Rows
  | 0 => []
  | i + 1 => hank l c R i ++ blkU l i c R
theorem blkU_succ (l : List Mat) (i c R : Nat) : blkU l i c (R + 1) = blkU l i c R ++ [flatJ l i R c] := by simp [blkU, List.range_succ]
theorem blkU_len (l : List Mat) (i c R : Nat) : (blkU l i c R).length = R := by simp [blkU]
theorem hank_len (l : List Mat) (c R : Nat) : ∀ i, (hank l c R i).length = i * R
  | 0 => by simp [hank]
  | i + 1 => by show (hank l c R i ++ _).length = _; rw [List.length_append, hank_len l c R i, blkU_len, Nat.succ_mul]
theorem hank_ok {p : Int} {R C : Nat} {l : List Mat} (h : Resp p R C l) (c : Nat) : ∀ i, i + c ≤ l.length → okM p (c * C) (hank l c R i)
  | 0, _ => fun x hx => by cases hx
  | i + 1, hi => by
    intro x hx
    rcases List.mem_append.1 hx with hx | hx
    · exact hank_ok h c i (by omega) x hx
    · obtain ⟨u, hu, rfl⟩ := List.mem_map.1 hx
      exact flatJ_ok h (List.mem_range.1 hu) c (by omega)
theorem mulC {c C : Nat} (hc : c ≤ 60) (hC : C ≤ 8) : c * C ≤ 480 := Nat.mul_le_mul hc hC
theorem rzHankel_ {p : Int} {R C : Nat} {l : List Mat} (h : Resp p R C l) {n c : Nat} (hn : n + c ≤ l.length) : F_spec_rzHankel l (n : Int) (c : Int) = some (hank l c R n) := by
  have hm : maxN = 1099511627776 := rfl
  have hl := h.len
  have hR := h.R8
  have hC := h.C8
  have h0 := h.mat (gm l 0) (mem_of_get (gm_get hl.1))
  refine bnd (whileO_is (fun i => (hank l c R i, (i : Int))) (t := hank l c R n) n ?_ ?_) rfl
  · intro i hi
    dsimp only
    refine stp (cTW (dT (by omega)) (bnd (idx_gm hl.1) ?_))
    have := forS_is (n := R) (fun u => hank l c R i ++ blkU l i c u) (f := fun (k4383 : Nat) (s4939 : List (List Int)) =>
            (whileO (fun (s5165 : List Int × Int) =>
                (some (decide (s5165.2 < (c : Int)))).bind fun a5176 =>
                cond a5176
                ((addO (i : Int) s5165.2).bind fun a5181 =>
                  (addO a5181 1).bind fun a5183 =>
                  (idxO l a5183).bind fun a5191 =>
                  (idxO a5191.2 ((k4383 : Nat) : Int)).bind fun a5203 =>
                  (appO s5165.1 a5203).bind fun a5207 =>
                  (addO s5165.2 1).bind fun a5212 =>
                  some (.inl (a5207, a5212)))
                (some (.inr s5165.1))) (([] : List Int), (0 : Int))).bind fun (s5078 : List Int) =>
            (appO s4939 [s5078]).bind fun a5219 =>
            some a5219) (by
      intro u hu
      refine bnd (whileO_is (fun j => (flatJ l i u j, (j : Int))) (t := flatJ l i u c) c ?_ ?_) ?_
      · intro j hj
        dsimp only
        have h3 := h.mat (gm l (i + j + 1)) (mem_of_get (gm_get (by omega)))
        have h4 := okM_gr h3.2.2 (i := u) (by omega)
        have h5 := (flatJ_ok h hu j (by omega : i + j < l.length)).1
        have h6 := mulC (c := j) (C := C) (by omega) hC
        refine stp (cTW (dT (by omega)) (bnd (addO_of (by omega) (by omega)) (bnd (addO_of (by omega) (by omega)) ?_)))
        rw [show (i : Int) + (j : Int) + 1 = ((i + j + 1 : Nat) : Int) by omega]
        exact bnd (idx_gm (by omega)) (bnd (idx_gr (by omega)) (bnd (appO_of (by omega)) (bnd (addO_of (by omega) (by omega)) rfl)))
      · dsimp only; exact stp (cFW (dF (by omega)) rfl)
      · have h7 := hank_len l c R i
        have h8 := mulC (c := i) (C := R) (by omega) hR
        refine bnd (appO_of (by rw [List.length_append, blkU_len]; simp; omega)) ?_
        rw [blkU_succ, List.append_assoc])
    rw [show blkU l i c 0 = [] from rfl, List.append_nil] at this
    rw [h0.2.1]
    exact bnd this (bnd (addO_of (by omega) (by omega)) rfl)
  · dsimp only; exact stp (cFW (dF (by omega)) rfl)
theorem sliceM {α : Type} {l : List α} {a b : Nat} (h : a ≤ b) (hb : b ≤ l.length) : sliceO l (a : Int) (b : Int) = some ((l.drop a).take (b - a)) := by
  unfold sliceO
  rw [if_pos (by omega), Int.toNat_natCast, Int.toNat_natCast]
theorem hankel_ {p : Int} {R C : Nat} {l : List Mat} (h : Resp p R C l) {n c : Nat} (hn : n + c ≤ l.length) : F_impl_hankel l (n : Int) (c : Int) = some (hank l c R n) := by
  have hm : maxN = 1099511627776 := rfl
  have hl := h.len
  have hR := h.R8
  have hC := h.C8
  have h0 := h.mat (gm l 0) (mem_of_get (gm_get hl.1))
  refine bnd (cI_of ⟨by omega, by omega⟩) ?_
  rw [Int.toNat_natCast]
  refine bnd (forS_is (fun i => hank l c R i) ?_) rfl
  intro i hi
  refine bnd (idx_gm hl.1) (bnd (addO_of (by omega) (by omega)) (bnd (addO_of (by omega) (by omega)) (bnd (addO_of (by omega) (by omega)) ?_)))
  rw [show (i : Int) + 1 + (c : Int) = ((i + 1 + c : Nat) : Int) by omega, show (i : Int) + 1 = ((i + 1 : Nat) : Int) by omega]
  refine bnd (sliceM (by omega) (by omega)) ?_
  rw [h0.2.1, show i + 1 + c - (i + 1) = c by omega]
  have hbl : ((l.drop (i + 1)).take c).length = c := by simp; omega
  have hbg : ∀ j, j < c → ((l.drop (i + 1)).take c)[j]? = some (gm l (i + j + 1)) := fun j hj => by
    rw [List.getElem?_take, if_pos hj, List.getElem?_drop, show i + 1 + j = i + j + 1 by omega, gm_get (by omega)]
  have hb : F_impl_beside (R : Int) ((l.drop (i + 1)).take c) = some (blkU l i c R) := by
    refine bnd (makeO_of _ (by omega)) ?_
    have := forS_is (n := R) (fun u => partG (fun k (_ : List Int) => flatJ l i k c) (List.replicate R ([] : List Int)) u) (f := fun (k7 : Nat) (s354 : List (List Int)) =>
      (forS (fun (k363 : Nat) (s470 : List (List Int)) =>
          (idxO ((l.drop (i + 1)).take c) ((k363 : Nat) : Int)).bind fun a485 =>
          (idxO s470 ((k7 : Nat) : Int)).bind fun a502 =>
          (idxO a485.2 ((k7 : Nat) : Int)).bind fun a511 =>
          (appO a502 a511).bind fun a516 =>
          (setO s470 ((k7 : Nat) : Int) a516).bind fun a528 =>
          some a528) ((l.drop (i + 1)).take c).length 0 s354).bind fun (s532 : List (List Int)) =>
      some s532) (by
      intro u hu
      have hur : u < (List.replicate R ([] : List Int)).length := by simpa using hu
      have hg : gr (partG (fun k (_ : List Int) => flatJ l i k c) (List.replicate R ([] : List Int)) u) u = [] := by
        rw [gr_part hur, if_neg (by omega)]
        have := gr_get hur
        rw [List.getElem?_replicate, if_pos (by simpa using hu)] at this
        exact (Option.some.inj this).symm
      have hpl : u < (partG (fun k (_ : List Int) => flatJ l i k c) (List.replicate R ([] : List Int)) u).length := by rw [partG_len]; exact hur
      have hs := part_setG (g := fun k (_ : List Int) => flatJ l i k c) (m := List.replicate R ([] : List Int)) (j := u) hur
      rw [← hs]
      generalize partG (fun k (_ : List Int) => flatJ l i k c) (List.replicate R ([] : List Int)) u = w at hg hpl
      have := forS_is (n := c) (fun j => w.set u (flatJ l i u j)) (f := fun (k363 : Nat) (s470 : List (List Int)) =>
          (idxO ((l.drop (i + 1)).take c) ((k363 : Nat) : Int)).bind fun a485 =>
          (idxO s470 ((u : Nat) : Int)).bind fun a502 =>
          (idxO a485.2 ((u : Nat) : Int)).bind fun a511 =>
          (appO a502 a511).bind fun a516 =>
          (setO s470 ((u : Nat) : Int) a516).bind fun a528 =>
          some a528) (by
        intro j hj
        have h3 := h.mat (gm l (i + j + 1)) (mem_of_get (gm_get (by omega)))
        have h4 := okM_gr h3.2.2 (i := u) (by omega)
        have h5 := (flatJ_ok h hu j (by omega : i + j < l.length)).1
        have h6 := mulC (c := j) (C := C) (by omega) hC
        have hl2 : u < (w.set u (flatJ l i u j)).length := by rw [List.length_set]; exact hpl
        have hg2 := idx_gr hl2
        rw [gr_set hpl, if_pos rfl] at hg2
        refine bnd (idxO_of (hbg j hj)) (bnd hg2 (bnd (idx_gr (by omega)) (bnd (appO_of (by omega)) (bnd (setO_of _ hl2) ?_))))
        rw [List.set_set]; rfl)
      have e0 : w.set u (flatJ l i u 0) = w := by
        have := set_gr hpl
        rw [hg] at this
        exact this
      rw [e0] at this
      rw [hbl]
      exact bnd this rfl)
    rw [partG0] at this
    have e : partG (fun k (_ : List Int) => flatJ l i k c) (List.replicate R ([] : List Int)) R = blkU l i c R := by
      have := partGN (fun k (_ : List Int) => flatJ l i k c) (List.replicate R ([] : List Int))
      rw [List.length_replicate] at this
      rw [this]
      apply List.ext_getElem
      · simp [blkU]
      · intro q h1 h2; simp [blkU]
    rw [e] at this
    rw [List.length_replicate]
    exact bnd this rfl
  have h7 := hank_len l c R i
  have h8 := mulC (c := i) (C := R) (by omega) hR
  exact bnd hb (bnd (appO_of (by rw [blkU_len]; omega)) rfl)
theorem rank_core {p : Int} {l : List Mat} (h : respB p l = true) : ∃ R C : Nat, Resp p R C l ∧ (gm l 0).1 = (C : Int) ∧ (gm l 0).2.length = R := by
  obtain ⟨R, C, hr⟩ := respB_ok h
  have h0 := hr.mat (gm l 0) (mem_of_get (gm_get hr.len.1))
  exact ⟨R, C, hr, h0.1, h0.2.1⟩
theorem quoO_of {a b : Int} (hb : b ≠ 0) (h : inI (a.tdiv b)) : quoO a b = some (a.tdiv b) := by unfold quoO; rw [if_neg hb]; exact cI_of h
end Go.Proofs.YtocpeclcoikdpaaDoor
namespace Go.Proofs.YtocpeclcoikdpaaDoor
set_option linter.unusedVariables false
def selM (all : Rows) (c : List Nat) : Rows := c.map (gr all)
def chs (p : Int) (sz : Nat) (all : Rows) : Nat → List Nat
  | 0 => []
  | i + 1 => if hasB p sz (redM p sz (selM all (chs p sz all i))) (gr all i) = true then chs p sz all i else chs p sz all i ++ [i]
theorem chs_t {p : Int} {sz : Nat} {all : Rows} {i : Nat} (h : hasB p sz (redM p sz (selM all (chs p sz all i))) (gr all i) = true) : chs p sz all (i + 1) = chs p sz all i := if_pos h
theorem chs_f {p : Int} {sz : Nat} {all : Rows} {i : Nat} (h : hasB p sz (redM p sz (selM all (chs p sz all i))) (gr all i) = false) : chs p sz all (i + 1) = chs p sz all i ++ [i] := if_neg (by rw [h]; decide)
def toI (c : List Nat) : List Int := c.map fun x : Nat => (x : Int)
theorem selM_app (all : Rows) (c : List Nat) (i : Nat) : selM all (c ++ [i]) = selM all c ++ [gr all i] := by simp [selM]
theorem selM_len (all : Rows) (c : List Nat) : (selM all c).length = c.length := by simp [selM]
theorem chs_lt {p : Int} {sz : Nat} {all : Rows} : ∀ i, ∀ x ∈ chs p sz all i, x < i
  | 0, x, h => by simp [chs] at h
  | i + 1, x, h => by
    cases hb : hasB p sz (redM p sz (selM all (chs p sz all i))) (gr all i) with
    | true =>
      rw [chs_t hb] at h
      exact Nat.lt_succ_of_lt (chs_lt i x h)
    | false =>
      rw [chs_f hb] at h
      rcases List.mem_append.1 h with h | h
      · exact Nat.lt_succ_of_lt (chs_lt i x h)
      · rw [List.mem_singleton.1 h]; exact Nat.lt_succ_self i
theorem redM_nil (p : Int) (n : Nat) : redM p n [] = [] := by
  unfold redM
  rw [show (redLoop p n 0 [] [] 0).1 = [] from ?_, List.take_nil]
  cases n with
  | zero => rfl
  | succ n => unfold redLoop; rw [if_neg (by simp)]
section
variable {p : Int} {sz : Nat} {all : Rows}
theorem take_succ_gr {i : Nat} (hi : i < all.length) : all.take (i + 1) = all.take i ++ [gr all i] := by rw [List.take_add_one, gr_get hi]; rfl
structure Chs (p : Int) (sz : Nat) (all : Rows) (i : Nat) : Prop where
  ok : okM p sz (selM all (chs p sz all i))
  ind : Indep p sz (selM all (chs p sz all i))
  s1 : subSpan p sz (all.take i) (selM all (chs p sz all i))
  s2 : subSpan p sz (selM all (chs p sz all i)) (all.take i)
theorem chs_all (hf : fdB p = true) (h : okM p sz all) : ∀ i, i ≤ all.length → Chs p sz all i
  | 0, _ => ⟨fun r hr => by simp [chs, selM] at hr, fun x hx i hi => by simp [chs, selM] at hi, fun i hi => by simp at hi, fun i hi => by simp [chs, selM] at hi⟩
  | i + 1, hi => by
    have ih := chs_all hf h i (by omega)
    have hrow := h _ (gr_mem (m := all) (i := i) (by omega))
    have hR := redM_red hf ih.ok
    have hs := redM_span hf ih.ok
    have e := take_succ_gr (all := all) (i := i) (by omega)
    cases hb : hasB p sz (redM p sz (selM all (chs p sz all i))) (gr all i) with
    | true =>
      have hc : chs p sz all (i + 1) = chs p sz all i := chs_t hb
      have hin := inSpan_trans hs.1 ((hasB_iff hf hR hrow).1 hb)
      refine ⟨by rw [hc]; exact ih.ok, by rw [hc]; exact ih.ind, ?_, ?_⟩
      · rw [hc, e]
        refine app_span ih.s1 fun j hj => ?_
        obtain rfl : j = 0 := by simpa using hj
        rw [gr_zero]; exact hin
      · rw [hc, e]
        exact subSpan_trans ih.s2 span_app1
    | false =>
      have hc : chs p sz all (i + 1) = chs p sz all i ++ [i] := chs_f hb
      have hno : ¬ inSpan p sz (selM all (chs p sz all i)) (gr all i) := fun hin => by
        have := (hasB_iff hf hR hrow).2 (inSpan_trans hs.2 hin)
        rw [hb] at this; cases this
      have hok := okM_app ih.ok (okM_one hrow)
      refine ⟨by rw [hc, selM_app]; exact hok, ?_, ?_, ?_⟩
      · rw [hc, selM_app]
        refine (indep_iff hf hok).2 (Classical.byContradiction fun hne => hno (dep_span hf ih.ok hrow ih.ind hne))
      · rw [hc, selM_app, e]
        exact app_span (subSpan_trans ih.s1 span_app1) span_app2
      · rw [hc, selM_app, e]
        exact app_span (subSpan_trans ih.s2 span_app1) span_app2
theorem chs_rank (hf : fdB p = true) (h : okM p sz all) {i : Nat} (hi : i ≤ all.length) : redM p sz (all.take i) = redM p sz (selM all (chs p sz all i)) ∧ (redM p sz (all.take i)).length = (chs p sz all i).length := by
  have hc := chs_all hf h i hi
  have ht : okM p sz (all.take i) := fun r hr => h r (List.mem_of_mem_take hr)
  have e := redM_unique hf ht hc.ok hc.s1 hc.s2
  exact ⟨e, by rw [e, (indep_iff hf hc.ok).1 hc.ind, selM_len]⟩
theorem chs_len (hf : fdB p = true) (h : okM p sz all) {i : Nat} (hi : i ≤ all.length) : (chs p sz all i).length ≤ sz := by
  have hc := chs_all hf h i hi
  have := (redM_ok (n := sz) (fdB_rng hf).1 hc.ok).2.2
  rw [(indep_iff hf hc.ok).1 hc.ind, selM_len] at this
  exact this
theorem offer_ (hf : fdB p = true) (h : okM p sz all) {i : Nat} (hi : i < all.length) (hs : sz ≤ 1000) {N : Int} (hN : N = (sz : Int)) :
    F_impl_chooser_offer (p, N, redM p sz (selM all (chs p sz all i)), toI (chs p sz all i), selM all (chs p sz all i)) (i : Int) (gr all i) =
      some (p, N, redM p sz (selM all (chs p sz all (i + 1))), toI (chs p sz all (i + 1)), selM all (chs p sz all (i + 1))) := by
  have hm : maxN = 1099511627776 := rfl
  subst hN
  have ih := chs_all hf h i (by omega)
  have ih2 := chs_all hf h (i + 1) (by omega)
  have hl := chs_len hf h (i := i) (by omega)
  have hl2 := chs_len hf h (i := i + 1) (by omega)
  have hrow := h _ (gr_mem hi)
  have hR := redM_red hf ih.ok
  have hRl := (redM_ok (n := sz) (fdB_rng hf).1 ih.ok).2.2
  have hc := coordinates_ hf hR hrow (by omega) (by omega)
  refine bnd hc ?_
  cases hb : hasB p sz (redM p sz (selM all (chs p sz all i))) (gr all i) with
  | true =>
    have e : chs p sz all (i + 1) = chs p sz all i := chs_t hb
    rw [e]
    exact cTW rfl rfl
  | false =>
    have e : chs p sz all (i + 1) = chs p sz all i ++ [i] := chs_f hb
    have hok := ih2.ok
    rw [e, selM_app] at hok
    rw [e, selM_app]
    refine cFW rfl (bnd (appO_of (by simp [toI]; omega)) (bnd (appO_of (by rw [selM_len]; simp; omega)) (bnd (reduced_ (n := sz) hf (Nat.le_refl _) (by omega) hok (by simp [selM_len]; omega)) ?_)))
    simp [toI]
theorem offers_ (hf : fdB p = true) (h : okM p sz all) {K : Nat} (hK : K ≤ all.length) (hs : sz ≤ 1000) {N : Int} (hN : N = (sz : Int)) :
    forS (fun (k54 : Nat) (s103 : Int × Int × List (List Int) × List Int × List (List Int)) =>
      (idxO (all.take K) ((k54 : Nat) : Int)).bind fun a124 =>
      (F_impl_chooser_offer (s103.1, s103.2.1, s103.2.2.1, s103.2.2.2.1, s103.2.2.2.2) ((k54 : Nat) : Int) a124).bind fun y128 =>
      some (y128.1, y128.2.1, y128.2.2.1, y128.2.2.2.1, y128.2.2.2.2)) (all.take K).length 0 (p, N, [], [], []) =
      some (p, N, redM p sz (selM all (chs p sz all K)), toI (chs p sz all K), selM all (chs p sz all K)) := by
  have hkl : (all.take K).length = K := by rw [List.length_take]; omega
  have := forS_is (n := (all.take K).length) (f := fun (k54 : Nat) (s103 : Int × Int × List (List Int) × List Int × List (List Int)) =>
      (idxO (all.take K) ((k54 : Nat) : Int)).bind fun a124 =>
      (F_impl_chooser_offer (s103.1, s103.2.1, s103.2.2.1, s103.2.2.2.1, s103.2.2.2.2) ((k54 : Nat) : Int) a124).bind fun y128 =>
      some (y128.1, y128.2.1, y128.2.2.1, y128.2.2.2.1, y128.2.2.2.2)) (fun i => (p, N, redM p sz (selM all (chs p sz all i)), toI (chs p sz all i), selM all (chs p sz all i))) (fun i hi => by
    refine bnd (idx_gr hi) ?_
    rw [gr_take (by omega)]
    exact bnd (offer_ hf h (by omega) hs hN) rfl)
  rw [hkl] at this
  rw [hkl]
  have e0 : (p, N, redM p sz (selM all (chs p sz all 0)), toI (chs p sz all 0), selM all (chs p sz all 0)) = (p, N, ([] : Rows), ([] : List Int), ([] : Rows)) := by
    show (p, N, redM p sz [], _, _) = _
    rw [redM_nil]; rfl
  rw [e0] at this
  exact this
theorem rzChosen_ (hf : fdB p = true) (h : okM p sz all) {K : Nat} (hK : K ≤ all.length) (hs : sz ≤ 1000) (hl : all.length ≤ 1000) {N : Int} (hN : N = (sz : Int)) : F_spec_rzChosen p N (all.take K) = some (toI (chs p sz all K)) := by
  have hm : maxN = 1099511627776 := rfl
  subst hN
  have hkl : (all.take K).length = K := by rw [List.length_take]; omega
  have := forS_is (n := (all.take K).length) (f := fun (k2 : Nat) (s55 : List Int × Int) =>
      (addO ((k2 : Nat) : Int) 1).bind fun a66 =>
      (sliceO (all.take K) 0 a66).bind fun a68 =>
      (F_spec_spReduce p (sz : Int) a68).bind fun y72 =>
      (some (decide (s55.2 < ((y72.length : Nat) : Int)))).bind fun a77 =>
      cond a77
      ((appO s55.1 [((k2 : Nat) : Int)]).bind fun a84 =>
        some (a84, ((y72.length : Nat) : Int)))
      (some (s55.1, s55.2))) (fun i => (toI (chs p sz all i), ((chs p sz all i).length : Int))) (fun i hi => by
    have ht : okM p sz (all.take (i + 1)) := fun r hr => h r (List.mem_of_mem_take hr)
    have hll := chs_len hf h (i := i) (by omega)
    have htl : (all.take (i + 1)).length = i + 1 := by rw [List.length_take]; omega
    have hrk := (chs_rank hf h (i := i + 1) (by omega)).2
    have hsl : sliceO (all.take K) 0 ((i : Int) + 1) = some (all.take (i + 1)) := by
      rw [show ((i : Int) + 1) = ((i + 1 : Nat) : Int) by omega, slice0 (by omega), List.take_take, Nat.min_eq_left (by omega)]
    refine bnd (addO_of (by omega) (by omega)) (bnd hsl (bnd (spReduce_ hf (Nat.le_refl _) (by omega) ht (by omega)) ?_))
    rw [hrk]
    dsimp only
    cases hb : hasB p sz (redM p sz (selM all (chs p sz all i))) (gr all i) with
    | true =>
      have e : chs p sz all (i + 1) = chs p sz all i := chs_t hb
      rw [e]
      exact stp (cFW (dF (by omega)) rfl)
    | false =>
      have e : chs p sz all (i + 1) = chs p sz all i ++ [i] := by
        conv => lhs; unfold chs
        rw [if_neg (by rw [hb]; decide)]
      rw [e]
      refine stp (cTW (dT (by simp; omega)) (bnd (appO_of (by simp [toI]; omega)) ?_))
      simp [toI])
  rw [hkl] at this
  refine bnd (by rw [hkl]; exact this) rfl
end
end Go.Proofs.YtocpeclcoikdpaaDoor
namespace Go.Proofs.YtocpeclcoikdpaaDoor
set_option linter.unusedVariables false
theorem forO_sL {σ τ : Type} {f : Nat → σ → Option (σ ⊕ τ)} {n k : Nat} {s s' : σ} (h : f k s = some (.inl s')) : forO f (n + 1) k s = forO f n (k + 1) s' := by
  show (f k s).bind _ = _
  rw [h]; rfl
theorem forO_sR {σ τ : Type} {f : Nat → σ → Option (σ ⊕ τ)} {n k : Nat} {s : σ} {t : τ} (h : f k s = some (.inr t)) : forO f (n + 1) k s = some (.inr t) := by
  show (f k s).bind _ = _
  rw [h]; rfl
/-- a list gone through, each element tested, two lists made -/
theorem forO_tm {α β γ τ : Type} {f : Nat → List β × List γ → Option ((List β × List γ) ⊕ τ)} (P : α → Bool) (g : α → β) (h : α → γ) (t : τ) : ∀ (l : List α) (k : Nat) (s : List β × List γ),
    (∀ j a s', l[j]? = some a → s'.1.length = s.1.length + j → s'.2.length = s.2.length + j → f (k + j) s' = some (if P a = true then .inl (s'.1 ++ [g a], s'.2 ++ [h a]) else .inr t)) →
    forO f l.length k s = some (if l.all P = true then .inl (s.1 ++ l.map g, s.2 ++ l.map h) else .inr t)
  | [], k, s, _ => by simp [forO]
  | a :: l, k, s, hf => by
    have h0 := hf 0 a s rfl rfl rfl
    rw [Nat.add_zero] at h0
    cases hP : P a with
    | true =>
      rw [hP, if_pos rfl] at h0
      have ih := forO_tm P g h t l (k + 1) (s.1 ++ [g a], s.2 ++ [h a]) (fun j b s' hj h1 h2 => by
        have := hf (j + 1) b s' hj (by rw [h1]; simp; omega) (by rw [h2]; simp; omega)
        rwa [show k + (j + 1) = k + 1 + j by omega] at this)
      rw [List.length_cons, forO_sL h0, ih, List.all_cons, hP, Bool.true_and]
      simp
    | false =>
      rw [hP] at h0
      rw [List.length_cons, forO_sR (show f k s = some (.inr t) from h0), List.all_cons, hP]
      rfl
theorem ssB_of {p : Int} {n k o : Nat} {s : SSt} (hf : fdB p = true) (h : SSok p n k o s) : ssB p s = true := by
  have tb : ∀ (m : Rows) (r c : Nat), m.length = r → rowsP p c m → tabB p (r : Int) (c : Int) m = true := fun m r c h1 h2 => by
    unfold tabB; rw [Bool.and_eq_true]; exact ⟨dT (by omega), rowsB_true.2 h2⟩
  have hn := h.hn; have hk := h.hk; have ho := h.ho
  unfold ssB
  rw [h.h1, h.h2, h.h3, tb _ _ _ h.a.1 h.a.2, tb _ _ _ h.b.1 h.b.2, tb _ _ _ h.c.1 h.c.2, tb _ _ _ h.d.1 h.d.2, rng_true.2 ⟨by omega, by omega⟩, rng_true.2 ⟨by omega, by omega⟩, rng_true.2 ⟨by omega, by omega⟩, hf]
  rfl
/-- the parts -/
def rzN (l : List Mat) : Nat := (l.length - 1) / 2
def rzAll (l : List Mat) (R : Nat) : Rows := hank l (rzN l) R (rzN l + 1)
def rzCh (p : Int) (l : List Mat) (R C : Nat) : List Nat := chs p (rzN l * C) (rzAll l R) (rzN l * R)
def rzBase (p : Int) (l : List Mat) (R C : Nat) : Rows := selM (rzAll l R) (rzCh p l R C)
def rzOk (p : Int) (l : List Mat) (R C : Nat) (x : Nat) : Bool := solB p (rzN l * C) (rzBase p l R C) (gr (rzAll l R) x)
def rzX (p : Int) (l : List Mat) (R C : Nat) (x : Nat) : List Int := solX p (rzN l * C) (rzBase p l R C) (gr (rzAll l R) x)
def rzS (p : Int) (l : List Mat) (R C : Nat) : SSt :=
  (((rzCh p l R C).length : Int), (R : Int), (C : Int), (rzCh p l R C).map (fun i => rzX p l R C (i + R)), (List.range R).map (rzX p l R C), (rzCh p l R C).map (fun i => (gr (rzAll l R) i).take C), (gm l 0).2)
def rzGood (p : Int) (l : List Mat) (R C : Nat) : Bool := (rzCh p l R C).all (fun i => rzOk p l R C (i + R)) && (List.range R).all (rzOk p l R C)
def zSS : SSt := (0, 0, 0, [], [], [], [])
def rzW (p : Int) (l : List Mat) (R C : Nat) : SSt × Bool :=
  if rzGood p l R C && (decide ((rzCh p l R C).length ≤ 24) && decide ((mkv p (rzCh p l R C).length C (rzS p l R C) l.length).1 = l)) then (rzS p l R C, true) else (zSS, false)
section
variable {p : Int} {l : List Mat} {R C : Nat}
structure RzF (p : Int) (l : List Mat) (R C : Nat) : Prop where
  n29 : rzN l ≤ 29
  n2 : 2 * rzN l + 1 ≤ l.length
  ok : okM p (rzN l * C) (rzAll l R)
  len : (rzAll l R).length = rzN l * R + R
  sz : rzN l * C ≤ 480
  sr : rzN l * R ≤ 480
  chl : ∀ x ∈ rzCh p l R C, x < rzN l * R
  bok : okM p (rzN l * C) (rzBase p l R C)
  ind : Indep p (rzN l * C) (rzBase p l R C)
  blen : (rzBase p l R C).length = (rzCh p l R C).length
  cl : (rzCh p l R C).length ≤ rzN l * C
theorem rzF (h : Resp p R C l) : RzF p l R C := by
  have h1 := h.len; have h2 := h.R8; have h3 := h.C8
  have hn : rzN l = (l.length - 1) / 2 := rfl
  have hok : okM p (rzN l * C) (rzAll l R) := hank_ok h (rzN l) (rzN l + 1) (by omega)
  have hlen : (rzAll l R).length = rzN l * R + R := by unfold rzAll; rw [hank_len, Nat.succ_mul]
  have hc := chs_all h.hf hok (rzN l * R) (by omega)
  exact ⟨by omega, by omega, hok, hlen, mulC (by omega) h3, mulC (by omega) h2, chs_lt _, hc.ok, hc.ind, selM_len _ _, chs_len h.hf hok (by omega)⟩
theorem rzS_ok (h : Resp p R C l) (hc : (rzCh p l R C).length ≤ 24) : SSok p (rzCh p l R C).length R C (rzS p l R C) := by
  have f := rzF h
  have hl := h.len
  have hm0 := h.mat (gm l 0) (mem_of_get (gm_get hl.1))
  refine ⟨fdB_rng h.hf, rfl, rfl, rfl, hc, h.R8, h.C8, ⟨by simp [rzS], fun r hr => ?_⟩, ⟨by simp [rzS], fun r hr => ?_⟩, ⟨by simp [rzS], fun r hr => ?_⟩, ⟨hm0.2.1, hm0.2.2⟩⟩
  · obtain ⟨i, hi, rfl⟩ := List.mem_map.1 hr
    have := solX_ok (v := gr (rzAll l R) (i + R)) h.hf f.bok
    rw [f.blen] at this; exact this
  · obtain ⟨i, hi, rfl⟩ := List.mem_map.1 hr
    have := solX_ok (v := gr (rzAll l R) i) h.hf f.bok
    rw [f.blen] at this; exact this
  · obtain ⟨i, hi, rfl⟩ := List.mem_map.1 hr
    have hlt := f.chl i hi
    have hrow := f.ok _ (gr_mem (i := i) (by rw [f.len]; omega))
    have hn0 : 0 < rzN l := Nat.pos_of_ne_zero fun e => by rw [e] at hlt; omega
    have : C ≤ rzN l * C := Nat.le_mul_of_pos_left C hn0
    refine ⟨by rw [List.length_take, hrow.1]; omega, fun x hx => hrow.2 x (List.mem_of_mem_take hx)⟩
theorem quo3 {n : Nat} (hn : 0 < n) (h2 : n ≤ 1000) : subO ((n : Nat) : Int) 1 = some ((n - 1 : Nat) : Int) ∧ quoO ((n - 1 : Nat) : Int) 2 = some (((n - 1) / 2 : Nat) : Int) := by
  refine ⟨by rw [subO_of (by omega) (by omega)]; congr 1; omega, ?_⟩
  rw [quoO_of (by decide)]
  · rfl
  · rw [show ((n - 1 : Nat) : Int).tdiv 2 = (((n - 1) / 2 : Nat) : Int) from rfl]
    exact ⟨by omega, by omega⟩
/-- what the loop behind the label makes: the coordinates of the rows needed, those of states first -/
def ndL (p : Int) (l : List Mat) (R C : Nat) : List Nat := (rzCh p l R C).map (· + R) ++ List.range R
theorem ndL_len : (ndL p l R C).length = (rzCh p l R C).length + R := by simp [ndL]
theorem ndL_lt (h : Resp p R C l) : ∀ x ∈ ndL p l R C, x < rzN l * R + R := by
  have f := rzF h
  intro x hx
  rcases List.mem_append.1 hx with hx | hx
  · obtain ⟨i, hi, rfl⟩ := List.mem_map.1 hx
    have := f.chl i hi; omega
  · have := List.mem_range.1 hx; omega
theorem good_iff : rzGood p l R C = (ndL p l R C).all (rzOk p l R C) := by
  unfold rzGood ndL
  rw [List.all_append, List.all_map]; rfl
/-- the loop's state when j rows are done -/
def jA (p : Int) (l : List Mat) (R C j : Nat) : Rows := (((ndL p l R C).take j).take (rzCh p l R C).length).map (rzX p l R C)
def jB (p : Int) (l : List Mat) (R C j : Nat) : Rows := (((ndL p l R C).take j).drop (rzCh p l R C).length).map (rzX p l R C)
theorem jA_step {j : Nat} (hj : j < (rzCh p l R C).length) : jA p l R C (j + 1) = jA p l R C j ++ [rzX p l R C ((ndL p l R C).getD j 0)] ∧ jB p l R C (j + 1) = jB p l R C j := by
  have hl : j < (ndL p l R C).length := by rw [ndL_len]; omega
  have hg : (ndL p l R C)[j]? = some ((ndL p l R C).getD j 0) := by rw [List.getD_eq_getElem?_getD, List.getElem?_eq_getElem hl]; rfl
  have e1 : ((ndL p l R C).take j).length = j := by rw [List.length_take]; omega
  have h1 : ((ndL p l R C).take j ++ [(ndL p l R C).getD j 0]).take (rzCh p l R C).length = (ndL p l R C).take j ++ [(ndL p l R C).getD j 0] := List.take_of_length_le (by rw [List.length_append, e1]; simp; omega)
  have h2 : ((ndL p l R C).take j).take (rzCh p l R C).length = (ndL p l R C).take j := List.take_of_length_le (by omega)
  have h3 : ((ndL p l R C).take j ++ [(ndL p l R C).getD j 0]).drop (rzCh p l R C).length = [] := List.drop_of_length_le (by rw [List.length_append, e1]; simp; omega)
  have h4 : ((ndL p l R C).take j).drop (rzCh p l R C).length = [] := List.drop_of_length_le (by omega)
  unfold jA jB
  rw [List.take_add_one, hg, Option.toList_some, h1, h2, h3, h4, List.map_append]
  exact ⟨rfl, rfl⟩
theorem jB_step {j : Nat} (hj : (rzCh p l R C).length ≤ j) (hl : j < (ndL p l R C).length) : jA p l R C (j + 1) = jA p l R C j ∧ jB p l R C (j + 1) = jB p l R C j ++ [rzX p l R C ((ndL p l R C).getD j 0)] := by
  have hg : (ndL p l R C)[j]? = some ((ndL p l R C).getD j 0) := by rw [List.getD_eq_getElem?_getD, List.getElem?_eq_getElem hl]; rfl
  have e1 : ((ndL p l R C).take j).length = j := by rw [List.length_take]; omega
  unfold jA jB
  rw [List.take_add_one, hg, Option.toList_some, List.take_append_of_le_length (by omega), List.drop_append_of_le_length (by omega), List.map_append]
  exact ⟨rfl, rfl⟩
theorem jA_end : jA p l R C (ndL p l R C).length = (rzCh p l R C).map (fun i => rzX p l R C (i + R)) ∧ jB p l R C (ndL p l R C).length = (List.range R).map (rzX p l R C) := by
  unfold jA jB
  rw [List.take_of_length_le (Nat.le_refl _)]
  unfold ndL
  rw [List.take_left' (by simp), List.drop_left' (by simp), List.map_map]
  exact ⟨rfl, rfl⟩
end
end Go.Proofs.YtocpeclcoikdpaaDoor
namespace Go.Proofs.YtocpeclcoikdpaaDoor
set_option linter.unusedVariables false
section
variable {p : Int} {l : List Mat} {R C : Nat}
theorem nd_list (h : Resp p R C l) : forS (fun (k248 : Nat) (s290 : List Int) =>
        (idxO (toI (rzCh p l R C)) ((k248 : Nat) : Int)).bind fun a306 =>
        (addO a306 (R : Int)).bind fun a308 =>
        (appO s290 [a308]).bind fun a313 =>
        some a313) (toI (rzCh p l R C)).length 0 ([] : List Int) = some (toI ((rzCh p l R C).map (· + R))) := by
  have hm : maxN = 1099511627776 := rfl
  have f := rzF h
  have hR := h.R8
  have c1 := f.sz; have c2 := f.cl; have c3 := f.sr
  have := forS_map (f := fun (k248 : Nat) (s290 : List Int) =>
        (idxO (toI (rzCh p l R C)) ((k248 : Nat) : Int)).bind fun a306 =>
        (addO a306 (R : Int)).bind fun a308 =>
        (appO s290 [a308]).bind fun a313 =>
        some a313) (fun x : Int => x + (R : Int)) (toI (rzCh p l R C)) [] (by simp [toI]; omega) (fun j a s hj hs => by
    have hjl := (List.getElem?_eq_some_iff.1 hj).1
    have hmem := mem_of_get hj
    obtain ⟨i, hi, rfl⟩ := List.mem_map.1 hmem
    have := f.chl i hi
    simp [toI] at hjl
    exact bnd (idxO_of hj) (bnd (addO_of (by omega) (by omega)) (bnd (appO_of (by simp at hs ⊢; omega)) rfl)))
  rw [this, List.nil_append]
  congr 1
  unfold toI
  rw [List.map_map, List.map_map]
  exact List.map_congr_left fun x _ => by simp
theorem rz_cs (h : Resp p R C l) (hc : (rzCh p l R C).length ≤ 24) : forS (fun (k875 : Nat) (s940 : List (List Int)) =>
            (idxO (rzBase p l R C) ((k875 : Nat) : Int)).bind fun a957 =>
            (sliceO a957 0 (C : Int)).bind fun a962 =>
            (F_impl_clone a962).bind fun y966 =>
            (appO s940 [y966]).bind fun a974 =>
            some a974) (rzBase p l R C).length 0 [] = some ((rzCh p l R C).map (fun i => (gr (rzAll l R) i).take C)) := by
  have hm : maxN = 1099511627776 := rfl
  have f := rzF h
  have hC := h.C8
  have hbl := f.blen
  have := forS_map (f := fun (k875 : Nat) (s940 : List (List Int)) =>
            (idxO (rzBase p l R C) ((k875 : Nat) : Int)).bind fun a957 =>
            (sliceO a957 0 (C : Int)).bind fun a962 =>
            (F_impl_clone a962).bind fun y966 =>
            (appO s940 [y966]).bind fun a974 =>
            some a974) (fun r => r.take C) (rzBase p l R C) [] (by simp; omega) (fun j r s hj hs => by
    have hjl := (List.getElem?_eq_some_iff.1 hj).1
    have hr := (f.bok r (mem_of_get hj)).1
    obtain ⟨i, hi, _⟩ := List.mem_map.1 (mem_of_get hj)
    have hlt := f.chl i hi
    have hn0 : 0 < rzN l := Nat.pos_of_ne_zero fun e => by rw [e] at hlt; omega
    have : C ≤ rzN l * C := Nat.le_mul_of_pos_left C hn0
    exact bnd (idxO_of hj) (bnd (slice0 (by omega)) (bnd (clone_ (by simp; omega)) (bnd (appO_of (by simp at hs ⊢; omega)) rfl))))
  rw [this, List.nil_append]
  congr 1
  unfold rzBase selM
  rw [List.map_map]; rfl
theorem get_toI {c : List Nat} {j : Nat} (h : j < c.length) : (toI c)[j]? = some ((c.getD j 0 : Nat) : Int) := by
  unfold toI
  rw [List.getElem?_map, List.getElem?_eq_getElem h, List.getD_eq_getElem?_getD, List.getElem?_eq_getElem h]; rfl
theorem mem_getD {c : List Nat} {j : Nat} (h : j < c.length) : c.getD j 0 ∈ c := by
  rw [List.getD_eq_getElem?_getD, List.getElem?_eq_getElem h]; exact List.getElem_mem h
theorem realize_ (h : Resp p R C l) : F_impl_realize p l = some (rzW p l R C) := by
  have hm : maxN = 1099511627776 := rfl
  have f := rzF h
  have hl := h.len; have hR := h.R8; have hC := h.C8
  have hm0 := h.mat (gm l 0) (mem_of_get (gm_get hl.1))
  have q1 := quo3 hl.1 (by omega)
  have c1 := f.sz; have c2 := f.cl; have c3 := f.sr; have c4 := f.n29; have c5 := f.n2; have c6 := f.len; have c7 := f.blen
  have hk := hankel_ h (n := rzN l + 1) (c := rzN l) (by omega)
  have hcl := clones_ (m := (gm l 0).2) (by have := hm0.2.1; omega) (fun r hr => by have := (hm0.2.2 r hr).1; omega)
  have hof := offers_ h.hf f.ok (K := rzN l * R) (by omega) (by omega) (N := ((rzN l * C : Nat) : Int)) rfl
  have hi0 : idxO l 0 = some (gm l 0) := idx_gm hl.1
  refine bnd hi0 (bnd hi0 (bnd q1.1 (bnd q1.2 (bnd (a := ((rzN l + 1 : Nat) : Int)) ((addO_of (by omega) (by omega)).trans (congrArg some (by show (((l.length - 1) / 2 : Nat) : Int) + 1 = _; unfold rzN; omega))) (bnd hk (bnd (a := ((rzN l * C : Nat) : Int)) ?_ (bnd (a := ((rzN l * R : Nat) : Int)) ?_ (bnd (slice0 (l := rzAll l R) (by omega)) (bnd hof (bnd (bnd hi0 (bnd hcl rfl)) ?_))))))))))
  · rw [hm0.1, show (((l.length - 1) / 2 : Nat) : Int) = ((rzN l : Nat) : Int) from rfl, mulO_of (by rw [← Int.natCast_mul]; omega) (by rw [← Int.natCast_mul]; omega), Int.natCast_mul]
  · rw [hm0.2.1, show (((l.length - 1) / 2 : Nat) : Int) = ((rzN l : Nat) : Int) from rfl, mulO_of (by rw [← Int.natCast_mul]; omega) (by rw [← Int.natCast_mul]; omega), Int.natCast_mul]
  dsimp only
  have htl : (toI (chs p (rzN l * C) (rzAll l R) (rzN l * R))).length = (rzCh p l R C).length := by simp [toI, rzCh]
  rw [htl, hm0.2.1, hm0.1]
  by_cases hc : (rzCh p l R C).length ≤ 24
  case neg =>
    refine stp (cTW (dT (by omega)) ?_)
    unfold rzW
    rw [dF hc]
    simp [zSS]
  refine stp (cFW (dF (by omega)) ?_)
  have hnl := nd_list h
  rw [show (toI (rzCh p l R C)).length = (rzCh p l R C).length by simp [toI]] at hnl
  have hup := upTo_ (n := R) (by omega)
  have hnd : appO (toI ((rzCh p l R C).map (· + R))) (upL R) = some (toI (ndL p l R C)) := by
    refine (appO_of (by simp [toI, upL_len]; omega)).trans (congrArg some ?_)
    unfold ndL toI upL
    rw [List.map_append]
  have hndl : (toI (ndL p l R C)).length = (rzCh p l R C).length + R := by simp [toI, ndL]
  have hSS := rzS_ok h hc
  refine bnd hnl (bnd hup (bnd hnd ?_))
  rw [hndl]
  obtain ⟨t, t1, t2⟩ := whileO_num (s := (([] : Rows), ([] : Rows), (0 : Int), true)) (τ := SSt × Bool) (f := fun (s845 : List (List Int) × List (List Int) × Int × Bool) =>
      ((some (decide (s845.2.2.1 < (((rzCh p l R C).length + R : Nat) : Int)))).bind fun a868 =>
        cond a868
        (some s845.2.2.2)
        (some false)).bind fun (s862 : Bool) =>
      cond s862
      ((idxO (toI (ndL p l R C)) s845.2.2.1).bind fun a1038 =>
        (idxO (rzAll l R) a1038).bind fun a1046 =>
        (F_impl_chooser_coordinates (p, ((rzN l * C : Nat) : Int), redM p (rzN l * C) (rzBase p l R C), toI (rzCh p l R C), rzBase p l R C) a1046).bind fun y1050 =>
        ((some (decide (s845.2.2.1 < ((rzCh p l R C).length : Int)))).bind fun a1085 =>
          cond a1085
          ((appO s845.1 [y1050.1]).bind fun a1101 =>
            some (a1101, s845.2.1))
          ((appO s845.2.1 [y1050.1]).bind fun a1091 =>
            some (s845.1, a1091))).bind fun (s1077 : List (List Int) × List (List Int)) =>
        (addO s845.2.2.1 1).bind fun a1109 =>
        some (.inl (s1077.1, s1077.2, a1109, y1050.2)))
      ((forS (fun (k875 : Nat) (s940 : List (List Int)) =>
            (idxO (rzBase p l R C) ((k875 : Nat) : Int)).bind fun a957 =>
            (sliceO a957 0 (C : Int)).bind fun a962 =>
            (F_impl_clone a962).bind fun y966 =>
            (appO s940 [y966]).bind fun a974 =>
            some a974) (rzBase p l R C).length 0 []).bind fun (s982 : List (List Int)) =>
        ((some (!s845.2.2.2)).bind fun a1005 =>
          cond a1005
          (some true)
          ((F_impl_StateSpace_markov (((rzCh p l R C).length : Int), (R : Int), (C : Int), s845.1, s845.2.1, s982, (gm l 0).2) p ((l.length : Nat) : Int)).bind fun y1008 =>
            (F_slices_EqualFunc_impl_Matrix_impl_Matrix_impl_Matrix_impl_Matrix_impl_equalMatrices y1008 l).bind fun y1013 =>
            (some (!y1013)).bind fun a1016 =>
            some a1016)).bind fun (s999 : Bool) =>
        cond s999
        (some (.inr ((0, 0, 0, [], [], [], []), false)))
        (some (.inr ((((rzCh p l R C).length : Int), (R : Int), (C : Int), s845.1, s845.2.1, s982, (gm l 0).2), true)))))
    (fun j s => s.2.2.1 = (j : Int) ∧ ((s.2.2.2 = true ∧ s.1 = jA p l R C j ∧ s.2.1 = jB p l R C j ∧ ∀ x ∈ (ndL p l R C).take j, rzOk p l R C x = true) ∨ (s.2.2.2 = false ∧ rzGood p l R C = false)))
    (fun t => t = rzW p l R C) ((rzCh p l R C).length + R) (by
      rintro j ⟨A, B, at', g⟩ hj ⟨h1, h2⟩
      dsimp only at h1 h2 ⊢
      subst h1
      have hcs := rz_cs h hc
      rcases h2 with ⟨rfl, rfl, rfl, hall⟩ | ⟨rfl, hbad⟩
      · by_cases hjl : j < (rzCh p l R C).length + R
        · left
          have hjn : j < (ndL p l R C).length := by rw [ndL_len]; exact hjl
          have hx := mem_getD hjn
          have hlt := ndL_lt h _ hx
          have hrow := f.ok _ (gr_mem (i := (ndL p l R C).getD j 0) (by omega))
          have hco := chCoords_ (basis := redM p (rzN l * C) (rzBase p l R C)) (chosen := toI (rzCh p l R C)) (N := ((rzN l * C : Nat) : Int)) h.hf f.bok f.ind hrow (by omega) (by omega) rfl
          have hnext : ∃ A' B', cond (decide ((j : Int) < ((rzCh p l R C).length : Int)))
              ((appO (jA p l R C j) [(if solB p (rzN l * C) (rzBase p l R C) (gr (rzAll l R) ((ndL p l R C).getD j 0)) = true then (solX p (rzN l * C) (rzBase p l R C) (gr (rzAll l R) ((ndL p l R C).getD j 0)), true) else ([], false)).1]).bind fun a1101 => some (a1101, jB p l R C j))
              ((appO (jB p l R C j) [(if solB p (rzN l * C) (rzBase p l R C) (gr (rzAll l R) ((ndL p l R C).getD j 0)) = true then (solX p (rzN l * C) (rzBase p l R C) (gr (rzAll l R) ((ndL p l R C).getD j 0)), true) else ([], false)).1]).bind fun a1091 => some (jA p l R C j, a1091)) = some (A', B') ∧
              (rzOk p l R C ((ndL p l R C).getD j 0) = true → A' = jA p l R C (j + 1) ∧ B' = jB p l R C (j + 1)) := by
            have la : (jA p l R C j).length ≤ 1000 := by unfold jA; simp; omega
            have lb : (jB p l R C j).length ≤ 1000 := by unfold jB; simp; omega
            by_cases hjc : j < (rzCh p l R C).length
            · refine ⟨_, _, cTW (dT (by omega)) (bnd (appO_of (by simp; omega)) rfl), fun hok => ?_⟩
              obtain ⟨e1, e2⟩ := jA_step hjc
              unfold rzOk at hok
              rw [if_pos hok, e1, e2]; exact ⟨rfl, rfl⟩
            · refine ⟨_, _, cFW (dF (by omega)) (bnd (appO_of (by simp; omega)) rfl), fun hok => ?_⟩
              obtain ⟨e1, e2⟩ := jB_step (by omega) hjn
              unfold rzOk at hok
              rw [if_pos hok, e1, e2]; exact ⟨rfl, rfl⟩
          obtain ⟨A', B', n1, n2⟩ := hnext
          refine ⟨(A', B', ((j + 1 : Nat) : Int), rzOk p l R C ((ndL p l R C).getD j 0)), bnd (stp (cTW (dT (by omega)) rfl)) (cTW rfl (bnd (idxO_of (get_toI hjn)) (bnd (idx_gr (by omega)) (bnd hco (bnd (stp n1) (bnd (addO_of (by omega) (by omega)) ?_)))))), ⟨rfl, ?_⟩, hjl⟩
          · unfold rzOk
            cases solB p (rzN l * C) (rzBase p l R C) (gr (rzAll l R) ((ndL p l R C).getD j 0)) <;> rfl
          · dsimp only
            cases hok : rzOk p l R C ((ndL p l R C).getD j 0) with
            | true =>
              obtain ⟨e1, e2⟩ := n2 hok
              refine .inl ⟨rfl, e1, e2, fun x hx' => ?_⟩
              rw [List.take_add_one] at hx'
              rcases List.mem_append.1 hx' with hx' | hx'
              · exact hall x hx'
              · have hg : (ndL p l R C)[j]? = some ((ndL p l R C).getD j 0) := by rw [List.getD_eq_getElem?_getD, List.getElem?_eq_getElem hjn]; rfl
                rw [hg] at hx'
                rw [List.mem_singleton.1 hx']; exact hok
            | false =>
              refine .inr ⟨rfl, ?_⟩
              rw [good_iff]
              cases hq : (ndL p l R C).all (rzOk p l R C) with
              | false => rfl
              | true => have := List.all_eq_true.1 hq _ hx; rw [hok] at this; cases this
        · right
          obtain rfl : j = (ndL p l R C).length := by rw [ndL_len]; omega
          have hgood : rzGood p l R C = true := by
            rw [good_iff, List.all_eq_true]
            intro x hx
            exact hall x (by rw [List.take_of_length_le (Nat.le_refl _)]; exact hx)
          obtain ⟨e1, e2⟩ := jA_end (p := p) (l := l) (R := R) (C := C)
          have hmk := markov_ hSS l.length (by omega)
          rw [e1, e2]
          refine ⟨rzW p l R C, bnd (stp (cFW (dF (by rw [ndL_len]; omega)) rfl)) (cFW rfl (bnd hcs ?_)), rfl⟩
          unfold rzW
          rw [hgood, dT hc, Bool.true_and, Bool.true_and]
          have heq := equalMats (mkv p (rzCh p l R C).length C (rzS p l R C) l.length).1 l
          by_cases hme : (mkv p (rzCh p l R C).length C (rzS p l R C) l.length).1 = l
          · rw [dT hme] at heq ⊢
            exact bnd (stp (cFW rfl (bnd hmk (bnd heq rfl)))) rfl
          · rw [dF hme] at heq ⊢
            exact bnd (stp (cFW rfl (bnd hmk (bnd heq rfl)))) rfl
      · right
        refine ⟨rzW p l R C, ?_, rfl⟩
        have e0 : rzW p l R C = (zSS, false) := by unfold rzW; rw [hbad]; rfl
        rw [e0]
        refine bnd (a := false) ?_ (cFW rfl (bnd hcs rfl))
        by_cases hjl : j < (rzCh p l R C).length + R
        · exact stp (cTW (dT (by omega)) rfl)
        · exact stp (cFW (dF (by omega)) rfl)) ⟨rfl, .inl ⟨rfl, by simp [jA], by simp [jB], fun x hx => by simp at hx⟩⟩
  rw [← t2]
  exact t1
end
end Go.Proofs.YtocpeclcoikdpaaDoor
namespace Go.Proofs.YtocpeclcoikdpaaDoor
set_option linter.unusedVariables false
theorem sqL {σ τ : Type} {x : σ} {k : σ → Option τ} {y : Option τ} (h : k x = y) : seqO (some (.inl x)) k = y := h
section
variable {p : Int} {l : List Mat} {R C : Nat}
theorem rz0 (h : Resp p R C l) (h0 : rzN l = 0) (x : Nat) (hx : x < R) : rzOk p l R C x = true ∧ rzX p l R C x = [] := by
  have f := rzF h
  have hch : rzCh p l R C = [] := by
    cases hq : rzCh p l R C with
    | nil => rfl
    | cons a t => have := f.chl a (by rw [hq]; simp); rw [h0, Nat.zero_mul] at this; omega
  have hrow := f.ok _ (gr_mem (i := x) (by rw [f.len]; omega))
  have hsz : rzN l * C = 0 := by rw [h0, Nat.zero_mul]
  constructor
  · exact (solB_iff h.hf f.bok hrow).2 ⟨fun _ => 0, fun j hj => by rw [hsz] at hj; omega⟩
  · have := (solX_ok (v := gr (rzAll l R) x) h.hf f.bok).1
    rw [f.blen, hch] at this
    exact List.eq_nil_of_length_eq_zero this
theorem rzRealize_ (h : Resp p R C l) : F_spec_rzRealize p l = some (if rzGood p l R C = true then (rzS p l R C, true) else (zSS, false)) := by
  have hm : maxN = 1099511627776 := rfl
  have f := rzF h
  have hl := h.len; have hR := h.R8; have hC := h.C8
  have hm0 := h.mat (gm l 0) (mem_of_get (gm_get hl.1))
  have q1 := quo3 hl.1 (by omega)
  have c1 := f.sz; have c2 := f.cl; have c3 := f.sr; have c4 := f.n29; have c5 := f.n2; have c6 := f.len; have c7 := f.blen
  have hi0 : idxO l 0 = some (gm l 0) := idx_gm hl.1
  have k1 := rzHankel_ h (n := rzN l) (c := rzN l) (by omega)
  have k2 := rzHankel_ h (n := rzN l + 1) (c := rzN l) (by omega)
  have hcp := mxCopy_ (m := gm l 0) (by have := hm0.2.1; omega) (fun r hr => by have := (hm0.2.2 r hr).1; omega)
  obtain ⟨al, ha, hal⟩ : ∃ al : Rows, ((some (decide ((0 : Int) < ((rzN l : Nat) : Int)))).bind fun a78 =>
      cond a78
      ((addO ((rzN l : Nat) : Int) 1).bind fun a82 =>
        (F_spec_rzHankel l a82 ((rzN l : Nat) : Int)).bind fun y84 =>
        some y84)
      (some (hank l (rzN l) R (rzN l)))) = some al ∧ ((0 < rzN l ∧ al = rzAll l R) ∨ (rzN l = 0 ∧ al = [])) := by
    rcases Nat.eq_zero_or_pos (rzN l) with h0 | h0
    · refine ⟨[], stp (cFW (dF (by omega)) ?_), .inr ⟨h0, rfl⟩⟩
      rw [h0]; rfl
    · refine ⟨rzAll l R, stp (cTW (dT (by omega)) (bnd (a := ((rzN l + 1 : Nat) : Int)) ((addO_of (by omega) (by omega)).trans (congrArg some (by omega))) (bnd k2 rfl))), .inl ⟨h0, rfl⟩⟩
  have htake : al.take (rzN l * R) = (rzAll l R).take (rzN l * R) := by
    rcases hal with ⟨_, rfl⟩ | ⟨h0, rfl⟩
    · rfl
    · rw [h0, Nat.zero_mul]; rfl
  have hlen : rzN l * R ≤ al.length := by
    rcases hal with ⟨_, rfl⟩ | ⟨h0, rfl⟩
    · omega
    · rw [h0, Nat.zero_mul]; exact Nat.zero_le _
  have hpos : ∀ x ∈ rzCh p l R C, al = rzAll l R := fun x hx => by
    rcases hal with ⟨_, e⟩ | ⟨h0, _⟩
    · exact e
    · have := f.chl x hx; rw [h0, Nat.zero_mul] at this; omega
  have hch := rzChosen_ h.hf f.ok (K := rzN l * R) (by omega) (by omega) (by omega) (N := ((rzN l * C : Nat) : Int)) rfl
  have htl : (toI (rzCh p l R C)).length = (rzCh p l R C).length := by simp [toI]
  have hbase : forS (fun (k110 : Nat) (s175 : List (List Int)) =>
      (idxO (toI (rzCh p l R C)) ((k110 : Nat) : Int)).bind fun a192 =>
      (idxO al a192).bind fun a201 =>
      (appO s175 [a201]).bind fun a209 =>
      some a209) (toI (rzCh p l R C)).length 0 [] = some (rzBase p l R C) := by
    have := forS_map (f := fun (k110 : Nat) (s175 : List (List Int)) =>
      (idxO (toI (rzCh p l R C)) ((k110 : Nat) : Int)).bind fun a192 =>
      (idxO al a192).bind fun a201 =>
      (appO s175 [a201]).bind fun a209 =>
      some a209) (fun x : Int => gr (rzAll l R) x.toNat) (toI (rzCh p l R C)) [] (by simp [toI]; omega) (fun j a s hj hs => by
      have hjl := (List.getElem?_eq_some_iff.1 hj).1
      obtain ⟨i, hi, rfl⟩ := List.mem_map.1 (mem_of_get hj)
      have hlt := f.chl i hi
      rw [hpos i hi]
      refine bnd (idxO_of hj) (bnd (idx_gr (by omega)) (bnd (appO_of (by simp at hs ⊢; omega)) ?_))
      rw [Int.toNat_natCast])
    rw [this, List.nil_append]
    congr 1
    unfold rzBase selM toI
    rw [List.map_map]
    exact List.map_congr_left fun x _ => by simp
  have hloop := forO_tm (τ := SSt × Bool) (f := fun (k221 : Nat) (s368 : List (List Int) × List (List Int)) =>
      (idxO (toI (rzCh p l R C)) ((k221 : Nat) : Int)).bind fun a387 =>
      (addO a387 (R : Int)).bind fun a390 =>
      (idxO al a390).bind fun a398 =>
      (F_spec_mxSolve p (((rzN l * C : Nat) : Int), rzBase p l R C) a398).bind fun y402 =>
      (some (!y402.2)).bind fun a407 =>
      cond a407
      (some (.inr ((0, 0, 0, [], [], [], []), false)))
      ((appO s368.1 [y402.1]).bind fun a413 =>
        (idxO al a387).bind fun a426 =>
        (sliceO a426 0 (C : Int)).bind fun a430 =>
        (F_spec_l1Own a430).bind fun y434 =>
        (appO s368.2 [y434]).bind fun a442 =>
        some (.inl (a413, a442)))) (fun x : Int => rzOk p l R C (x.toNat + R)) (fun x : Int => rzX p l R C (x.toNat + R)) (fun x : Int => (gr (rzAll l R) x.toNat).take C) (zSS, false) (toI (rzCh p l R C)) 0 ([], []) (fun j a s hj h1 h2 => by
    rw [Nat.zero_add]
    have hjl := (List.getElem?_eq_some_iff.1 hj).1
    rw [htl] at hjl
    obtain ⟨i, hi, rfl⟩ := List.mem_map.1 (mem_of_get hj)
    have hlt := f.chl i hi
    have hn0 : 0 < rzN l := Nat.pos_of_ne_zero fun e => by rw [e, Nat.zero_mul] at hlt; omega
    have hCn : C ≤ rzN l * C := Nat.le_mul_of_pos_left C hn0
    rw [hpos i hi]
    have hrow := f.ok _ (gr_mem (i := i + R) (by omega))
    have hrow2 := f.ok _ (gr_mem (i := i) (by omega))
    have hs := mxSolve_ (m := rzBase p l R C) h.hf f.bok hrow (by omega) (by omega)
    have l1 : s.1.length ≤ 1000 := by simp at h1; omega
    have l2 : s.2.length ≤ 1000 := by simp at h2; omega
    refine bnd (idxO_of hj) (bnd (a := ((i + R : Nat) : Int)) ((addO_of (by omega) (by omega)).trans (congrArg some (by omega))) (bnd (idx_gr (by omega)) (bnd hs (stp ?_))))
    rw [Int.toNat_natCast]
    unfold rzOk rzX
    cases solB p (rzN l * C) (rzBase p l R C) (gr (rzAll l R) (i + R)) with
    | false => rfl
    | true => exact cFW rfl (bnd (appO_of (by simp; omega)) (bnd (idx_gr (by omega)) (bnd (slice0 (by omega)) (bnd (own_ (by simp; omega)) (bnd (appO_of (by simp; omega)) rfl))))))
  have hallI : ∀ (P : Nat → Bool), (toI (rzCh p l R C)).all (fun x : Int => P x.toNat) = (rzCh p l R C).all P := fun P => by
    unfold toI; rw [List.all_map]
    exact congrArg (List.all _) (funext fun x => by simp)
  have hmapI : ∀ (G : Nat → List Int), (toI (rzCh p l R C)).map (fun x : Int => G x.toNat) = (rzCh p l R C).map G := fun G => by
    unfold toI; rw [List.map_map]
    exact List.map_congr_left fun x _ => by simp
  rw [hallI (fun i => rzOk p l R C (i + R)), hmapI (fun i => rzX p l R C (i + R)), hmapI (fun i => (gr (rzAll l R) i).take C)] at hloop
  have hsz : mulO (((l.length - 1) / 2 : Nat) : Int) (gm l 0).1 = some ((rzN l * C : Nat) : Int) := by
    rw [hm0.1, show (((l.length - 1) / 2 : Nat) : Int) = ((rzN l : Nat) : Int) from rfl, mulO_of (by rw [← Int.natCast_mul]; omega) (by rw [← Int.natCast_mul]; omega), Int.natCast_mul]
  have hsr : mulO (((l.length - 1) / 2 : Nat) : Int) (((gm l 0).2.length : Nat) : Int) = some ((rzN l * R : Nat) : Int) := by
    rw [hm0.2.1, show (((l.length - 1) / 2 : Nat) : Int) = ((rzN l : Nat) : Int) from rfl, mulO_of (by rw [← Int.natCast_mul]; omega) (by rw [← Int.natCast_mul]; omega), Int.natCast_mul]
  refine bnd q1.1 (bnd q1.2 (bnd hi0 (bnd hi0 (bnd hi0 (bnd hcp (bnd k1 (bnd ha (bnd hsz (bnd hsr (bnd (slice0 hlen) (bnd (by rw [htake]; exact hch) (bnd hsz (bnd hbase ?_)))))))))))))
  rw [hm0.1, hm0.2.1]
  refine sqW hloop ?_
  unfold rzGood
  cases hg1 : (rzCh p l R C).all (fun i => rzOk p l R C (i + R)) with
  | false => rfl
  | true =>
    rw [if_pos rfl, Bool.true_and]
    obtain ⟨t, t1, t2⟩ := whileO_num (s := (([] : Rows), (0 : Int))) (τ := Rows ⊕ (SSt × Bool)) (f := fun (s1019 : List (List Int) × Int) =>
      (some (decide (s1019.2 < (R : Int)))).bind fun a1030 =>
      cond a1030
      (seqO ((some (decide ((((l.length - 1) / 2 : Nat) : Int) = 0))).bind fun a1086 =>
          cond a1086
          ((appO s1019.1 [[]]).bind fun a1131 =>
            some (.inl a1131))
          ((idxO al s1019.2).bind fun a1096 =>
            (F_spec_mxSolve p (((rzN l * C : Nat) : Int), rzBase p l R C) a1096).bind fun y1100 =>
            (some (!y1100.2)).bind fun a1105 =>
            cond a1105
            (some (.inr (.inr (.inr ((0, 0, 0, [], [], [], []), false)))))
            ((appO s1019.1 [y1100.1]).bind fun a1111 =>
              some (.inl a1111)))) fun (s1079 : List (List Int)) =>
        (addO s1019.2 1).bind fun a1139 =>
        some (.inl (s1079, a1139)))
      (some (.inr (.inl s1019.1)))) (fun j s => s = ((List.range j).map (rzX p l R C), (j : Int)) ∧ ∀ u, u < j → rzOk p l R C u = true)
      (fun t => t = if (List.range R).all (rzOk p l R C) = true then .inl ((List.range R).map (rzX p l R C)) else .inr (zSS, false)) R (by
        rintro j s hj ⟨rfl, hall⟩
        dsimp only
        have hstep : (List.range (j + 1)).map (rzX p l R C) = (List.range j).map (rzX p l R C) ++ [rzX p l R C j] := by rw [List.range_succ, List.map_append]; rfl
        have hll : ((List.range j).map (rzX p l R C)).length = j := by simp
        by_cases hjR : j < R
        · rcases hal with ⟨h0, rfl⟩ | ⟨h0, rfl⟩
          · have hrow := f.ok _ (gr_mem (i := j) (by omega))
            have hs := mxSolve_ (m := rzBase p l R C) h.hf f.bok hrow (by omega) (by omega)
            cases hok : rzOk p l R C j with
            | true =>
              refine .inl ⟨_, stp (cTW (dT (by omega)) (sqW (r := some (.inl ((List.range (j + 1)).map (rzX p l R C)))) (stp (cFW (dF (by unfold rzN at h0; omega)) (bnd (idx_gr (by omega)) (bnd hs (stp ?_))))) (sqL (bnd (addO_of (by omega) (by omega)) rfl)))), ⟨?_, fun u hu => ?_⟩, hjR⟩
              · unfold rzOk at hok
                rw [hok, hstep]
                exact cFW rfl (bnd (appO_of (by simp; omega)) rfl)
              · congr 1
              · by_cases h' : u < j
                · exact hall u h'
                · obtain rfl : u = j := by omega
                  exact hok
            | false =>
              refine .inr ⟨.inr (zSS, false), stp (cTW (dT (by omega)) (sqW (r := some (.inr (.inr (.inr (zSS, false))))) (stp (cFW (dF (by unfold rzN at h0; omega)) (bnd (idx_gr (by omega)) (bnd hs (stp ?_))))) rfl)), ?_⟩
              · unfold rzOk at hok
                rw [hok]; rfl
              · rw [if_neg]
                intro hq
                have := List.all_eq_true.1 hq j (List.mem_range.2 hjR)
                rw [hok] at this; cases this
          · obtain ⟨z1, z2⟩ := rz0 (C := C) h h0 j hjR
            refine .inl ⟨_, stp (cTW (dT (by omega)) (sqW (r := some (.inl ((List.range (j + 1)).map (rzX p l R C)))) (stp (cTW (dT (by unfold rzN at h0; omega)) (bnd (appO_of (by simp; omega)) (by rw [hstep, z2])))) (sqL (bnd (addO_of (by omega) (by omega)) rfl)))), ⟨?_, fun u hu => ?_⟩, hjR⟩
            · congr 1
            · by_cases h' : u < j
              · exact hall u h'
              · obtain rfl : u = j := by omega
                exact z1
        · obtain rfl : j = R := by omega
          refine .inr ⟨.inl ((List.range j).map (rzX p l j C)), stp (cFW (dF (by omega)) rfl), ?_⟩
          rw [if_pos (List.all_eq_true.2 fun u hu => hall u (List.mem_range.1 hu))]) ⟨rfl, fun u hu => by omega⟩
    rw [t2] at t1
    cases hg2 : (List.range R).all (rzOk p l R C) with
    | true =>
      rw [hg2, if_pos rfl] at t1
      rw [if_pos rfl]
      refine sqL (sqW (r := some (.inl ((List.range R).map (rzX p l R C)))) t1 (sqL ?_))
      rw [htl]; rfl
    | false =>
      rw [hg2] at t1
      refine sqL (sqW (r := some (.inr (zSS, false))) t1 rfl)
def wRealizeMarkov (p : Int) (l : List Mat) : SSt × Bool := if respB p l then rzW p l (gm l 0).2.length (gm l 0).1.toNat else (zSS, false)
theorem resp_core {p : Int} {l : List Mat} (h : respB p l = true) : Resp p (gm l 0).2.length (gm l 0).1.toNat l := by
  obtain ⟨R, C, hr, h1, h2⟩ := rank_core h
  rw [h1, h2, Int.toNat_natCast]; exact hr
theorem implRealizeMarkov (p : Int) (l : List Mat) : F_impl_RealizeMarkov p l = some (wRealizeMarkov p l) := by
  refine bnd (isResponse_ p l) (stp ?_)
  unfold wRealizeMarkov
  cases h : respB p l with
  | false => rfl
  | true => exact cFW rfl (bnd (realize_ (resp_core h)) rfl)
theorem specRealizeMarkov (p : Int) (l : List Mat) : F_spec_RealizeMarkov p l = some (wRealizeMarkov p l) := by
  refine bnd (rzResponse_ p l) (stp ?_)
  unfold wRealizeMarkov
  cases h : respB p l with
  | false => rfl
  | true =>
    have hr := resp_core h
    rw [if_pos rfl]
    generalize (gm l 0).2.length = R at hr ⊢
    generalize (gm l 0).1.toNat = C at hr ⊢
    have hl := hr.len
    refine cFW rfl (bnd (rzRealize_ hr) ?_)
    unfold rzW
    cases hg : rzGood p l R C with
    | false => rfl
    | true =>
      rw [if_pos rfl, Bool.true_and]
      by_cases hc : (rzCh p l R C).length ≤ 24
      · have hSS := rzS_ok hr hc
        have hsb := ssB_of hr.hf hSS
        have hmk := ssMarkov_ hSS l.length (by omega)
        have hIs : F_spec_rzIs p (rzS p l R C) l = some (decide ((mkv p (rzCh p l R C).length C (rzS p l R C) l.length).1 = l)) := by
          refine bnd hmk ?_
          refine sqW (forO_eq9 _ l 0 (mkv_ok hSS l.length).1 ?_) ?_
          · intro j x y hx hy
            rw [Nat.zero_add]
            refine bnd (idxO_of hx) (bnd (idxO_of hy) (bnd (spSame x.2 y.2) ?_))
            have f1 := mkv_fst p (rzCh p l R C).length C (rzS p l R C) l.length x (mem_of_get hx)
            have f2 := (hr.mat y (mem_of_get hy)).1
            have hxy : (x.2 = y.2) ↔ x = y := ⟨fun h => Prod.ext (by omega) h, fun h => by rw [h]⟩
            rw [show decide (x.2 = y.2) = decide (x = y) from decide_eq_decide.2 hxy]
            exact stepE
          · by_cases h : (mkv p (rzCh p l R C).length C (rzS p l R C) l.length).1 = l
            · rw [if_pos h, dT h]; rfl
            · rw [if_neg h, dF h]; rfl
        rw [dT hc, Bool.true_and]
        refine bnd (a := !decide ((mkv p (rzCh p l R C).length C (rzS p l R C) l.length).1 = l)) (stp (cFW rfl (bnd (ssGood p _) (stp ?_)))) ?_
        · have hsb2 : ssB p (rzS p l R C) = true := hsb
          refine cFW (nT hsb2) (bnd hIs rfl)
        · cases decide ((mkv p (rzCh p l R C).length C (rzS p l R C) l.length).1 = l) <;> rfl
      · have hsb : ssB p (rzS p l R C) = false := by
          cases hq : ssB p (rzS p l R C) with
          | false => rfl
          | true =>
            unfold ssB at hq
            simp only [Bool.and_eq_true, rng_true] at hq
            have := hq.1.1.1.1.1.1.2
            unfold rzS at this
            dsimp only at this
            omega
        rw [dF hc, Bool.false_and]
        refine bnd (a := true) (stp (cFW rfl (bnd (ssGood p _) (stp (cTW (nF hsb) rfl))))) rfl
theorem boundRealizeMarkov_0 (p : Int) (l : List Mat) : nStateSpace (wRealizeMarkov p l).1 ≤ 1048576 := by
  unfold wRealizeMarkov
  cases h : respB p l with
  | false =>
    show nStateSpace zSS ≤ _
    decide
  | true =>
    have hr := resp_core h
    rw [if_pos rfl]
    generalize (gm l 0).2.length = R at hr ⊢
    generalize (gm l 0).1.toNat = C at hr ⊢
    unfold rzW
    by_cases hc : (rzCh p l R C).length ≤ 24
    · have hSS := rzS_ok hr hc
      have hk := hSS.hk; have ho := hSS.ho
      split
      · have b1 : nIntSS (rzS p l R C).2.2.2.1 ≤ 1000 := rowsN_tiny (m := (rzS p l R C).2.2.2.1) (fun r hr => by have := (hSS.a.2 r hr).1; omega) (by have := hSS.a.1; omega)
        have b2 : nIntSS (rzS p l R C).2.2.2.2.1 ≤ 1000 := rowsN_tiny (m := (rzS p l R C).2.2.2.2.1) (fun r hr => by have := (hSS.b.2 r hr).1; omega) (by have := hSS.b.1; omega)
        have b3 : nIntSS (rzS p l R C).2.2.2.2.2.1 ≤ 1000 := rowsN_tiny (m := (rzS p l R C).2.2.2.2.2.1) (fun r hr => by have := (hSS.c.2 r hr).1; omega) (by have := hSS.c.1; omega)
        have b4 : nIntSS (rzS p l R C).2.2.2.2.2.2 ≤ 1000 := rowsN_tiny (m := (rzS p l R C).2.2.2.2.2.2) (fun r hr => by have := (hSS.d.2 r hr).1; omega) (by have := hSS.d.1; omega)
        show nStateSpace (rzS p l R C) ≤ _
        unfold nStateSpace
        omega
      · show nStateSpace zSS ≤ _
        decide
    · rw [dF hc, Bool.false_and, Bool.and_false]
      show nStateSpace zSS ≤ _
      decide
end
end Go.Proofs.YtocpeclcoikdpaaDoor
namespace Go.Proofs.YtocpeclcoikdpaaDoor
set_option linter.unusedVariables false

abbrev TyMatrixS := List TyMatrix
def nMatrixS (a : TyMatrixS) : Nat := matsS a
def lensMatrixS (a : TyMatrixS) : Prop := lenOk a ∧ ∀ m ∈ a, lensOk m.2
theorem niceLensMatrixS {a : TyMatrixS} (h : Nice.ok a) : lensMatrixS a := ⟨h.1, fun m hm => niceLens (h.2 m hm).2⟩
theorem z_MatrixS (a : TyMatrixS) (left : Int) (h0 : 0 ≤ left) (h1 : left ≤ bigN) (hl : lensMatrixS a) : F_laws_szMatrixS a left = some (if (nMatrixS a : Int) ≤ left then left - nMatrixS a else -1) := szMatrixS_ a left h0 h1 hl.1 hl.2
theorem t_MatrixS (a : TyMatrixS) (h : nMatrixS a ≤ 1048576) : F_laws_toMatrixS a = some a := toMatrixS_ a h
theorem e_MatrixS (a : TyMatrixS) (h : nMatrixS a ≤ 1048576) : F_laws_eqMatrixS a a = some true := by
  have hb : bigN = 4611686018427387904 := rfl
  refine eqMatrixS_same a (by unfold lenOk; unfold nMatrixS matsS at h; omega) (fun m hm => ?_)
  have h1 := mats_mem hm
  unfold nMatrixS at h
  refine ⟨?_, fun r hr => ?_⟩
  · have := rowsN_len0 m.2; unfold lenOk; omega
  · have := rowsN_len m.2 r hr; unfold lenOk; omega
def mk_MatrixS (a : TyMatrixS) (k : Int) : TyMatrixS × Int := mkMS a k
def cMatrixS (a : TyMatrixS) : Nat := tot matN a
theorem tot_matN : ∀ l : TyMatrixS, tot matN l ≤ l.length + tot matS l
  | [] => by simp [tot]
  | a :: l => by
    have ih := tot_matN l
    have h1 : matN a ≤ 1 + matS a := by unfold matN matS rowsN; omega
    unfold tot at *
    simp only [List.map_cons, List.sum_cons, List.length_cons]
    omega
theorem cMatrixS_le (a : TyMatrixS) : cMatrixS a ≤ 8 * nMatrixS a := by
  have := tot_matN a
  unfold cMatrixS nMatrixS matsS
  omega
theorem mk_MatrixS_snd (a : TyMatrixS) (k : Int) : (mk_MatrixS a k).2 = k + cMatrixS a := mkMS_snd a k
theorem m_MatrixS (a : TyMatrixS) (k : Int) (h0 : 0 ≤ k) (h : k + 8 * nMatrixS a ≤ 1125899906842624) : F_laws_markMatrixS a k = some (mk_MatrixS a k) := by
  have hb : bigN = 4611686018427387904 := rfl
  have h1 := tot_matN a
  have h2 : nMatrixS a = a.length + tot matS a := rfl
  refine markMatrixS a k h0 (by omega) (fun m hm => ?_) (by omega)
  have h3 := mats_mem hm
  have h4 := rowsN_len0 m.2
  have h5 : nMatrixS a = matsS a := rfl
  omega
end Go.Proofs.YtocpeclcoikdpaaDoor
namespace Go.Proofs.YtocpeclcoikdpaaDoor
set_option linter.unusedVariables false
theorem lawN_RealizeMarkov (a0 : Int) (a1 : List TyMatrix) (i0 : Nice.ok a0) (i1 : Nice.ok a1) : F_laws_FnExactRealizeMarkov a0 a1 = some true := by
  have hbig : bigN = 4611686018427387904 := rfl
  refine bnd (z_MatrixS a1 1048576 (by omega) (by rw [hbig]; omega) (niceLensMatrixS i1)) (stp ?_)
  by_cases gaM : (nMatrixS a1 : Int) ≤ 1048576
  case neg => rw [if_neg gaM]; exact cTW (dT (by omega)) rfl
  rw [if_pos gaM]
  refine cFW (dF (by omega)) ?_
  have haM : nMatrixS a1 ≤ 1048576 := by omega
  first
  | refine bnd (t_MatrixS a1 haM) (bnd (specRealizeMarkov a0 a1) ?_)
  | refine bnd (bnd (t_MatrixS a1 haM) (bnd (specRealizeMarkov a0 a1) rfl)) ?_
  refine bnd (t_MatrixS a1 haM) ?_
  refine bnd (implRealizeMarkov a0 a1) ?_
  have b0 : nStateSpace (wRealizeMarkov a0 a1).1 ≤ 1048576 := boundRealizeMarkov_0 a0 a1
  have cb0 := cStateSpace_le (wRealizeMarkov a0 a1).1
  refine bnd (a := false) (bnd (e_StateSpace _ b0) (stp (cFW rfl (stp (congrArg some (nT (dT rfl))))))) (cFW rfl ?_)
  refine bnd (t_MatrixS _ haM) (bnd (e_MatrixS _ haM) (stp (cFW rfl ?_)))
  have caM := cMatrixS_le a1
  refine bnd (m_MatrixS a1 _ (by omega) (by omega)) ?_
  refine bnd (a := false) (stp (cFW (dF (by simp only [mk_MatrixS_snd]; omega)) (bnd (e_StateSpace _ b0) (stp (cFW rfl (stp (congrArg some (nT (dT rfl))))))))) (cFW rfl ?_)
  refine bnd (m_StateSpace (wRealizeMarkov a0 a1).1 _ (by omega) (by omega)) ?_
  refine bnd (h_StateSpace (wRealizeMarkov a0 a1).1 _ (by omega) (by omega)) (stp (cFW (dF (by omega)) ?_))
  refine stp (cFW (nT (dT (by simp only [mk_StateSpace_snd]))) ?_)
  first
  | refine bnd (t_MatrixS a1 haM) (bnd (implRealizeMarkov a0 a1) ?_)
  | refine bnd (bnd (t_MatrixS a1 haM) (bnd (implRealizeMarkov a0 a1) rfl)) ?_
  refine bnd (a := false) (bnd (e_StateSpace _ b0) (stp (cFW rfl (stp (congrArg some (nT (dT rfl))))))) (cFW rfl ?_)
  refine bnd (h_StateSpace (wRealizeMarkov a0 a1).1 _ (by omega) (by omega)) (stp (cFW (dF (by omega)) ?_))
  refine stp (cFW (nT (dT (by simp only [mk_StateSpace_snd]))) ?_)
  rfl
end Go.Proofs.YtocpeclcoikdpaaDoor
