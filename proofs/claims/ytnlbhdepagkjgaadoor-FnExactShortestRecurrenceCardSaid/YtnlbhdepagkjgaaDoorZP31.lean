/-
  Plain laws: the solution that is first is unique; the law of ShortestRecurrence. No program in sight. No condition.
-/
import Derived.Test.YtnlbhdepagkjgaaDoorZP30
namespace Go.Proofs.YtnlbhdepagkjgaaDoor
set_option linter.unusedVariables false

theorem redT_take {p : Int} {n : Nat} {m : Rows} : (redT p n m).1.take (redT p n m).2.2 = redM p n m := by
  obtain ⟨e1, e2⟩ := redLoop_any p n 0 m m (idN m.length) 0
  unfold redT redM
  rw [e1, e2]
theorem solB_iff {p : Int} {n : Nat} {m : Rows} {v : List Int} (hf : fdB p = true) (h : okM p n m) (hv : okR p n v) : solB p n m v = true ↔ inSpan p n m v := by
  obtain ⟨f1, f2, f3, f4, f5, f6⟩ := redT_facts hf h
  have hs := redM_span hf h
  unfold solB
  rw [hasB_iff hf f6 hv, redT_take]
  exact ⟨fun k => inSpan_trans hs.1 k, fun k => inSpan_trans hs.2 k⟩
theorem solX_ok {p : Int} {n : Nat} {m : Rows} {v : List Int} (hf : fdB p = true) (h : okM p n m) : okR p m.length (solX p n m v) := by
  obtain ⟨f1, f2, f3, f4, f5, f6⟩ := redT_facts hf h
  exact combR_ok (fdB_rng hf).1 (fun x hx => f4 x (List.mem_of_mem_take hx))
theorem solX_dot {p : Int} {n : Nat} {m : Rows} {v : List Int} (hf : fdB p = true) (h : okM p n m) (hv : okR p n v) (hb : solB p n m v = true) : ∀ j, j < n → sg m.length (fun t => el (solX p n m v) t * el (gr m t) j) % p = el v j := by
  have hp := fdB_rng hf
  obtain ⟨f1, f2, f3, f4, f5, f6⟩ := redT_facts hf h
  have hrel := redT_rel hf h
  have hb' : combR p n ((redT p n m).1.take (redT p n m).2.2) (coordsL ((redT p n m).1.take (redT p n m).2.2) v) = v := of_decide_eq_true hb
  intro j hj
  have hT : okM p m.length ((redT p n m).2.1.take (redT p n m).2.2) := fun x hx => f4 x (List.mem_of_mem_take hx)
  have lT : ((redT p n m).2.1.take (redT p n m).2.2).length = (redT p n m).2.2 := by rw [List.length_take]; omega
  have lR : ((redT p n m).1.take (redT p n m).2.2).length = (redT p n m).2.2 := by rw [List.length_take]; omega
  have lC : (coordsL ((redT p n m).1.take (redT p n m).2.2) v).length = (redT p n m).2.2 := by unfold coordsL; rw [List.length_map, lR]
  have e1 : el v j = sg (redT p n m).2.2 (fun i => el (coordsL ((redT p n m).1.take (redT p n m).2.2) v) i * el (gr (redT p n m).1 i) j) % p := by
    conv => lhs; rw [← hb']
    rw [el_combR hp.1 f6.ok (by omega) hj, lR]
    exact congrArg (· % p) (sg_congr fun i hi => by rw [gr_take hi])
  rw [e1]
  rw [sg_mod (g := fun t => sg (redT p n m).2.2 (fun i => el (coordsL ((redT p n m).1.take (redT p n m).2.2) v) i * el (gr (redT p n m).2.1 i) t) * el (gr m t) j) (fun t ht => by
    unfold solX
    rw [el_combR hp.1 hT (by omega) ht, mul_mod1, lT]
    exact congrArg (fun z => (z * el (gr m t) j) % p) (sg_congr fun i hi => by rw [gr_take hi]))]
  rw [sg_mod (f := fun i => el (coordsL ((redT p n m).1.take (redT p n m).2.2) v) i * el (gr (redT p n m).1 i) j) (g := fun i => el (coordsL ((redT p n m).1.take (redT p n m).2.2) v) i * sg m.length (fun t => el (gr (redT p n m).2.1 i) t * el (gr m t) j)) (fun i hi => by
    rw [← mul_mod2, hrel i (by omega) j hj, mul_mod2])]
  congr 1
  rw [sg_congr (g := fun t => sg (redT p n m).2.2 (fun i => el (coordsL ((redT p n m).1.take (redT p n m).2.2) v) i * el (gr (redT p n m).2.1 i) t * el (gr m t) j)) (fun t _ => (sg_mulr _ _ _).symm), sg_comm]
  refine sg_congr fun i _ => ?_
  rw [← sg_mul]
  exact sg_congr fun t _ => Int.mul_assoc _ _ _
section
variable {p : Int} {s : List Int} {m K : Nat}
theorem rcRow_len : (rcRow s m K).length = m := rmap_len _
theorem rc_iff (hf : fdB p = true) (hs : inP p s) (hK : m + K = s.length) : solB p K (rcRow s m K) (rcWant p s m K) = true ↔ fsB m (redM p (m + 1) (rcW p s m K)) = true := by
  have hp := fdB_rng hf
  rw [solB_iff hf (rcRow_ok hs hK) (rcWant_ok hp.1)]
  constructor
  · rintro ⟨x, hx⟩
    refine fs_of hf hs hK (x := x) (fun u hu => ?_)
    have := hx u hu
    rw [rcRow_len] at this
    unfold rcWant at this
    rw [el_rmap _ hu, mod_mod] at this
    rw [this]
    exact congrArg (· % p) (sg_congr fun i hi => by rw [rcRow_el hi hu])
  · intro h
    refine ⟨fun i => el (fsX m (redM p (m + 1) (rcW p s m K)) (redM p (m + 1) (rcW p s m K)).length) i, fun u hu => ?_⟩
    have := fs_solves hf hs hK h u hu
    rw [rcRow_len]
    unfold rcWant
    rw [el_rmap _ hu, mod_mod, ← this]
    exact congrArg (· % p) (sg_congr fun i hi => by rw [rcRow_el hi hu])
/-- the lists whose product with the equations is zero -/
def rcKer (p : Int) (s : List Int) (m K : Nat) : Rows := nulM p m (trM (rcRow s m K) K)
theorem rcTr_ok (hs : inP p s) (hK : m + K = s.length) : okM p m (trM (rcRow s m K) K) := by
  have := trM_ok (rcRow_ok hs hK) (Nat.le_refl K)
  rw [rcRow_len] at this; exact this
theorem rcTr_el {u i : Nat} (hu : u < K) (hi : i < m) : el (gr (trM (rcRow s m K) K) u) i = el s (m + u - 1 - i) := by
  rw [trM_gr hu, colM_el (by rw [rcRow_len]; exact hi), rcRow_el hi hu]
theorem rc_same (hf : fdB p = true) (hs : inP p s) (hK : m + K = s.length) (hb : fsB m (redM p (m + 1) (rcW p s m K)) = true) :
    fsX m (redM p (m + 1) (rcW p s m K)) (redM p (m + 1) (rcW p s m K)).length = restN p (solX p K (rcRow s m K) (rcWant p s m K)) (rcKer p s m K) (rcKer p s m K).length := by
  have hp := fdB_rng hf
  have hW := rcW_ok hp.1 hs hK
  have hR := redM_red hf hW
  have hsp := (redM_span hf hW).1
  have hsol := fs_solves hf hs hK hb
  have hsb := (rc_iff hf hs hK).2 hb
  have hTr := rcTr_ok hs hK
  have hKer : Red p m (rcKer p s m K) := nulM_red hf
  have hKi : ∀ x, inSpan p m (rcKer p s m K) x ↔ perp p m (trM (rcRow s m K) K) x := fun x => nulM_iff hf hTr x
  have hcd := solX_dot hf (rcRow_ok hs hK) (rcWant_ok hp.1) hsb
  have hco : okR p m (solX p K (rcRow s m K) (rcWant p s m K)) := by have := solX_ok (v := rcWant p s m K) hf (rcRow_ok (p := p) hs hK); rw [rcRow_len] at this; exact this
  rw [rcRow_len] at hcd
  have hxo := fsX_ok hp.1 hR.ok (redM p (m + 1) (rcW p s m K)).length (Nat.le_refl _)
  generalize redM p (m + 1) (rcW p s m K) = R at hR hsp hb hsol hxo ⊢
  generalize solX p K (rcRow s m K) (rcWant p s m K) = c at hcd hco ⊢
  generalize rcKer p s m K = Ker at hKer hKi ⊢
  obtain ⟨e1, e2⟩ := fsX_el hp.1 hR hb R.length (Nat.le_refl _)
  generalize fsX m R R.length = x at hsol hxo e1 e2 ⊢
  -- x is zero where the lists of the kernel lead
  have hz : ∀ t, t < Ker.length → el x (leadN (gr Ker t)) = 0 := by
    intro t ht
    have hq := hKer.lt t ht
    refine e2 _ hq (fun i hi he => ?_)
    have hk := (hKi _).1 (inSpan_row ht)
    have hd := dot_span (m := rcW p s m K) (n := m + 1) (v := gr R i) (fun j => if j < m then el (gr Ker t) (m - 1 - j) else 0) (fun u hu => by
      unfold rcW at hu
      rw [rmap_len] at hu
      have h1 := hk u (by rw [trM_len]; exact hu)
      refine Eq.trans ?_ h1
      congr 1
      show sg m _ + _ = _
      dsimp only
      rw [if_neg (by omega), Int.zero_mul, Int.add_zero, sg_congr (g := fun j => (fun q => el (gr Ker t) q * el s (m + u - 1 - q)) (m - 1 - j)) (fun j hj => by
        dsimp only; rw [if_pos hj, rcW_el hu hj, show m + u - 1 - (m - 1 - j) = u + j by omega]), sg_rev (fun q => el (gr Ker t) q * el s (m + u - 1 - q)) m]
      exact sg_congr fun q hq' => by rw [rcTr_el hu hq', Int.mul_comm]) (hsp i hi)
    have e : sg (m + 1) (fun j => (if j < m then el (gr Ker t) (m - 1 - j) else 0) * el (gr R i) j) = 1 := by
      show sg m _ + _ = _
      dsimp only
      rw [if_neg (by omega), Int.zero_mul, Int.add_zero, sg_one (i0 := leadN (gr R i)) (k := m) (by omega) (fun j hj hne => by
        rw [if_pos hj]
        by_cases hlt : j < leadN (gr R i)
        · rw [leadN_z (gr R i) j hlt, Int.mul_zero]
        · rw [leadN_z (gr Ker t) (m - 1 - j) (by omega), Int.zero_mul]), if_pos (by omega), hR.one i hi, he, show m - 1 - (m - 1 - leadN (gr Ker t)) = leadN (gr Ker t) by omega, hKer.one t ht]
      rfl
    rw [e, Int.emod_eq_of_lt (by omega) (by omega)] at hd
    omega
  -- the difference is in the kernel
  have hdk : inSpan p m Ker ((List.range m).map fun j => el x j - el c j) := by
    rw [hKi]
    intro u hu
    rw [trM_len] at hu
    have h1 := hsol u hu
    have h2 := hcd u hu
    unfold rcWant at h2
    rw [el_rmap _ hu] at h2
    have e : sg m (fun j => el (gr (trM (rcRow s m K) K) u) j * el ((List.range m).map fun j => el x j - el c j) j) = sg m (fun i => el x i * el s (m + u - 1 - i)) - sg m (fun i => el c i * el (gr (rcRow s m K) i) u) := by
      rw [← sg_sub]
      exact sg_congr fun j hj => by rw [rcTr_el hu hj, el_rmap _ hj, rcRow_el hj hu, Int.mul_sub, Int.mul_comm, Int.mul_comm (el s _) (el c j)]
    rw [e]
    exact sub_of_mod (by rw [h1, h2])
  have hld := span_leads hKer hdk
  obtain ⟨hre, _⟩ := restN_el hp.1 hKer hco Ker.length (Nat.le_refl _)
  have hro := restN_ok (b := Ker) hp.1 hco Ker.length
  refine ext_el (by rw [hxo.1, hro.1]) (fun j hj => ?_)
  have hjm : j < m := by rw [hxo.1] at hj; exact hj
  rw [hre j hjm, ← emod_sm (hxo.2 _ (el_mem hj))]
  have h1 := hld j hjm
  rw [el_rmap _ hjm] at h1
  refine mod_of_sub ?_
  have h2 := sub_of_mod h1
  rw [sg_congr (g := fun t => -(el c (leadN (gr Ker t)) * el (gr Ker t) j)) (fun t ht => by rw [el_rmap _ (hKer.lt t ht), hz t ht, Int.zero_sub, Int.neg_mul]), sg_neg] at h2
  rw [← h2]
  congr 1
  omega
end
end Go.Proofs.YtnlbhdepagkjgaaDoor
