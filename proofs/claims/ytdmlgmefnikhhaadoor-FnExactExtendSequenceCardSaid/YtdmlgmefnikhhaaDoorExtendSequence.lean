/-
  What ExtendSequence of the program and of the reference return. Conditions: the arguments read as lists of numbers; the table of primes lies.
-/
import Derived.Test.YtdmlgmefnikhhaaDoorC3
namespace Go.Proofs.YtdmlgmefnikhhaaDoor
open Go
open Go.RowKit (Below)
open Go.Proofs.YtdmlgmefnikhhaaDoor.RW

theorem rzList_c (p : Int) (v : Value) (xs : List Int) (S : Nat → Prop) (w : World) (h : RdV w S v xs) :
    Calls Tryd.prog 10 #[.int .i64 p, v] w fun e w' => e = .returned (.bool (goodP p && decide (xs.length ≤ 60) && allEl p xs)) ∧ w = w' := by
  obtain ⟨A, m, c, rfl, hr⟩ := h.list
  obtain rfl := hr.1
  refine enter (args := [_, _]) gok Tryd.func10 rfl rfl rfl rfl rfl ?_
  refine call (fdGood_c _ _) ?_
  rintro _ _ ⟨rfl, rfl⟩
  refine ⟨_, rfl, ?_⟩
  cases hg : goodP p
  · exact ⟨by simp, rfl⟩
  · have hp := goodP_bd hg
    refine cmp (fun hl => ?_) (fun hl => ?_)
    · refine call (fdIn_c _ _ _ _ _ h (by omega)) ?_
      rintro _ _ ⟨rfl, rfl⟩
      refine ⟨_, rfl, ?_⟩
      have : xs.length ≤ 60 := by omega
      cases he : allEl p xs
      · exact ⟨by simp, rfl⟩
      · exact ⟨by simp [this], rfl⟩
    · have : ¬ xs.length ≤ 60 := by omega
      exact ⟨by simp [this], rfl⟩

theorem emod_mul (p a b : Int) : (a - b % p) % p = (a - b) % p := by rw [Int.sub_emod, Int.emod_emod_of_dvd _ (Int.dvd_refl p), ← Int.sub_emod]

def ExtC (f : Nat) : Prop := ∀ (p n : Int) (v u : Value) (s c : List Int) (S S' : Nat → Prop) (w : World), Lay w → RdV w S v s → RdV w S' u c → (∀ b, S b → b < w.heap.size) → (∀ b, S' b → b < w.heap.size) →
    Calls Tryd.prog f #[.int .i64 p, v, u, .int .i64 n] w fun e w' => ∃ r, e = .returned (.tuple #[r, .bool (extOk p s c n)]) ∧ Fresh w.heap.size w' r (extR p s c n) ∧ Ext w w'

theorem fresh_nil (B : Nat) (w : World) : Fresh (α := List Int) B w (.slice none 0 0) [] := ⟨[], OwnV.list_mk (.inl ⟨rfl, rfl, rfl, rfl, rfl⟩), fun b hb => by cases hb⟩

theorem extR_no {p n : Int} {s c : List Int} (h : extOk p s c n = false) : extR p s c n = [] := by rw [extR, h]; rfl

set_option maxRecDepth 10000 in
theorem spec_ext_c : ExtC 4 := by
  intro p n v u s c S S' w hL hv hu hS hS'
  obtain ⟨A, m, cs, rfl, hs⟩ := hv.list
  obtain ⟨A', m', cc, rfl, hc⟩ := hu.list
  obtain rfl := hs.1
  obtain rfl := hc.1
  have no : extOk p s c n = false → ∀ w' : World, w = w' → ∃ r, Ending.returned (.tuple #[.slice none 0 0, .bool false]) = .returned (.tuple #[r, .bool (extOk p s c n)]) ∧ Fresh w.heap.size w' r (extR p s c n) ∧ Ext w w' := by
    rintro h _ rfl
    rw [h, extR_no h]
    exact ⟨_, rfl, fresh_nil _ _, Upd.refl _ _⟩
  refine enter (args := [_, _, _, _]) gok Tryd.func4 rfl rfl rfl rfl rfl ?_
  refine call (rzList_c _ _ _ _ _ hv) ?_
  rintro _ _ ⟨rfl, rfl⟩
  refine ⟨_, rfl, ?_⟩
  cases h1 : goodP p && decide (s.length ≤ 60) && allEl p s
  · refine no ?_ _ rfl
    rw [Bool.eq_false_iff]; intro h
    obtain ⟨a1, a2, a3, a4, a5, a6⟩ := extOk_iff.1 h
    have : s.length ≤ 60 := by omega
    simp [a1, a2, this] at h1
  refine call (rzList_c _ _ _ _ _ hu) ?_
  rintro _ _ ⟨rfl, rfl⟩
  refine ⟨_, rfl, ?_⟩
  cases h2 : goodP p && decide (c.length ≤ 60) && allEl p c
  · refine no ?_ _ rfl
    rw [Bool.eq_false_iff]; intro h
    obtain ⟨a1, a2, a3, a4, a5, a6⟩ := extOk_iff.1 h
    have : c.length ≤ 60 := by omega
    simp [a1, a3, this] at h2
  refine call (l1In_c _ _ _ _) ?_
  rintro _ _ ⟨rfl, rfl⟩
  refine ⟨_, rfl, ?_⟩
  cases h3 : decide ((s.length : Int) ≤ n) && decide (n ≤ 60)
  · refine no ?_ _ rfl
    rw [Bool.eq_false_iff]; intro h
    obtain ⟨a1, a2, a3, a4, a5, a6⟩ := extOk_iff.1 h
    simp [a4, a5] at h3
  simp only [Bool.and_eq_true, decide_eq_true_eq] at h1 h2 h3
  refine cmp (fun h4 => ?_) (fun h4 => ?_)
  · refine no ?_ _ rfl
    rw [Bool.eq_false_iff]; intro h
    obtain ⟨a1, a2, a3, a4, a5, a6⟩ := extOk_iff.1 h
    omega
  have hok : extOk p s c n = true := extOk_iff.2 ⟨h1.1.1, h1.2, h2.2, h3.1, h3.2, by omega⟩
  have hp := goodP_bd h1.1.1
  have hlc : c.length ≤ s.length := by omega
  obtain ⟨N, rfl⟩ : ∃ N : Nat, n = N := ⟨n.toNat, by omega⟩
  have hR : extR p s c N = extL p c s (N - s.length) := by rw [extR, hok, if_pos rfl]; simp
  rw [hok, hR]
  refine call (l1Own_c _ _ _ _ hv hS (by omega)) ?_
  rintro _ w1 ⟨r, rfl, hf, hu1⟩
  refine ⟨_, rfl, ?_⟩
  refine loop (fun st : Nat × Value => [(0, .int .i64 p), (2, .slice A' c.length cc), (3, .int .i64 (N : Int)), (10, st.2), (11, .int .i64 ((s.length + st.1 : Nat) : Int))])
    (fun st w' => Ext w w' ∧ s.length + st.1 ≤ N ∧ Fresh w.heap.size w' st.2 (extL p c s st.1)) (fun st => N - (s.length + st.1)) (0, r) ⟨rfl, rfl, rfl, rfl, rfl, trivial⟩ ⟨hu1, by simp; omega, hf⟩ ?_
  rintro T0 ⟨j, r1⟩ w2 ⟨hu2, hj, hf2⟩
  simp only at hj hf2 ⊢
  have hel := extL_el (by omega) h1.2 j (c := c)
  have hlen := extL_len p c s j
  obtain ⟨fp, ho, hB⟩ := hf2
  obtain ⟨A1, n1, c1, rfl, ho1⟩ := ho.list
  obtain rfl := ho1.n_eq
  have hc2 : RdL w2 S' A' c.length cc c := hc.keep (Rep.rd_keep fun b hb => hu2.block b (hS' b hb) (by simp)) (fun b hb => hu2.block b (hS' b hb) (by simp))
  refine cmp (fun hlt => ?_) (fun hlt => ?_)
  · have hlt' : s.length + j < N := by omega
    refine loop (fun i : Nat => [(0, .int .i64 p), (2, .slice A' c.length cc), (3, .int .i64 (N : Int)), (10, .slice A1 (extL p c s j).length c1), (11, .int .i64 ((s.length + j : Nat) : Int)), (12, .int .i64 ((-(dotR c (extL p c s j) i)) % p)), (48, .slice A' c.length cc), (49, .int .i64 c.length), (50, .int .i64 (i : Int))])
      (fun i w' => w2 = w' ∧ i ≤ c.length) (fun i => c.length - i) 0 ⟨rfl, rfl, rfl, rfl, rfl, by simp [dotR]; rfl, rfl, rfl, rfl, trivial⟩ ⟨rfl, Nat.zero_le _⟩ ?_
    rintro T1 i _ ⟨rfl, hi⟩
    refine cmp (fun hlt2 => ?_) (fun hlt2 => ?_)
    · have hi' : i < c.length := by omega
      obtain ⟨b, o, rfl, hcell, _⟩ := RdL.atI hc2 hi'
      refine idx i rfl hi' (load1 hcell ?_)
      refine ar (by omega) (ar (by omega) ?_)
      have hk : (extL p c s j).length - 1 - i < (extL p c s j).length := by omega
      obtain ⟨b1, o1, rfl, hcell1, _⟩ := RdL.atI (OwnL.rdL ho1) hk
      refine idx ((extL p c s j).length - 1 - i) (by omega) hk (load1 hcell1 ?_)
      have e1 := allEl_get h2.2 hi'
      have e2 := allEl_get hel hk
      refine call (fdMul_c _ _ _ _ hp.1 hp.2 e1 e2) ?_
      rintro _ _ ⟨rfl, rfl⟩
      refine ⟨_, rfl, ?_⟩
      refine call (fdSub_c _ _ _ _ hp.1 hp.2 ⟨Int.emod_nonneg _ (by omega), Int.emod_lt_of_pos _ (by omega)⟩ ⟨Int.emod_nonneg _ (by omega), Int.emod_lt_of_pos _ (by omega)⟩) ?_
      rintro _ _ ⟨rfl, rfl⟩
      refine ⟨_, rfl, ?_⟩
      refine ar (by omega) ?_
      refine ⟨i + 1, ⟨rfl, rfl, rfl, rfl, rfl, ?_, rfl, rfl, rfl, trivial⟩, ⟨rfl, hi'⟩, by omega⟩
      show Value.int .i64 _ = Value.int .i64 _
      congr 1
      rw [← dotR_step, getD_eq hi', getD_eq hk]
    · have hic : i = c.length := by omega
      subst hic
      have hnb := nxt_bd c (extL p c s j) (show 0 < p by omega)
      refine appI gok rfl rfl ho1 (show inI (nxt p c (extL p c s j)) by unfold inI; omega) (by omega) ?_
      intro v1 w3 A2 c2 w4 fp2 ho2 hu3 hsub
      refine ar (by omega) ?_
      refine ⟨(j + 1, _), ⟨rfl, rfl, rfl, rfl, rfl, trivial⟩, ⟨hu2.trans (fp := []) hu3 (fun b hb => .inr (hB b hb)), by simp; omega, ⟨fp2, OwnV.list_mk ho2, fun b hb => ?_⟩⟩, by simp; omega⟩
      rcases hsub b hb with h | h
      · exact hB b h
      · exact Nat.le_trans hu2.size h
  · have hjN : N - s.length = j := by omega
    rw [hjN]
    exact ⟨_, rfl, ⟨fp, OwnV.list_mk ho1, hB⟩, hu2⟩
set_option maxRecDepth 10000 in
theorem impl_ext_c : ExtC 6 := by
  intro p n v u s c S S' w hL hv hu hS hS'
  obtain ⟨A, m, cs, rfl, hs⟩ := hv.list
  obtain ⟨A', m', cc, rfl, hc⟩ := hu.list
  obtain rfl := hs.1
  obtain rfl := hc.1
  have no : extOk p s c n = false → ∀ w' : World, w = w' → ∃ r, Ending.returned (.tuple #[.slice none 0 0, .bool false]) = .returned (.tuple #[r, .bool (extOk p s c n)]) ∧ Fresh w.heap.size w' r (extR p s c n) ∧ Ext w w' := by
    rintro h _ rfl
    rw [h, extR_no h]
    exact ⟨_, rfl, fresh_nil _ _, Upd.refl _ _⟩
  refine enter (args := [_, _, _, _]) gok Tryd.func6 rfl rfl rfl rfl rfl ?_
  refine call (isField_c _ _ hL) ?_
  rintro _ _ ⟨rfl, rfl⟩
  refine ⟨_, rfl, ?_⟩
  cases h1 : goodP p
  · refine no ?_ _ rfl
    rw [Bool.eq_false_iff]; intro h
    rw [(extOk_iff.1 h).1] at h1; cases h1
  have hp := goodP_bd h1
  refine call (isVector_c _ _ _ _ _ _ hv) ?_
  rintro _ _ ⟨rfl, rfl⟩
  refine ⟨_, rfl, ?_⟩
  cases h2 : allEl p s
  · rw [Bool.and_false]
    refine no ?_ _ rfl
    rw [Bool.eq_false_iff]; intro h
    rw [(extOk_iff.1 h).2.1] at h2; cases h2
  rw [show (decide ((s.length : Int) = s.length) && true) = true from by simp]
  refine cmp (fun h3 => ?_) (fun h3 => ?_)
  · refine no ?_ _ rfl
    rw [Bool.eq_false_iff]; intro h
    obtain ⟨a1, a2, a3, a4, a5, a6⟩ := extOk_iff.1 h
    omega
  refine call (isVector_c _ _ _ _ _ _ hu) ?_
  rintro _ _ ⟨rfl, rfl⟩
  refine ⟨_, rfl, ?_⟩
  cases h4 : allEl p c
  · rw [Bool.and_false]
    refine no ?_ _ rfl
    rw [Bool.eq_false_iff]; intro h
    rw [(extOk_iff.1 h).2.2.1] at h4; cases h4
  rw [show (decide ((c.length : Int) = c.length) && true) = true from by simp]
  refine call (within_c _ _ _ _) ?_
  rintro _ _ ⟨rfl, rfl⟩
  refine ⟨_, rfl, ?_⟩
  cases h5 : decide (0 ≤ n) && decide (n ≤ 60)
  · refine no ?_ _ rfl
    rw [Bool.eq_false_iff]; intro h
    obtain ⟨a1, a2, a3, a4, a5, a6⟩ := extOk_iff.1 h
    have : 0 ≤ n := by omega
    simp [this, a5] at h5
  simp only [Bool.and_eq_true, decide_eq_true_eq] at h5
  refine cmp (fun h6 => ?_) (fun h6 => ?_)
  · refine no ?_ _ rfl
    rw [Bool.eq_false_iff]; intro h
    obtain ⟨a1, a2, a3, a4, a5, a6⟩ := extOk_iff.1 h
    omega
  refine cmp (fun h7 => ?_) (fun h7 => ?_)
  · refine no ?_ _ rfl
    rw [Bool.eq_false_iff]; intro h
    obtain ⟨a1, a2, a3, a4, a5, a6⟩ := extOk_iff.1 h
    omega
  have hok : extOk p s c n = true := extOk_iff.2 ⟨h1, h2, h4, by omega, h5.2, by omega⟩
  have hlc : c.length ≤ s.length := by omega
  obtain ⟨N, rfl⟩ : ∃ N : Nat, n = N := ⟨n.toNat, by omega⟩
  have hR : extR p s c N = extL p c s (N - s.length) := by rw [extR, hok, if_pos rfl]; simp
  rw [hok, hR]
  refine call (clone_c _ _ _ _ hv hS (by omega)) ?_
  rintro _ w1 ⟨r, rfl, hf, hu1⟩
  refine ⟨_, rfl, ?_⟩
  refine loop (fun st : Nat × Value => [(0, .int .i64 p), (2, .slice A' c.length cc), (3, .int .i64 (N : Int)), (10, st.2), (11, .int .i64 ((s.length + st.1 : Nat) : Int))])
    (fun st w' => Ext w w' ∧ s.length + st.1 ≤ N ∧ Fresh w.heap.size w' st.2 (extL p c s st.1)) (fun st => N - (s.length + st.1)) (0, r) ⟨rfl, rfl, rfl, rfl, rfl, trivial⟩ ⟨hu1, by simp; omega, hf⟩ ?_
  rintro T0 ⟨j, r1⟩ w2 ⟨hu2, hj, hf2⟩
  simp only at hj hf2 ⊢
  have hel := extL_el (by omega) h2 j (c := c)
  have hlen := extL_len p c s j
  obtain ⟨fp, ho, hB⟩ := hf2
  obtain ⟨A1, n1, c1, rfl, ho1⟩ := ho.list
  obtain rfl := ho1.n_eq
  have hc2 : RdL w2 S' A' c.length cc c := hc.keep (Rep.rd_keep fun b hb => hu2.block b (hS' b hb) (by simp)) (fun b hb => hu2.block b (hS' b hb) (by simp))
  refine cmp (fun hlt => ?_) (fun hlt => ?_)
  · have hlt' : s.length + j < N := by omega
    refine loop (fun i : Nat => [(0, .int .i64 p), (2, .slice A' c.length cc), (3, .int .i64 (N : Int)), (10, .slice A1 (extL p c s j).length c1), (11, .int .i64 ((s.length + j : Nat) : Int)), (12, .int .i64 (dotR c (extL p c s j) i)), (66, .slice A' c.length cc), (67, .int .i64 c.length), (68, .int .i64 (i : Int))])
      (fun i w' => w2 = w' ∧ i ≤ c.length) (fun i => c.length - i) 0 ⟨rfl, rfl, rfl, rfl, rfl, rfl, rfl, rfl, rfl, trivial⟩ ⟨rfl, Nat.zero_le _⟩ ?_
    rintro T1 i _ ⟨rfl, hi⟩
    refine cmp (fun hlt2 => ?_) (fun hlt2 => ?_)
    · have hi' : i < c.length := by omega
      obtain ⟨b, o, rfl, hcell, _⟩ := RdL.atI hc2 hi'
      refine idx i rfl hi' (load1 hcell ?_)
      refine ar (by omega) (ar (by omega) ?_)
      have hk : (extL p c s j).length - 1 - i < (extL p c s j).length := by omega
      obtain ⟨b1, o1, rfl, hcell1, _⟩ := RdL.atI (OwnL.rdL ho1) hk
      refine idx ((extL p c s j).length - 1 - i) (by omega) hk (load1 hcell1 ?_)
      have e1 := allEl_get h4 hi'
      have e2 := allEl_get hel hk
      have h8 := dotR_bd (p := p) (by omega) h4 hel (by omega) i (by omega)
      have h9 := dotR_bd (p := p) (by omega) h4 hel (by omega) (i + 1) (by omega)
      have h10 : dotR c (extL p c s j) (i + 1) = dotR c (extL p c s j) i + c[i] * (extL p c s j)[(extL p c s j).length - 1 - i] := by rw [dotR, getD_eq hi', getD_eq hk]
      refine ar (by omega) (ar (by omega) (ar (by omega) ?_))
      refine ⟨i + 1, ⟨rfl, rfl, rfl, rfl, rfl, ?_, rfl, rfl, rfl, trivial⟩, ⟨rfl, hi'⟩, by omega⟩
      show Value.int .i64 _ = Value.int .i64 _
      rw [h10]
    · have hic : i = c.length := by omega
      subst hic
      have hnb := nxt_bd c (extL p c s j) (show 0 < p by omega)
      have h8 := dotR_bd (p := p) (by omega) h4 hel (by omega) c.length (Nat.le_refl _)
      refine ar (by omega) ?_
      rw [show (0 - dotR c (extL p c s j) c.length) = -(dotR c (extL p c s j) c.length) from by omega]
      refine call (mod_c _ _ _ hp.1 hp.2) ?_
      rintro _ _ ⟨rfl, rfl⟩
      refine ⟨_, rfl, ?_⟩
      refine appI gok rfl rfl ho1 (show inI (nxt p c (extL p c s j)) by unfold inI; omega) (by omega) ?_
      intro v1 w3 A2 c2 w4 fp2 ho2 hu3 hsub
      refine ar (by omega) ?_
      refine ⟨(j + 1, _), ⟨rfl, rfl, rfl, rfl, rfl, trivial⟩, ⟨hu2.trans (fp := []) hu3 (fun b hb => .inr (hB b hb)), by simp; omega, ⟨fp2, OwnV.list_mk ho2, fun b hb => ?_⟩⟩, by simp; omega⟩
      rcases hsub b hb with h | h
      · exact hB b h
      · exact Nat.le_trans hu2.size h
  · have hjN : N - s.length = j := by omega
    rw [hjN]
    exact ⟨_, rfl, ⟨fp, OwnV.list_mk ho1, hB⟩, hu2⟩
end Go.Proofs.YtdmlgmefnikhhaaDoor
