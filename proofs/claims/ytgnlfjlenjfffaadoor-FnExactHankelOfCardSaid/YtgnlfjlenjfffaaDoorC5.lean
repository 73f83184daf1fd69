/-
  Contracts: the tests for a response. Conditions: the arguments read so; the table of primes lies.
-/
import Derived.Test.YtgnlfjlenjfffaaDoorC4
namespace Go.Proofs.YtgnlfjlenjfffaaDoor
open Go
open Go.RowKit (Below)
open Go.Proofs.YtgnlfjlenjfffaaDoor.RW
open Rep Szn MkE

set_option maxRecDepth 10000 in
theorem rzResponse_c (p : Int) (v : Value) (m : List Mx) (S : Nat → Prop) (w : World) (_ : Lay w) (h : RdV w S v m) (hS : ∀ b, S b → b < w.heap.size) :
    Calls Tryd.prog 28 #[.int .i64 p, v] w fun e w' => e = .returned (.bool (respOk p m)) ∧ Ext w w' := by
  obtain ⟨A, n, c, rfl, hr⟩ := h.list
  obtain rfl := hr.1
  have hmm : maxLen = 9223372036854775807 := rfl
  have hcm := hr.2.2.1
  have hlc := hr.2.1
  refine enter (args := [_, _]) gok Tryd.func28 rfl rfl rfl rfl rfl ?_
  refine call (fdGood_c _ _) ?_
  rintro _ _ ⟨rfl, rfl⟩
  refine ⟨_, rfl, ?_⟩
  cases hg : goodP p
  · exact ⟨by unfold respOk; split <;> simp [hg], Upd.refl _ _⟩
  refine call (l1In_c _ _ _ _) ?_
  rintro _ _ ⟨rfl, rfl⟩
  refine ⟨_, rfl, ?_⟩
  cases h1 : decide ((1 : Int) ≤ (m.length : Int)) && decide ((m.length : Int) ≤ 60)
  · refine ⟨?_, Upd.refl _ _⟩
    unfold respOk
    split
    · rfl
    · rename_i x r
      have : decide ((x :: r).length ≤ 60) = false := by
        rw [decide_eq_false_iff_not]; intro h2
        rw [Bool.eq_false_iff] at h1
        apply h1
        simp only [Bool.and_eq_true, decide_eq_true_eq, List.length_cons] at h2 ⊢
        omega
      rw [this, Bool.and_false, Bool.false_and, Bool.false_and, Bool.false_and]
  simp only [Bool.and_eq_true, decide_eq_true_eq] at h1
  have h0 : 0 < m.length := by omega
  have hresp : respOk p m = (m.all (shaped p m[0].2.length m[0].1) && decide (m[0].2.length ≤ 8) && decide (m[0].1 ≤ 8)) := by
    cases m with
    | nil => simp at h0
    | cons x r =>
      have : decide ((x :: r).length ≤ 60) = true := decide_eq_true (by omega)
      simp only [respOk, hg, this, Bool.true_and, List.getElem_cons_zero]
  rw [hresp]
  refine loop (fun k : Nat => [(0, .int .i64 p), (1, .slice A m.length c), (16, .slice A m.length c), (17, .int .i64 m.length), (18, .int .i64 k)])
    (fun k w' => Ext w w' ∧ k ≤ m.length ∧ (m.take k).all (shaped p m[0].2.length m[0].1) = true) (fun k => m.length - k) 0 ⟨rfl, rfl, rfl, rfl, rfl, trivial⟩ ⟨Upd.refl _ _, Nat.zero_le _, rfl⟩ ?_
  rintro T0 k w2 ⟨hu, hk, hq⟩
  have hr2 := hr.ext_ hS hu
  obtain ⟨b0, o0, A0, n0, c0, hA0, _, hc0, hi0, hv0⟩ := hr2.atM h0
  subst hA0
  refine cmp (fun hlt => ?_) (fun hlt => ?_)
  · have hlt' : k < m.length := by omega
    obtain ⟨b, o, A', n', c', hA, _, hc, hi1, hv⟩ := hr2.atM hlt'
    obtain ⟨rfl, rfl⟩ : b0 = b ∧ o0 = o := by simpa using hA
    refine idx k rfl hlt' (loadN [.int .i64 m[k].1, .slice A' n' c'] rfl hc ?_)
    refine alloc_ gok rfl ?_
    intro w3 hb3 hu3 l3
    refine stA (cs' := #[.int .i64 m[k].1, .slice A' n' c']) gok rfl hb3 rfl (by simp [Value.oneCell']) ?_
    intro w4 hb4 hu4
    have hu24 : Ext w2 w4 := hu3.trans (fp := []) hu4 (fun b hb => .inr (by simp only [List.mem_singleton] at hb; omega))
    have hu4' : Ext w w4 := hu.trans hu24 (fun _ h => by cases h)
    have hr4 := hr.ext_ hS hu4'
    have out : shaped p m[0].2.length m[0].1 m[k] = false → ∀ w' : World, Ext w4 w' → Ending.returned (Value.bool false) = .returned (.bool (m.all (shaped p m[0].2.length m[0].1) && decide (m[0].2.length ≤ 8) && decide (m[0].1 ≤ 8))) ∧ Ext w w' := fun h w' hw' =>
      ⟨by rw [all_false hlt' h]; rfl, hu4'.trans hw' (fun _ h => by cases h)⟩
    refine held (Upd [] w4) [(false, 0), (true, 1), (true, 2), (false, 3), (false, 4), (false, 5), (false, 8), (false, 9), (false, 10), (false, 6), (false, 7), (true, 11), (false, 12), (false, 13), (false, 14), (false, 15), (false, 16), (false, 18), (false, 19), (false, 20), (false, 17), (true, 21), (false, 22), (false, 23)] mixed (by kernel_rfl) (ext_drewN 1) ?_
    refine loadN [.int .i64 m[k].1, .slice A' n' c'] rfl hb4.all (hold (ext_drewN 1) ?_)
    refine call (mxGood_c _ _ m[k] (fun i => i < w4.heap.size) _ (((RdV.pair_mk hi1 hv).keep fun b hb => hu24.block b (Nat.lt_of_lt_of_le (hS b hb) hu.size) (by simp)).drewN 1 |>.mono fun b hb => Nat.lt_of_lt_of_le (hS b hb) hu4'.size) (fun b hb => hb)) ?_
    rintro _ w5 ⟨rfl, hu5⟩
    have hu5' : Ext w4 w5 := (ext_drewN 1).trans hu5 (fun _ h => by cases h)
    refine ⟨_, rfl, hold hu5' ?_⟩
    cases h2 : mxOk p m[k]
    · exact out (by rw [shaped, h2]; rfl) _ hu5'
    have hst : ∀ w', Ext w4 w' → Blk w' w2.heap.size [.int .i64 m[k].1, .slice A' n' c'] := fun w' hw' => hb4.ext hw'
    refine anyH (fun w' => fld gok rfl rfl rfl rfl ⟨rfl, rfl⟩) ?_
    refine idx 0 rfl h0 ?_
    refine anyH (fun w' => fld gok rfl rfl rfl rfl ⟨rfl, rfl⟩) ?_
    refine loadH (fun w' hw' => (hst w' hw').get rfl) ?_
    have hc4 : ∀ (j : Nat) (u : Value), ([.int .i64 m[0].1, .slice A0 n0 c0] : List Value)[j]? = some u → ∀ w', Ext w4 w' → w'.cell? (Addr.add (Addr.add ⟨b0, o0, none⟩ (0 * 2)) j) = some u := fun j u hj w' hw' =>
      cellU (hc0 j u hj) (by simp) w' (hu24.trans hw' (fun _ h => by cases h))
    refine load1 (hc4 1 _ rfl _ hu5') (hold hu5' ?_)
    refine cmp (fun h3 => ?_) (fun h3 => ?_)
    rotate_left
    · exact out (by
        have e1 := hv0.1; have e2 := hv.1
        rw [shaped, h2, decide_eq_false (show ¬ ((m[k].2.length : Int) = m[0].2.length) by omega)]; rfl) _ hu5'
    refine anyH (fun w' => fld gok rfl rfl rfl rfl ⟨rfl, rfl⟩) ?_
    refine idx 0 rfl h0 ?_
    refine anyH (fun w' => fld gok rfl rfl rfl rfl ⟨rfl, rfl⟩) ?_
    refine loadH (fun w' hw' => (hst w' hw').get rfl) ?_
    refine load1 (hc4 0 _ rfl _ hu5') (hold hu5' ?_)
    refine cmp (fun h4 => ?_) (fun h4 => ?_)
    rotate_left
    · exact out (by rw [shaped, decide_eq_false h4, Bool.and_false]) _ hu5'
    refine ar (by omega) ?_
    refine ⟨k + 1, ⟨rfl, rfl, rfl, rfl, rfl, trivial⟩, ⟨hu4'.trans hu5' (fun _ h => by cases h), hlt', ?_⟩, by omega⟩
    have e1 := hv0.1
    have e2 := hv.1
    rw [all_take_succ hlt', hq, shaped, h2, decide_eq_true h4, decide_eq_true (show (m[k].2.length : Int) = m[0].2.length by omega)]; rfl
  · have hkl : k = m.length := by omega
    subst hkl
    rw [List.take_length] at hq
    have e1 := hv0.1
    refine idx 0 rfl h0 ?_
    refine fld gok rfl rfl rfl rfl (load1 (hc0 1 _ rfl) ?_)
    refine cmp (fun h5 => ?_) (fun h5 => ?_)
    · refine idx 0 rfl h0 ?_
      refine fld gok rfl rfl rfl rfl (load1 (hc0 0 _ rfl) ?_)
      refine cmp (fun h6 => ?_) (fun h6 => ?_)
      · exact ⟨by rw [hq, decide_eq_true h6, decide_eq_true (show m[0].2.length ≤ 8 by omega)]; rfl, hu⟩
      · exact ⟨by rw [decide_eq_false h6, Bool.and_false], hu⟩
    · exact ⟨by rw [decide_eq_false (show ¬ m[0].2.length ≤ 8 by omega), Bool.and_false, Bool.false_and], hu⟩
set_option maxRecDepth 10000 in
theorem isResponse_c (p : Int) (v : Value) (m : List Mx) (S : Nat → Prop) (w : World) (hL : Lay w) (h : RdV w S v m) (hS : ∀ b, S b → b < w.heap.size) :
    Calls Tryd.prog 31 #[.int .i64 p, v] w fun e w' => e = .returned (.bool (respOk p m)) ∧ Ext w w' := by
  obtain ⟨A, n, c, rfl, hr⟩ := h.list
  obtain rfl := hr.1
  have hmm : maxLen = 9223372036854775807 := rfl
  have hcm := hr.2.2.1
  have hlc := hr.2.1
  refine enter (args := [_, _]) gok Tryd.func31 rfl rfl rfl rfl rfl ?_
  refine call (isField_c _ _ hL) ?_
  rintro _ _ ⟨rfl, rfl⟩
  refine ⟨_, rfl, ?_⟩
  cases hg : goodP p
  · exact ⟨by unfold respOk; split <;> simp [hg], Upd.refl _ _⟩
  refine call (within_c _ _ _ _) ?_
  rintro _ _ ⟨rfl, rfl⟩
  refine ⟨_, rfl, ?_⟩
  cases h1 : decide ((1 : Int) ≤ (m.length : Int)) && decide ((m.length : Int) ≤ 60)
  · refine ⟨?_, Upd.refl _ _⟩
    unfold respOk
    split
    · rfl
    · rename_i x r
      have : decide ((x :: r).length ≤ 60) = false := by
        rw [decide_eq_false_iff_not]; intro h2
        rw [Bool.eq_false_iff] at h1
        apply h1
        simp only [Bool.and_eq_true, decide_eq_true_eq, List.length_cons] at h2 ⊢
        omega
      rw [this, Bool.and_false, Bool.false_and, Bool.false_and, Bool.false_and]
  simp only [Bool.and_eq_true, decide_eq_true_eq] at h1
  have h0 : 0 < m.length := by omega
  have hresp : respOk p m = (m.all (shaped p m[0].2.length m[0].1) && decide (m[0].2.length ≤ 8) && decide (m[0].1 ≤ 8)) := by
    cases m with
    | nil => simp at h0
    | cons x r =>
      have : decide ((x :: r).length ≤ 60) = true := decide_eq_true (by omega)
      simp only [respOk, hg, this, Bool.true_and, List.getElem_cons_zero]
  rw [hresp]
  refine loop (fun k : Nat => [(0, .int .i64 p), (1, .slice A m.length c), (16, .slice A m.length c), (17, .int .i64 m.length), (18, .int .i64 k)])
    (fun k w' => Ext w w' ∧ k ≤ m.length ∧ (m.take k).all (shaped p m[0].2.length m[0].1) = true) (fun k => m.length - k) 0 ⟨rfl, rfl, rfl, rfl, rfl, trivial⟩ ⟨Upd.refl _ _, Nat.zero_le _, rfl⟩ ?_
  rintro T0 k w2 ⟨hu, hk, hq⟩
  have hr2 := hr.ext_ hS hu
  obtain ⟨b0, o0, A0, n0, c0, hA0, _, hc0, hi0, hv0⟩ := hr2.atM h0
  subst hA0
  refine cmp (fun hlt => ?_) (fun hlt => ?_)
  · have hlt' : k < m.length := by omega
    obtain ⟨b, o, A', n', c', hA, _, hc, hi1, hv⟩ := hr2.atM hlt'
    obtain ⟨rfl, rfl⟩ : b0 = b ∧ o0 = o := by simpa using hA
    refine idx k rfl hlt' (loadN [.int .i64 m[k].1, .slice A' n' c'] rfl hc ?_)
    refine alloc_ gok rfl ?_
    intro w3 hb3 hu3 l3
    refine stA (cs' := #[.int .i64 m[k].1, .slice A' n' c']) gok rfl hb3 rfl (by simp [Value.oneCell']) ?_
    intro w4 hb4 hu4
    have hu24 : Ext w2 w4 := hu3.trans (fp := []) hu4 (fun b hb => .inr (by simp only [List.mem_singleton] at hb; omega))
    have hu4' : Ext w w4 := hu.trans hu24 (fun _ h => by cases h)
    have hr4 := hr.ext_ hS hu4'
    have out : shaped p m[0].2.length m[0].1 m[k] = false → ∀ w' : World, Ext w4 w' → Ending.returned (Value.bool false) = .returned (.bool (m.all (shaped p m[0].2.length m[0].1) && decide (m[0].2.length ≤ 8) && decide (m[0].1 ≤ 8))) ∧ Ext w w' := fun h w' hw' =>
      ⟨by rw [all_false hlt' h]; rfl, hu4'.trans hw' (fun _ h => by cases h)⟩
    refine held (Upd [] w4) [(false, 0), (true, 1), (true, 2), (false, 3), (false, 4), (false, 5), (false, 8), (false, 9), (false, 10), (false, 6), (false, 7), (true, 11), (false, 12), (false, 13), (false, 14), (false, 15), (false, 16), (false, 18), (false, 19), (false, 20), (false, 17), (true, 21), (false, 22), (false, 23)] mixed (by kernel_rfl) (ext_drewN 1) ?_
    refine loadN [.int .i64 m[k].1, .slice A' n' c'] rfl hb4.all (hold (ext_drewN 1) ?_)
    refine call (isMatrix_c _ _ m[k] (fun i => i < w4.heap.size) _ ((hL.ext hu4').ext (ext_drewN 1)) (((RdV.pair_mk hi1 hv).keep fun b hb => hu24.block b (Nat.lt_of_lt_of_le (hS b hb) hu.size) (by simp)).drewN 1 |>.mono fun b hb => Nat.lt_of_lt_of_le (hS b hb) hu4'.size) (fun b hb => hb)) ?_
    rintro _ w5 ⟨rfl, hu5⟩
    have hu5' : Ext w4 w5 := (ext_drewN 1).trans hu5 (fun _ h => by cases h)
    refine ⟨_, rfl, hold hu5' ?_⟩
    cases h2 : mxOk p m[k]
    · exact out (by rw [shaped, h2]; rfl) _ hu5'
    have hst : ∀ w', Ext w4 w' → Blk w' w2.heap.size [.int .i64 m[k].1, .slice A' n' c'] := fun w' hw' => hb4.ext hw'
    refine anyH (fun w' => fld gok rfl rfl rfl rfl ⟨rfl, rfl⟩) ?_
    refine idx 0 rfl h0 ?_
    refine anyH (fun w' => fld gok rfl rfl rfl rfl ⟨rfl, rfl⟩) ?_
    refine loadH (fun w' hw' => (hst w' hw').get rfl) ?_
    have hc4 : ∀ (j : Nat) (u : Value), ([.int .i64 m[0].1, .slice A0 n0 c0] : List Value)[j]? = some u → ∀ w', Ext w4 w' → w'.cell? (Addr.add (Addr.add ⟨b0, o0, none⟩ (0 * 2)) j) = some u := fun j u hj w' hw' =>
      cellU (hc0 j u hj) (by simp) w' (hu24.trans hw' (fun _ h => by cases h))
    refine load1 (hc4 1 _ rfl _ hu5') (hold hu5' ?_)
    refine cmp (fun h3 => ?_) (fun h3 => ?_)
    rotate_left
    · exact out (by
        have e1 := hv0.1; have e2 := hv.1
        rw [shaped, h2, decide_eq_false (show ¬ ((m[k].2.length : Int) = m[0].2.length) by omega)]; rfl) _ hu5'
    refine anyH (fun w' => fld gok rfl rfl rfl rfl ⟨rfl, rfl⟩) ?_
    refine idx 0 rfl h0 ?_
    refine anyH (fun w' => fld gok rfl rfl rfl rfl ⟨rfl, rfl⟩) ?_
    refine loadH (fun w' hw' => (hst w' hw').get rfl) ?_
    refine load1 (hc4 0 _ rfl _ hu5') (hold hu5' ?_)
    refine cmp (fun h4 => ?_) (fun h4 => ?_)
    rotate_left
    · exact out (by rw [shaped, decide_eq_false h4, Bool.and_false]) _ hu5'
    refine ar (by omega) ?_
    refine ⟨k + 1, ⟨rfl, rfl, rfl, rfl, rfl, trivial⟩, ⟨hu4'.trans hu5' (fun _ h => by cases h), hlt', ?_⟩, by omega⟩
    have e1 := hv0.1
    have e2 := hv.1
    rw [all_take_succ hlt', hq, shaped, h2, decide_eq_true h4, decide_eq_true (show (m[k].2.length : Int) = m[0].2.length by omega)]; rfl
  · have hkl : k = m.length := by omega
    subst hkl
    rw [List.take_length] at hq
    have e1 := hv0.1
    refine idx 0 rfl h0 ?_
    refine fld gok rfl rfl rfl rfl (load1 (hc0 1 _ rfl) ?_)
    refine cmp (fun h5 => ?_) (fun h5 => ?_)
    · refine idx 0 rfl h0 ?_
      refine fld gok rfl rfl rfl rfl (load1 (hc0 0 _ rfl) ?_)
      refine cmp (fun h6 => ?_) (fun h6 => ?_)
      · exact ⟨by rw [hq, decide_eq_true h6, decide_eq_true (show m[0].2.length ≤ 8 by omega)]; rfl, hu⟩
      · exact ⟨by rw [decide_eq_false h6, Bool.and_false], hu⟩
    · exact ⟨by rw [decide_eq_false (show ¬ m[0].2.length ≤ 8 by omega), Bool.and_false, Bool.false_and], hu⟩
end Go.Proofs.YtgnlfjlenjfffaaDoor
