/-
  The laws' helpers on matrices, second part: copies of lists of them, comparing, marks. Conditions: the arguments read so; sizes in range.
-/
import Derived.Test.YtgnlfjlenjfffaaDoorT2
namespace Go.Proofs.YtgnlfjlenjfffaaDoor
open Go
open Go.RowKit (Below)
open Go.Proofs.YtgnlfjlenjfffaaDoor.RW
open Rep Szn MkE

theorem RW.RdL.ext_ {β : Type} [Rep β] {w w' : World} {S : Nat → Prop} {A : Option Addr} {n c : Nat} {xs : List β} (h : RdL w S A n c xs) (hS : ∀ b, S b → b < w.heap.size) (hu : Ext w w') : RdL w' S A n c xs :=
  h.keep (Rep.rd_keep fun b hb => hu.block b (hS b hb) (by simp)) (fun b hb => hu.block b (hS b hb) (by simp))

theorem toMatrixS_t : ToC (List (Int × List (List Int))) (fun x => szn x ≤ 1048576) 9 := by
  intro v x S w h hS hl
  obtain ⟨A, n, c, rfl, hr⟩ := h.list
  obtain rfl := hr.1
  have hmm : maxLen = 9223372036854775807 := rfl
  have e : szn x = x.length + (x.map szn).sum := rfl
  refine enter (args := [_]) gok Tryd.func9 rfl rfl rfl rfl rfl ?_
  refine make_ (α := Int × List (List Int)) gok rfl rfl rfl x.length x.length rfl rfl (Nat.le_refl _) (by omega) (by omega) ?_
  intro A1 w1 ho hu1
  refine loop (fun i : Nat => [(0, .slice A x.length c), (3, .slice A1 x.length x.length), (4, .int .i64 i)])
    (fun i w' => Ext w w' ∧ i ≤ x.length ∧ ∃ fp, OwnL w' fp A1 x.length x.length (x.take i ++ List.replicate (x.length - i) (0, [])) ∧ ∀ b ∈ fp, w.heap.size ≤ b) (fun i => x.length - i) 0 ⟨rfl, rfl, rfl, trivial⟩
    ⟨hu1, Nat.zero_le _, _, ho, fun b hb => by simp only [List.mem_singleton] at hb; omega⟩ ?_
  rintro T0 i w2 ⟨hu, hi, fp, hown, hfp⟩
  have hr2 := hr.ext_ hS hu
  refine cmp (fun hlt => ?_) (fun hlt => ?_)
  · have hlt' : i < x.length := by omega
    have hk : i < (x.take i ++ List.replicate (x.length - i) ((0, []) : Int × List (List Int))).length := by simp; omega
    obtain ⟨b, o, A', n', c', rfl, _, hc, hi1, hv⟩ := hr2.atM hlt'
    have hle := szn_get hlt'
    refine idx i rfl hlt' (loadN [.int .i64 x[i].1, .slice A' n' c'] rfl hc ?_)
    refine call (toMatrix_t _ x[i] _ _ (RdV.pair_mk hi1 hv) (fun b hb => Nat.lt_of_lt_of_le (hS b hb) hu.size) (by omega)) ?_
    rintro _ w3 ⟨r, rfl, ⟨fr, hor, hfr⟩, hu3⟩
    refine ⟨_, rfl, ?_⟩
    obtain ⟨Ar, nr, cr, rfl, hir, hol⟩ := hor.pair
    have hown3 := OwnL.ext hown hu3
    obtain ⟨g, o1, rfl⟩ := hown3.some_ hk
    refine idx i rfl hlt' (stRA (α := Int × List (List Int)) (cs := #[.int .i64 x[i].1, .slice Ar nr cr]) (y := x[i]) gok rfl hown3 hk (own_pair hir hol) (fun b hb h => by have := hfr b hb; have := hown.lt own_lt b h; omega) ?_)
    intro w4 fp4 hown4 hu4 hf4
    rw [take_rep_set hlt'] at hown4
    refine ar (by omega) ?_
    refine ⟨i + 1, ⟨rfl, rfl, rfl, trivial⟩, ⟨(hu.trans hu3 (fun _ h => by cases h)).trans (fp := []) hu4 (fun b hb => .inr (hfp b hb)), hlt', fp4, hown4, fun b hb => ?_⟩, by omega⟩
    rcases hf4 b hb with h | h
    · exact hfp b h
    · exact Nat.le_trans hu.size (hfr b h)
  · have : i = x.length := by omega
    subst this
    exact ⟨_, rfl, ⟨fp, OwnV.list_mk (by simpa using hown), hfp⟩, hu⟩
theorem eqMatrix_t : EqC (Int × List (List Int)) 11 := by
  intro v u x y S S' w h h' hS hS'
  obtain ⟨A, n, c, rfl, hi, hr⟩ := h.pair
  obtain ⟨A', n', c', rfl, hi', hr'⟩ := h'.pair
  refine enter (args := [_, _]) gok Tryd.func11 rfl rfl rfl rfl rfl ?_
  refine box_ ?_
  intro w1 hb1 hu1 l1
  refine box_ ?_
  intro w2 hb2 hu2 l2
  have hb1' := hb1.ext hu2
  have hu : Ext w w2 := hu1.trans hu2 (fun _ h => by cases h)
  refine fld gok rfl rfl rfl rfl (load1 (hb1'.get rfl) ?_)
  refine fld gok rfl rfl rfl rfl (load1 (hb2.get rfl) ?_)
  refine cmp (fun he => ?_) (fun he => ?_)
  · refine fld gok rfl rfl rfl rfl (load1 (hb1'.get rfl) ?_)
    refine fld gok rfl rfl rfl rfl (load1 (hb2.get rfl) ?_)
    refine call (eqIntSS_t _ _ _ _ _ _ _ (RdV.list_mk (hr.ext_ hS hu)) (RdV.list_mk (hr'.ext_ hS' hu)) (fun b hb => Nat.lt_of_lt_of_le (hS b hb) hu.size) (fun b hb => Nat.lt_of_lt_of_le (hS' b hb) hu.size)) ?_
    rintro _ w3 ⟨rfl, hu3⟩
    refine ⟨_, rfl, ?_⟩
    have hu' : Ext w w3 := hu.trans hu3 (fun _ h => by cases h)
    cases hd : decide (x.2 = y.2)
    · exact ⟨by rw [decide_eq_false (fun h => of_decide_eq_false hd (by rw [h]))], hu'⟩
    · exact ⟨by rw [decide_eq_true (Prod.ext he (of_decide_eq_true hd))], hu'⟩
  · exact ⟨by rw [decide_eq_false (fun h => he (by rw [h]))], hu⟩
theorem eqMatrixS_t : EqC (List (Int × List (List Int))) 12 := by
  intro v u xs ys S S' w h h' hS hS'
  obtain ⟨A, m, c, rfl, hr⟩ := h.list
  obtain ⟨A', m', c', rfl, hr'⟩ := h'.list
  obtain rfl := hr.1
  obtain rfl := hr'.1
  have hmm : maxLen = 9223372036854775807 := rfl
  have hcm := hr.2.2.1
  have hlc := hr.2.1
  refine enter (args := [_, _]) gok Tryd.func12 rfl rfl rfl rfl rfl ?_
  refine cmp (fun hn => ?_) (fun hn => ?_)
  · have hl : xs.length = ys.length := by omega
    refine loop (fun k : Nat => [(0, .slice A xs.length c), (1, .slice A' ys.length c'), (5, .int .i64 k)])
      (fun k w' => Ext w w' ∧ k ≤ xs.length ∧ xs.take k = ys.take k) (fun k => xs.length - k) 0 ⟨rfl, rfl, rfl, trivial⟩ ⟨Upd.refl _ _, Nat.zero_le _, rfl⟩ ?_
    rintro T0 k w2 ⟨hu, hk, hq⟩
    refine cmp (fun hlt => ?_) (fun hlt => ?_)
    · have hlt' : k < xs.length := by omega
      obtain ⟨b, o, A1, n1, c1, rfl, _, hc, hi1, hv1⟩ := (hr.ext_ hS hu).atM hlt'
      obtain ⟨b', o', A2, n2, c2, rfl, _, hc', hi2, hv2⟩ := (hr'.ext_ hS' hu).atM (show k < ys.length by omega)
      refine held (Upd [] w2) [(false, 0), (false, 1), (false, 2), (false, 4), (false, 5), (false, 6), (false, 3), (true, 7), (true, 8), (false, 9)] mixed (by kernel_rfl) (ext_drewN 1) ?_
      refine idx k rfl hlt' (idx k rfl (by omega) ?_)
      refine loadHN [.int .i64 xs[k].1, .slice A1 n1 c1] rfl (fun w' hw' j u hj => cellU (hc j u hj) (by simp) w' hw') ?_
      refine loadN [.int .i64 ys[k].1, .slice A2 n2 c2] rfl hc' (hold (ext_drewN 1) ?_)
      refine call (eqMatrix_t _ _ xs[k] ys[k] _ _ _ ((RdV.pair_mk hi1 hv1).drewN 1) ((RdV.pair_mk hi2 hv2).drewN 1) (fun b hb => Nat.lt_of_lt_of_le (hS b hb) hu.size) (fun b hb => Nat.lt_of_lt_of_le (hS' b hb) hu.size)) ?_
      rintro _ w3 ⟨rfl, hu3⟩
      have hu3' : Ext w2 w3 := (ext_drewN 1).trans hu3 (fun _ h => by cases h)
      refine ⟨_, rfl, hold hu3' ?_⟩
      have hu' : Ext w w3 := hu.trans hu3' (fun _ h => by cases h)
      cases hd : decide (xs[k] = ys[k])
      · exact ⟨by rw [decide_eq_false (ne_of_get hlt' (by omega) (of_decide_eq_false hd))], hu'⟩
      · refine ar (by omega) ?_
        exact ⟨k + 1, ⟨rfl, rfl, rfl, trivial⟩, ⟨hu', hlt', take_succ_eq hlt' (by omega) hq (of_decide_eq_true hd)⟩, by omega⟩
    · exact ⟨by rw [decide_eq_true (list_ext_take hl (k := k) (by omega) hq)], hu⟩
  · exact ⟨by rw [decide_eq_false (fun h => hn (by rw [h]))], Upd.refl _ _⟩
theorem markMatrix_t : MarkC (Int × List (List Int)) 14 := by
  intro v x fp k w h hk
  obtain ⟨A, n, c, rfl, hi, ho⟩ := h.pair
  refine enter (args := [_, _]) gok Tryd.func14 rfl rfl rfl rfl rfl ?_
  refine box_ ?_
  intro w1 hb1 hu1 l1
  refine fld gok rfl rfl rfl rfl (load1 (hb1.get rfl) ?_)
  refine call (markIntSS_t _ _ fp _ _ (OwnV.list_mk (OwnL.ext ho hu1)) hk) ?_
  rintro _ w2 ⟨rfl, ho2, hu2⟩
  refine ⟨_, rfl, ?_⟩
  obtain ⟨A2, n2, c2, e2, ho2⟩ := ho2.list
  injection e2 with e3 e4 e5
  subst e3; subst e4; subst e5
  exact ⟨rfl, OwnV.pair_mk hi ho2, (hu1.mono (fun _ h => by cases h)).trans hu2 (fun b hb => .inl hb)⟩
theorem heldMatrix_t : HeldC (Int × List (List Int)) 15 := by
  intro v x S k w h hS hk
  obtain ⟨A, n, c, rfl, hi, hr⟩ := h.pair
  refine enter (args := [_, _]) gok Tryd.func15 rfl rfl rfl rfl rfl ?_
  refine box_ ?_
  intro w1 hb1 hu1 l1
  refine fld gok rfl rfl rfl rfl (load1 (hb1.get rfl) ?_)
  refine call (heldIntSS_t _ x.2 _ _ _ (RdV.list_mk (hr.ext_ hS hu1)) (fun b hb => Nat.lt_of_lt_of_le (hS b hb) hu1.size) hk) ?_
  rintro _ w2 ⟨rfl, hu2⟩
  refine ⟨_, rfl, ?_⟩
  refine cmpF (by omega) ?_
  exact ⟨rfl, hu1.trans hu2 (fun _ h => by cases h)⟩
theorem markMatrixS_t : MarkC (List (Int × List (List Int))) 13 := by
  intro v xs fp k w h hk
  obtain ⟨A, m, c, rfl, hr⟩ := h.list
  obtain rfl := hr.n_eq
  have hlen : xs.length ≤ 9223372036854775807 := by
    have h1 := (OwnL.rdL hr).2.2.1; have h2 := (OwnL.rdL hr).2.1; have hmm : maxLen = 9223372036854775807 := rfl; omega
  refine enter (args := [_, _]) gok Tryd.func13 rfl rfl rfl rfl rfl ?_
  refine loop (fun i : Nat => [(0, .slice A xs.length c), (1, .int .i64 (k + cntU xs i)), (5, .int .i64 i)])
    (fun i w' => Upd fp w w' ∧ i ≤ xs.length ∧ OwnL w' fp A xs.length c (mrkT k xs i)) (fun i => xs.length - i) 0 ⟨rfl, by simp [cntU]; rfl, rfl, trivial⟩ ⟨Upd.refl _ _, Nat.zero_le _, hr⟩ ?_
  rintro T0 i w2 ⟨hu, hi, hown⟩
  refine cmp (fun hlt => ?_) (fun hlt => ?_)
  · have hlt' : i < xs.length := by omega
    have st := cntU_step hlt'
    have le := cntU_le xs (i + 1)
    have hkl : i < (mrkT k xs i).length := by rw [mrkT_len]; exact hlt'
    have e1 : cntE xs[i] = 1 + Mk.cnt xs[i].2 := rfl
    obtain ⟨g, o, rfl⟩ := hown.some_ hkl
    refine idx i rfl hlt' ?_
    refine fld gok rfl rfl rfl rfl (stP hown hkl (show inI (k + cntU xs i) by unfold inI; omega) ?_)
    intro w3 hown3 hu3
    refine ar (by omega) ?_
    obtain ⟨b', o', v', fk, hA, hc, ho, hfk, hch⟩ := hown3.atP (k := i) (by simpa using hkl)
    obtain ⟨rfl, rfl⟩ : g = b' ∧ o = o' := by simpa using hA
    have e3 : (((mrkT k xs i).set i (k + cntU xs i, ((mrkT k xs i)[i]).2))[i]'(by simpa using hkl)) = (k + cntU xs i, xs[i].2) := by simp [mrkT_get hlt']
    rw [e3] at ho hch
    refine idx i rfl hlt' ?_
    refine fld gok rfl rfl rfl rfl (load1 hc ?_)
    refine call (markIntSS_t _ _ _ _ _ ho (by simp only; omega)) ?_
    rintro _ w4 ⟨rfl, ho4, hu4⟩
    refine ⟨_, rfl, ?_⟩
    have h5 := hch w4 _ ho4 hu4
    rw [List.set_set] at h5
    have e2 : (k + cntU xs i, Mk.mrk (k + cntU xs i + 1) xs[i].2) = mrkE (k + cntU xs i) xs[i] := rfl
    simp only [e2, mrkT_set hlt'] at h5
    refine ar (by omega) ?_
    refine ⟨i + 1, ⟨rfl, by show Value.int .i64 _ = Value.int .i64 _; congr 1; simp only; omega, rfl, trivial⟩, ⟨(hu.trans hu3 (fun b hb => .inl hb)).trans hu4 (fun b hb => .inl (hfk b hb)), hlt', h5⟩, by omega⟩
  · have : i = xs.length := by omega
    subst this
    exact ⟨by rw [cntU_all], OwnV.list_mk (by rw [mrkT_all] at hown; exact hown), hu⟩
end Go.Proofs.YtgnlfjlenjfffaaDoor
