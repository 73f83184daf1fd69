/-
  The laws' helpers on lists of rows of numbers: sizes, copies, comparing, marks. Conditions: the arguments read so; sizes in range.
-/
import Derived.Test.YtgnlfjlenjfffaaDoorLaw
namespace Go.Proofs.YtgnlfjlenjfffaaDoor
open Go
open Go.RowKit (Below)
open Go.Proofs.YtgnlfjlenjfffaaDoor.RW
open Rep Szn MkE

theorem RW.OwnL.atR {β : Type} [Rep β] {w : World} {fp : List Nat} {A : Option Addr} {n c k : Nat} {xs : List (List β)} (h : OwnL w fp A n c xs) (hk : k < xs.length) :
    ∃ b o v fk, A = some ⟨b, o, none⟩ ∧ w.cell? (Addr.add ⟨b, o, none⟩ (k * 1)) = some v ∧ OwnV w fk v xs[k] ∧ (∀ x ∈ fk, x ∈ fp) ∧
      ∀ w' y, OwnV w' fk v y → Upd fk w w' → OwnL w' fp A n c (xs.set k y) := by
  obtain ⟨g, o, cells, e, fk, rfl, hg, hsz, hgf, ho, hfk, hgk, hch⟩ := h.chg hk
  obtain ⟨A', n', c', hc, ho'⟩ := ho
  refine ⟨g, o, .slice A' n' c', fk, rfl, ?_, OwnV.list_mk ho', hfk, fun w' y hy hu => ?_⟩
  · rw [Addr.add_lit]
    exact chk_cell (s := sz (List β)) (j := 0) hg (by rw [hc]; rfl)
  · obtain ⟨A2, n2, c2, e2, hy2⟩ := hy.list
    obtain ⟨fp', h1, h2, h3⟩ := hch w' cells fk fk y ((hu.block g (lt_of_some hg) hgk).trans hg) rfl (fun _ _ _ => rfl) ⟨A2, n2, c2, by rw [hc, e2], hy2⟩ (fun b hb => .inl hb) hu (fun b hb => .inr (.inl hb))
    rw [h3 rfl] at h1
    exact h1
theorem RW.OwnL.some_ {β : Type} [Rep β] {w : World} {fp : List Nat} {A : Option Addr} {n c k : Nat} {xs : List β} (h : OwnL w fp A n c xs) (hk : k < xs.length) : ∃ b o, A = some ⟨b, o, none⟩ := by
  obtain ⟨g, o, _, _, _, h, _⟩ := h.chg hk
  exact ⟨g, o, h⟩
theorem szOut_lt {l : Int} {n : Nat} (h : szOut l n < 0) : ¬ (n : Int) ≤ l := by intro h'; rw [szOut, if_pos h'] at h; omega
theorem szOut_ge {l : Int} {n : Nat} (h : ¬ szOut l n < 0) : (n : Int) ≤ l := by
  rcases Int.lt_or_le l n with h' | h'
  · rw [szOut, if_neg (by omega)] at h; omega
  · exact h'
theorem szOut_pos {l : Int} {n : Nat} (h : (n : Int) ≤ l) : szOut l n = l - n := by rw [szOut, if_pos h]
theorem szOut_neg {l : Int} {n : Nat} (h : ¬ (n : Int) ≤ l) : szOut l n = -1 := by rw [szOut, if_neg h]

theorem szIntS_t : SzC (List Int) 58 := by
  intro v x S l w h hS hl
  obtain ⟨A, n, c, rfl, hr⟩ := h.list
  obtain rfl := hr.1
  have hmm : maxLen = 9223372036854775807 := rfl
  have hcm := hr.2.2.1
  have hlc := hr.2.1
  have e : szn x = x.length := rfl
  refine enter (args := [_, _]) gok Tryd.func58 rfl rfl rfl rfl rfl ?_
  refine ar (by omega) ?_
  refine cmp (fun h1 => ?_) (fun h1 => ?_)
  · exact ⟨by rw [szOut_neg (by omega)], Upd.refl _ _⟩
  · exact ⟨by rw [szOut_pos (by omega)]; rfl, Upd.refl _ _⟩
theorem szIntSS_t : SzC (List (List Int)) 36 := by
  intro v x S l w h hS hl
  obtain ⟨A, n, c, rfl, hr⟩ := h.list
  obtain rfl := hr.1
  have hmm : maxLen = 9223372036854775807 := rfl
  have hcm := hr.2.2.1
  have hlc := hr.2.1
  have e : szn x = x.length + (x.map szn).sum := rfl
  refine enter (args := [_, _]) gok Tryd.func36 rfl rfl rfl rfl rfl ?_
  refine ar (by omega) ?_
  refine cmp (fun h1 => ?_) (fun h1 => ?_)
  · exact ⟨by rw [szOut_neg (by omega)], Upd.refl _ _⟩
  refine loop (fun i : Nat => [(0, .slice A x.length c), (1, .int .i64 (l - szU x i)), (5, .int .i64 i)])
    (fun i w' => Ext w w' ∧ i ≤ x.length ∧ (szU x i : Int) ≤ l) (fun i => x.length - i) 0 ⟨rfl, by rw [szU_zero]; rfl, rfl, trivial⟩ ⟨Upd.refl _ _, Nat.zero_le _, by rw [szU_zero]; omega⟩ ?_
  rintro T0 i w2 ⟨hu, hi, hs⟩
  have hr2 : RdL w2 S A x.length c x := hr.keep (Rep.rd_keep fun b hb => hu.block b (hS b hb) (by simp)) (fun b hb => hu.block b (hS b hb) (by simp))
  refine cmp (fun hlt => ?_) (fun hlt => ?_)
  · have hlt' : i < x.length := by omega
    have st := szU_step hlt'
    have le := szU_le x (i + 1)
    obtain ⟨b, o, v', rfl, hc, hv⟩ := RdL.atL hr2 hlt'
    refine idx i rfl hlt' (load1 hc ?_)
    refine call (szIntS_t _ _ _ _ _ hv (fun b hb => Nat.lt_of_lt_of_le (hS b hb) hu.size) (by omega)) ?_
    rintro _ w3 ⟨rfl, hu3⟩
    refine ⟨_, rfl, ?_⟩
    refine cmp (fun h2 => ?_) (fun h2 => ?_)
    · have := szOut_lt h2
      exact ⟨by rw [szOut_neg (by omega)], hu.trans hu3 (fun _ h => by cases h)⟩
    · have := szOut_ge h2
      refine ar (by omega) ?_
      refine ⟨i + 1, ⟨rfl, ?_, rfl, trivial⟩, ⟨hu.trans hu3 (fun _ h => by cases h), hlt', by omega⟩, by omega⟩
      show Value.int .i64 _ = Value.int .i64 _
      rw [szOut_pos this]; congr 1; omega
  · have : i = x.length := by omega
    subst this
    have := szU_all x
    exact ⟨by rw [szOut_pos (by omega)]; congr 1; congr 1; omega, hu⟩
theorem toIntSS_t : ToC (List (List Int)) (fun x => szn x ≤ 1048576) 39 := by
  intro v x S w h hS hl
  obtain ⟨A, n, c, rfl, hr⟩ := h.list
  obtain rfl := hr.1
  have hmm : maxLen = 9223372036854775807 := rfl
  have e : szn x = x.length + (x.map szn).sum := rfl
  refine enter (args := [_]) gok Tryd.func39 rfl rfl rfl rfl rfl ?_
  refine make_ (α := List Int) gok rfl rfl rfl x.length x.length rfl rfl (Nat.le_refl _) (by omega) (by omega) ?_
  intro A1 w1 ho hu1
  refine loop (fun i : Nat => [(0, .slice A x.length c), (3, .slice A1 x.length x.length), (4, .int .i64 i)])
    (fun i w' => Ext w w' ∧ i ≤ x.length ∧ ∃ fp, OwnL w' fp A1 x.length x.length (x.take i ++ List.replicate (x.length - i) []) ∧ ∀ b ∈ fp, w.heap.size ≤ b) (fun i => x.length - i) 0 ⟨rfl, rfl, rfl, trivial⟩
    ⟨hu1, Nat.zero_le _, _, ho, fun b hb => by simp only [List.mem_singleton] at hb; omega⟩ ?_
  rintro T0 i w2 ⟨hu, hi, fp, hown, hfp⟩
  have hr2 : RdL w2 S A x.length c x := hr.keep (Rep.rd_keep fun b hb => hu.block b (hS b hb) (by simp)) (fun b hb => hu.block b (hS b hb) (by simp))
  refine cmp (fun hlt => ?_) (fun hlt => ?_)
  · have hlt' : i < x.length := by omega
    have hk : i < (x.take i ++ List.replicate (x.length - i) []).length := by simp; omega
    obtain ⟨b, o, v', rfl, hc, hv⟩ := RdL.atL hr2 hlt'
    have hle := szn_get hlt'
    have hle' : szn x[i] = x[i].length := rfl
    refine idx i rfl hlt' (load1 hc ?_)
    refine call (toIntS_t _ _ _ _ hv (fun b hb => Nat.lt_of_lt_of_le (hS b hb) hu.size) (by omega)) ?_
    rintro _ w3 ⟨r, rfl, ⟨fr, hor, hfr⟩, hu3⟩
    refine ⟨_, rfl, ?_⟩
    have hown3 := OwnL.ext hown hu3
    obtain ⟨g, o1, rfl⟩ := hown3.some_ hk
    refine idx i rfl hlt' (stR hown3 hk hor (fun b hb h => by have := hfr b hb; have := hown.lt own_lt b h; omega) ?_)
    intro w4 fp4 hown4 hu4 hf4
    rw [take_rep_set hlt'] at hown4
    refine ar (by omega) ?_
    refine ⟨i + 1, ⟨rfl, rfl, rfl, trivial⟩, ⟨(hu.trans hu3 (fun _ h => by cases h)).trans (fp := []) hu4 (fun b hb => .inr (hfp b hb)), hlt', fp4, hown4, fun b hb => ?_⟩, by omega⟩
    rcases hf4 b hb with h | h
    · exact hfp b h
    · exact Nat.le_trans hu.size (hfr b h)
  · have : i = x.length := by omega
    subst this
    exact ⟨_, rfl, ⟨fp, OwnV.list_mk (by simpa using hown), hfp⟩, hu⟩
theorem eqIntSS_t : EqC (List (List Int)) 33 := by
  intro v u xs ys S S' w h h' hS hS'
  obtain ⟨A, m, c, rfl, hr⟩ := h.list
  obtain ⟨A', m', c', rfl, hr'⟩ := h'.list
  obtain rfl := hr.1
  obtain rfl := hr'.1
  have hmm : maxLen = 9223372036854775807 := rfl
  have hcm := hr.2.2.1
  have hlc := hr.2.1
  refine enter (args := [_, _]) gok Tryd.func33 rfl rfl rfl rfl rfl ?_
  refine cmp (fun hn => ?_) (fun hn => ?_)
  · have hl : xs.length = ys.length := by omega
    refine loop (fun k : Nat => [(0, .slice A xs.length c), (1, .slice A' ys.length c'), (5, .int .i64 k)])
      (fun k w' => Ext w w' ∧ k ≤ xs.length ∧ xs.take k = ys.take k) (fun k => xs.length - k) 0 ⟨rfl, rfl, rfl, trivial⟩ ⟨Upd.refl _ _, Nat.zero_le _, rfl⟩ ?_
    rintro T0 k w2 ⟨hu, hk, hq⟩
    refine cmp (fun hlt => ?_) (fun hlt => ?_)
    · have hlt' : k < xs.length := by omega
      have hr2 : RdL w2 S A xs.length c xs := hr.keep (Rep.rd_keep fun b hb => hu.block b (hS b hb) (by simp)) (fun b hb => hu.block b (hS b hb) (by simp))
      have hr2' : RdL w2 S' A' ys.length c' ys := hr'.keep (Rep.rd_keep fun b hb => hu.block b (hS' b hb) (by simp)) (fun b hb => hu.block b (hS' b hb) (by simp))
      obtain ⟨b, o, v1, rfl, hc, hv1⟩ := RdL.atL hr2 hlt'
      obtain ⟨b', o', v2, rfl, hc', hv2⟩ := RdL.atL hr2' (show k < ys.length by omega)
      refine held (Upd [] w2) [(false, 0), (false, 1), (false, 2), (false, 4), (false, 5), (false, 6), (false, 3), (true, 7), (true, 8), (false, 9)] mixed (by kernel_rfl) (ext_drewN 1) ?_
      refine idx k rfl hlt' (idx k rfl (by omega) (loadH (cellU hc (by simp)) (load1 hc' (hold (ext_drewN 1) ?_))))
      refine call (eqIntS_c _ _ _ _ _ _ _ (hv1.drewN 1) (hv2.drewN 1)) ?_
      rintro _ _ ⟨rfl, m1, rfl⟩
      refine ⟨_, rfl, hold (by rw [drewN_add]; exact ext_drewN _) ?_⟩
      have hu' : Ext w ((w2.drewN 1).drewN m1) := hu.trans (by rw [drewN_add]; exact ext_drewN _) (fun _ h => by cases h)
      cases hd : decide (xs[k] = ys[k])
      · exact ⟨by rw [decide_eq_false (ne_of_get hlt' (by omega) (of_decide_eq_false hd))], hu'⟩
      · refine ar (by omega) ?_
        exact ⟨k + 1, ⟨rfl, rfl, rfl, trivial⟩, ⟨hu', hlt', take_succ_eq hlt' (by omega) hq (of_decide_eq_true hd)⟩, by omega⟩
    · exact ⟨by rw [decide_eq_true (list_ext_take hl (k := k) (by omega) hq)], hu⟩
  · exact ⟨by rw [decide_eq_false (fun h => hn (by rw [h]))], Upd.refl _ _⟩
theorem markIntSS_t : MarkC (List (List Int)) 34 := by
  intro v xs fp k w h hk
  obtain ⟨A, m, c, rfl, hr⟩ := h.list
  obtain rfl := hr.n_eq
  have hlen : xs.length ≤ 9223372036854775807 := by
    have h1 := (OwnL.rdL hr).2.2.1; have h2 := (OwnL.rdL hr).2.1; have hmm : maxLen = 9223372036854775807 := rfl; omega
  refine enter (args := [_, _]) gok Tryd.func34 rfl rfl rfl rfl rfl ?_
  refine loop (fun i : Nat => [(0, .slice A xs.length c), (1, .int .i64 (k + cntU xs i)), (5, .int .i64 i)])
    (fun i w' => Upd fp w w' ∧ i ≤ xs.length ∧ OwnL w' fp A xs.length c (mrkT k xs i)) (fun i => xs.length - i) 0 ⟨rfl, by simp [cntU]; rfl, rfl, trivial⟩ ⟨Upd.refl _ _, Nat.zero_le _, hr⟩ ?_
  rintro T0 i w2 ⟨hu, hi, hown⟩
  refine cmp (fun hlt => ?_) (fun hlt => ?_)
  · have hlt' : i < xs.length := by omega
    have st := cntU_step hlt'
    have le := cntU_le xs (i + 1)
    obtain ⟨b, o, v', fk, rfl, hc, ho, hfk, hch⟩ := hown.atR (k := i) (by rw [mrkT_len]; exact hlt')
    rw [mrkT_get hlt'] at ho
    have e1 : cntE xs[i] = Mk.cnt xs[i] := rfl
    refine idx i rfl hlt' (load1 hc ?_)
    refine call (markIntS_t _ _ _ _ _ ho (by omega)) ?_
    rintro _ w3 ⟨rfl, ho3, hu3⟩
    refine ⟨_, rfl, ?_⟩
    have h4 := hch w3 _ ho3 hu3
    have e2 : Mk.mrk (k + cntU xs i) xs[i] = mrkE (k + cntU xs i) xs[i] := rfl
    rw [e2, mrkT_set hlt'] at h4
    refine ar (by omega) ?_
    refine ⟨i + 1, ⟨rfl, by show Value.int .i64 _ = Value.int .i64 _; congr 1; omega, rfl, trivial⟩, ⟨hu.trans hu3 (fun b hb => .inl (hfk b hb)), hlt', h4⟩, by omega⟩
  · have : i = xs.length := by omega
    subst this
    exact ⟨by rw [cntU_all], OwnV.list_mk (by rw [mrkT_all] at hown; exact hown), hu⟩
theorem heldIntSS_t : HeldC (List (List Int)) 35 := by
  intro v xs S k w h hS hk
  obtain ⟨A, m, c, rfl, hr⟩ := h.list
  have hm : m = xs.length := by rw [hr.1]; exact mrkL_len k xs
  subst hm
  have hlen : xs.length ≤ 9223372036854775807 := by
    have h1 := hr.2.2.1; have h2 := hr.2.1; have hmm : maxLen = 9223372036854775807 := rfl; omega
  refine enter (args := [_, _]) gok Tryd.func35 rfl rfl rfl rfl rfl ?_
  refine loop (fun i : Nat => [(0, .slice A xs.length c), (1, .int .i64 (k + cntU xs i)), (5, .int .i64 i)])
    (fun i w' => Ext w w' ∧ i ≤ xs.length) (fun i => xs.length - i) 0 ⟨rfl, by simp [cntU]; rfl, rfl, trivial⟩ ⟨Upd.refl _ _, Nat.zero_le _⟩ ?_
  rintro T0 i w2 ⟨hu, hi⟩
  have hr2 : RdL w2 S A xs.length c (Mk.mrk k xs) := hr.keep (Rep.rd_keep fun b hb => hu.block b (hS b hb) (by simp)) (fun b hb => hu.block b (hS b hb) (by simp))
  refine cmp (fun hlt => ?_) (fun hlt => ?_)
  · have hlt' : i < xs.length := by omega
    have st := cntU_step hlt'
    have le := cntU_le xs (i + 1)
    have e1 : cntE xs[i] = Mk.cnt xs[i] := rfl
    obtain ⟨b, o, v', rfl, hc, hv⟩ := RdL.atL hr2 (show i < (Mk.mrk k xs).length from by show i < (mrkL k xs).length; rw [mrkL_len]; exact hlt')
    have e2 : (Mk.mrk k xs)[i]'(by show i < (mrkL k xs).length; rw [mrkL_len]; exact hlt') = Mk.mrk (k + cntU xs i) xs[i] := mrkL_get xs k i hlt'
    rw [e2] at hv
    refine idx i rfl hlt' (load1 hc ?_)
    refine call (heldIntS_t _ _ _ _ _ hv (fun b hb => Nat.lt_of_lt_of_le (hS b hb) hu.size) (by omega)) ?_
    rintro _ w3 ⟨rfl, hu3⟩
    refine ⟨_, rfl, ?_⟩
    refine cmpF (by omega) ?_
    refine ar (by omega) ?_
    exact ⟨i + 1, ⟨rfl, by show Value.int .i64 _ = Value.int .i64 _; congr 1; omega, rfl, trivial⟩, ⟨hu.trans hu3 (fun _ h => by cases h), hlt'⟩, by omega⟩
  · have : i = xs.length := by omega
    subst this
    exact ⟨by rw [cntU_all], hu⟩
end Go.Proofs.YtgnlfjlenjfffaaDoor
