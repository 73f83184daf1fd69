/-
  What HankelOf of the program and of the reference return. Conditions: the arguments read so; the table of primes lies.
-/
import Derived.Test.YtgnlfjlenjfffaaDoorC8
namespace Go.Proofs.YtgnlfjlenjfffaaDoor
open Go
open Go.RowKit (Below)
open Go.Proofs.YtgnlfjlenjfffaaDoor.RW
open Rep Szn MkE

theorem RW.quo_ {a b : Int} {K : Value → Prop} (h : b ≠ 0) (hr : -9223372036854775808 ≤ a.tdiv b ∧ a.tdiv b ≤ 9223372036854775807) (hk : K (.int .i64 (a.tdiv b))) : EQuo .i64 a b K := by
  refine .mk ?_
  refine ⟨h, ?_⟩
  have e : IntKind.i64.wrap (a.tdiv b) = a.tdiv b := (ar (K := fun v => v = .int .i64 (a.tdiv b)) hr rfl).out |> fun h => by injection h
  rw [e]; exact hk
def hR (m : List Mx) : Nat := (m.getD 0 (0, [])).2.length
def hC (m : List Mx) : Int := (m.getD 0 (0, [])).1
def hkOk (p : Int) (m : List Mx) (rows cols : Int) : Bool :=
  respOk p m && decide (0 ≤ rows ∧ 0 ≤ cols ∧ (0 < rows → 0 < cols → rows + cols ≤ m.length) ∧ (0 < hR m → rows ≤ (24 : Int).tdiv (hR m)) ∧ (0 < hC m → cols ≤ (24 : Int).tdiv (hC m)))
def hkR (p : Int) (m : List Mx) (rows cols : Int) : Mx :=
  if hkOk p m rows cols = true then (cols * hC m, hk m (if hC m = 0 then 0 else cols.toNat) (if hR m = 0 then 0 else rows.toNat)) else (0, [])
theorem hkOk_iff {p : Int} {m : List Mx} {rows cols : Int} : hkOk p m rows cols = true ↔ respOk p m = true ∧ 0 ≤ rows ∧ 0 ≤ cols ∧ (0 < rows → 0 < cols → rows + cols ≤ m.length) ∧ (0 < hR m → rows ≤ (24 : Int).tdiv (hR m)) ∧ (0 < hC m → cols ≤ (24 : Int).tdiv (hC m)) := by
  unfold hkOk; rw [Bool.and_eq_true, decide_eq_true_eq]
theorem tdiv24 {b : Int} (h : 1 ≤ b) (h8 : b ≤ 8) : 0 ≤ (24 : Int).tdiv b ∧ (24 : Int).tdiv b ≤ 24 := by
  rcases (by omega : b = 1 ∨ b = 2 ∨ b = 3 ∨ b = 4 ∨ b = 5 ∨ b = 6 ∨ b = 7 ∨ b = 8) with rfl | rfl | rfl | rfl | rfl | rfl | rfl | rfl <;> decide
theorem hk_R0 {m : List Mx} (h : hR m = 0) (cols : Nat) : ∀ rows, hk m cols rows = []
  | 0 => rfl
  | i + 1 => by
    have h' : (m.getD 0 (0, [])).2.length = 0 := h
    rw [hk, hk_R0 h cols i, h']; rfl
theorem hkRow_C0 {p : Int} {m : List Mx} (hm : respOk p m = true) (h : hC m = 0) (i u : Nat) : ∀ j, hkRow m i u j = []
  | 0 => rfl
  | j + 1 => by
    rw [hkRow, hkRow_C0 hm h i u j, List.nil_append]
    obtain ⟨_, _, _, _, _, _, hsh⟩ := resp_shape hm
    by_cases hk' : i + j + 1 < m.length
    · rw [getDq hk']
      by_cases hu : u < m[i + j + 1].2.length
      · rw [getDq hu]
        have := (hsh _ hk').2 u hu
        have h' : (m.getD 0 (0, [])).1 = 0 := h
        exact List.eq_nil_of_length_eq_zero (by omega)
      · simp [List.getD, hu]
    · simp [List.getD, hk']
theorem hkBlk_nil {m : List Mx} {i cols : Nat} (h : ∀ u, hkRow m i u cols = []) : ∀ u, hkBlk m i cols u = List.replicate u []
  | 0 => rfl
  | u + 1 => by rw [hkBlk, hkBlk_nil h u, h u, List.replicate_succ']
theorem hk_nil {m : List Mx} {cols : Nat} (h : ∀ i u, hkRow m i u cols = []) : ∀ rows, hk m cols rows = List.replicate (rows * hR m) []
  | 0 => by simp [hk]
  | i + 1 => by
    rw [hk, hk_nil h i, hkBlk_nil (h i), Nat.add_mul, Nat.one_mul, ← List.replicate_append_replicate]; rfl
theorem hk_C0 {p : Int} {m : List Mx} (hm : respOk p m = true) (h : hC m = 0) (cols rows : Nat) : hk m cols rows = hk m 0 rows := by
  rw [hk_nil (hkRow_C0 hm h · · cols), hk_nil (fun _ _ => rfl)]
theorem hk_mul {k : Nat} {c : Int} (hkk : 0 < c → (k : Int) ≤ (24 : Int).tdiv c) (h0 : 0 ≤ c) (h8 : c ≤ 8) : 0 ≤ (k : Int) * c ∧ (k : Int) * c ≤ 192 := by
  rcases Int.lt_or_le 0 c with h | h
  · have := tdiv24 (b := c) (by omega) h8
    have h1 : (k : Int) * c ≤ 24 * c := Int.mul_le_mul_of_nonneg_right (by have := hkk h; omega) h0
    have h2 : 0 ≤ (k : Int) * c := Int.mul_nonneg (by omega) h0
    omega
  · have : c = 0 := by omega
    subst this; simp
theorem hk_two {p : Int} {m : List Mx} {r k : Nat} (hm : respOk p m = true) (hok : hkOk p m (r : Int) (k : Int) = true) : (hkR p m (r : Int) (k : Int)).2 = hk m k r := by
  rw [hkR, if_pos hok]
  simp only [Int.toNat_natCast]
  by_cases h1 : hR m = 0
  · rw [hk_R0 h1, hk_R0 h1]
  · rw [if_neg h1]
    by_cases h2 : hC m = 0
    · rw [if_pos h2, hk_C0 hm h2 k]
    · rw [if_neg h2]
def HkC (f : Nat) : Prop := ∀ (p : Int) (v : Value) (m : List Mx) (S : Nat → Prop) (rows cols : Int) (w : World), Lay w → RdV w S v m → (∀ b, S b → b < w.heap.size) → inI p → inI rows → inI cols →
    Calls Tryd.prog f #[.int .i64 p, v, .int .i64 rows, .int .i64 cols] w fun e w' => ∃ r, e = .returned (.tuple #[r, .bool (hkOk p m rows cols)]) ∧ Fresh w.heap.size w' r (hkR p m rows cols) ∧ Ext w w'
theorem hk_no {p rows cols : Int} {m : List Mx} {w w' : World} (h : ¬ hkOk p m rows cols = true) (hu : Ext w w') :
    ∃ r, Ending.returned (.tuple #[.agg #[.int .i64 0, .slice none 0 0], .bool false]) = .returned (.tuple #[r, .bool (hkOk p m rows cols)]) ∧ Fresh w.heap.size w' r (hkR p m rows cols) ∧ Ext w w' := by
  rw [hkR, if_neg h, Bool.eq_false_iff.2 h]
  exact ⟨_, rfl, ⟨[], OwnV.pair_mk (by unfold inI; omega) (.inl ⟨rfl, rfl, rfl, rfl, rfl⟩), fun b hb => by cases hb⟩, hu⟩
set_option maxRecDepth 10000 in
theorem spec_hk_c : HkC 8 := by
  intro p v m S rows cols w hL h hS hip hir hic
  obtain ⟨A, n, c, rfl, hr⟩ := h.list
  obtain rfl := hr.1
  have hmm : maxLen = 9223372036854775807 := rfl
  have hnc := hr.2.1
  have hcm := hr.2.2.1
  unfold inI at hir hic
  refine enterC (args := [_, _, _, _]) gok Tryd.func8 rfl _ rfl rfl rfl ?_
  refine alloc_ gok rfl ?_
  intro w1 hb1 hu1 l1
  refine call (rzResponse_c _ _ m S _ (hL.ext hu1) (RdV.list_mk (hr.ext_ hS hu1)) (fun b hb => Nat.lt_of_lt_of_le (hS b hb) hu1.size)) ?_
  rintro _ w2 ⟨rfl, hu2⟩
  refine ⟨_, rfl, ?_⟩
  have hu12 : Ext w w2 := hu1.trans hu2 (fun _ h => by cases h)
  have hb2 : Blk w2 w.heap.size [.int .i64 0, .slice none 0 0] := hb1.ext hu2
  have l2 : w.heap.size < w2.heap.size := Nat.lt_of_lt_of_le l1 hu2.size
  cases hm : respOk p m
  · refine build_ (cs := #[.int .i64 0, .slice none 0 0]) gok rfl rfl rfl ?_
    refine stA (cs' := #[.int .i64 0, .slice none 0 0]) gok rfl hb2 rfl (by simp [Value.oneCell']) ?_
    intro wz hbz huz
    refine loadN [.int .i64 0, .slice none 0 0] rfl hbz.all ?_
    exact hk_no (fun h => by obtain ⟨k1, k2, k3, k4, k5, k6⟩ := hkOk_iff.1 h; rw [hm] at k1; cases k1) (Upd.trans (fp := []) hu12 huz (fun b hb => .inr (by simp only [List.mem_singleton] at hb; omega)))

  refine cmp (fun a1 => ?_) (fun a1 => ?_)
  · refine build_ (cs := #[.int .i64 0, .slice none 0 0]) gok rfl rfl rfl ?_
    refine stA (cs' := #[.int .i64 0, .slice none 0 0]) gok rfl hb2 rfl (by simp [Value.oneCell']) ?_
    intro wz hbz huz
    refine loadN [.int .i64 0, .slice none 0 0] rfl hbz.all ?_
    exact hk_no (fun h => by obtain ⟨k1, k2, k3, k4, k5, k6⟩ := hkOk_iff.1 h; omega) (Upd.trans (fp := []) hu12 huz (fun b hb => .inr (by simp only [List.mem_singleton] at hb; omega)))

  refine cmp (fun a2 => ?_) (fun a2 => ?_)
  · refine build_ (cs := #[.int .i64 0, .slice none 0 0]) gok rfl rfl rfl ?_
    refine stA (cs' := #[.int .i64 0, .slice none 0 0]) gok rfl hb2 rfl (by simp [Value.oneCell']) ?_
    intro wz hbz huz
    refine loadN [.int .i64 0, .slice none 0 0] rfl hbz.all ?_
    exact hk_no (fun h => by obtain ⟨k1, k2, k3, k4, k5, k6⟩ := hkOk_iff.1 h; omega) (Upd.trans (fp := []) hu12 huz (fun b hb => .inr (by simp only [List.mem_singleton] at hb; omega)))

  obtain ⟨hm1, hm2, hg, hR8, hC0, hC8, hsh⟩ := resp_shape hm
  have h0 : 0 < m.length := by omega
  have e0 : m.getD 0 (0, []) = m[0] := getDq h0
  have hr2 := hr.ext_ hS hu12
  obtain ⟨b0, o0, A0, n0, c0, hA0, hSb0, hc0, hi0, hv0⟩ := hr2.atM h0
  subst hA0
  have en0 : n0 = hR m := by rw [hR, e0]; exact hv0.1
  subst en0
  have ec0 : m[0].1 = hC m := by rw [hC, e0]
  rw [ec0] at hc0 hi0
  have hR8' : hR m ≤ 8 := hR8
  have hC0' : 0 ≤ hC m := hC0
  have hC8' : hC m ≤ 8 := hC8
  obtain ⟨r, rfl⟩ : ∃ r : Nat, rows = r := ⟨rows.toNat, by omega⟩
  obtain ⟨k, rfl⟩ : ∃ k : Nat, cols = k := ⟨cols.toNat, by omega⟩
  refine cmp (fun b1 => ?_) (fun b1 => ?_)
  · refine cmp (fun b2 => ?_) (fun b2 => ?_)
    · refine cmp (fun b3 => ?_) (fun b3 => ?_)
      · refine build_ (cs := #[.int .i64 0, .slice none 0 0]) gok rfl rfl rfl ?_
        refine stA (cs' := #[.int .i64 0, .slice none 0 0]) gok rfl hb2 rfl (by simp [Value.oneCell']) ?_
        intro wz hbz huz
        refine loadN [.int .i64 0, .slice none 0 0] rfl hbz.all ?_
        exact hk_no (fun h => by obtain ⟨k1, k2, k3, k4, k5, k6⟩ := hkOk_iff.1 h; have := k4 (by omega) (by omega); omega) (Upd.trans (fp := []) hu12 huz (fun b hb => .inr (by simp only [List.mem_singleton] at hb; omega)))
      refine cmp (fun b4 => ?_) (fun b4 => ?_)
      · refine build_ (cs := #[.int .i64 0, .slice none 0 0]) gok rfl rfl rfl ?_
        refine stA (cs' := #[.int .i64 0, .slice none 0 0]) gok rfl hb2 rfl (by simp [Value.oneCell']) ?_
        intro wz hbz huz
        refine loadN [.int .i64 0, .slice none 0 0] rfl hbz.all ?_
        exact hk_no (fun h => by obtain ⟨k1, k2, k3, k4, k5, k6⟩ := hkOk_iff.1 h; have := k4 (by omega) (by omega); omega) (Upd.trans (fp := []) hu12 huz (fun b hb => .inr (by simp only [List.mem_singleton] at hb; omega)))
      refine ar (by omega) ?_
      refine cmp (fun b5 => ?_) (fun b5 => ?_)
      · refine build_ (cs := #[.int .i64 0, .slice none 0 0]) gok rfl rfl rfl ?_
        refine stA (cs' := #[.int .i64 0, .slice none 0 0]) gok rfl hb2 rfl (by simp [Value.oneCell']) ?_
        intro wz hbz huz
        refine loadN [.int .i64 0, .slice none 0 0] rfl hbz.all ?_
        exact hk_no (fun h => by obtain ⟨k1, k2, k3, k4, k5, k6⟩ := hkOk_iff.1 h; have := k4 (by omega) (by omega); omega) (Upd.trans (fp := []) hu12 huz (fun b hb => .inr (by simp only [List.mem_singleton] at hb; omega)))
      have hrc : (0 : Int) < r → (0 : Int) < k → (r : Int) + k ≤ m.length := fun _ _ => by omega
      refine idx 0 rfl h0 ?_
      refine fld gok rfl rfl rfl rfl (load1 (hc0 1 _ rfl) ?_)
      refine cmp (fun a4 => ?_) (fun a4 => ?_)
      · have hr' : (if hR m = 0 then 0 else r) = 0 := if_pos (by omega)
        have hrr : 0 < hR m → (r : Int) ≤ (24 : Int).tdiv (hR m) := fun h => by omega
        refine idx 0 rfl h0 ?_
        refine fld gok rfl rfl rfl rfl (load1 (hc0 0 _ rfl) ?_)
        refine cmp (fun a6 => ?_) (fun a6 => ?_)
        · have hk' : (if hC m = 0 then 0 else k) = 0 := if_pos a6
          have hkk : 0 < hC m → (k : Int) ≤ (24 : Int).tdiv (hC m) := fun h => by omega
          have ecol : ((0 : Nat) : Int) * hC m = (k : Int) * hC m := by rw [a6]; simp
          have hk24 : (0 : Nat) ≤ 24 := by omega
          have hr24 : (0 : Nat) ≤ 24 := by omega
          have hmul : 0 ≤ ((0 : Nat) : Int) * hC m ∧ ((0 : Nat) : Int) * hC m ≤ 192 := by
            have h1 : ((0 : Nat) : Int) * hC m ≤ 24 * hC m := Int.mul_le_mul_of_nonneg_right (by omega) hC0'
            have h2 : 0 ≤ ((0 : Nat) : Int) * hC m := Int.mul_nonneg (by omega) hC0'
            omega
          have hok : hkOk p m (r : Int) (k : Int) = true := hkOk_iff.2 ⟨hm, by omega, by omega, hrc, hrr, hkk⟩
          refine held (Upd [w.heap.size] w2) [(false, 0), (false, 1), (false, 2), (false, 3), (false, 6), (false, 7), (false, 8), (false, 4), (false, 5), (true, 9), (false, 10), (true, 11), (false, 12)] mixed (by kernel_rfl) ((ext_drewN 1).mono (fun _ h => by cases h)) ?_
          refine idx 0 rfl h0 ?_
          refine anyH (fun w' => fld gok rfl rfl rfl rfl ⟨rfl, rfl⟩) ?_
          refine loadH (cellU (hc0 0 _ rfl) (by rw [Addr.add_lit, Addr.add_lit]; simp only [List.mem_singleton]; have := hS _ hSb0; omega)) ?_
          refine ar (by omega) ?_
          refine call (rzHankel_c p _ m 0 0 S _ ((RdV.list_mk hr2).drewN 1) (fun b hb => Nat.lt_of_lt_of_le (hS b hb) hu12.size) hm (by omega) (by omega) (by omega)) ?_
          rintro _ w3 ⟨q, rfl, ⟨fq, hoq, hfq⟩, hu3⟩
          have hu3' : Ext w2 w3 := (ext_drewN 1).trans hu3 (fun _ h => by cases h)
          refine ⟨_, rfl, hold (hu3'.mono (fun _ h => by cases h)) ?_⟩
          obtain ⟨Aq, nq, cq, rfl, hoqL⟩ := hoq.list
          refine anyH (fun w' => build_ (cs := #[.int .i64 (((0 : Nat) : Int) * hC m), .slice Aq nq cq]) gok rfl rfl rfl ⟨rfl, rfl⟩) ?_
          refine stA (cs' := #[.int .i64 (((0 : Nat) : Int) * hC m), .slice Aq nq cq]) gok rfl (hb2.ext hu3') rfl (by simp [Value.oneCell']) ?_
          intro w4 hb4 hu4
          refine hold ((hu3'.mono (fun _ h => by cases h)).trans hu4 (fun b hb => .inl hb)) ?_
          refine loadN [.int .i64 (((0 : Nat) : Int) * hC m), .slice Aq nq cq] rfl hb4.all ?_
          have hfin : hkR p m (r : Int) (k : Int) = (((0 : Nat) : Int) * hC m, hk m 0 0) := by
            rw [hkR, if_pos hok]; simp only [Int.toNat_natCast, hr', hk', ecol]
          rw [hok, hfin]
          have es : (w2.drewN 1).heap.size = w2.heap.size := rfl
          refine ⟨_, rfl, ⟨fq, OwnV.pair_mk (by unfold inI; omega) (OwnL.upd hoqL hu4 (fun b hb h => ?_)), fun b hb => ?_⟩, ?_⟩
          · have := hfq b hb; simp only [List.mem_singleton] at h; omega
          · have := hfq b hb; omega
          · exact (hu12.trans hu3' (fun _ h => by cases h)).trans (fp := []) hu4 (fun b hb => .inr (by simp only [List.mem_singleton] at hb; omega))
        · have t24' := tdiv24 (b := hC m) (by omega) (by omega)
          refine quo_ (by omega) (by omega) ?_
          refine cmp (fun a7 => ?_) (fun a7 => ?_)
          · refine build_ (cs := #[.int .i64 0, .slice none 0 0]) gok rfl rfl rfl ?_
            refine stA (cs' := #[.int .i64 0, .slice none 0 0]) gok rfl hb2 rfl (by simp [Value.oneCell']) ?_
            intro wz hbz huz
            refine loadN [.int .i64 0, .slice none 0 0] rfl hbz.all ?_
            exact hk_no (fun h => by obtain ⟨k1, k2, k3, k4, k5, k6⟩ := hkOk_iff.1 h; have := k6 (by omega); omega) (Upd.trans (fp := []) hu12 huz (fun b hb => .inr (by simp only [List.mem_singleton] at hb; omega)))
          have hk' : (if hC m = 0 then 0 else k) = k := if_neg a6
          have hkk : 0 < hC m → (k : Int) ≤ (24 : Int).tdiv (hC m) := fun h => by omega
          have hk24 : (k : Nat) ≤ 24 := by omega
          have hr24 : (0 : Nat) ≤ 24 := by omega
          have hmul : 0 ≤ ((k : Nat) : Int) * hC m ∧ ((k : Nat) : Int) * hC m ≤ 192 := by
            have h1 : ((k : Nat) : Int) * hC m ≤ 24 * hC m := Int.mul_le_mul_of_nonneg_right (by omega) hC0'
            have h2 : 0 ≤ ((k : Nat) : Int) * hC m := Int.mul_nonneg (by omega) hC0'
            omega
          have hok : hkOk p m (r : Int) (k : Int) = true := hkOk_iff.2 ⟨hm, by omega, by omega, hrc, hrr, hkk⟩
          refine held (Upd [w.heap.size] w2) [(false, 0), (false, 1), (false, 2), (false, 3), (false, 6), (false, 7), (false, 8), (false, 4), (false, 5), (true, 9), (false, 10), (true, 11), (false, 12)] mixed (by kernel_rfl) ((ext_drewN 1).mono (fun _ h => by cases h)) ?_
          refine idx 0 rfl h0 ?_
          refine anyH (fun w' => fld gok rfl rfl rfl rfl ⟨rfl, rfl⟩) ?_
          refine loadH (cellU (hc0 0 _ rfl) (by rw [Addr.add_lit, Addr.add_lit]; simp only [List.mem_singleton]; have := hS _ hSb0; omega)) ?_
          refine ar (by omega) ?_
          refine call (rzHankel_c p _ m 0 k S _ ((RdV.list_mk hr2).drewN 1) (fun b hb => Nat.lt_of_lt_of_le (hS b hb) hu12.size) hm (by omega) (by omega) (by omega)) ?_
          rintro _ w3 ⟨q, rfl, ⟨fq, hoq, hfq⟩, hu3⟩
          have hu3' : Ext w2 w3 := (ext_drewN 1).trans hu3 (fun _ h => by cases h)
          refine ⟨_, rfl, hold (hu3'.mono (fun _ h => by cases h)) ?_⟩
          obtain ⟨Aq, nq, cq, rfl, hoqL⟩ := hoq.list
          refine anyH (fun w' => build_ (cs := #[.int .i64 (((k : Nat) : Int) * hC m), .slice Aq nq cq]) gok rfl rfl rfl ⟨rfl, rfl⟩) ?_
          refine stA (cs' := #[.int .i64 (((k : Nat) : Int) * hC m), .slice Aq nq cq]) gok rfl (hb2.ext hu3') rfl (by simp [Value.oneCell']) ?_
          intro w4 hb4 hu4
          refine hold ((hu3'.mono (fun _ h => by cases h)).trans hu4 (fun b hb => .inl hb)) ?_
          refine loadN [.int .i64 (((k : Nat) : Int) * hC m), .slice Aq nq cq] rfl hb4.all ?_
          have hfin : hkR p m (r : Int) (k : Int) = (((k : Nat) : Int) * hC m, hk m k 0) := by
            rw [hkR, if_pos hok]; simp only [Int.toNat_natCast, hr', hk']
          rw [hok, hfin]
          have es : (w2.drewN 1).heap.size = w2.heap.size := rfl
          refine ⟨_, rfl, ⟨fq, OwnV.pair_mk (by unfold inI; omega) (OwnL.upd hoqL hu4 (fun b hb h => ?_)), fun b hb => ?_⟩, ?_⟩
          · have := hfq b hb; simp only [List.mem_singleton] at h; omega
          · have := hfq b hb; omega
          · exact (hu12.trans hu3' (fun _ h => by cases h)).trans (fp := []) hu4 (fun b hb => .inr (by simp only [List.mem_singleton] at hb; omega))
      · have t24 := tdiv24 (b := (hR m : Int)) (by omega) (by omega)
        refine quo_ (by omega) (by omega) ?_
        refine cmp (fun a5 => ?_) (fun a5 => ?_)
        · refine build_ (cs := #[.int .i64 0, .slice none 0 0]) gok rfl rfl rfl ?_
          refine stA (cs' := #[.int .i64 0, .slice none 0 0]) gok rfl hb2 rfl (by simp [Value.oneCell']) ?_
          intro wz hbz huz
          refine loadN [.int .i64 0, .slice none 0 0] rfl hbz.all ?_
          exact hk_no (fun h => by obtain ⟨k1, k2, k3, k4, k5, k6⟩ := hkOk_iff.1 h; have := k5 (by omega); omega) (Upd.trans (fp := []) hu12 huz (fun b hb => .inr (by simp only [List.mem_singleton] at hb; omega)))
        have hr' : (if hR m = 0 then 0 else r) = r := if_neg (by omega)
        have hrr : 0 < hR m → (r : Int) ≤ (24 : Int).tdiv (hR m) := fun h => by omega
        refine idx 0 rfl h0 ?_
        refine fld gok rfl rfl rfl rfl (load1 (hc0 0 _ rfl) ?_)
        refine cmp (fun a6 => ?_) (fun a6 => ?_)
        · have hk' : (if hC m = 0 then 0 else k) = 0 := if_pos a6
          have hkk : 0 < hC m → (k : Int) ≤ (24 : Int).tdiv (hC m) := fun h => by omega
          have ecol : ((0 : Nat) : Int) * hC m = (k : Int) * hC m := by rw [a6]; simp
          have hk24 : (0 : Nat) ≤ 24 := by omega
          have hr24 : (r : Nat) ≤ 24 := by omega
          have hmul : 0 ≤ ((0 : Nat) : Int) * hC m ∧ ((0 : Nat) : Int) * hC m ≤ 192 := by
            have h1 : ((0 : Nat) : Int) * hC m ≤ 24 * hC m := Int.mul_le_mul_of_nonneg_right (by omega) hC0'
            have h2 : 0 ≤ ((0 : Nat) : Int) * hC m := Int.mul_nonneg (by omega) hC0'
            omega
          have hok : hkOk p m (r : Int) (k : Int) = true := hkOk_iff.2 ⟨hm, by omega, by omega, hrc, hrr, hkk⟩
          refine held (Upd [w.heap.size] w2) [(false, 0), (false, 1), (false, 2), (false, 3), (false, 6), (false, 7), (false, 8), (false, 4), (false, 5), (true, 9), (false, 10), (true, 11), (false, 12)] mixed (by kernel_rfl) ((ext_drewN 1).mono (fun _ h => by cases h)) ?_
          refine idx 0 rfl h0 ?_
          refine anyH (fun w' => fld gok rfl rfl rfl rfl ⟨rfl, rfl⟩) ?_
          refine loadH (cellU (hc0 0 _ rfl) (by rw [Addr.add_lit, Addr.add_lit]; simp only [List.mem_singleton]; have := hS _ hSb0; omega)) ?_
          refine ar (by omega) ?_
          refine call (rzHankel_c p _ m r 0 S _ ((RdV.list_mk hr2).drewN 1) (fun b hb => Nat.lt_of_lt_of_le (hS b hb) hu12.size) hm (by omega) (by omega) (by omega)) ?_
          rintro _ w3 ⟨q, rfl, ⟨fq, hoq, hfq⟩, hu3⟩
          have hu3' : Ext w2 w3 := (ext_drewN 1).trans hu3 (fun _ h => by cases h)
          refine ⟨_, rfl, hold (hu3'.mono (fun _ h => by cases h)) ?_⟩
          obtain ⟨Aq, nq, cq, rfl, hoqL⟩ := hoq.list
          refine anyH (fun w' => build_ (cs := #[.int .i64 (((0 : Nat) : Int) * hC m), .slice Aq nq cq]) gok rfl rfl rfl ⟨rfl, rfl⟩) ?_
          refine stA (cs' := #[.int .i64 (((0 : Nat) : Int) * hC m), .slice Aq nq cq]) gok rfl (hb2.ext hu3') rfl (by simp [Value.oneCell']) ?_
          intro w4 hb4 hu4
          refine hold ((hu3'.mono (fun _ h => by cases h)).trans hu4 (fun b hb => .inl hb)) ?_
          refine loadN [.int .i64 (((0 : Nat) : Int) * hC m), .slice Aq nq cq] rfl hb4.all ?_
          have hfin : hkR p m (r : Int) (k : Int) = (((0 : Nat) : Int) * hC m, hk m 0 r) := by
            rw [hkR, if_pos hok]; simp only [Int.toNat_natCast, hr', hk', ecol]
          rw [hok, hfin]
          have es : (w2.drewN 1).heap.size = w2.heap.size := rfl
          refine ⟨_, rfl, ⟨fq, OwnV.pair_mk (by unfold inI; omega) (OwnL.upd hoqL hu4 (fun b hb h => ?_)), fun b hb => ?_⟩, ?_⟩
          · have := hfq b hb; simp only [List.mem_singleton] at h; omega
          · have := hfq b hb; omega
          · exact (hu12.trans hu3' (fun _ h => by cases h)).trans (fp := []) hu4 (fun b hb => .inr (by simp only [List.mem_singleton] at hb; omega))
        · have t24' := tdiv24 (b := hC m) (by omega) (by omega)
          refine quo_ (by omega) (by omega) ?_
          refine cmp (fun a7 => ?_) (fun a7 => ?_)
          · refine build_ (cs := #[.int .i64 0, .slice none 0 0]) gok rfl rfl rfl ?_
            refine stA (cs' := #[.int .i64 0, .slice none 0 0]) gok rfl hb2 rfl (by simp [Value.oneCell']) ?_
            intro wz hbz huz
            refine loadN [.int .i64 0, .slice none 0 0] rfl hbz.all ?_
            exact hk_no (fun h => by obtain ⟨k1, k2, k3, k4, k5, k6⟩ := hkOk_iff.1 h; have := k6 (by omega); omega) (Upd.trans (fp := []) hu12 huz (fun b hb => .inr (by simp only [List.mem_singleton] at hb; omega)))
          have hk' : (if hC m = 0 then 0 else k) = k := if_neg a6
          have hkk : 0 < hC m → (k : Int) ≤ (24 : Int).tdiv (hC m) := fun h => by omega
          have hk24 : (k : Nat) ≤ 24 := by omega
          have hr24 : (r : Nat) ≤ 24 := by omega
          have hmul : 0 ≤ ((k : Nat) : Int) * hC m ∧ ((k : Nat) : Int) * hC m ≤ 192 := by
            have h1 : ((k : Nat) : Int) * hC m ≤ 24 * hC m := Int.mul_le_mul_of_nonneg_right (by omega) hC0'
            have h2 : 0 ≤ ((k : Nat) : Int) * hC m := Int.mul_nonneg (by omega) hC0'
            omega
          have hok : hkOk p m (r : Int) (k : Int) = true := hkOk_iff.2 ⟨hm, by omega, by omega, hrc, hrr, hkk⟩
          refine held (Upd [w.heap.size] w2) [(false, 0), (false, 1), (false, 2), (false, 3), (false, 6), (false, 7), (false, 8), (false, 4), (false, 5), (true, 9), (false, 10), (true, 11), (false, 12)] mixed (by kernel_rfl) ((ext_drewN 1).mono (fun _ h => by cases h)) ?_
          refine idx 0 rfl h0 ?_
          refine anyH (fun w' => fld gok rfl rfl rfl rfl ⟨rfl, rfl⟩) ?_
          refine loadH (cellU (hc0 0 _ rfl) (by rw [Addr.add_lit, Addr.add_lit]; simp only [List.mem_singleton]; have := hS _ hSb0; omega)) ?_
          refine ar (by omega) ?_
          refine call (rzHankel_c p _ m r k S _ ((RdV.list_mk hr2).drewN 1) (fun b hb => Nat.lt_of_lt_of_le (hS b hb) hu12.size) hm (by omega) (by omega) (by omega)) ?_
          rintro _ w3 ⟨q, rfl, ⟨fq, hoq, hfq⟩, hu3⟩
          have hu3' : Ext w2 w3 := (ext_drewN 1).trans hu3 (fun _ h => by cases h)
          refine ⟨_, rfl, hold (hu3'.mono (fun _ h => by cases h)) ?_⟩
          obtain ⟨Aq, nq, cq, rfl, hoqL⟩ := hoq.list
          refine anyH (fun w' => build_ (cs := #[.int .i64 (((k : Nat) : Int) * hC m), .slice Aq nq cq]) gok rfl rfl rfl ⟨rfl, rfl⟩) ?_
          refine stA (cs' := #[.int .i64 (((k : Nat) : Int) * hC m), .slice Aq nq cq]) gok rfl (hb2.ext hu3') rfl (by simp [Value.oneCell']) ?_
          intro w4 hb4 hu4
          refine hold ((hu3'.mono (fun _ h => by cases h)).trans hu4 (fun b hb => .inl hb)) ?_
          refine loadN [.int .i64 (((k : Nat) : Int) * hC m), .slice Aq nq cq] rfl hb4.all ?_
          have hfin : hkR p m (r : Int) (k : Int) = (((k : Nat) : Int) * hC m, hk m k r) := by
            rw [hkR, if_pos hok]; simp only [Int.toNat_natCast, hr', hk']
          rw [hok, hfin]
          have es : (w2.drewN 1).heap.size = w2.heap.size := rfl
          refine ⟨_, rfl, ⟨fq, OwnV.pair_mk (by unfold inI; omega) (OwnL.upd hoqL hu4 (fun b hb h => ?_)), fun b hb => ?_⟩, ?_⟩
          · have := hfq b hb; simp only [List.mem_singleton] at h; omega
          · have := hfq b hb; omega
          · exact (hu12.trans hu3' (fun _ h => by cases h)).trans (fp := []) hu4 (fun b hb => .inr (by simp only [List.mem_singleton] at hb; omega))
    · have hrc : (0 : Int) < r → (0 : Int) < k → (r : Int) + k ≤ m.length := fun _ _ => by omega
      refine idx 0 rfl h0 ?_
      refine fld gok rfl rfl rfl rfl (load1 (hc0 1 _ rfl) ?_)
      refine cmp (fun a4 => ?_) (fun a4 => ?_)
      · have hr' : (if hR m = 0 then 0 else r) = 0 := if_pos (by omega)
        have hrr : 0 < hR m → (r : Int) ≤ (24 : Int).tdiv (hR m) := fun h => by omega
        refine idx 0 rfl h0 ?_
        refine fld gok rfl rfl rfl rfl (load1 (hc0 0 _ rfl) ?_)
        refine cmp (fun a6 => ?_) (fun a6 => ?_)
        · have hk' : (if hC m = 0 then 0 else k) = 0 := if_pos a6
          have hkk : 0 < hC m → (k : Int) ≤ (24 : Int).tdiv (hC m) := fun h => by omega
          have ecol : ((0 : Nat) : Int) * hC m = (k : Int) * hC m := by rw [a6]; simp
          have hk24 : (0 : Nat) ≤ 24 := by omega
          have hr24 : (0 : Nat) ≤ 24 := by omega
          have hmul : 0 ≤ ((0 : Nat) : Int) * hC m ∧ ((0 : Nat) : Int) * hC m ≤ 192 := by
            have h1 : ((0 : Nat) : Int) * hC m ≤ 24 * hC m := Int.mul_le_mul_of_nonneg_right (by omega) hC0'
            have h2 : 0 ≤ ((0 : Nat) : Int) * hC m := Int.mul_nonneg (by omega) hC0'
            omega
          have hok : hkOk p m (r : Int) (k : Int) = true := hkOk_iff.2 ⟨hm, by omega, by omega, hrc, hrr, hkk⟩
          refine held (Upd [w.heap.size] w2) [(false, 0), (false, 1), (false, 2), (false, 3), (false, 6), (false, 7), (false, 8), (false, 4), (false, 5), (true, 9), (false, 10), (true, 11), (false, 12)] mixed (by kernel_rfl) ((ext_drewN 1).mono (fun _ h => by cases h)) ?_
          refine idx 0 rfl h0 ?_
          refine anyH (fun w' => fld gok rfl rfl rfl rfl ⟨rfl, rfl⟩) ?_
          refine loadH (cellU (hc0 0 _ rfl) (by rw [Addr.add_lit, Addr.add_lit]; simp only [List.mem_singleton]; have := hS _ hSb0; omega)) ?_
          refine ar (by omega) ?_
          refine call (rzHankel_c p _ m 0 0 S _ ((RdV.list_mk hr2).drewN 1) (fun b hb => Nat.lt_of_lt_of_le (hS b hb) hu12.size) hm (by omega) (by omega) (by omega)) ?_
          rintro _ w3 ⟨q, rfl, ⟨fq, hoq, hfq⟩, hu3⟩
          have hu3' : Ext w2 w3 := (ext_drewN 1).trans hu3 (fun _ h => by cases h)
          refine ⟨_, rfl, hold (hu3'.mono (fun _ h => by cases h)) ?_⟩
          obtain ⟨Aq, nq, cq, rfl, hoqL⟩ := hoq.list
          refine anyH (fun w' => build_ (cs := #[.int .i64 (((0 : Nat) : Int) * hC m), .slice Aq nq cq]) gok rfl rfl rfl ⟨rfl, rfl⟩) ?_
          refine stA (cs' := #[.int .i64 (((0 : Nat) : Int) * hC m), .slice Aq nq cq]) gok rfl (hb2.ext hu3') rfl (by simp [Value.oneCell']) ?_
          intro w4 hb4 hu4
          refine hold ((hu3'.mono (fun _ h => by cases h)).trans hu4 (fun b hb => .inl hb)) ?_
          refine loadN [.int .i64 (((0 : Nat) : Int) * hC m), .slice Aq nq cq] rfl hb4.all ?_
          have hfin : hkR p m (r : Int) (k : Int) = (((0 : Nat) : Int) * hC m, hk m 0 0) := by
            rw [hkR, if_pos hok]; simp only [Int.toNat_natCast, hr', hk', ecol]
          rw [hok, hfin]
          have es : (w2.drewN 1).heap.size = w2.heap.size := rfl
          refine ⟨_, rfl, ⟨fq, OwnV.pair_mk (by unfold inI; omega) (OwnL.upd hoqL hu4 (fun b hb h => ?_)), fun b hb => ?_⟩, ?_⟩
          · have := hfq b hb; simp only [List.mem_singleton] at h; omega
          · have := hfq b hb; omega
          · exact (hu12.trans hu3' (fun _ h => by cases h)).trans (fp := []) hu4 (fun b hb => .inr (by simp only [List.mem_singleton] at hb; omega))
        · have t24' := tdiv24 (b := hC m) (by omega) (by omega)
          refine quo_ (by omega) (by omega) ?_
          refine cmp (fun a7 => ?_) (fun a7 => ?_)
          · refine build_ (cs := #[.int .i64 0, .slice none 0 0]) gok rfl rfl rfl ?_
            refine stA (cs' := #[.int .i64 0, .slice none 0 0]) gok rfl hb2 rfl (by simp [Value.oneCell']) ?_
            intro wz hbz huz
            refine loadN [.int .i64 0, .slice none 0 0] rfl hbz.all ?_
            exact hk_no (fun h => by obtain ⟨k1, k2, k3, k4, k5, k6⟩ := hkOk_iff.1 h; have := k6 (by omega); omega) (Upd.trans (fp := []) hu12 huz (fun b hb => .inr (by simp only [List.mem_singleton] at hb; omega)))
          have hk' : (if hC m = 0 then 0 else k) = k := if_neg a6
          have hkk : 0 < hC m → (k : Int) ≤ (24 : Int).tdiv (hC m) := fun h => by omega
          have hk24 : (k : Nat) ≤ 24 := by omega
          have hr24 : (0 : Nat) ≤ 24 := by omega
          have hmul : 0 ≤ ((k : Nat) : Int) * hC m ∧ ((k : Nat) : Int) * hC m ≤ 192 := by
            have h1 : ((k : Nat) : Int) * hC m ≤ 24 * hC m := Int.mul_le_mul_of_nonneg_right (by omega) hC0'
            have h2 : 0 ≤ ((k : Nat) : Int) * hC m := Int.mul_nonneg (by omega) hC0'
            omega
          have hok : hkOk p m (r : Int) (k : Int) = true := hkOk_iff.2 ⟨hm, by omega, by omega, hrc, hrr, hkk⟩
          refine held (Upd [w.heap.size] w2) [(false, 0), (false, 1), (false, 2), (false, 3), (false, 6), (false, 7), (false, 8), (false, 4), (false, 5), (true, 9), (false, 10), (true, 11), (false, 12)] mixed (by kernel_rfl) ((ext_drewN 1).mono (fun _ h => by cases h)) ?_
          refine idx 0 rfl h0 ?_
          refine anyH (fun w' => fld gok rfl rfl rfl rfl ⟨rfl, rfl⟩) ?_
          refine loadH (cellU (hc0 0 _ rfl) (by rw [Addr.add_lit, Addr.add_lit]; simp only [List.mem_singleton]; have := hS _ hSb0; omega)) ?_
          refine ar (by omega) ?_
          refine call (rzHankel_c p _ m 0 k S _ ((RdV.list_mk hr2).drewN 1) (fun b hb => Nat.lt_of_lt_of_le (hS b hb) hu12.size) hm (by omega) (by omega) (by omega)) ?_
          rintro _ w3 ⟨q, rfl, ⟨fq, hoq, hfq⟩, hu3⟩
          have hu3' : Ext w2 w3 := (ext_drewN 1).trans hu3 (fun _ h => by cases h)
          refine ⟨_, rfl, hold (hu3'.mono (fun _ h => by cases h)) ?_⟩
          obtain ⟨Aq, nq, cq, rfl, hoqL⟩ := hoq.list
          refine anyH (fun w' => build_ (cs := #[.int .i64 (((k : Nat) : Int) * hC m), .slice Aq nq cq]) gok rfl rfl rfl ⟨rfl, rfl⟩) ?_
          refine stA (cs' := #[.int .i64 (((k : Nat) : Int) * hC m), .slice Aq nq cq]) gok rfl (hb2.ext hu3') rfl (by simp [Value.oneCell']) ?_
          intro w4 hb4 hu4
          refine hold ((hu3'.mono (fun _ h => by cases h)).trans hu4 (fun b hb => .inl hb)) ?_
          refine loadN [.int .i64 (((k : Nat) : Int) * hC m), .slice Aq nq cq] rfl hb4.all ?_
          have hfin : hkR p m (r : Int) (k : Int) = (((k : Nat) : Int) * hC m, hk m k 0) := by
            rw [hkR, if_pos hok]; simp only [Int.toNat_natCast, hr', hk']
          rw [hok, hfin]
          have es : (w2.drewN 1).heap.size = w2.heap.size := rfl
          refine ⟨_, rfl, ⟨fq, OwnV.pair_mk (by unfold inI; omega) (OwnL.upd hoqL hu4 (fun b hb h => ?_)), fun b hb => ?_⟩, ?_⟩
          · have := hfq b hb; simp only [List.mem_singleton] at h; omega
          · have := hfq b hb; omega
          · exact (hu12.trans hu3' (fun _ h => by cases h)).trans (fp := []) hu4 (fun b hb => .inr (by simp only [List.mem_singleton] at hb; omega))
      · have t24 := tdiv24 (b := (hR m : Int)) (by omega) (by omega)
        refine quo_ (by omega) (by omega) ?_
        refine cmp (fun a5 => ?_) (fun a5 => ?_)
        · refine build_ (cs := #[.int .i64 0, .slice none 0 0]) gok rfl rfl rfl ?_
          refine stA (cs' := #[.int .i64 0, .slice none 0 0]) gok rfl hb2 rfl (by simp [Value.oneCell']) ?_
          intro wz hbz huz
          refine loadN [.int .i64 0, .slice none 0 0] rfl hbz.all ?_
          exact hk_no (fun h => by obtain ⟨k1, k2, k3, k4, k5, k6⟩ := hkOk_iff.1 h; have := k5 (by omega); omega) (Upd.trans (fp := []) hu12 huz (fun b hb => .inr (by simp only [List.mem_singleton] at hb; omega)))
        have hr' : (if hR m = 0 then 0 else r) = r := if_neg (by omega)
        have hrr : 0 < hR m → (r : Int) ≤ (24 : Int).tdiv (hR m) := fun h => by omega
        refine idx 0 rfl h0 ?_
        refine fld gok rfl rfl rfl rfl (load1 (hc0 0 _ rfl) ?_)
        refine cmp (fun a6 => ?_) (fun a6 => ?_)
        · have hk' : (if hC m = 0 then 0 else k) = 0 := if_pos a6
          have hkk : 0 < hC m → (k : Int) ≤ (24 : Int).tdiv (hC m) := fun h => by omega
          have ecol : ((0 : Nat) : Int) * hC m = (k : Int) * hC m := by rw [a6]; simp
          have hk24 : (0 : Nat) ≤ 24 := by omega
          have hr24 : (r : Nat) ≤ 24 := by omega
          have hmul : 0 ≤ ((0 : Nat) : Int) * hC m ∧ ((0 : Nat) : Int) * hC m ≤ 192 := by
            have h1 : ((0 : Nat) : Int) * hC m ≤ 24 * hC m := Int.mul_le_mul_of_nonneg_right (by omega) hC0'
            have h2 : 0 ≤ ((0 : Nat) : Int) * hC m := Int.mul_nonneg (by omega) hC0'
            omega
          have hok : hkOk p m (r : Int) (k : Int) = true := hkOk_iff.2 ⟨hm, by omega, by omega, hrc, hrr, hkk⟩
          refine held (Upd [w.heap.size] w2) [(false, 0), (false, 1), (false, 2), (false, 3), (false, 6), (false, 7), (false, 8), (false, 4), (false, 5), (true, 9), (false, 10), (true, 11), (false, 12)] mixed (by kernel_rfl) ((ext_drewN 1).mono (fun _ h => by cases h)) ?_
          refine idx 0 rfl h0 ?_
          refine anyH (fun w' => fld gok rfl rfl rfl rfl ⟨rfl, rfl⟩) ?_
          refine loadH (cellU (hc0 0 _ rfl) (by rw [Addr.add_lit, Addr.add_lit]; simp only [List.mem_singleton]; have := hS _ hSb0; omega)) ?_
          refine ar (by omega) ?_
          refine call (rzHankel_c p _ m r 0 S _ ((RdV.list_mk hr2).drewN 1) (fun b hb => Nat.lt_of_lt_of_le (hS b hb) hu12.size) hm (by omega) (by omega) (by omega)) ?_
          rintro _ w3 ⟨q, rfl, ⟨fq, hoq, hfq⟩, hu3⟩
          have hu3' : Ext w2 w3 := (ext_drewN 1).trans hu3 (fun _ h => by cases h)
          refine ⟨_, rfl, hold (hu3'.mono (fun _ h => by cases h)) ?_⟩
          obtain ⟨Aq, nq, cq, rfl, hoqL⟩ := hoq.list
          refine anyH (fun w' => build_ (cs := #[.int .i64 (((0 : Nat) : Int) * hC m), .slice Aq nq cq]) gok rfl rfl rfl ⟨rfl, rfl⟩) ?_
          refine stA (cs' := #[.int .i64 (((0 : Nat) : Int) * hC m), .slice Aq nq cq]) gok rfl (hb2.ext hu3') rfl (by simp [Value.oneCell']) ?_
          intro w4 hb4 hu4
          refine hold ((hu3'.mono (fun _ h => by cases h)).trans hu4 (fun b hb => .inl hb)) ?_
          refine loadN [.int .i64 (((0 : Nat) : Int) * hC m), .slice Aq nq cq] rfl hb4.all ?_
          have hfin : hkR p m (r : Int) (k : Int) = (((0 : Nat) : Int) * hC m, hk m 0 r) := by
            rw [hkR, if_pos hok]; simp only [Int.toNat_natCast, hr', hk', ecol]
          rw [hok, hfin]
          have es : (w2.drewN 1).heap.size = w2.heap.size := rfl
          refine ⟨_, rfl, ⟨fq, OwnV.pair_mk (by unfold inI; omega) (OwnL.upd hoqL hu4 (fun b hb h => ?_)), fun b hb => ?_⟩, ?_⟩
          · have := hfq b hb; simp only [List.mem_singleton] at h; omega
          · have := hfq b hb; omega
          · exact (hu12.trans hu3' (fun _ h => by cases h)).trans (fp := []) hu4 (fun b hb => .inr (by simp only [List.mem_singleton] at hb; omega))
        · have t24' := tdiv24 (b := hC m) (by omega) (by omega)
          refine quo_ (by omega) (by omega) ?_
          refine cmp (fun a7 => ?_) (fun a7 => ?_)
          · refine build_ (cs := #[.int .i64 0, .slice none 0 0]) gok rfl rfl rfl ?_
            refine stA (cs' := #[.int .i64 0, .slice none 0 0]) gok rfl hb2 rfl (by simp [Value.oneCell']) ?_
            intro wz hbz huz
            refine loadN [.int .i64 0, .slice none 0 0] rfl hbz.all ?_
            exact hk_no (fun h => by obtain ⟨k1, k2, k3, k4, k5, k6⟩ := hkOk_iff.1 h; have := k6 (by omega); omega) (Upd.trans (fp := []) hu12 huz (fun b hb => .inr (by simp only [List.mem_singleton] at hb; omega)))
          have hk' : (if hC m = 0 then 0 else k) = k := if_neg a6
          have hkk : 0 < hC m → (k : Int) ≤ (24 : Int).tdiv (hC m) := fun h => by omega
          have hk24 : (k : Nat) ≤ 24 := by omega
          have hr24 : (r : Nat) ≤ 24 := by omega
          have hmul : 0 ≤ ((k : Nat) : Int) * hC m ∧ ((k : Nat) : Int) * hC m ≤ 192 := by
            have h1 : ((k : Nat) : Int) * hC m ≤ 24 * hC m := Int.mul_le_mul_of_nonneg_right (by omega) hC0'
            have h2 : 0 ≤ ((k : Nat) : Int) * hC m := Int.mul_nonneg (by omega) hC0'
            omega
          have hok : hkOk p m (r : Int) (k : Int) = true := hkOk_iff.2 ⟨hm, by omega, by omega, hrc, hrr, hkk⟩
          refine held (Upd [w.heap.size] w2) [(false, 0), (false, 1), (false, 2), (false, 3), (false, 6), (false, 7), (false, 8), (false, 4), (false, 5), (true, 9), (false, 10), (true, 11), (false, 12)] mixed (by kernel_rfl) ((ext_drewN 1).mono (fun _ h => by cases h)) ?_
          refine idx 0 rfl h0 ?_
          refine anyH (fun w' => fld gok rfl rfl rfl rfl ⟨rfl, rfl⟩) ?_
          refine loadH (cellU (hc0 0 _ rfl) (by rw [Addr.add_lit, Addr.add_lit]; simp only [List.mem_singleton]; have := hS _ hSb0; omega)) ?_
          refine ar (by omega) ?_
          refine call (rzHankel_c p _ m r k S _ ((RdV.list_mk hr2).drewN 1) (fun b hb => Nat.lt_of_lt_of_le (hS b hb) hu12.size) hm (by omega) (by omega) (by omega)) ?_
          rintro _ w3 ⟨q, rfl, ⟨fq, hoq, hfq⟩, hu3⟩
          have hu3' : Ext w2 w3 := (ext_drewN 1).trans hu3 (fun _ h => by cases h)
          refine ⟨_, rfl, hold (hu3'.mono (fun _ h => by cases h)) ?_⟩
          obtain ⟨Aq, nq, cq, rfl, hoqL⟩ := hoq.list
          refine anyH (fun w' => build_ (cs := #[.int .i64 (((k : Nat) : Int) * hC m), .slice Aq nq cq]) gok rfl rfl rfl ⟨rfl, rfl⟩) ?_
          refine stA (cs' := #[.int .i64 (((k : Nat) : Int) * hC m), .slice Aq nq cq]) gok rfl (hb2.ext hu3') rfl (by simp [Value.oneCell']) ?_
          intro w4 hb4 hu4
          refine hold ((hu3'.mono (fun _ h => by cases h)).trans hu4 (fun b hb => .inl hb)) ?_
          refine loadN [.int .i64 (((k : Nat) : Int) * hC m), .slice Aq nq cq] rfl hb4.all ?_
          have hfin : hkR p m (r : Int) (k : Int) = (((k : Nat) : Int) * hC m, hk m k r) := by
            rw [hkR, if_pos hok]; simp only [Int.toNat_natCast, hr', hk']
          rw [hok, hfin]
          have es : (w2.drewN 1).heap.size = w2.heap.size := rfl
          refine ⟨_, rfl, ⟨fq, OwnV.pair_mk (by unfold inI; omega) (OwnL.upd hoqL hu4 (fun b hb h => ?_)), fun b hb => ?_⟩, ?_⟩
          · have := hfq b hb; simp only [List.mem_singleton] at h; omega
          · have := hfq b hb; omega
          · exact (hu12.trans hu3' (fun _ h => by cases h)).trans (fp := []) hu4 (fun b hb => .inr (by simp only [List.mem_singleton] at hb; omega))
  · have hrc : (0 : Int) < r → (0 : Int) < k → (r : Int) + k ≤ m.length := fun _ _ => by omega
    refine idx 0 rfl h0 ?_
    refine fld gok rfl rfl rfl rfl (load1 (hc0 1 _ rfl) ?_)
    refine cmp (fun a4 => ?_) (fun a4 => ?_)
    · have hr' : (if hR m = 0 then 0 else r) = 0 := if_pos (by omega)
      have hrr : 0 < hR m → (r : Int) ≤ (24 : Int).tdiv (hR m) := fun h => by omega
      refine idx 0 rfl h0 ?_
      refine fld gok rfl rfl rfl rfl (load1 (hc0 0 _ rfl) ?_)
      refine cmp (fun a6 => ?_) (fun a6 => ?_)
      · have hk' : (if hC m = 0 then 0 else k) = 0 := if_pos a6
        have hkk : 0 < hC m → (k : Int) ≤ (24 : Int).tdiv (hC m) := fun h => by omega
        have ecol : ((0 : Nat) : Int) * hC m = (k : Int) * hC m := by rw [a6]; simp
        have hk24 : (0 : Nat) ≤ 24 := by omega
        have hr24 : (0 : Nat) ≤ 24 := by omega
        have hmul : 0 ≤ ((0 : Nat) : Int) * hC m ∧ ((0 : Nat) : Int) * hC m ≤ 192 := by
          have h1 : ((0 : Nat) : Int) * hC m ≤ 24 * hC m := Int.mul_le_mul_of_nonneg_right (by omega) hC0'
          have h2 : 0 ≤ ((0 : Nat) : Int) * hC m := Int.mul_nonneg (by omega) hC0'
          omega
        have hok : hkOk p m (r : Int) (k : Int) = true := hkOk_iff.2 ⟨hm, by omega, by omega, hrc, hrr, hkk⟩
        refine held (Upd [w.heap.size] w2) [(false, 0), (false, 1), (false, 2), (false, 3), (false, 6), (false, 7), (false, 8), (false, 4), (false, 5), (true, 9), (false, 10), (true, 11), (false, 12)] mixed (by kernel_rfl) ((ext_drewN 1).mono (fun _ h => by cases h)) ?_
        refine idx 0 rfl h0 ?_
        refine anyH (fun w' => fld gok rfl rfl rfl rfl ⟨rfl, rfl⟩) ?_
        refine loadH (cellU (hc0 0 _ rfl) (by rw [Addr.add_lit, Addr.add_lit]; simp only [List.mem_singleton]; have := hS _ hSb0; omega)) ?_
        refine ar (by omega) ?_
        refine call (rzHankel_c p _ m 0 0 S _ ((RdV.list_mk hr2).drewN 1) (fun b hb => Nat.lt_of_lt_of_le (hS b hb) hu12.size) hm (by omega) (by omega) (by omega)) ?_
        rintro _ w3 ⟨q, rfl, ⟨fq, hoq, hfq⟩, hu3⟩
        have hu3' : Ext w2 w3 := (ext_drewN 1).trans hu3 (fun _ h => by cases h)
        refine ⟨_, rfl, hold (hu3'.mono (fun _ h => by cases h)) ?_⟩
        obtain ⟨Aq, nq, cq, rfl, hoqL⟩ := hoq.list
        refine anyH (fun w' => build_ (cs := #[.int .i64 (((0 : Nat) : Int) * hC m), .slice Aq nq cq]) gok rfl rfl rfl ⟨rfl, rfl⟩) ?_
        refine stA (cs' := #[.int .i64 (((0 : Nat) : Int) * hC m), .slice Aq nq cq]) gok rfl (hb2.ext hu3') rfl (by simp [Value.oneCell']) ?_
        intro w4 hb4 hu4
        refine hold ((hu3'.mono (fun _ h => by cases h)).trans hu4 (fun b hb => .inl hb)) ?_
        refine loadN [.int .i64 (((0 : Nat) : Int) * hC m), .slice Aq nq cq] rfl hb4.all ?_
        have hfin : hkR p m (r : Int) (k : Int) = (((0 : Nat) : Int) * hC m, hk m 0 0) := by
          rw [hkR, if_pos hok]; simp only [Int.toNat_natCast, hr', hk', ecol]
        rw [hok, hfin]
        have es : (w2.drewN 1).heap.size = w2.heap.size := rfl
        refine ⟨_, rfl, ⟨fq, OwnV.pair_mk (by unfold inI; omega) (OwnL.upd hoqL hu4 (fun b hb h => ?_)), fun b hb => ?_⟩, ?_⟩
        · have := hfq b hb; simp only [List.mem_singleton] at h; omega
        · have := hfq b hb; omega
        · exact (hu12.trans hu3' (fun _ h => by cases h)).trans (fp := []) hu4 (fun b hb => .inr (by simp only [List.mem_singleton] at hb; omega))
      · have t24' := tdiv24 (b := hC m) (by omega) (by omega)
        refine quo_ (by omega) (by omega) ?_
        refine cmp (fun a7 => ?_) (fun a7 => ?_)
        · refine build_ (cs := #[.int .i64 0, .slice none 0 0]) gok rfl rfl rfl ?_
          refine stA (cs' := #[.int .i64 0, .slice none 0 0]) gok rfl hb2 rfl (by simp [Value.oneCell']) ?_
          intro wz hbz huz
          refine loadN [.int .i64 0, .slice none 0 0] rfl hbz.all ?_
          exact hk_no (fun h => by obtain ⟨k1, k2, k3, k4, k5, k6⟩ := hkOk_iff.1 h; have := k6 (by omega); omega) (Upd.trans (fp := []) hu12 huz (fun b hb => .inr (by simp only [List.mem_singleton] at hb; omega)))
        have hk' : (if hC m = 0 then 0 else k) = k := if_neg a6
        have hkk : 0 < hC m → (k : Int) ≤ (24 : Int).tdiv (hC m) := fun h => by omega
        have hk24 : (k : Nat) ≤ 24 := by omega
        have hr24 : (0 : Nat) ≤ 24 := by omega
        have hmul : 0 ≤ ((k : Nat) : Int) * hC m ∧ ((k : Nat) : Int) * hC m ≤ 192 := by
          have h1 : ((k : Nat) : Int) * hC m ≤ 24 * hC m := Int.mul_le_mul_of_nonneg_right (by omega) hC0'
          have h2 : 0 ≤ ((k : Nat) : Int) * hC m := Int.mul_nonneg (by omega) hC0'
          omega
        have hok : hkOk p m (r : Int) (k : Int) = true := hkOk_iff.2 ⟨hm, by omega, by omega, hrc, hrr, hkk⟩
        refine held (Upd [w.heap.size] w2) [(false, 0), (false, 1), (false, 2), (false, 3), (false, 6), (false, 7), (false, 8), (false, 4), (false, 5), (true, 9), (false, 10), (true, 11), (false, 12)] mixed (by kernel_rfl) ((ext_drewN 1).mono (fun _ h => by cases h)) ?_
        refine idx 0 rfl h0 ?_
        refine anyH (fun w' => fld gok rfl rfl rfl rfl ⟨rfl, rfl⟩) ?_
        refine loadH (cellU (hc0 0 _ rfl) (by rw [Addr.add_lit, Addr.add_lit]; simp only [List.mem_singleton]; have := hS _ hSb0; omega)) ?_
        refine ar (by omega) ?_
        refine call (rzHankel_c p _ m 0 k S _ ((RdV.list_mk hr2).drewN 1) (fun b hb => Nat.lt_of_lt_of_le (hS b hb) hu12.size) hm (by omega) (by omega) (by omega)) ?_
        rintro _ w3 ⟨q, rfl, ⟨fq, hoq, hfq⟩, hu3⟩
        have hu3' : Ext w2 w3 := (ext_drewN 1).trans hu3 (fun _ h => by cases h)
        refine ⟨_, rfl, hold (hu3'.mono (fun _ h => by cases h)) ?_⟩
        obtain ⟨Aq, nq, cq, rfl, hoqL⟩ := hoq.list
        refine anyH (fun w' => build_ (cs := #[.int .i64 (((k : Nat) : Int) * hC m), .slice Aq nq cq]) gok rfl rfl rfl ⟨rfl, rfl⟩) ?_
        refine stA (cs' := #[.int .i64 (((k : Nat) : Int) * hC m), .slice Aq nq cq]) gok rfl (hb2.ext hu3') rfl (by simp [Value.oneCell']) ?_
        intro w4 hb4 hu4
        refine hold ((hu3'.mono (fun _ h => by cases h)).trans hu4 (fun b hb => .inl hb)) ?_
        refine loadN [.int .i64 (((k : Nat) : Int) * hC m), .slice Aq nq cq] rfl hb4.all ?_
        have hfin : hkR p m (r : Int) (k : Int) = (((k : Nat) : Int) * hC m, hk m k 0) := by
          rw [hkR, if_pos hok]; simp only [Int.toNat_natCast, hr', hk']
        rw [hok, hfin]
        have es : (w2.drewN 1).heap.size = w2.heap.size := rfl
        refine ⟨_, rfl, ⟨fq, OwnV.pair_mk (by unfold inI; omega) (OwnL.upd hoqL hu4 (fun b hb h => ?_)), fun b hb => ?_⟩, ?_⟩
        · have := hfq b hb; simp only [List.mem_singleton] at h; omega
        · have := hfq b hb; omega
        · exact (hu12.trans hu3' (fun _ h => by cases h)).trans (fp := []) hu4 (fun b hb => .inr (by simp only [List.mem_singleton] at hb; omega))
    · have t24 := tdiv24 (b := (hR m : Int)) (by omega) (by omega)
      refine quo_ (by omega) (by omega) ?_
      refine cmp (fun a5 => ?_) (fun a5 => ?_)
      · refine build_ (cs := #[.int .i64 0, .slice none 0 0]) gok rfl rfl rfl ?_
        refine stA (cs' := #[.int .i64 0, .slice none 0 0]) gok rfl hb2 rfl (by simp [Value.oneCell']) ?_
        intro wz hbz huz
        refine loadN [.int .i64 0, .slice none 0 0] rfl hbz.all ?_
        exact hk_no (fun h => by obtain ⟨k1, k2, k3, k4, k5, k6⟩ := hkOk_iff.1 h; have := k5 (by omega); omega) (Upd.trans (fp := []) hu12 huz (fun b hb => .inr (by simp only [List.mem_singleton] at hb; omega)))
      have hr' : (if hR m = 0 then 0 else r) = r := if_neg (by omega)
      have hrr : 0 < hR m → (r : Int) ≤ (24 : Int).tdiv (hR m) := fun h => by omega
      refine idx 0 rfl h0 ?_
      refine fld gok rfl rfl rfl rfl (load1 (hc0 0 _ rfl) ?_)
      refine cmp (fun a6 => ?_) (fun a6 => ?_)
      · have hk' : (if hC m = 0 then 0 else k) = 0 := if_pos a6
        have hkk : 0 < hC m → (k : Int) ≤ (24 : Int).tdiv (hC m) := fun h => by omega
        have ecol : ((0 : Nat) : Int) * hC m = (k : Int) * hC m := by rw [a6]; simp
        have hk24 : (0 : Nat) ≤ 24 := by omega
        have hr24 : (r : Nat) ≤ 24 := by omega
        have hmul : 0 ≤ ((0 : Nat) : Int) * hC m ∧ ((0 : Nat) : Int) * hC m ≤ 192 := by
          have h1 : ((0 : Nat) : Int) * hC m ≤ 24 * hC m := Int.mul_le_mul_of_nonneg_right (by omega) hC0'
          have h2 : 0 ≤ ((0 : Nat) : Int) * hC m := Int.mul_nonneg (by omega) hC0'
          omega
        have hok : hkOk p m (r : Int) (k : Int) = true := hkOk_iff.2 ⟨hm, by omega, by omega, hrc, hrr, hkk⟩
        refine held (Upd [w.heap.size] w2) [(false, 0), (false, 1), (false, 2), (false, 3), (false, 6), (false, 7), (false, 8), (false, 4), (false, 5), (true, 9), (false, 10), (true, 11), (false, 12)] mixed (by kernel_rfl) ((ext_drewN 1).mono (fun _ h => by cases h)) ?_
        refine idx 0 rfl h0 ?_
        refine anyH (fun w' => fld gok rfl rfl rfl rfl ⟨rfl, rfl⟩) ?_
        refine loadH (cellU (hc0 0 _ rfl) (by rw [Addr.add_lit, Addr.add_lit]; simp only [List.mem_singleton]; have := hS _ hSb0; omega)) ?_
        refine ar (by omega) ?_
        refine call (rzHankel_c p _ m r 0 S _ ((RdV.list_mk hr2).drewN 1) (fun b hb => Nat.lt_of_lt_of_le (hS b hb) hu12.size) hm (by omega) (by omega) (by omega)) ?_
        rintro _ w3 ⟨q, rfl, ⟨fq, hoq, hfq⟩, hu3⟩
        have hu3' : Ext w2 w3 := (ext_drewN 1).trans hu3 (fun _ h => by cases h)
        refine ⟨_, rfl, hold (hu3'.mono (fun _ h => by cases h)) ?_⟩
        obtain ⟨Aq, nq, cq, rfl, hoqL⟩ := hoq.list
        refine anyH (fun w' => build_ (cs := #[.int .i64 (((0 : Nat) : Int) * hC m), .slice Aq nq cq]) gok rfl rfl rfl ⟨rfl, rfl⟩) ?_
        refine stA (cs' := #[.int .i64 (((0 : Nat) : Int) * hC m), .slice Aq nq cq]) gok rfl (hb2.ext hu3') rfl (by simp [Value.oneCell']) ?_
        intro w4 hb4 hu4
        refine hold ((hu3'.mono (fun _ h => by cases h)).trans hu4 (fun b hb => .inl hb)) ?_
        refine loadN [.int .i64 (((0 : Nat) : Int) * hC m), .slice Aq nq cq] rfl hb4.all ?_
        have hfin : hkR p m (r : Int) (k : Int) = (((0 : Nat) : Int) * hC m, hk m 0 r) := by
          rw [hkR, if_pos hok]; simp only [Int.toNat_natCast, hr', hk', ecol]
        rw [hok, hfin]
        have es : (w2.drewN 1).heap.size = w2.heap.size := rfl
        refine ⟨_, rfl, ⟨fq, OwnV.pair_mk (by unfold inI; omega) (OwnL.upd hoqL hu4 (fun b hb h => ?_)), fun b hb => ?_⟩, ?_⟩
        · have := hfq b hb; simp only [List.mem_singleton] at h; omega
        · have := hfq b hb; omega
        · exact (hu12.trans hu3' (fun _ h => by cases h)).trans (fp := []) hu4 (fun b hb => .inr (by simp only [List.mem_singleton] at hb; omega))
      · have t24' := tdiv24 (b := hC m) (by omega) (by omega)
        refine quo_ (by omega) (by omega) ?_
        refine cmp (fun a7 => ?_) (fun a7 => ?_)
        · refine build_ (cs := #[.int .i64 0, .slice none 0 0]) gok rfl rfl rfl ?_
          refine stA (cs' := #[.int .i64 0, .slice none 0 0]) gok rfl hb2 rfl (by simp [Value.oneCell']) ?_
          intro wz hbz huz
          refine loadN [.int .i64 0, .slice none 0 0] rfl hbz.all ?_
          exact hk_no (fun h => by obtain ⟨k1, k2, k3, k4, k5, k6⟩ := hkOk_iff.1 h; have := k6 (by omega); omega) (Upd.trans (fp := []) hu12 huz (fun b hb => .inr (by simp only [List.mem_singleton] at hb; omega)))
        have hk' : (if hC m = 0 then 0 else k) = k := if_neg a6
        have hkk : 0 < hC m → (k : Int) ≤ (24 : Int).tdiv (hC m) := fun h => by omega
        have hk24 : (k : Nat) ≤ 24 := by omega
        have hr24 : (r : Nat) ≤ 24 := by omega
        have hmul : 0 ≤ ((k : Nat) : Int) * hC m ∧ ((k : Nat) : Int) * hC m ≤ 192 := by
          have h1 : ((k : Nat) : Int) * hC m ≤ 24 * hC m := Int.mul_le_mul_of_nonneg_right (by omega) hC0'
          have h2 : 0 ≤ ((k : Nat) : Int) * hC m := Int.mul_nonneg (by omega) hC0'
          omega
        have hok : hkOk p m (r : Int) (k : Int) = true := hkOk_iff.2 ⟨hm, by omega, by omega, hrc, hrr, hkk⟩
        refine held (Upd [w.heap.size] w2) [(false, 0), (false, 1), (false, 2), (false, 3), (false, 6), (false, 7), (false, 8), (false, 4), (false, 5), (true, 9), (false, 10), (true, 11), (false, 12)] mixed (by kernel_rfl) ((ext_drewN 1).mono (fun _ h => by cases h)) ?_
        refine idx 0 rfl h0 ?_
        refine anyH (fun w' => fld gok rfl rfl rfl rfl ⟨rfl, rfl⟩) ?_
        refine loadH (cellU (hc0 0 _ rfl) (by rw [Addr.add_lit, Addr.add_lit]; simp only [List.mem_singleton]; have := hS _ hSb0; omega)) ?_
        refine ar (by omega) ?_
        refine call (rzHankel_c p _ m r k S _ ((RdV.list_mk hr2).drewN 1) (fun b hb => Nat.lt_of_lt_of_le (hS b hb) hu12.size) hm (by omega) (by omega) (by omega)) ?_
        rintro _ w3 ⟨q, rfl, ⟨fq, hoq, hfq⟩, hu3⟩
        have hu3' : Ext w2 w3 := (ext_drewN 1).trans hu3 (fun _ h => by cases h)
        refine ⟨_, rfl, hold (hu3'.mono (fun _ h => by cases h)) ?_⟩
        obtain ⟨Aq, nq, cq, rfl, hoqL⟩ := hoq.list
        refine anyH (fun w' => build_ (cs := #[.int .i64 (((k : Nat) : Int) * hC m), .slice Aq nq cq]) gok rfl rfl rfl ⟨rfl, rfl⟩) ?_
        refine stA (cs' := #[.int .i64 (((k : Nat) : Int) * hC m), .slice Aq nq cq]) gok rfl (hb2.ext hu3') rfl (by simp [Value.oneCell']) ?_
        intro w4 hb4 hu4
        refine hold ((hu3'.mono (fun _ h => by cases h)).trans hu4 (fun b hb => .inl hb)) ?_
        refine loadN [.int .i64 (((k : Nat) : Int) * hC m), .slice Aq nq cq] rfl hb4.all ?_
        have hfin : hkR p m (r : Int) (k : Int) = (((k : Nat) : Int) * hC m, hk m k r) := by
          rw [hkR, if_pos hok]; simp only [Int.toNat_natCast, hr', hk']
        rw [hok, hfin]
        have es : (w2.drewN 1).heap.size = w2.heap.size := rfl
        refine ⟨_, rfl, ⟨fq, OwnV.pair_mk (by unfold inI; omega) (OwnL.upd hoqL hu4 (fun b hb h => ?_)), fun b hb => ?_⟩, ?_⟩
        · have := hfq b hb; simp only [List.mem_singleton] at h; omega
        · have := hfq b hb; omega
        · exact (hu12.trans hu3' (fun _ h => by cases h)).trans (fp := []) hu4 (fun b hb => .inr (by simp only [List.mem_singleton] at hb; omega))
set_option maxRecDepth 10000 in
theorem impl_hk_c : HkC 10 := by
  intro p v m S rows cols w hL h hS hip hir hic
  obtain ⟨A, n, c, rfl, hr⟩ := h.list
  obtain rfl := hr.1
  have hmm : maxLen = 9223372036854775807 := rfl
  have hnc := hr.2.1
  have hcm := hr.2.2.1
  unfold inI at hir hic
  refine enterC (args := [_, _, _, _]) gok Tryd.func10 rfl _ rfl rfl rfl ?_
  refine alloc_ gok rfl ?_
  intro w1 hb1 hu1 l1
  refine call (isResponse_c _ _ m S _ (hL.ext hu1) (RdV.list_mk (hr.ext_ hS hu1)) (fun b hb => Nat.lt_of_lt_of_le (hS b hb) hu1.size)) ?_
  rintro _ w2 ⟨rfl, hu2⟩
  refine ⟨_, rfl, ?_⟩
  have hu12 : Ext w w2 := hu1.trans hu2 (fun _ h => by cases h)
  have hb2 : Blk w2 w.heap.size [.int .i64 0, .slice none 0 0] := hb1.ext hu2
  have l2 : w.heap.size < w2.heap.size := Nat.lt_of_lt_of_le l1 hu2.size
  cases hm : respOk p m
  · refine build_ (cs := #[.int .i64 0, .slice none 0 0]) gok rfl rfl rfl ?_
    refine stA (cs' := #[.int .i64 0, .slice none 0 0]) gok rfl hb2 rfl (by simp [Value.oneCell']) ?_
    intro wz hbz huz
    refine loadN [.int .i64 0, .slice none 0 0] rfl hbz.all ?_
    exact hk_no (fun h => by obtain ⟨k1, k2, k3, k4, k5, k6⟩ := hkOk_iff.1 h; rw [hm] at k1; cases k1) (Upd.trans (fp := []) hu12 huz (fun b hb => .inr (by simp only [List.mem_singleton] at hb; omega)))
  refine cmp (fun a1 => ?_) (fun a1 => ?_)
  · refine build_ (cs := #[.int .i64 0, .slice none 0 0]) gok rfl rfl rfl ?_
    refine stA (cs' := #[.int .i64 0, .slice none 0 0]) gok rfl hb2 rfl (by simp [Value.oneCell']) ?_
    intro wz hbz huz
    refine loadN [.int .i64 0, .slice none 0 0] rfl hbz.all ?_
    exact hk_no (fun h => by obtain ⟨k1, k2, k3, k4, k5, k6⟩ := hkOk_iff.1 h; omega) (Upd.trans (fp := []) hu12 huz (fun b hb => .inr (by simp only [List.mem_singleton] at hb; omega)))
  refine cmp (fun a2 => ?_) (fun a2 => ?_)
  · refine build_ (cs := #[.int .i64 0, .slice none 0 0]) gok rfl rfl rfl ?_
    refine stA (cs' := #[.int .i64 0, .slice none 0 0]) gok rfl hb2 rfl (by simp [Value.oneCell']) ?_
    intro wz hbz huz
    refine loadN [.int .i64 0, .slice none 0 0] rfl hbz.all ?_
    exact hk_no (fun h => by obtain ⟨k1, k2, k3, k4, k5, k6⟩ := hkOk_iff.1 h; omega) (Upd.trans (fp := []) hu12 huz (fun b hb => .inr (by simp only [List.mem_singleton] at hb; omega)))
  obtain ⟨hm1, hm2, hg, hR8, hC0, hC8, hsh⟩ := resp_shape hm
  have h0 : 0 < m.length := by omega
  have e0 : m.getD 0 (0, []) = m[0] := getDq h0
  have hr2 := hr.ext_ hS hu12
  obtain ⟨b0, o0, A0, n0, c0, hA0, hSb0, hc0, hi0, hv0⟩ := hr2.atM h0
  subst hA0
  have en0 : n0 = hR m := by rw [hR, e0]; exact hv0.1
  subst en0
  have ec0 : m[0].1 = hC m := by rw [hC, e0]
  rw [ec0] at hc0 hi0
  have hR8' : hR m ≤ 8 := hR8
  have hC0' : 0 ≤ hC m := hC0
  have hC8' : hC m ≤ 8 := hC8
  obtain ⟨r, rfl⟩ : ∃ r : Nat, rows = r := ⟨rows.toNat, by omega⟩
  obtain ⟨k, rfl⟩ : ∃ k : Nat, cols = k := ⟨cols.toNat, by omega⟩
  rcases (by omega : (r = 0) ∨ (0 < r ∧ k = 0) ∨ (0 < r ∧ 0 < k)) with c1 | c1 | c1
  · refine cmpF (by omega) ?_
    refine cmp (fun d1 => ?_) (fun d1 => ?_)
    · refine cmpF (by omega) (cmpF (by omega) ?_)
      have hrc : (0 : Int) < r → (0 : Int) < k → (r : Int) + k ≤ m.length := fun _ _ => by omega
      refine held (Upd [] w2) [(false, 0), (false, 1), (false, 2), (false, 5), (false, 6), (false, 7), (false, 3), (false, 4), (false, 9), (true, 8), (false, 10)] mixed (by kernel_rfl) (ext_drewN 1) ?_
      refine idx 0 rfl h0 ?_
      refine anyH (fun w' => fld gok rfl rfl rfl rfl ⟨rfl, rfl⟩) ?_
      refine idx 0 rfl h0 ?_
      refine anyH (fun w' => fld gok rfl rfl rfl rfl ⟨rfl, rfl⟩) ?_
      refine loadH (cellU (hc0 1 _ rfl) (by simp)) ?_
      refine load1 (hc0 0 _ rfl) (hold (ext_drewN 1) ?_)
      refine cmpF (by omega) ?_
      have hrr : 0 < hR m → (r : Int) ≤ (24 : Int).tdiv (hR m) := fun h => by have := tdiv24 (b := (hR m : Int)) (by omega) (by omega); omega
      refine cmp (fun f0 => ?_) (fun f0 => ?_)
      · refine cmp (fun f1 => ?_) (fun f1 => ?_)
        · have t24' := tdiv24 (b := hC m) (by omega) (by omega)
          refine quo_ (by omega) (by omega) ?_
          refine cmp (fun f2 => ?_) (fun f2 => ?_)
          · refine build_ (cs := #[.int .i64 0, .slice none 0 0]) gok rfl rfl rfl ?_
            refine stA (cs' := #[.int .i64 0, .slice none 0 0]) gok rfl (hb2.ext (ext_drewN 1)) rfl (by simp [Value.oneCell']) ?_
            intro wz hbz huz
            refine loadN [.int .i64 0, .slice none 0 0] rfl hbz.all ?_
            exact hk_no (fun h => by obtain ⟨k1, k2, k3, k4, k5, k6⟩ := hkOk_iff.1 h; have := k6 (by omega); omega) (Upd.trans (fp := []) (hu12.trans (ext_drewN 1) (fun _ h => by cases h)) huz (fun b hb => .inr (by simp only [List.mem_singleton] at hb; omega)))
          have hkk : 0 < hC m → (k : Int) ≤ (24 : Int).tdiv (hC m) := fun h => by omega
          have hok : hkOk p m (r : Int) (k : Int) = true := hkOk_iff.2 ⟨hm, by omega, by omega, hrc, hrr, hkk⟩
          have hmul : 0 ≤ (k : Int) * hC m ∧ (k : Int) * hC m ≤ 192 := hk_mul hkk hC0' hC8'
          have hmulr : 0 ≤ (r : Int) * (hR m : Nat) ∧ (r : Int) * (hR m : Nat) ≤ 192 := hk_mul (fun h => hrr (by omega)) (by omega) (by omega)
          refine ar (by omega) ?_
          refine build_ (cs := #[.int .i64 ((k : Int) * hC m), .slice none 0 0]) gok rfl rfl rfl ?_
          refine alloc_ gok rfl ?_
          intro w3 hb3 hu3 l3
          refine stA (cs' := #[.int .i64 ((k : Int) * hC m), .slice none 0 0]) gok rfl hb3 rfl (by simp [Value.oneCell']) ?_
          intro w4 hb4 hu4
          have es : (w2.drewN 1).heap.size = w2.heap.size := rfl
          rw [es] at hb4 hu4
          have hu24 : Ext w2 w4 := ((ext_drewN 1).trans hu3 (fun _ h => by cases h)).trans (fp := []) hu4 (fun b hb => .inr (by simp only [List.mem_singleton] at hb; omega))
          have hu04 : Ext w w4 := hu12.trans hu24 (fun _ h => by cases h)
          have s4 := hu24.size
          have l4 := hb4.lt
          have fin : ∀ (q : Value) (w5 : World) (x : List (List Int)), Fresh w4.heap.size w5 q x → Ext w4 w5 → x = (hkR p m (r : Int) (k : Int)).2 → ∃ Aq nq cq, q = .slice Aq nq cq ∧ ∀ w6 w7, Upd [w2.heap.size] w5 w6 → Upd [w.heap.size] w6 w7 →
              ∃ r1, Ending.returned (.tuple #[.agg #[.int .i64 ((k : Int) * hC m), .slice Aq nq cq], .bool true]) = .returned (.tuple #[r1, .bool (hkOk p m r k)]) ∧ Fresh w.heap.size w7 r1 (hkR p m r k) ∧ Ext w w7 := by
            rintro q w5 x ⟨fq, hoq, hfq⟩ hu5 hx
            obtain ⟨Aq, nq, cq, rfl, hoqL⟩ := hoq.list
            refine ⟨Aq, nq, cq, rfl, fun w6 w7 hu6 hu7 => ⟨_, by rw [hok], ⟨fq, ?_, fun b hb => by have := hfq b hb; omega⟩, ((hu04.trans hu5 (fun _ h => by cases h)).trans (fp := []) hu6 (fun b hb => .inr (by simp only [List.mem_singleton] at hb; omega))).trans (fp := []) hu7 (fun b hb => .inr (by simp only [List.mem_singleton] at hb; omega))⟩⟩
            have e1 : hkR p m (r : Int) (k : Int) = ((k : Int) * hC m, x) := by rw [hx]; rw [hkR, if_pos hok]
            rw [e1]
            exact OwnV.pair_mk (by unfold inI; omega) (OwnL.upd (OwnL.upd hoqL hu6 (fun b hb h => by have := hfq b hb; simp only [List.mem_singleton] at h; omega)) hu7 (fun b hb h => by have := hfq b hb; simp only [List.mem_singleton] at h; omega))
          have hx2 : (hkR p m (r : Int) (k : Int)).2 = hk m k r := hk_two hm hok
          refine cmp (fun z1 => ?_) (fun z1 => ?_)
          · refine call (hankel_c p _ m r k S _ (RdV.list_mk (hr2.ext_ (fun b hb => Nat.lt_of_lt_of_le (hS b hb) hu12.size) hu24)) (fun b hb => Nat.lt_of_lt_of_le (hS b hb) hu04.size) hm (by omega)) ?_
            rintro _ w5 ⟨q, rfl, hfr, hu5⟩
            refine ⟨_, rfl, ?_⟩
            obtain ⟨Aq, nq, cq, rfl, hend⟩ := fin q w5 _ hfr hu5 hx2.symm
            refine fld gok rfl rfl rfl rfl (stB (hb4.ext hu5) (by simp) rfl ?_)
            intro w6 hb6 hu6
            have hb6 : Blk w6 w2.heap.size [.int .i64 ((k : Int) * hC m), .slice Aq nq cq] := hb6
            refine loadN [.int .i64 ((k : Int) * hC m), .slice Aq nq cq] rfl hb6.all ?_
            refine stA (cs' := #[.int .i64 ((k : Int) * hC m), .slice Aq nq cq]) gok rfl (((hb2.ext hu24).ext hu5).upd hu6 (by simp only [List.mem_singleton]; omega)) rfl (by simp [Value.oneCell']) ?_
            intro w7 hb7 hu7
            refine loadN [.int .i64 ((k : Int) * hC m), .slice Aq nq cq] rfl hb7.all ?_
            exact hend w6 w7 hu6 hu7
          · have hm192 : r * hR m ≤ 192 := by have h1 := hmulr.2; rw [← Int.natCast_mul] at h1; omega
            refine ar (by omega) ?_
            refine make_ (α := List Int) gok rfl rfl rfl (r * hR m) (r * hR m) (by simp) (by simp) (Nat.le_refl _) (by omega) (by omega) ?_
            intro A5 w5 ho5 hu5
            have hk0 : k = 0 := by omega
            obtain ⟨Aq, nq, cq, hq, hend⟩ := fin (.slice A5 (r * hR m) (r * hR m)) w5 (List.replicate (r * hR m) []) ⟨_, OwnV.list_mk ho5, fun b hb => by simp only [List.mem_singleton] at hb; omega⟩ hu5 (by rw [hx2, hk0, hk_nil (fun _ _ => rfl)])
            injection hq with q1 q2 q3
            subst q1; subst q2; subst q3
            refine fld gok rfl rfl rfl rfl (stB (hb4.ext hu5) (by simp) rfl ?_)
            intro w6 hb6 hu6
            have hb6 : Blk w6 w2.heap.size [.int .i64 ((k : Int) * hC m), .slice A5 (r * hR m) (r * hR m)] := hb6
            refine loadN [.int .i64 ((k : Int) * hC m), .slice A5 (r * hR m) (r * hR m)] rfl hb6.all ?_
            refine stA (cs' := #[.int .i64 ((k : Int) * hC m), .slice A5 (r * hR m) (r * hR m)]) gok rfl (((hb2.ext hu24).ext hu5).upd hu6 (by simp only [List.mem_singleton]; omega)) rfl (by simp [Value.oneCell']) ?_
            intro w7 hb7 hu7
            refine loadN [.int .i64 ((k : Int) * hC m), .slice A5 (r * hR m) (r * hR m)] rfl hb7.all ?_
            exact hend w6 w7 hu6 hu7
        · have hkk : 0 < hC m → (k : Int) ≤ (24 : Int).tdiv (hC m) := fun h => by omega
          have hok : hkOk p m (r : Int) (k : Int) = true := hkOk_iff.2 ⟨hm, by omega, by omega, hrc, hrr, hkk⟩
          have hmul : 0 ≤ (k : Int) * hC m ∧ (k : Int) * hC m ≤ 192 := hk_mul hkk hC0' hC8'
          have hmulr : 0 ≤ (r : Int) * (hR m : Nat) ∧ (r : Int) * (hR m : Nat) ≤ 192 := hk_mul (fun h => hrr (by omega)) (by omega) (by omega)
          refine ar (by omega) ?_
          refine build_ (cs := #[.int .i64 ((k : Int) * hC m), .slice none 0 0]) gok rfl rfl rfl ?_
          refine alloc_ gok rfl ?_
          intro w3 hb3 hu3 l3
          refine stA (cs' := #[.int .i64 ((k : Int) * hC m), .slice none 0 0]) gok rfl hb3 rfl (by simp [Value.oneCell']) ?_
          intro w4 hb4 hu4
          have es : (w2.drewN 1).heap.size = w2.heap.size := rfl
          rw [es] at hb4 hu4
          have hu24 : Ext w2 w4 := ((ext_drewN 1).trans hu3 (fun _ h => by cases h)).trans (fp := []) hu4 (fun b hb => .inr (by simp only [List.mem_singleton] at hb; omega))
          have hu04 : Ext w w4 := hu12.trans hu24 (fun _ h => by cases h)
          have s4 := hu24.size
          have l4 := hb4.lt
          have fin : ∀ (q : Value) (w5 : World) (x : List (List Int)), Fresh w4.heap.size w5 q x → Ext w4 w5 → x = (hkR p m (r : Int) (k : Int)).2 → ∃ Aq nq cq, q = .slice Aq nq cq ∧ ∀ w6 w7, Upd [w2.heap.size] w5 w6 → Upd [w.heap.size] w6 w7 →
              ∃ r1, Ending.returned (.tuple #[.agg #[.int .i64 ((k : Int) * hC m), .slice Aq nq cq], .bool true]) = .returned (.tuple #[r1, .bool (hkOk p m r k)]) ∧ Fresh w.heap.size w7 r1 (hkR p m r k) ∧ Ext w w7 := by
            rintro q w5 x ⟨fq, hoq, hfq⟩ hu5 hx
            obtain ⟨Aq, nq, cq, rfl, hoqL⟩ := hoq.list
            refine ⟨Aq, nq, cq, rfl, fun w6 w7 hu6 hu7 => ⟨_, by rw [hok], ⟨fq, ?_, fun b hb => by have := hfq b hb; omega⟩, ((hu04.trans hu5 (fun _ h => by cases h)).trans (fp := []) hu6 (fun b hb => .inr (by simp only [List.mem_singleton] at hb; omega))).trans (fp := []) hu7 (fun b hb => .inr (by simp only [List.mem_singleton] at hb; omega))⟩⟩
            have e1 : hkR p m (r : Int) (k : Int) = ((k : Int) * hC m, x) := by rw [hx]; rw [hkR, if_pos hok]
            rw [e1]
            exact OwnV.pair_mk (by unfold inI; omega) (OwnL.upd (OwnL.upd hoqL hu6 (fun b hb h => by have := hfq b hb; simp only [List.mem_singleton] at h; omega)) hu7 (fun b hb h => by have := hfq b hb; simp only [List.mem_singleton] at h; omega))
          have hx2 : (hkR p m (r : Int) (k : Int)).2 = hk m k r := hk_two hm hok
          refine cmp (fun z1 => ?_) (fun z1 => ?_)
          · refine call (hankel_c p _ m r k S _ (RdV.list_mk (hr2.ext_ (fun b hb => Nat.lt_of_lt_of_le (hS b hb) hu12.size) hu24)) (fun b hb => Nat.lt_of_lt_of_le (hS b hb) hu04.size) hm (by omega)) ?_
            rintro _ w5 ⟨q, rfl, hfr, hu5⟩
            refine ⟨_, rfl, ?_⟩
            obtain ⟨Aq, nq, cq, rfl, hend⟩ := fin q w5 _ hfr hu5 hx2.symm
            refine fld gok rfl rfl rfl rfl (stB (hb4.ext hu5) (by simp) rfl ?_)
            intro w6 hb6 hu6
            have hb6 : Blk w6 w2.heap.size [.int .i64 ((k : Int) * hC m), .slice Aq nq cq] := hb6
            refine loadN [.int .i64 ((k : Int) * hC m), .slice Aq nq cq] rfl hb6.all ?_
            refine stA (cs' := #[.int .i64 ((k : Int) * hC m), .slice Aq nq cq]) gok rfl (((hb2.ext hu24).ext hu5).upd hu6 (by simp only [List.mem_singleton]; omega)) rfl (by simp [Value.oneCell']) ?_
            intro w7 hb7 hu7
            refine loadN [.int .i64 ((k : Int) * hC m), .slice Aq nq cq] rfl hb7.all ?_
            exact hend w6 w7 hu6 hu7
          · have hm192 : r * hR m ≤ 192 := by have h1 := hmulr.2; rw [← Int.natCast_mul] at h1; omega
            refine ar (by omega) ?_
            refine make_ (α := List Int) gok rfl rfl rfl (r * hR m) (r * hR m) (by simp) (by simp) (Nat.le_refl _) (by omega) (by omega) ?_
            intro A5 w5 ho5 hu5
            have hk0 : k = 0 := by omega
            obtain ⟨Aq, nq, cq, hq, hend⟩ := fin (.slice A5 (r * hR m) (r * hR m)) w5 (List.replicate (r * hR m) []) ⟨_, OwnV.list_mk ho5, fun b hb => by simp only [List.mem_singleton] at hb; omega⟩ hu5 (by rw [hx2, hk0, hk_nil (fun _ _ => rfl)])
            injection hq with q1 q2 q3
            subst q1; subst q2; subst q3
            refine fld gok rfl rfl rfl rfl (stB (hb4.ext hu5) (by simp) rfl ?_)
            intro w6 hb6 hu6
            have hb6 : Blk w6 w2.heap.size [.int .i64 ((k : Int) * hC m), .slice A5 (r * hR m) (r * hR m)] := hb6
            refine loadN [.int .i64 ((k : Int) * hC m), .slice A5 (r * hR m) (r * hR m)] rfl hb6.all ?_
            refine stA (cs' := #[.int .i64 ((k : Int) * hC m), .slice A5 (r * hR m) (r * hR m)]) gok rfl (((hb2.ext hu24).ext hu5).upd hu6 (by simp only [List.mem_singleton]; omega)) rfl (by simp [Value.oneCell']) ?_
            intro w7 hb7 hu7
            refine loadN [.int .i64 ((k : Int) * hC m), .slice A5 (r * hR m) (r * hR m)] rfl hb7.all ?_
            exact hend w6 w7 hu6 hu7
      · have hkk : 0 < hC m → (k : Int) ≤ (24 : Int).tdiv (hC m) := fun h => by have := tdiv24 (b := hC m) (by omega) (by omega); omega
        have hok : hkOk p m (r : Int) (k : Int) = true := hkOk_iff.2 ⟨hm, by omega, by omega, hrc, hrr, hkk⟩
        have hmul : 0 ≤ (k : Int) * hC m ∧ (k : Int) * hC m ≤ 192 := hk_mul hkk hC0' hC8'
        have hmulr : 0 ≤ (r : Int) * (hR m : Nat) ∧ (r : Int) * (hR m : Nat) ≤ 192 := hk_mul (fun h => hrr (by omega)) (by omega) (by omega)
        refine ar (by omega) ?_
        refine build_ (cs := #[.int .i64 ((k : Int) * hC m), .slice none 0 0]) gok rfl rfl rfl ?_
        refine alloc_ gok rfl ?_
        intro w3 hb3 hu3 l3
        refine stA (cs' := #[.int .i64 ((k : Int) * hC m), .slice none 0 0]) gok rfl hb3 rfl (by simp [Value.oneCell']) ?_
        intro w4 hb4 hu4
        have es : (w2.drewN 1).heap.size = w2.heap.size := rfl
        rw [es] at hb4 hu4
        have hu24 : Ext w2 w4 := ((ext_drewN 1).trans hu3 (fun _ h => by cases h)).trans (fp := []) hu4 (fun b hb => .inr (by simp only [List.mem_singleton] at hb; omega))
        have hu04 : Ext w w4 := hu12.trans hu24 (fun _ h => by cases h)
        have s4 := hu24.size
        have l4 := hb4.lt
        have fin : ∀ (q : Value) (w5 : World) (x : List (List Int)), Fresh w4.heap.size w5 q x → Ext w4 w5 → x = (hkR p m (r : Int) (k : Int)).2 → ∃ Aq nq cq, q = .slice Aq nq cq ∧ ∀ w6 w7, Upd [w2.heap.size] w5 w6 → Upd [w.heap.size] w6 w7 →
            ∃ r1, Ending.returned (.tuple #[.agg #[.int .i64 ((k : Int) * hC m), .slice Aq nq cq], .bool true]) = .returned (.tuple #[r1, .bool (hkOk p m r k)]) ∧ Fresh w.heap.size w7 r1 (hkR p m r k) ∧ Ext w w7 := by
          rintro q w5 x ⟨fq, hoq, hfq⟩ hu5 hx
          obtain ⟨Aq, nq, cq, rfl, hoqL⟩ := hoq.list
          refine ⟨Aq, nq, cq, rfl, fun w6 w7 hu6 hu7 => ⟨_, by rw [hok], ⟨fq, ?_, fun b hb => by have := hfq b hb; omega⟩, ((hu04.trans hu5 (fun _ h => by cases h)).trans (fp := []) hu6 (fun b hb => .inr (by simp only [List.mem_singleton] at hb; omega))).trans (fp := []) hu7 (fun b hb => .inr (by simp only [List.mem_singleton] at hb; omega))⟩⟩
          have e1 : hkR p m (r : Int) (k : Int) = ((k : Int) * hC m, x) := by rw [hx]; rw [hkR, if_pos hok]
          rw [e1]
          exact OwnV.pair_mk (by unfold inI; omega) (OwnL.upd (OwnL.upd hoqL hu6 (fun b hb h => by have := hfq b hb; simp only [List.mem_singleton] at h; omega)) hu7 (fun b hb h => by have := hfq b hb; simp only [List.mem_singleton] at h; omega))
        have hx2 : (hkR p m (r : Int) (k : Int)).2 = hk m k r := hk_two hm hok
        refine cmp (fun z1 => ?_) (fun z1 => ?_)
        · refine call (hankel_c p _ m r k S _ (RdV.list_mk (hr2.ext_ (fun b hb => Nat.lt_of_lt_of_le (hS b hb) hu12.size) hu24)) (fun b hb => Nat.lt_of_lt_of_le (hS b hb) hu04.size) hm (by omega)) ?_
          rintro _ w5 ⟨q, rfl, hfr, hu5⟩
          refine ⟨_, rfl, ?_⟩
          obtain ⟨Aq, nq, cq, rfl, hend⟩ := fin q w5 _ hfr hu5 hx2.symm
          refine fld gok rfl rfl rfl rfl (stB (hb4.ext hu5) (by simp) rfl ?_)
          intro w6 hb6 hu6
          have hb6 : Blk w6 w2.heap.size [.int .i64 ((k : Int) * hC m), .slice Aq nq cq] := hb6
          refine loadN [.int .i64 ((k : Int) * hC m), .slice Aq nq cq] rfl hb6.all ?_
          refine stA (cs' := #[.int .i64 ((k : Int) * hC m), .slice Aq nq cq]) gok rfl (((hb2.ext hu24).ext hu5).upd hu6 (by simp only [List.mem_singleton]; omega)) rfl (by simp [Value.oneCell']) ?_
          intro w7 hb7 hu7
          refine loadN [.int .i64 ((k : Int) * hC m), .slice Aq nq cq] rfl hb7.all ?_
          exact hend w6 w7 hu6 hu7
        · have hm192 : r * hR m ≤ 192 := by have h1 := hmulr.2; rw [← Int.natCast_mul] at h1; omega
          refine ar (by omega) ?_
          refine make_ (α := List Int) gok rfl rfl rfl (r * hR m) (r * hR m) (by simp) (by simp) (Nat.le_refl _) (by omega) (by omega) ?_
          intro A5 w5 ho5 hu5
          have hk0 : k = 0 := by omega
          obtain ⟨Aq, nq, cq, hq, hend⟩ := fin (.slice A5 (r * hR m) (r * hR m)) w5 (List.replicate (r * hR m) []) ⟨_, OwnV.list_mk ho5, fun b hb => by simp only [List.mem_singleton] at hb; omega⟩ hu5 (by rw [hx2, hk0, hk_nil (fun _ _ => rfl)])
          injection hq with q1 q2 q3
          subst q1; subst q2; subst q3
          refine fld gok rfl rfl rfl rfl (stB (hb4.ext hu5) (by simp) rfl ?_)
          intro w6 hb6 hu6
          have hb6 : Blk w6 w2.heap.size [.int .i64 ((k : Int) * hC m), .slice A5 (r * hR m) (r * hR m)] := hb6
          refine loadN [.int .i64 ((k : Int) * hC m), .slice A5 (r * hR m) (r * hR m)] rfl hb6.all ?_
          refine stA (cs' := #[.int .i64 ((k : Int) * hC m), .slice A5 (r * hR m) (r * hR m)]) gok rfl (((hb2.ext hu24).ext hu5).upd hu6 (by simp only [List.mem_singleton]; omega)) rfl (by simp [Value.oneCell']) ?_
          intro w7 hb7 hu7
          refine loadN [.int .i64 ((k : Int) * hC m), .slice A5 (r * hR m) (r * hR m)] rfl hb7.all ?_
          exact hend w6 w7 hu6 hu7
    · refine cmpF (by omega) ?_
      have hrc : (0 : Int) < r → (0 : Int) < k → (r : Int) + k ≤ m.length := fun _ _ => by omega
      refine held (Upd [] w2) [(false, 0), (false, 1), (false, 2), (false, 5), (false, 6), (false, 7), (false, 3), (false, 4), (false, 9), (true, 8), (false, 10)] mixed (by kernel_rfl) (ext_drewN 1) ?_
      refine idx 0 rfl h0 ?_
      refine anyH (fun w' => fld gok rfl rfl rfl rfl ⟨rfl, rfl⟩) ?_
      refine idx 0 rfl h0 ?_
      refine anyH (fun w' => fld gok rfl rfl rfl rfl ⟨rfl, rfl⟩) ?_
      refine loadH (cellU (hc0 1 _ rfl) (by simp)) ?_
      refine load1 (hc0 0 _ rfl) (hold (ext_drewN 1) ?_)
      refine cmpF (by omega) ?_
      have hrr : 0 < hR m → (r : Int) ≤ (24 : Int).tdiv (hR m) := fun h => by have := tdiv24 (b := (hR m : Int)) (by omega) (by omega); omega
      refine cmp (fun f0 => ?_) (fun f0 => ?_)
      · refine cmp (fun f1 => ?_) (fun f1 => ?_)
        · have t24' := tdiv24 (b := hC m) (by omega) (by omega)
          refine quo_ (by omega) (by omega) ?_
          refine cmp (fun f2 => ?_) (fun f2 => ?_)
          · refine build_ (cs := #[.int .i64 0, .slice none 0 0]) gok rfl rfl rfl ?_
            refine stA (cs' := #[.int .i64 0, .slice none 0 0]) gok rfl (hb2.ext (ext_drewN 1)) rfl (by simp [Value.oneCell']) ?_
            intro wz hbz huz
            refine loadN [.int .i64 0, .slice none 0 0] rfl hbz.all ?_
            exact hk_no (fun h => by obtain ⟨k1, k2, k3, k4, k5, k6⟩ := hkOk_iff.1 h; have := k6 (by omega); omega) (Upd.trans (fp := []) (hu12.trans (ext_drewN 1) (fun _ h => by cases h)) huz (fun b hb => .inr (by simp only [List.mem_singleton] at hb; omega)))
          have hkk : 0 < hC m → (k : Int) ≤ (24 : Int).tdiv (hC m) := fun h => by omega
          have hok : hkOk p m (r : Int) (k : Int) = true := hkOk_iff.2 ⟨hm, by omega, by omega, hrc, hrr, hkk⟩
          have hmul : 0 ≤ (k : Int) * hC m ∧ (k : Int) * hC m ≤ 192 := hk_mul hkk hC0' hC8'
          have hmulr : 0 ≤ (r : Int) * (hR m : Nat) ∧ (r : Int) * (hR m : Nat) ≤ 192 := hk_mul (fun h => hrr (by omega)) (by omega) (by omega)
          refine ar (by omega) ?_
          refine build_ (cs := #[.int .i64 ((k : Int) * hC m), .slice none 0 0]) gok rfl rfl rfl ?_
          refine alloc_ gok rfl ?_
          intro w3 hb3 hu3 l3
          refine stA (cs' := #[.int .i64 ((k : Int) * hC m), .slice none 0 0]) gok rfl hb3 rfl (by simp [Value.oneCell']) ?_
          intro w4 hb4 hu4
          have es : (w2.drewN 1).heap.size = w2.heap.size := rfl
          rw [es] at hb4 hu4
          have hu24 : Ext w2 w4 := ((ext_drewN 1).trans hu3 (fun _ h => by cases h)).trans (fp := []) hu4 (fun b hb => .inr (by simp only [List.mem_singleton] at hb; omega))
          have hu04 : Ext w w4 := hu12.trans hu24 (fun _ h => by cases h)
          have s4 := hu24.size
          have l4 := hb4.lt
          have fin : ∀ (q : Value) (w5 : World) (x : List (List Int)), Fresh w4.heap.size w5 q x → Ext w4 w5 → x = (hkR p m (r : Int) (k : Int)).2 → ∃ Aq nq cq, q = .slice Aq nq cq ∧ ∀ w6 w7, Upd [w2.heap.size] w5 w6 → Upd [w.heap.size] w6 w7 →
              ∃ r1, Ending.returned (.tuple #[.agg #[.int .i64 ((k : Int) * hC m), .slice Aq nq cq], .bool true]) = .returned (.tuple #[r1, .bool (hkOk p m r k)]) ∧ Fresh w.heap.size w7 r1 (hkR p m r k) ∧ Ext w w7 := by
            rintro q w5 x ⟨fq, hoq, hfq⟩ hu5 hx
            obtain ⟨Aq, nq, cq, rfl, hoqL⟩ := hoq.list
            refine ⟨Aq, nq, cq, rfl, fun w6 w7 hu6 hu7 => ⟨_, by rw [hok], ⟨fq, ?_, fun b hb => by have := hfq b hb; omega⟩, ((hu04.trans hu5 (fun _ h => by cases h)).trans (fp := []) hu6 (fun b hb => .inr (by simp only [List.mem_singleton] at hb; omega))).trans (fp := []) hu7 (fun b hb => .inr (by simp only [List.mem_singleton] at hb; omega))⟩⟩
            have e1 : hkR p m (r : Int) (k : Int) = ((k : Int) * hC m, x) := by rw [hx]; rw [hkR, if_pos hok]
            rw [e1]
            exact OwnV.pair_mk (by unfold inI; omega) (OwnL.upd (OwnL.upd hoqL hu6 (fun b hb h => by have := hfq b hb; simp only [List.mem_singleton] at h; omega)) hu7 (fun b hb h => by have := hfq b hb; simp only [List.mem_singleton] at h; omega))
          have hx2 : (hkR p m (r : Int) (k : Int)).2 = hk m k r := hk_two hm hok
          refine cmp (fun z1 => ?_) (fun z1 => ?_)
          · refine call (hankel_c p _ m r k S _ (RdV.list_mk (hr2.ext_ (fun b hb => Nat.lt_of_lt_of_le (hS b hb) hu12.size) hu24)) (fun b hb => Nat.lt_of_lt_of_le (hS b hb) hu04.size) hm (by omega)) ?_
            rintro _ w5 ⟨q, rfl, hfr, hu5⟩
            refine ⟨_, rfl, ?_⟩
            obtain ⟨Aq, nq, cq, rfl, hend⟩ := fin q w5 _ hfr hu5 hx2.symm
            refine fld gok rfl rfl rfl rfl (stB (hb4.ext hu5) (by simp) rfl ?_)
            intro w6 hb6 hu6
            have hb6 : Blk w6 w2.heap.size [.int .i64 ((k : Int) * hC m), .slice Aq nq cq] := hb6
            refine loadN [.int .i64 ((k : Int) * hC m), .slice Aq nq cq] rfl hb6.all ?_
            refine stA (cs' := #[.int .i64 ((k : Int) * hC m), .slice Aq nq cq]) gok rfl (((hb2.ext hu24).ext hu5).upd hu6 (by simp only [List.mem_singleton]; omega)) rfl (by simp [Value.oneCell']) ?_
            intro w7 hb7 hu7
            refine loadN [.int .i64 ((k : Int) * hC m), .slice Aq nq cq] rfl hb7.all ?_
            exact hend w6 w7 hu6 hu7
          · have hm192 : r * hR m ≤ 192 := by have h1 := hmulr.2; rw [← Int.natCast_mul] at h1; omega
            refine ar (by omega) ?_
            refine make_ (α := List Int) gok rfl rfl rfl (r * hR m) (r * hR m) (by simp) (by simp) (Nat.le_refl _) (by omega) (by omega) ?_
            intro A5 w5 ho5 hu5
            have hk0 : k = 0 := by omega
            obtain ⟨Aq, nq, cq, hq, hend⟩ := fin (.slice A5 (r * hR m) (r * hR m)) w5 (List.replicate (r * hR m) []) ⟨_, OwnV.list_mk ho5, fun b hb => by simp only [List.mem_singleton] at hb; omega⟩ hu5 (by rw [hx2, hk0, hk_nil (fun _ _ => rfl)])
            injection hq with q1 q2 q3
            subst q1; subst q2; subst q3
            refine fld gok rfl rfl rfl rfl (stB (hb4.ext hu5) (by simp) rfl ?_)
            intro w6 hb6 hu6
            have hb6 : Blk w6 w2.heap.size [.int .i64 ((k : Int) * hC m), .slice A5 (r * hR m) (r * hR m)] := hb6
            refine loadN [.int .i64 ((k : Int) * hC m), .slice A5 (r * hR m) (r * hR m)] rfl hb6.all ?_
            refine stA (cs' := #[.int .i64 ((k : Int) * hC m), .slice A5 (r * hR m) (r * hR m)]) gok rfl (((hb2.ext hu24).ext hu5).upd hu6 (by simp only [List.mem_singleton]; omega)) rfl (by simp [Value.oneCell']) ?_
            intro w7 hb7 hu7
            refine loadN [.int .i64 ((k : Int) * hC m), .slice A5 (r * hR m) (r * hR m)] rfl hb7.all ?_
            exact hend w6 w7 hu6 hu7
        · have hkk : 0 < hC m → (k : Int) ≤ (24 : Int).tdiv (hC m) := fun h => by omega
          have hok : hkOk p m (r : Int) (k : Int) = true := hkOk_iff.2 ⟨hm, by omega, by omega, hrc, hrr, hkk⟩
          have hmul : 0 ≤ (k : Int) * hC m ∧ (k : Int) * hC m ≤ 192 := hk_mul hkk hC0' hC8'
          have hmulr : 0 ≤ (r : Int) * (hR m : Nat) ∧ (r : Int) * (hR m : Nat) ≤ 192 := hk_mul (fun h => hrr (by omega)) (by omega) (by omega)
          refine ar (by omega) ?_
          refine build_ (cs := #[.int .i64 ((k : Int) * hC m), .slice none 0 0]) gok rfl rfl rfl ?_
          refine alloc_ gok rfl ?_
          intro w3 hb3 hu3 l3
          refine stA (cs' := #[.int .i64 ((k : Int) * hC m), .slice none 0 0]) gok rfl hb3 rfl (by simp [Value.oneCell']) ?_
          intro w4 hb4 hu4
          have es : (w2.drewN 1).heap.size = w2.heap.size := rfl
          rw [es] at hb4 hu4
          have hu24 : Ext w2 w4 := ((ext_drewN 1).trans hu3 (fun _ h => by cases h)).trans (fp := []) hu4 (fun b hb => .inr (by simp only [List.mem_singleton] at hb; omega))
          have hu04 : Ext w w4 := hu12.trans hu24 (fun _ h => by cases h)
          have s4 := hu24.size
          have l4 := hb4.lt
          have fin : ∀ (q : Value) (w5 : World) (x : List (List Int)), Fresh w4.heap.size w5 q x → Ext w4 w5 → x = (hkR p m (r : Int) (k : Int)).2 → ∃ Aq nq cq, q = .slice Aq nq cq ∧ ∀ w6 w7, Upd [w2.heap.size] w5 w6 → Upd [w.heap.size] w6 w7 →
              ∃ r1, Ending.returned (.tuple #[.agg #[.int .i64 ((k : Int) * hC m), .slice Aq nq cq], .bool true]) = .returned (.tuple #[r1, .bool (hkOk p m r k)]) ∧ Fresh w.heap.size w7 r1 (hkR p m r k) ∧ Ext w w7 := by
            rintro q w5 x ⟨fq, hoq, hfq⟩ hu5 hx
            obtain ⟨Aq, nq, cq, rfl, hoqL⟩ := hoq.list
            refine ⟨Aq, nq, cq, rfl, fun w6 w7 hu6 hu7 => ⟨_, by rw [hok], ⟨fq, ?_, fun b hb => by have := hfq b hb; omega⟩, ((hu04.trans hu5 (fun _ h => by cases h)).trans (fp := []) hu6 (fun b hb => .inr (by simp only [List.mem_singleton] at hb; omega))).trans (fp := []) hu7 (fun b hb => .inr (by simp only [List.mem_singleton] at hb; omega))⟩⟩
            have e1 : hkR p m (r : Int) (k : Int) = ((k : Int) * hC m, x) := by rw [hx]; rw [hkR, if_pos hok]
            rw [e1]
            exact OwnV.pair_mk (by unfold inI; omega) (OwnL.upd (OwnL.upd hoqL hu6 (fun b hb h => by have := hfq b hb; simp only [List.mem_singleton] at h; omega)) hu7 (fun b hb h => by have := hfq b hb; simp only [List.mem_singleton] at h; omega))
          have hx2 : (hkR p m (r : Int) (k : Int)).2 = hk m k r := hk_two hm hok
          refine cmp (fun z1 => ?_) (fun z1 => ?_)
          · refine call (hankel_c p _ m r k S _ (RdV.list_mk (hr2.ext_ (fun b hb => Nat.lt_of_lt_of_le (hS b hb) hu12.size) hu24)) (fun b hb => Nat.lt_of_lt_of_le (hS b hb) hu04.size) hm (by omega)) ?_
            rintro _ w5 ⟨q, rfl, hfr, hu5⟩
            refine ⟨_, rfl, ?_⟩
            obtain ⟨Aq, nq, cq, rfl, hend⟩ := fin q w5 _ hfr hu5 hx2.symm
            refine fld gok rfl rfl rfl rfl (stB (hb4.ext hu5) (by simp) rfl ?_)
            intro w6 hb6 hu6
            have hb6 : Blk w6 w2.heap.size [.int .i64 ((k : Int) * hC m), .slice Aq nq cq] := hb6
            refine loadN [.int .i64 ((k : Int) * hC m), .slice Aq nq cq] rfl hb6.all ?_
            refine stA (cs' := #[.int .i64 ((k : Int) * hC m), .slice Aq nq cq]) gok rfl (((hb2.ext hu24).ext hu5).upd hu6 (by simp only [List.mem_singleton]; omega)) rfl (by simp [Value.oneCell']) ?_
            intro w7 hb7 hu7
            refine loadN [.int .i64 ((k : Int) * hC m), .slice Aq nq cq] rfl hb7.all ?_
            exact hend w6 w7 hu6 hu7
          · have hm192 : r * hR m ≤ 192 := by have h1 := hmulr.2; rw [← Int.natCast_mul] at h1; omega
            refine ar (by omega) ?_
            refine make_ (α := List Int) gok rfl rfl rfl (r * hR m) (r * hR m) (by simp) (by simp) (Nat.le_refl _) (by omega) (by omega) ?_
            intro A5 w5 ho5 hu5
            have hk0 : k = 0 := by omega
            obtain ⟨Aq, nq, cq, hq, hend⟩ := fin (.slice A5 (r * hR m) (r * hR m)) w5 (List.replicate (r * hR m) []) ⟨_, OwnV.list_mk ho5, fun b hb => by simp only [List.mem_singleton] at hb; omega⟩ hu5 (by rw [hx2, hk0, hk_nil (fun _ _ => rfl)])
            injection hq with q1 q2 q3
            subst q1; subst q2; subst q3
            refine fld gok rfl rfl rfl rfl (stB (hb4.ext hu5) (by simp) rfl ?_)
            intro w6 hb6 hu6
            have hb6 : Blk w6 w2.heap.size [.int .i64 ((k : Int) * hC m), .slice A5 (r * hR m) (r * hR m)] := hb6
            refine loadN [.int .i64 ((k : Int) * hC m), .slice A5 (r * hR m) (r * hR m)] rfl hb6.all ?_
            refine stA (cs' := #[.int .i64 ((k : Int) * hC m), .slice A5 (r * hR m) (r * hR m)]) gok rfl (((hb2.ext hu24).ext hu5).upd hu6 (by simp only [List.mem_singleton]; omega)) rfl (by simp [Value.oneCell']) ?_
            intro w7 hb7 hu7
            refine loadN [.int .i64 ((k : Int) * hC m), .slice A5 (r * hR m) (r * hR m)] rfl hb7.all ?_
            exact hend w6 w7 hu6 hu7
      · have hkk : 0 < hC m → (k : Int) ≤ (24 : Int).tdiv (hC m) := fun h => by have := tdiv24 (b := hC m) (by omega) (by omega); omega
        have hok : hkOk p m (r : Int) (k : Int) = true := hkOk_iff.2 ⟨hm, by omega, by omega, hrc, hrr, hkk⟩
        have hmul : 0 ≤ (k : Int) * hC m ∧ (k : Int) * hC m ≤ 192 := hk_mul hkk hC0' hC8'
        have hmulr : 0 ≤ (r : Int) * (hR m : Nat) ∧ (r : Int) * (hR m : Nat) ≤ 192 := hk_mul (fun h => hrr (by omega)) (by omega) (by omega)
        refine ar (by omega) ?_
        refine build_ (cs := #[.int .i64 ((k : Int) * hC m), .slice none 0 0]) gok rfl rfl rfl ?_
        refine alloc_ gok rfl ?_
        intro w3 hb3 hu3 l3
        refine stA (cs' := #[.int .i64 ((k : Int) * hC m), .slice none 0 0]) gok rfl hb3 rfl (by simp [Value.oneCell']) ?_
        intro w4 hb4 hu4
        have es : (w2.drewN 1).heap.size = w2.heap.size := rfl
        rw [es] at hb4 hu4
        have hu24 : Ext w2 w4 := ((ext_drewN 1).trans hu3 (fun _ h => by cases h)).trans (fp := []) hu4 (fun b hb => .inr (by simp only [List.mem_singleton] at hb; omega))
        have hu04 : Ext w w4 := hu12.trans hu24 (fun _ h => by cases h)
        have s4 := hu24.size
        have l4 := hb4.lt
        have fin : ∀ (q : Value) (w5 : World) (x : List (List Int)), Fresh w4.heap.size w5 q x → Ext w4 w5 → x = (hkR p m (r : Int) (k : Int)).2 → ∃ Aq nq cq, q = .slice Aq nq cq ∧ ∀ w6 w7, Upd [w2.heap.size] w5 w6 → Upd [w.heap.size] w6 w7 →
            ∃ r1, Ending.returned (.tuple #[.agg #[.int .i64 ((k : Int) * hC m), .slice Aq nq cq], .bool true]) = .returned (.tuple #[r1, .bool (hkOk p m r k)]) ∧ Fresh w.heap.size w7 r1 (hkR p m r k) ∧ Ext w w7 := by
          rintro q w5 x ⟨fq, hoq, hfq⟩ hu5 hx
          obtain ⟨Aq, nq, cq, rfl, hoqL⟩ := hoq.list
          refine ⟨Aq, nq, cq, rfl, fun w6 w7 hu6 hu7 => ⟨_, by rw [hok], ⟨fq, ?_, fun b hb => by have := hfq b hb; omega⟩, ((hu04.trans hu5 (fun _ h => by cases h)).trans (fp := []) hu6 (fun b hb => .inr (by simp only [List.mem_singleton] at hb; omega))).trans (fp := []) hu7 (fun b hb => .inr (by simp only [List.mem_singleton] at hb; omega))⟩⟩
          have e1 : hkR p m (r : Int) (k : Int) = ((k : Int) * hC m, x) := by rw [hx]; rw [hkR, if_pos hok]
          rw [e1]
          exact OwnV.pair_mk (by unfold inI; omega) (OwnL.upd (OwnL.upd hoqL hu6 (fun b hb h => by have := hfq b hb; simp only [List.mem_singleton] at h; omega)) hu7 (fun b hb h => by have := hfq b hb; simp only [List.mem_singleton] at h; omega))
        have hx2 : (hkR p m (r : Int) (k : Int)).2 = hk m k r := hk_two hm hok
        refine cmp (fun z1 => ?_) (fun z1 => ?_)
        · refine call (hankel_c p _ m r k S _ (RdV.list_mk (hr2.ext_ (fun b hb => Nat.lt_of_lt_of_le (hS b hb) hu12.size) hu24)) (fun b hb => Nat.lt_of_lt_of_le (hS b hb) hu04.size) hm (by omega)) ?_
          rintro _ w5 ⟨q, rfl, hfr, hu5⟩
          refine ⟨_, rfl, ?_⟩
          obtain ⟨Aq, nq, cq, rfl, hend⟩ := fin q w5 _ hfr hu5 hx2.symm
          refine fld gok rfl rfl rfl rfl (stB (hb4.ext hu5) (by simp) rfl ?_)
          intro w6 hb6 hu6
          have hb6 : Blk w6 w2.heap.size [.int .i64 ((k : Int) * hC m), .slice Aq nq cq] := hb6
          refine loadN [.int .i64 ((k : Int) * hC m), .slice Aq nq cq] rfl hb6.all ?_
          refine stA (cs' := #[.int .i64 ((k : Int) * hC m), .slice Aq nq cq]) gok rfl (((hb2.ext hu24).ext hu5).upd hu6 (by simp only [List.mem_singleton]; omega)) rfl (by simp [Value.oneCell']) ?_
          intro w7 hb7 hu7
          refine loadN [.int .i64 ((k : Int) * hC m), .slice Aq nq cq] rfl hb7.all ?_
          exact hend w6 w7 hu6 hu7
        · have hm192 : r * hR m ≤ 192 := by have h1 := hmulr.2; rw [← Int.natCast_mul] at h1; omega
          refine ar (by omega) ?_
          refine make_ (α := List Int) gok rfl rfl rfl (r * hR m) (r * hR m) (by simp) (by simp) (Nat.le_refl _) (by omega) (by omega) ?_
          intro A5 w5 ho5 hu5
          have hk0 : k = 0 := by omega
          obtain ⟨Aq, nq, cq, hq, hend⟩ := fin (.slice A5 (r * hR m) (r * hR m)) w5 (List.replicate (r * hR m) []) ⟨_, OwnV.list_mk ho5, fun b hb => by simp only [List.mem_singleton] at hb; omega⟩ hu5 (by rw [hx2, hk0, hk_nil (fun _ _ => rfl)])
          injection hq with q1 q2 q3
          subst q1; subst q2; subst q3
          refine fld gok rfl rfl rfl rfl (stB (hb4.ext hu5) (by simp) rfl ?_)
          intro w6 hb6 hu6
          have hb6 : Blk w6 w2.heap.size [.int .i64 ((k : Int) * hC m), .slice A5 (r * hR m) (r * hR m)] := hb6
          refine loadN [.int .i64 ((k : Int) * hC m), .slice A5 (r * hR m) (r * hR m)] rfl hb6.all ?_
          refine stA (cs' := #[.int .i64 ((k : Int) * hC m), .slice A5 (r * hR m) (r * hR m)]) gok rfl (((hb2.ext hu24).ext hu5).upd hu6 (by simp only [List.mem_singleton]; omega)) rfl (by simp [Value.oneCell']) ?_
          intro w7 hb7 hu7
          refine loadN [.int .i64 ((k : Int) * hC m), .slice A5 (r * hR m) (r * hR m)] rfl hb7.all ?_
          exact hend w6 w7 hu6 hu7
  · refine cmp (fun d1 => ?_) (fun d1 => ?_)
    · refine cmpF (by omega) (cmpF (by omega) (cmpT (by omega) (cmpF (by omega) ?_)))
      have hrc : (0 : Int) < r → (0 : Int) < k → (r : Int) + k ≤ m.length := fun _ _ => by omega
      refine held (Upd [] w2) [(false, 0), (false, 1), (false, 2), (false, 5), (false, 6), (false, 7), (false, 3), (false, 4), (false, 9), (true, 8), (false, 10)] mixed (by kernel_rfl) (ext_drewN 1) ?_
      refine idx 0 rfl h0 ?_
      refine anyH (fun w' => fld gok rfl rfl rfl rfl ⟨rfl, rfl⟩) ?_
      refine idx 0 rfl h0 ?_
      refine anyH (fun w' => fld gok rfl rfl rfl rfl ⟨rfl, rfl⟩) ?_
      refine loadH (cellU (hc0 1 _ rfl) (by simp)) ?_
      refine load1 (hc0 0 _ rfl) (hold (ext_drewN 1) ?_)
      refine cmpT (by omega) ?_
      refine cmp (fun g1 => ?_) (fun g1 => ?_)
      · have t24 := tdiv24 (b := (hR m : Int)) (by omega) (by omega)
        refine quo_ (by omega) (by omega) ?_
        refine cmp (fun g2 => ?_) (fun g2 => ?_)
        · refine build_ (cs := #[.int .i64 0, .slice none 0 0]) gok rfl rfl rfl ?_
          refine stA (cs' := #[.int .i64 0, .slice none 0 0]) gok rfl (hb2.ext (ext_drewN 1)) rfl (by simp [Value.oneCell']) ?_
          intro wz hbz huz
          refine loadN [.int .i64 0, .slice none 0 0] rfl hbz.all ?_
          exact hk_no (fun h => by obtain ⟨k1, k2, k3, k4, k5, k6⟩ := hkOk_iff.1 h; have := k5 (by omega); omega) (Upd.trans (fp := []) (hu12.trans (ext_drewN 1) (fun _ h => by cases h)) huz (fun b hb => .inr (by simp only [List.mem_singleton] at hb; omega)))
        have hrr : 0 < hR m → (r : Int) ≤ (24 : Int).tdiv (hR m) := fun h => by omega
        refine cmpF (by omega) ?_
        have hkk : 0 < hC m → (k : Int) ≤ (24 : Int).tdiv (hC m) := fun h => by have := tdiv24 (b := hC m) (by omega) (by omega); omega
        have hok : hkOk p m (r : Int) (k : Int) = true := hkOk_iff.2 ⟨hm, by omega, by omega, hrc, hrr, hkk⟩
        have hmul : 0 ≤ (k : Int) * hC m ∧ (k : Int) * hC m ≤ 192 := hk_mul hkk hC0' hC8'
        have hmulr : 0 ≤ (r : Int) * (hR m : Nat) ∧ (r : Int) * (hR m : Nat) ≤ 192 := hk_mul (fun h => hrr (by omega)) (by omega) (by omega)
        refine ar (by omega) ?_
        refine build_ (cs := #[.int .i64 ((k : Int) * hC m), .slice none 0 0]) gok rfl rfl rfl ?_
        refine alloc_ gok rfl ?_
        intro w3 hb3 hu3 l3
        refine stA (cs' := #[.int .i64 ((k : Int) * hC m), .slice none 0 0]) gok rfl hb3 rfl (by simp [Value.oneCell']) ?_
        intro w4 hb4 hu4
        have es : (w2.drewN 1).heap.size = w2.heap.size := rfl
        rw [es] at hb4 hu4
        have hu24 : Ext w2 w4 := ((ext_drewN 1).trans hu3 (fun _ h => by cases h)).trans (fp := []) hu4 (fun b hb => .inr (by simp only [List.mem_singleton] at hb; omega))
        have hu04 : Ext w w4 := hu12.trans hu24 (fun _ h => by cases h)
        have s4 := hu24.size
        have l4 := hb4.lt
        have fin : ∀ (q : Value) (w5 : World) (x : List (List Int)), Fresh w4.heap.size w5 q x → Ext w4 w5 → x = (hkR p m (r : Int) (k : Int)).2 → ∃ Aq nq cq, q = .slice Aq nq cq ∧ ∀ w6 w7, Upd [w2.heap.size] w5 w6 → Upd [w.heap.size] w6 w7 →
            ∃ r1, Ending.returned (.tuple #[.agg #[.int .i64 ((k : Int) * hC m), .slice Aq nq cq], .bool true]) = .returned (.tuple #[r1, .bool (hkOk p m r k)]) ∧ Fresh w.heap.size w7 r1 (hkR p m r k) ∧ Ext w w7 := by
          rintro q w5 x ⟨fq, hoq, hfq⟩ hu5 hx
          obtain ⟨Aq, nq, cq, rfl, hoqL⟩ := hoq.list
          refine ⟨Aq, nq, cq, rfl, fun w6 w7 hu6 hu7 => ⟨_, by rw [hok], ⟨fq, ?_, fun b hb => by have := hfq b hb; omega⟩, ((hu04.trans hu5 (fun _ h => by cases h)).trans (fp := []) hu6 (fun b hb => .inr (by simp only [List.mem_singleton] at hb; omega))).trans (fp := []) hu7 (fun b hb => .inr (by simp only [List.mem_singleton] at hb; omega))⟩⟩
          have e1 : hkR p m (r : Int) (k : Int) = ((k : Int) * hC m, x) := by rw [hx]; rw [hkR, if_pos hok]
          rw [e1]
          exact OwnV.pair_mk (by unfold inI; omega) (OwnL.upd (OwnL.upd hoqL hu6 (fun b hb h => by have := hfq b hb; simp only [List.mem_singleton] at h; omega)) hu7 (fun b hb h => by have := hfq b hb; simp only [List.mem_singleton] at h; omega))
        have hx2 : (hkR p m (r : Int) (k : Int)).2 = hk m k r := hk_two hm hok
        refine cmp (fun z1 => ?_) (fun z1 => ?_)
        · refine call (hankel_c p _ m r k S _ (RdV.list_mk (hr2.ext_ (fun b hb => Nat.lt_of_lt_of_le (hS b hb) hu12.size) hu24)) (fun b hb => Nat.lt_of_lt_of_le (hS b hb) hu04.size) hm (by omega)) ?_
          rintro _ w5 ⟨q, rfl, hfr, hu5⟩
          refine ⟨_, rfl, ?_⟩
          obtain ⟨Aq, nq, cq, rfl, hend⟩ := fin q w5 _ hfr hu5 hx2.symm
          refine fld gok rfl rfl rfl rfl (stB (hb4.ext hu5) (by simp) rfl ?_)
          intro w6 hb6 hu6
          have hb6 : Blk w6 w2.heap.size [.int .i64 ((k : Int) * hC m), .slice Aq nq cq] := hb6
          refine loadN [.int .i64 ((k : Int) * hC m), .slice Aq nq cq] rfl hb6.all ?_
          refine stA (cs' := #[.int .i64 ((k : Int) * hC m), .slice Aq nq cq]) gok rfl (((hb2.ext hu24).ext hu5).upd hu6 (by simp only [List.mem_singleton]; omega)) rfl (by simp [Value.oneCell']) ?_
          intro w7 hb7 hu7
          refine loadN [.int .i64 ((k : Int) * hC m), .slice Aq nq cq] rfl hb7.all ?_
          exact hend w6 w7 hu6 hu7
        · have hm192 : r * hR m ≤ 192 := by have h1 := hmulr.2; rw [← Int.natCast_mul] at h1; omega
          refine ar (by omega) ?_
          refine make_ (α := List Int) gok rfl rfl rfl (r * hR m) (r * hR m) (by simp) (by simp) (Nat.le_refl _) (by omega) (by omega) ?_
          intro A5 w5 ho5 hu5
          have hk0 : k = 0 := by omega
          obtain ⟨Aq, nq, cq, hq, hend⟩ := fin (.slice A5 (r * hR m) (r * hR m)) w5 (List.replicate (r * hR m) []) ⟨_, OwnV.list_mk ho5, fun b hb => by simp only [List.mem_singleton] at hb; omega⟩ hu5 (by rw [hx2, hk0, hk_nil (fun _ _ => rfl)])
          injection hq with q1 q2 q3
          subst q1; subst q2; subst q3
          refine fld gok rfl rfl rfl rfl (stB (hb4.ext hu5) (by simp) rfl ?_)
          intro w6 hb6 hu6
          have hb6 : Blk w6 w2.heap.size [.int .i64 ((k : Int) * hC m), .slice A5 (r * hR m) (r * hR m)] := hb6
          refine loadN [.int .i64 ((k : Int) * hC m), .slice A5 (r * hR m) (r * hR m)] rfl hb6.all ?_
          refine stA (cs' := #[.int .i64 ((k : Int) * hC m), .slice A5 (r * hR m) (r * hR m)]) gok rfl (((hb2.ext hu24).ext hu5).upd hu6 (by simp only [List.mem_singleton]; omega)) rfl (by simp [Value.oneCell']) ?_
          intro w7 hb7 hu7
          refine loadN [.int .i64 ((k : Int) * hC m), .slice A5 (r * hR m) (r * hR m)] rfl hb7.all ?_
          exact hend w6 w7 hu6 hu7
      · have hrr : 0 < hR m → (r : Int) ≤ (24 : Int).tdiv (hR m) := fun h => by omega
        refine cmpF (by omega) ?_
        have hkk : 0 < hC m → (k : Int) ≤ (24 : Int).tdiv (hC m) := fun h => by have := tdiv24 (b := hC m) (by omega) (by omega); omega
        have hok : hkOk p m (r : Int) (k : Int) = true := hkOk_iff.2 ⟨hm, by omega, by omega, hrc, hrr, hkk⟩
        have hmul : 0 ≤ (k : Int) * hC m ∧ (k : Int) * hC m ≤ 192 := hk_mul hkk hC0' hC8'
        have hmulr : 0 ≤ (r : Int) * (hR m : Nat) ∧ (r : Int) * (hR m : Nat) ≤ 192 := hk_mul (fun h => hrr (by omega)) (by omega) (by omega)
        refine ar (by omega) ?_
        refine build_ (cs := #[.int .i64 ((k : Int) * hC m), .slice none 0 0]) gok rfl rfl rfl ?_
        refine alloc_ gok rfl ?_
        intro w3 hb3 hu3 l3
        refine stA (cs' := #[.int .i64 ((k : Int) * hC m), .slice none 0 0]) gok rfl hb3 rfl (by simp [Value.oneCell']) ?_
        intro w4 hb4 hu4
        have es : (w2.drewN 1).heap.size = w2.heap.size := rfl
        rw [es] at hb4 hu4
        have hu24 : Ext w2 w4 := ((ext_drewN 1).trans hu3 (fun _ h => by cases h)).trans (fp := []) hu4 (fun b hb => .inr (by simp only [List.mem_singleton] at hb; omega))
        have hu04 : Ext w w4 := hu12.trans hu24 (fun _ h => by cases h)
        have s4 := hu24.size
        have l4 := hb4.lt
        have fin : ∀ (q : Value) (w5 : World) (x : List (List Int)), Fresh w4.heap.size w5 q x → Ext w4 w5 → x = (hkR p m (r : Int) (k : Int)).2 → ∃ Aq nq cq, q = .slice Aq nq cq ∧ ∀ w6 w7, Upd [w2.heap.size] w5 w6 → Upd [w.heap.size] w6 w7 →
            ∃ r1, Ending.returned (.tuple #[.agg #[.int .i64 ((k : Int) * hC m), .slice Aq nq cq], .bool true]) = .returned (.tuple #[r1, .bool (hkOk p m r k)]) ∧ Fresh w.heap.size w7 r1 (hkR p m r k) ∧ Ext w w7 := by
          rintro q w5 x ⟨fq, hoq, hfq⟩ hu5 hx
          obtain ⟨Aq, nq, cq, rfl, hoqL⟩ := hoq.list
          refine ⟨Aq, nq, cq, rfl, fun w6 w7 hu6 hu7 => ⟨_, by rw [hok], ⟨fq, ?_, fun b hb => by have := hfq b hb; omega⟩, ((hu04.trans hu5 (fun _ h => by cases h)).trans (fp := []) hu6 (fun b hb => .inr (by simp only [List.mem_singleton] at hb; omega))).trans (fp := []) hu7 (fun b hb => .inr (by simp only [List.mem_singleton] at hb; omega))⟩⟩
          have e1 : hkR p m (r : Int) (k : Int) = ((k : Int) * hC m, x) := by rw [hx]; rw [hkR, if_pos hok]
          rw [e1]
          exact OwnV.pair_mk (by unfold inI; omega) (OwnL.upd (OwnL.upd hoqL hu6 (fun b hb h => by have := hfq b hb; simp only [List.mem_singleton] at h; omega)) hu7 (fun b hb h => by have := hfq b hb; simp only [List.mem_singleton] at h; omega))
        have hx2 : (hkR p m (r : Int) (k : Int)).2 = hk m k r := hk_two hm hok
        refine cmp (fun z1 => ?_) (fun z1 => ?_)
        · refine call (hankel_c p _ m r k S _ (RdV.list_mk (hr2.ext_ (fun b hb => Nat.lt_of_lt_of_le (hS b hb) hu12.size) hu24)) (fun b hb => Nat.lt_of_lt_of_le (hS b hb) hu04.size) hm (by omega)) ?_
          rintro _ w5 ⟨q, rfl, hfr, hu5⟩
          refine ⟨_, rfl, ?_⟩
          obtain ⟨Aq, nq, cq, rfl, hend⟩ := fin q w5 _ hfr hu5 hx2.symm
          refine fld gok rfl rfl rfl rfl (stB (hb4.ext hu5) (by simp) rfl ?_)
          intro w6 hb6 hu6
          have hb6 : Blk w6 w2.heap.size [.int .i64 ((k : Int) * hC m), .slice Aq nq cq] := hb6
          refine loadN [.int .i64 ((k : Int) * hC m), .slice Aq nq cq] rfl hb6.all ?_
          refine stA (cs' := #[.int .i64 ((k : Int) * hC m), .slice Aq nq cq]) gok rfl (((hb2.ext hu24).ext hu5).upd hu6 (by simp only [List.mem_singleton]; omega)) rfl (by simp [Value.oneCell']) ?_
          intro w7 hb7 hu7
          refine loadN [.int .i64 ((k : Int) * hC m), .slice Aq nq cq] rfl hb7.all ?_
          exact hend w6 w7 hu6 hu7
        · have hm192 : r * hR m ≤ 192 := by have h1 := hmulr.2; rw [← Int.natCast_mul] at h1; omega
          refine ar (by omega) ?_
          refine make_ (α := List Int) gok rfl rfl rfl (r * hR m) (r * hR m) (by simp) (by simp) (Nat.le_refl _) (by omega) (by omega) ?_
          intro A5 w5 ho5 hu5
          have hk0 : k = 0 := by omega
          obtain ⟨Aq, nq, cq, hq, hend⟩ := fin (.slice A5 (r * hR m) (r * hR m)) w5 (List.replicate (r * hR m) []) ⟨_, OwnV.list_mk ho5, fun b hb => by simp only [List.mem_singleton] at hb; omega⟩ hu5 (by rw [hx2, hk0, hk_nil (fun _ _ => rfl)])
          injection hq with q1 q2 q3
          subst q1; subst q2; subst q3
          refine fld gok rfl rfl rfl rfl (stB (hb4.ext hu5) (by simp) rfl ?_)
          intro w6 hb6 hu6
          have hb6 : Blk w6 w2.heap.size [.int .i64 ((k : Int) * hC m), .slice A5 (r * hR m) (r * hR m)] := hb6
          refine loadN [.int .i64 ((k : Int) * hC m), .slice A5 (r * hR m) (r * hR m)] rfl hb6.all ?_
          refine stA (cs' := #[.int .i64 ((k : Int) * hC m), .slice A5 (r * hR m) (r * hR m)]) gok rfl (((hb2.ext hu24).ext hu5).upd hu6 (by simp only [List.mem_singleton]; omega)) rfl (by simp [Value.oneCell']) ?_
          intro w7 hb7 hu7
          refine loadN [.int .i64 ((k : Int) * hC m), .slice A5 (r * hR m) (r * hR m)] rfl hb7.all ?_
          exact hend w6 w7 hu6 hu7
    · refine cmpF (by omega) (cmpT (by omega) (cmpF (by omega) ?_))
      have hrc : (0 : Int) < r → (0 : Int) < k → (r : Int) + k ≤ m.length := fun _ _ => by omega
      refine held (Upd [] w2) [(false, 0), (false, 1), (false, 2), (false, 5), (false, 6), (false, 7), (false, 3), (false, 4), (false, 9), (true, 8), (false, 10)] mixed (by kernel_rfl) (ext_drewN 1) ?_
      refine idx 0 rfl h0 ?_
      refine anyH (fun w' => fld gok rfl rfl rfl rfl ⟨rfl, rfl⟩) ?_
      refine idx 0 rfl h0 ?_
      refine anyH (fun w' => fld gok rfl rfl rfl rfl ⟨rfl, rfl⟩) ?_
      refine loadH (cellU (hc0 1 _ rfl) (by simp)) ?_
      refine load1 (hc0 0 _ rfl) (hold (ext_drewN 1) ?_)
      refine cmpT (by omega) ?_
      refine cmp (fun g1 => ?_) (fun g1 => ?_)
      · have t24 := tdiv24 (b := (hR m : Int)) (by omega) (by omega)
        refine quo_ (by omega) (by omega) ?_
        refine cmp (fun g2 => ?_) (fun g2 => ?_)
        · refine build_ (cs := #[.int .i64 0, .slice none 0 0]) gok rfl rfl rfl ?_
          refine stA (cs' := #[.int .i64 0, .slice none 0 0]) gok rfl (hb2.ext (ext_drewN 1)) rfl (by simp [Value.oneCell']) ?_
          intro wz hbz huz
          refine loadN [.int .i64 0, .slice none 0 0] rfl hbz.all ?_
          exact hk_no (fun h => by obtain ⟨k1, k2, k3, k4, k5, k6⟩ := hkOk_iff.1 h; have := k5 (by omega); omega) (Upd.trans (fp := []) (hu12.trans (ext_drewN 1) (fun _ h => by cases h)) huz (fun b hb => .inr (by simp only [List.mem_singleton] at hb; omega)))
        have hrr : 0 < hR m → (r : Int) ≤ (24 : Int).tdiv (hR m) := fun h => by omega
        refine cmpF (by omega) ?_
        have hkk : 0 < hC m → (k : Int) ≤ (24 : Int).tdiv (hC m) := fun h => by have := tdiv24 (b := hC m) (by omega) (by omega); omega
        have hok : hkOk p m (r : Int) (k : Int) = true := hkOk_iff.2 ⟨hm, by omega, by omega, hrc, hrr, hkk⟩
        have hmul : 0 ≤ (k : Int) * hC m ∧ (k : Int) * hC m ≤ 192 := hk_mul hkk hC0' hC8'
        have hmulr : 0 ≤ (r : Int) * (hR m : Nat) ∧ (r : Int) * (hR m : Nat) ≤ 192 := hk_mul (fun h => hrr (by omega)) (by omega) (by omega)
        refine ar (by omega) ?_
        refine build_ (cs := #[.int .i64 ((k : Int) * hC m), .slice none 0 0]) gok rfl rfl rfl ?_
        refine alloc_ gok rfl ?_
        intro w3 hb3 hu3 l3
        refine stA (cs' := #[.int .i64 ((k : Int) * hC m), .slice none 0 0]) gok rfl hb3 rfl (by simp [Value.oneCell']) ?_
        intro w4 hb4 hu4
        have es : (w2.drewN 1).heap.size = w2.heap.size := rfl
        rw [es] at hb4 hu4
        have hu24 : Ext w2 w4 := ((ext_drewN 1).trans hu3 (fun _ h => by cases h)).trans (fp := []) hu4 (fun b hb => .inr (by simp only [List.mem_singleton] at hb; omega))
        have hu04 : Ext w w4 := hu12.trans hu24 (fun _ h => by cases h)
        have s4 := hu24.size
        have l4 := hb4.lt
        have fin : ∀ (q : Value) (w5 : World) (x : List (List Int)), Fresh w4.heap.size w5 q x → Ext w4 w5 → x = (hkR p m (r : Int) (k : Int)).2 → ∃ Aq nq cq, q = .slice Aq nq cq ∧ ∀ w6 w7, Upd [w2.heap.size] w5 w6 → Upd [w.heap.size] w6 w7 →
            ∃ r1, Ending.returned (.tuple #[.agg #[.int .i64 ((k : Int) * hC m), .slice Aq nq cq], .bool true]) = .returned (.tuple #[r1, .bool (hkOk p m r k)]) ∧ Fresh w.heap.size w7 r1 (hkR p m r k) ∧ Ext w w7 := by
          rintro q w5 x ⟨fq, hoq, hfq⟩ hu5 hx
          obtain ⟨Aq, nq, cq, rfl, hoqL⟩ := hoq.list
          refine ⟨Aq, nq, cq, rfl, fun w6 w7 hu6 hu7 => ⟨_, by rw [hok], ⟨fq, ?_, fun b hb => by have := hfq b hb; omega⟩, ((hu04.trans hu5 (fun _ h => by cases h)).trans (fp := []) hu6 (fun b hb => .inr (by simp only [List.mem_singleton] at hb; omega))).trans (fp := []) hu7 (fun b hb => .inr (by simp only [List.mem_singleton] at hb; omega))⟩⟩
          have e1 : hkR p m (r : Int) (k : Int) = ((k : Int) * hC m, x) := by rw [hx]; rw [hkR, if_pos hok]
          rw [e1]
          exact OwnV.pair_mk (by unfold inI; omega) (OwnL.upd (OwnL.upd hoqL hu6 (fun b hb h => by have := hfq b hb; simp only [List.mem_singleton] at h; omega)) hu7 (fun b hb h => by have := hfq b hb; simp only [List.mem_singleton] at h; omega))
        have hx2 : (hkR p m (r : Int) (k : Int)).2 = hk m k r := hk_two hm hok
        refine cmp (fun z1 => ?_) (fun z1 => ?_)
        · refine call (hankel_c p _ m r k S _ (RdV.list_mk (hr2.ext_ (fun b hb => Nat.lt_of_lt_of_le (hS b hb) hu12.size) hu24)) (fun b hb => Nat.lt_of_lt_of_le (hS b hb) hu04.size) hm (by omega)) ?_
          rintro _ w5 ⟨q, rfl, hfr, hu5⟩
          refine ⟨_, rfl, ?_⟩
          obtain ⟨Aq, nq, cq, rfl, hend⟩ := fin q w5 _ hfr hu5 hx2.symm
          refine fld gok rfl rfl rfl rfl (stB (hb4.ext hu5) (by simp) rfl ?_)
          intro w6 hb6 hu6
          have hb6 : Blk w6 w2.heap.size [.int .i64 ((k : Int) * hC m), .slice Aq nq cq] := hb6
          refine loadN [.int .i64 ((k : Int) * hC m), .slice Aq nq cq] rfl hb6.all ?_
          refine stA (cs' := #[.int .i64 ((k : Int) * hC m), .slice Aq nq cq]) gok rfl (((hb2.ext hu24).ext hu5).upd hu6 (by simp only [List.mem_singleton]; omega)) rfl (by simp [Value.oneCell']) ?_
          intro w7 hb7 hu7
          refine loadN [.int .i64 ((k : Int) * hC m), .slice Aq nq cq] rfl hb7.all ?_
          exact hend w6 w7 hu6 hu7
        · have hm192 : r * hR m ≤ 192 := by have h1 := hmulr.2; rw [← Int.natCast_mul] at h1; omega
          refine ar (by omega) ?_
          refine make_ (α := List Int) gok rfl rfl rfl (r * hR m) (r * hR m) (by simp) (by simp) (Nat.le_refl _) (by omega) (by omega) ?_
          intro A5 w5 ho5 hu5
          have hk0 : k = 0 := by omega
          obtain ⟨Aq, nq, cq, hq, hend⟩ := fin (.slice A5 (r * hR m) (r * hR m)) w5 (List.replicate (r * hR m) []) ⟨_, OwnV.list_mk ho5, fun b hb => by simp only [List.mem_singleton] at hb; omega⟩ hu5 (by rw [hx2, hk0, hk_nil (fun _ _ => rfl)])
          injection hq with q1 q2 q3
          subst q1; subst q2; subst q3
          refine fld gok rfl rfl rfl rfl (stB (hb4.ext hu5) (by simp) rfl ?_)
          intro w6 hb6 hu6
          have hb6 : Blk w6 w2.heap.size [.int .i64 ((k : Int) * hC m), .slice A5 (r * hR m) (r * hR m)] := hb6
          refine loadN [.int .i64 ((k : Int) * hC m), .slice A5 (r * hR m) (r * hR m)] rfl hb6.all ?_
          refine stA (cs' := #[.int .i64 ((k : Int) * hC m), .slice A5 (r * hR m) (r * hR m)]) gok rfl (((hb2.ext hu24).ext hu5).upd hu6 (by simp only [List.mem_singleton]; omega)) rfl (by simp [Value.oneCell']) ?_
          intro w7 hb7 hu7
          refine loadN [.int .i64 ((k : Int) * hC m), .slice A5 (r * hR m) (r * hR m)] rfl hb7.all ?_
          exact hend w6 w7 hu6 hu7
      · have hrr : 0 < hR m → (r : Int) ≤ (24 : Int).tdiv (hR m) := fun h => by omega
        refine cmpF (by omega) ?_
        have hkk : 0 < hC m → (k : Int) ≤ (24 : Int).tdiv (hC m) := fun h => by have := tdiv24 (b := hC m) (by omega) (by omega); omega
        have hok : hkOk p m (r : Int) (k : Int) = true := hkOk_iff.2 ⟨hm, by omega, by omega, hrc, hrr, hkk⟩
        have hmul : 0 ≤ (k : Int) * hC m ∧ (k : Int) * hC m ≤ 192 := hk_mul hkk hC0' hC8'
        have hmulr : 0 ≤ (r : Int) * (hR m : Nat) ∧ (r : Int) * (hR m : Nat) ≤ 192 := hk_mul (fun h => hrr (by omega)) (by omega) (by omega)
        refine ar (by omega) ?_
        refine build_ (cs := #[.int .i64 ((k : Int) * hC m), .slice none 0 0]) gok rfl rfl rfl ?_
        refine alloc_ gok rfl ?_
        intro w3 hb3 hu3 l3
        refine stA (cs' := #[.int .i64 ((k : Int) * hC m), .slice none 0 0]) gok rfl hb3 rfl (by simp [Value.oneCell']) ?_
        intro w4 hb4 hu4
        have es : (w2.drewN 1).heap.size = w2.heap.size := rfl
        rw [es] at hb4 hu4
        have hu24 : Ext w2 w4 := ((ext_drewN 1).trans hu3 (fun _ h => by cases h)).trans (fp := []) hu4 (fun b hb => .inr (by simp only [List.mem_singleton] at hb; omega))
        have hu04 : Ext w w4 := hu12.trans hu24 (fun _ h => by cases h)
        have s4 := hu24.size
        have l4 := hb4.lt
        have fin : ∀ (q : Value) (w5 : World) (x : List (List Int)), Fresh w4.heap.size w5 q x → Ext w4 w5 → x = (hkR p m (r : Int) (k : Int)).2 → ∃ Aq nq cq, q = .slice Aq nq cq ∧ ∀ w6 w7, Upd [w2.heap.size] w5 w6 → Upd [w.heap.size] w6 w7 →
            ∃ r1, Ending.returned (.tuple #[.agg #[.int .i64 ((k : Int) * hC m), .slice Aq nq cq], .bool true]) = .returned (.tuple #[r1, .bool (hkOk p m r k)]) ∧ Fresh w.heap.size w7 r1 (hkR p m r k) ∧ Ext w w7 := by
          rintro q w5 x ⟨fq, hoq, hfq⟩ hu5 hx
          obtain ⟨Aq, nq, cq, rfl, hoqL⟩ := hoq.list
          refine ⟨Aq, nq, cq, rfl, fun w6 w7 hu6 hu7 => ⟨_, by rw [hok], ⟨fq, ?_, fun b hb => by have := hfq b hb; omega⟩, ((hu04.trans hu5 (fun _ h => by cases h)).trans (fp := []) hu6 (fun b hb => .inr (by simp only [List.mem_singleton] at hb; omega))).trans (fp := []) hu7 (fun b hb => .inr (by simp only [List.mem_singleton] at hb; omega))⟩⟩
          have e1 : hkR p m (r : Int) (k : Int) = ((k : Int) * hC m, x) := by rw [hx]; rw [hkR, if_pos hok]
          rw [e1]
          exact OwnV.pair_mk (by unfold inI; omega) (OwnL.upd (OwnL.upd hoqL hu6 (fun b hb h => by have := hfq b hb; simp only [List.mem_singleton] at h; omega)) hu7 (fun b hb h => by have := hfq b hb; simp only [List.mem_singleton] at h; omega))
        have hx2 : (hkR p m (r : Int) (k : Int)).2 = hk m k r := hk_two hm hok
        refine cmp (fun z1 => ?_) (fun z1 => ?_)
        · refine call (hankel_c p _ m r k S _ (RdV.list_mk (hr2.ext_ (fun b hb => Nat.lt_of_lt_of_le (hS b hb) hu12.size) hu24)) (fun b hb => Nat.lt_of_lt_of_le (hS b hb) hu04.size) hm (by omega)) ?_
          rintro _ w5 ⟨q, rfl, hfr, hu5⟩
          refine ⟨_, rfl, ?_⟩
          obtain ⟨Aq, nq, cq, rfl, hend⟩ := fin q w5 _ hfr hu5 hx2.symm
          refine fld gok rfl rfl rfl rfl (stB (hb4.ext hu5) (by simp) rfl ?_)
          intro w6 hb6 hu6
          have hb6 : Blk w6 w2.heap.size [.int .i64 ((k : Int) * hC m), .slice Aq nq cq] := hb6
          refine loadN [.int .i64 ((k : Int) * hC m), .slice Aq nq cq] rfl hb6.all ?_
          refine stA (cs' := #[.int .i64 ((k : Int) * hC m), .slice Aq nq cq]) gok rfl (((hb2.ext hu24).ext hu5).upd hu6 (by simp only [List.mem_singleton]; omega)) rfl (by simp [Value.oneCell']) ?_
          intro w7 hb7 hu7
          refine loadN [.int .i64 ((k : Int) * hC m), .slice Aq nq cq] rfl hb7.all ?_
          exact hend w6 w7 hu6 hu7
        · have hm192 : r * hR m ≤ 192 := by have h1 := hmulr.2; rw [← Int.natCast_mul] at h1; omega
          refine ar (by omega) ?_
          refine make_ (α := List Int) gok rfl rfl rfl (r * hR m) (r * hR m) (by simp) (by simp) (Nat.le_refl _) (by omega) (by omega) ?_
          intro A5 w5 ho5 hu5
          have hk0 : k = 0 := by omega
          obtain ⟨Aq, nq, cq, hq, hend⟩ := fin (.slice A5 (r * hR m) (r * hR m)) w5 (List.replicate (r * hR m) []) ⟨_, OwnV.list_mk ho5, fun b hb => by simp only [List.mem_singleton] at hb; omega⟩ hu5 (by rw [hx2, hk0, hk_nil (fun _ _ => rfl)])
          injection hq with q1 q2 q3
          subst q1; subst q2; subst q3
          refine fld gok rfl rfl rfl rfl (stB (hb4.ext hu5) (by simp) rfl ?_)
          intro w6 hb6 hu6
          have hb6 : Blk w6 w2.heap.size [.int .i64 ((k : Int) * hC m), .slice A5 (r * hR m) (r * hR m)] := hb6
          refine loadN [.int .i64 ((k : Int) * hC m), .slice A5 (r * hR m) (r * hR m)] rfl hb6.all ?_
          refine stA (cs' := #[.int .i64 ((k : Int) * hC m), .slice A5 (r * hR m) (r * hR m)]) gok rfl (((hb2.ext hu24).ext hu5).upd hu6 (by simp only [List.mem_singleton]; omega)) rfl (by simp [Value.oneCell']) ?_
          intro w7 hb7 hu7
          refine loadN [.int .i64 ((k : Int) * hC m), .slice A5 (r * hR m) (r * hR m)] rfl hb7.all ?_
          exact hend w6 w7 hu6 hu7
  · refine cmp (fun d1 => ?_) (fun d1 => ?_)
    · refine cmpT (by omega) ?_
      refine build_ (cs := #[.int .i64 0, .slice none 0 0]) gok rfl rfl rfl ?_
      refine stA (cs' := #[.int .i64 0, .slice none 0 0]) gok rfl hb2 rfl (by simp [Value.oneCell']) ?_
      intro wz hbz huz
      refine loadN [.int .i64 0, .slice none 0 0] rfl hbz.all ?_
      exact hk_no (fun h => by obtain ⟨k1, k2, k3, k4, k5, k6⟩ := hkOk_iff.1 h; have := k4 (by omega) (by omega); omega) (Upd.trans (fp := []) hu12 huz (fun b hb => .inr (by simp only [List.mem_singleton] at hb; omega)))
    refine cmp (fun d2 => ?_) (fun d2 => ?_)
    · refine cmpT (by omega) ?_
      refine build_ (cs := #[.int .i64 0, .slice none 0 0]) gok rfl rfl rfl ?_
      refine stA (cs' := #[.int .i64 0, .slice none 0 0]) gok rfl hb2 rfl (by simp [Value.oneCell']) ?_
      intro wz hbz huz
      refine loadN [.int .i64 0, .slice none 0 0] rfl hbz.all ?_
      exact hk_no (fun h => by obtain ⟨k1, k2, k3, k4, k5, k6⟩ := hkOk_iff.1 h; have := k4 (by omega) (by omega); omega) (Upd.trans (fp := []) hu12 huz (fun b hb => .inr (by simp only [List.mem_singleton] at hb; omega)))
    refine cmpT (by omega) (cmpT (by omega) (ar (by omega) ?_))
    refine cmp (fun d3 => ?_) (fun d3 => ?_)
    · refine build_ (cs := #[.int .i64 0, .slice none 0 0]) gok rfl rfl rfl ?_
      refine stA (cs' := #[.int .i64 0, .slice none 0 0]) gok rfl hb2 rfl (by simp [Value.oneCell']) ?_
      intro wz hbz huz
      refine loadN [.int .i64 0, .slice none 0 0] rfl hbz.all ?_
      exact hk_no (fun h => by obtain ⟨k1, k2, k3, k4, k5, k6⟩ := hkOk_iff.1 h; have := k4 (by omega) (by omega); omega) (Upd.trans (fp := []) hu12 huz (fun b hb => .inr (by simp only [List.mem_singleton] at hb; omega)))
    have hrc : (0 : Int) < r → (0 : Int) < k → (r : Int) + k ≤ m.length := fun _ _ => by omega
    refine held (Upd [] w2) [(false, 0), (false, 1), (false, 2), (false, 5), (false, 6), (false, 7), (false, 3), (false, 4), (false, 9), (true, 8), (false, 10)] mixed (by kernel_rfl) (ext_drewN 1) ?_
    refine idx 0 rfl h0 ?_
    refine anyH (fun w' => fld gok rfl rfl rfl rfl ⟨rfl, rfl⟩) ?_
    refine idx 0 rfl h0 ?_
    refine anyH (fun w' => fld gok rfl rfl rfl rfl ⟨rfl, rfl⟩) ?_
    refine loadH (cellU (hc0 1 _ rfl) (by simp)) ?_
    refine load1 (hc0 0 _ rfl) (hold (ext_drewN 1) ?_)
    refine cmpT (by omega) ?_
    refine cmp (fun g1 => ?_) (fun g1 => ?_)
    · have t24 := tdiv24 (b := (hR m : Int)) (by omega) (by omega)
      refine quo_ (by omega) (by omega) ?_
      refine cmp (fun g2 => ?_) (fun g2 => ?_)
      · refine build_ (cs := #[.int .i64 0, .slice none 0 0]) gok rfl rfl rfl ?_
        refine stA (cs' := #[.int .i64 0, .slice none 0 0]) gok rfl (hb2.ext (ext_drewN 1)) rfl (by simp [Value.oneCell']) ?_
        intro wz hbz huz
        refine loadN [.int .i64 0, .slice none 0 0] rfl hbz.all ?_
        exact hk_no (fun h => by obtain ⟨k1, k2, k3, k4, k5, k6⟩ := hkOk_iff.1 h; have := k5 (by omega); omega) (Upd.trans (fp := []) (hu12.trans (ext_drewN 1) (fun _ h => by cases h)) huz (fun b hb => .inr (by simp only [List.mem_singleton] at hb; omega)))
      have hrr : 0 < hR m → (r : Int) ≤ (24 : Int).tdiv (hR m) := fun h => by omega
      refine cmpT (by omega) ?_
      refine cmp (fun f1 => ?_) (fun f1 => ?_)
      · have t24' := tdiv24 (b := hC m) (by omega) (by omega)
        refine quo_ (by omega) (by omega) ?_
        refine cmp (fun f2 => ?_) (fun f2 => ?_)
        · refine build_ (cs := #[.int .i64 0, .slice none 0 0]) gok rfl rfl rfl ?_
          refine stA (cs' := #[.int .i64 0, .slice none 0 0]) gok rfl (hb2.ext (ext_drewN 1)) rfl (by simp [Value.oneCell']) ?_
          intro wz hbz huz
          refine loadN [.int .i64 0, .slice none 0 0] rfl hbz.all ?_
          exact hk_no (fun h => by obtain ⟨k1, k2, k3, k4, k5, k6⟩ := hkOk_iff.1 h; have := k6 (by omega); omega) (Upd.trans (fp := []) (hu12.trans (ext_drewN 1) (fun _ h => by cases h)) huz (fun b hb => .inr (by simp only [List.mem_singleton] at hb; omega)))
        have hkk : 0 < hC m → (k : Int) ≤ (24 : Int).tdiv (hC m) := fun h => by omega
        have hok : hkOk p m (r : Int) (k : Int) = true := hkOk_iff.2 ⟨hm, by omega, by omega, hrc, hrr, hkk⟩
        have hmul : 0 ≤ (k : Int) * hC m ∧ (k : Int) * hC m ≤ 192 := hk_mul hkk hC0' hC8'
        have hmulr : 0 ≤ (r : Int) * (hR m : Nat) ∧ (r : Int) * (hR m : Nat) ≤ 192 := hk_mul (fun h => hrr (by omega)) (by omega) (by omega)
        refine ar (by omega) ?_
        refine build_ (cs := #[.int .i64 ((k : Int) * hC m), .slice none 0 0]) gok rfl rfl rfl ?_
        refine alloc_ gok rfl ?_
        intro w3 hb3 hu3 l3
        refine stA (cs' := #[.int .i64 ((k : Int) * hC m), .slice none 0 0]) gok rfl hb3 rfl (by simp [Value.oneCell']) ?_
        intro w4 hb4 hu4
        have es : (w2.drewN 1).heap.size = w2.heap.size := rfl
        rw [es] at hb4 hu4
        have hu24 : Ext w2 w4 := ((ext_drewN 1).trans hu3 (fun _ h => by cases h)).trans (fp := []) hu4 (fun b hb => .inr (by simp only [List.mem_singleton] at hb; omega))
        have hu04 : Ext w w4 := hu12.trans hu24 (fun _ h => by cases h)
        have s4 := hu24.size
        have l4 := hb4.lt
        have fin : ∀ (q : Value) (w5 : World) (x : List (List Int)), Fresh w4.heap.size w5 q x → Ext w4 w5 → x = (hkR p m (r : Int) (k : Int)).2 → ∃ Aq nq cq, q = .slice Aq nq cq ∧ ∀ w6 w7, Upd [w2.heap.size] w5 w6 → Upd [w.heap.size] w6 w7 →
            ∃ r1, Ending.returned (.tuple #[.agg #[.int .i64 ((k : Int) * hC m), .slice Aq nq cq], .bool true]) = .returned (.tuple #[r1, .bool (hkOk p m r k)]) ∧ Fresh w.heap.size w7 r1 (hkR p m r k) ∧ Ext w w7 := by
          rintro q w5 x ⟨fq, hoq, hfq⟩ hu5 hx
          obtain ⟨Aq, nq, cq, rfl, hoqL⟩ := hoq.list
          refine ⟨Aq, nq, cq, rfl, fun w6 w7 hu6 hu7 => ⟨_, by rw [hok], ⟨fq, ?_, fun b hb => by have := hfq b hb; omega⟩, ((hu04.trans hu5 (fun _ h => by cases h)).trans (fp := []) hu6 (fun b hb => .inr (by simp only [List.mem_singleton] at hb; omega))).trans (fp := []) hu7 (fun b hb => .inr (by simp only [List.mem_singleton] at hb; omega))⟩⟩
          have e1 : hkR p m (r : Int) (k : Int) = ((k : Int) * hC m, x) := by rw [hx]; rw [hkR, if_pos hok]
          rw [e1]
          exact OwnV.pair_mk (by unfold inI; omega) (OwnL.upd (OwnL.upd hoqL hu6 (fun b hb h => by have := hfq b hb; simp only [List.mem_singleton] at h; omega)) hu7 (fun b hb h => by have := hfq b hb; simp only [List.mem_singleton] at h; omega))
        have hx2 : (hkR p m (r : Int) (k : Int)).2 = hk m k r := hk_two hm hok
        refine cmp (fun z1 => ?_) (fun z1 => ?_)
        · refine call (hankel_c p _ m r k S _ (RdV.list_mk (hr2.ext_ (fun b hb => Nat.lt_of_lt_of_le (hS b hb) hu12.size) hu24)) (fun b hb => Nat.lt_of_lt_of_le (hS b hb) hu04.size) hm (by omega)) ?_
          rintro _ w5 ⟨q, rfl, hfr, hu5⟩
          refine ⟨_, rfl, ?_⟩
          obtain ⟨Aq, nq, cq, rfl, hend⟩ := fin q w5 _ hfr hu5 hx2.symm
          refine fld gok rfl rfl rfl rfl (stB (hb4.ext hu5) (by simp) rfl ?_)
          intro w6 hb6 hu6
          have hb6 : Blk w6 w2.heap.size [.int .i64 ((k : Int) * hC m), .slice Aq nq cq] := hb6
          refine loadN [.int .i64 ((k : Int) * hC m), .slice Aq nq cq] rfl hb6.all ?_
          refine stA (cs' := #[.int .i64 ((k : Int) * hC m), .slice Aq nq cq]) gok rfl (((hb2.ext hu24).ext hu5).upd hu6 (by simp only [List.mem_singleton]; omega)) rfl (by simp [Value.oneCell']) ?_
          intro w7 hb7 hu7
          refine loadN [.int .i64 ((k : Int) * hC m), .slice Aq nq cq] rfl hb7.all ?_
          exact hend w6 w7 hu6 hu7
        · have hm192 : r * hR m ≤ 192 := by have h1 := hmulr.2; rw [← Int.natCast_mul] at h1; omega
          refine ar (by omega) ?_
          refine make_ (α := List Int) gok rfl rfl rfl (r * hR m) (r * hR m) (by simp) (by simp) (Nat.le_refl _) (by omega) (by omega) ?_
          intro A5 w5 ho5 hu5
          have hk0 : k = 0 := by omega
          obtain ⟨Aq, nq, cq, hq, hend⟩ := fin (.slice A5 (r * hR m) (r * hR m)) w5 (List.replicate (r * hR m) []) ⟨_, OwnV.list_mk ho5, fun b hb => by simp only [List.mem_singleton] at hb; omega⟩ hu5 (by rw [hx2, hk0, hk_nil (fun _ _ => rfl)])
          injection hq with q1 q2 q3
          subst q1; subst q2; subst q3
          refine fld gok rfl rfl rfl rfl (stB (hb4.ext hu5) (by simp) rfl ?_)
          intro w6 hb6 hu6
          have hb6 : Blk w6 w2.heap.size [.int .i64 ((k : Int) * hC m), .slice A5 (r * hR m) (r * hR m)] := hb6
          refine loadN [.int .i64 ((k : Int) * hC m), .slice A5 (r * hR m) (r * hR m)] rfl hb6.all ?_
          refine stA (cs' := #[.int .i64 ((k : Int) * hC m), .slice A5 (r * hR m) (r * hR m)]) gok rfl (((hb2.ext hu24).ext hu5).upd hu6 (by simp only [List.mem_singleton]; omega)) rfl (by simp [Value.oneCell']) ?_
          intro w7 hb7 hu7
          refine loadN [.int .i64 ((k : Int) * hC m), .slice A5 (r * hR m) (r * hR m)] rfl hb7.all ?_
          exact hend w6 w7 hu6 hu7
      · have hkk : 0 < hC m → (k : Int) ≤ (24 : Int).tdiv (hC m) := fun h => by omega
        have hok : hkOk p m (r : Int) (k : Int) = true := hkOk_iff.2 ⟨hm, by omega, by omega, hrc, hrr, hkk⟩
        have hmul : 0 ≤ (k : Int) * hC m ∧ (k : Int) * hC m ≤ 192 := hk_mul hkk hC0' hC8'
        have hmulr : 0 ≤ (r : Int) * (hR m : Nat) ∧ (r : Int) * (hR m : Nat) ≤ 192 := hk_mul (fun h => hrr (by omega)) (by omega) (by omega)
        refine ar (by omega) ?_
        refine build_ (cs := #[.int .i64 ((k : Int) * hC m), .slice none 0 0]) gok rfl rfl rfl ?_
        refine alloc_ gok rfl ?_
        intro w3 hb3 hu3 l3
        refine stA (cs' := #[.int .i64 ((k : Int) * hC m), .slice none 0 0]) gok rfl hb3 rfl (by simp [Value.oneCell']) ?_
        intro w4 hb4 hu4
        have es : (w2.drewN 1).heap.size = w2.heap.size := rfl
        rw [es] at hb4 hu4
        have hu24 : Ext w2 w4 := ((ext_drewN 1).trans hu3 (fun _ h => by cases h)).trans (fp := []) hu4 (fun b hb => .inr (by simp only [List.mem_singleton] at hb; omega))
        have hu04 : Ext w w4 := hu12.trans hu24 (fun _ h => by cases h)
        have s4 := hu24.size
        have l4 := hb4.lt
        have fin : ∀ (q : Value) (w5 : World) (x : List (List Int)), Fresh w4.heap.size w5 q x → Ext w4 w5 → x = (hkR p m (r : Int) (k : Int)).2 → ∃ Aq nq cq, q = .slice Aq nq cq ∧ ∀ w6 w7, Upd [w2.heap.size] w5 w6 → Upd [w.heap.size] w6 w7 →
            ∃ r1, Ending.returned (.tuple #[.agg #[.int .i64 ((k : Int) * hC m), .slice Aq nq cq], .bool true]) = .returned (.tuple #[r1, .bool (hkOk p m r k)]) ∧ Fresh w.heap.size w7 r1 (hkR p m r k) ∧ Ext w w7 := by
          rintro q w5 x ⟨fq, hoq, hfq⟩ hu5 hx
          obtain ⟨Aq, nq, cq, rfl, hoqL⟩ := hoq.list
          refine ⟨Aq, nq, cq, rfl, fun w6 w7 hu6 hu7 => ⟨_, by rw [hok], ⟨fq, ?_, fun b hb => by have := hfq b hb; omega⟩, ((hu04.trans hu5 (fun _ h => by cases h)).trans (fp := []) hu6 (fun b hb => .inr (by simp only [List.mem_singleton] at hb; omega))).trans (fp := []) hu7 (fun b hb => .inr (by simp only [List.mem_singleton] at hb; omega))⟩⟩
          have e1 : hkR p m (r : Int) (k : Int) = ((k : Int) * hC m, x) := by rw [hx]; rw [hkR, if_pos hok]
          rw [e1]
          exact OwnV.pair_mk (by unfold inI; omega) (OwnL.upd (OwnL.upd hoqL hu6 (fun b hb h => by have := hfq b hb; simp only [List.mem_singleton] at h; omega)) hu7 (fun b hb h => by have := hfq b hb; simp only [List.mem_singleton] at h; omega))
        have hx2 : (hkR p m (r : Int) (k : Int)).2 = hk m k r := hk_two hm hok
        refine cmp (fun z1 => ?_) (fun z1 => ?_)
        · refine call (hankel_c p _ m r k S _ (RdV.list_mk (hr2.ext_ (fun b hb => Nat.lt_of_lt_of_le (hS b hb) hu12.size) hu24)) (fun b hb => Nat.lt_of_lt_of_le (hS b hb) hu04.size) hm (by omega)) ?_
          rintro _ w5 ⟨q, rfl, hfr, hu5⟩
          refine ⟨_, rfl, ?_⟩
          obtain ⟨Aq, nq, cq, rfl, hend⟩ := fin q w5 _ hfr hu5 hx2.symm
          refine fld gok rfl rfl rfl rfl (stB (hb4.ext hu5) (by simp) rfl ?_)
          intro w6 hb6 hu6
          have hb6 : Blk w6 w2.heap.size [.int .i64 ((k : Int) * hC m), .slice Aq nq cq] := hb6
          refine loadN [.int .i64 ((k : Int) * hC m), .slice Aq nq cq] rfl hb6.all ?_
          refine stA (cs' := #[.int .i64 ((k : Int) * hC m), .slice Aq nq cq]) gok rfl (((hb2.ext hu24).ext hu5).upd hu6 (by simp only [List.mem_singleton]; omega)) rfl (by simp [Value.oneCell']) ?_
          intro w7 hb7 hu7
          refine loadN [.int .i64 ((k : Int) * hC m), .slice Aq nq cq] rfl hb7.all ?_
          exact hend w6 w7 hu6 hu7
        · have hm192 : r * hR m ≤ 192 := by have h1 := hmulr.2; rw [← Int.natCast_mul] at h1; omega
          refine ar (by omega) ?_
          refine make_ (α := List Int) gok rfl rfl rfl (r * hR m) (r * hR m) (by simp) (by simp) (Nat.le_refl _) (by omega) (by omega) ?_
          intro A5 w5 ho5 hu5
          have hk0 : k = 0 := by omega
          obtain ⟨Aq, nq, cq, hq, hend⟩ := fin (.slice A5 (r * hR m) (r * hR m)) w5 (List.replicate (r * hR m) []) ⟨_, OwnV.list_mk ho5, fun b hb => by simp only [List.mem_singleton] at hb; omega⟩ hu5 (by rw [hx2, hk0, hk_nil (fun _ _ => rfl)])
          injection hq with q1 q2 q3
          subst q1; subst q2; subst q3
          refine fld gok rfl rfl rfl rfl (stB (hb4.ext hu5) (by simp) rfl ?_)
          intro w6 hb6 hu6
          have hb6 : Blk w6 w2.heap.size [.int .i64 ((k : Int) * hC m), .slice A5 (r * hR m) (r * hR m)] := hb6
          refine loadN [.int .i64 ((k : Int) * hC m), .slice A5 (r * hR m) (r * hR m)] rfl hb6.all ?_
          refine stA (cs' := #[.int .i64 ((k : Int) * hC m), .slice A5 (r * hR m) (r * hR m)]) gok rfl (((hb2.ext hu24).ext hu5).upd hu6 (by simp only [List.mem_singleton]; omega)) rfl (by simp [Value.oneCell']) ?_
          intro w7 hb7 hu7
          refine loadN [.int .i64 ((k : Int) * hC m), .slice A5 (r * hR m) (r * hR m)] rfl hb7.all ?_
          exact hend w6 w7 hu6 hu7
    · have hrr : 0 < hR m → (r : Int) ≤ (24 : Int).tdiv (hR m) := fun h => by omega
      refine cmpT (by omega) ?_
      refine cmp (fun f1 => ?_) (fun f1 => ?_)
      · have t24' := tdiv24 (b := hC m) (by omega) (by omega)
        refine quo_ (by omega) (by omega) ?_
        refine cmp (fun f2 => ?_) (fun f2 => ?_)
        · refine build_ (cs := #[.int .i64 0, .slice none 0 0]) gok rfl rfl rfl ?_
          refine stA (cs' := #[.int .i64 0, .slice none 0 0]) gok rfl (hb2.ext (ext_drewN 1)) rfl (by simp [Value.oneCell']) ?_
          intro wz hbz huz
          refine loadN [.int .i64 0, .slice none 0 0] rfl hbz.all ?_
          exact hk_no (fun h => by obtain ⟨k1, k2, k3, k4, k5, k6⟩ := hkOk_iff.1 h; have := k6 (by omega); omega) (Upd.trans (fp := []) (hu12.trans (ext_drewN 1) (fun _ h => by cases h)) huz (fun b hb => .inr (by simp only [List.mem_singleton] at hb; omega)))
        have hkk : 0 < hC m → (k : Int) ≤ (24 : Int).tdiv (hC m) := fun h => by omega
        have hok : hkOk p m (r : Int) (k : Int) = true := hkOk_iff.2 ⟨hm, by omega, by omega, hrc, hrr, hkk⟩
        have hmul : 0 ≤ (k : Int) * hC m ∧ (k : Int) * hC m ≤ 192 := hk_mul hkk hC0' hC8'
        have hmulr : 0 ≤ (r : Int) * (hR m : Nat) ∧ (r : Int) * (hR m : Nat) ≤ 192 := hk_mul (fun h => hrr (by omega)) (by omega) (by omega)
        refine ar (by omega) ?_
        refine build_ (cs := #[.int .i64 ((k : Int) * hC m), .slice none 0 0]) gok rfl rfl rfl ?_
        refine alloc_ gok rfl ?_
        intro w3 hb3 hu3 l3
        refine stA (cs' := #[.int .i64 ((k : Int) * hC m), .slice none 0 0]) gok rfl hb3 rfl (by simp [Value.oneCell']) ?_
        intro w4 hb4 hu4
        have es : (w2.drewN 1).heap.size = w2.heap.size := rfl
        rw [es] at hb4 hu4
        have hu24 : Ext w2 w4 := ((ext_drewN 1).trans hu3 (fun _ h => by cases h)).trans (fp := []) hu4 (fun b hb => .inr (by simp only [List.mem_singleton] at hb; omega))
        have hu04 : Ext w w4 := hu12.trans hu24 (fun _ h => by cases h)
        have s4 := hu24.size
        have l4 := hb4.lt
        have fin : ∀ (q : Value) (w5 : World) (x : List (List Int)), Fresh w4.heap.size w5 q x → Ext w4 w5 → x = (hkR p m (r : Int) (k : Int)).2 → ∃ Aq nq cq, q = .slice Aq nq cq ∧ ∀ w6 w7, Upd [w2.heap.size] w5 w6 → Upd [w.heap.size] w6 w7 →
            ∃ r1, Ending.returned (.tuple #[.agg #[.int .i64 ((k : Int) * hC m), .slice Aq nq cq], .bool true]) = .returned (.tuple #[r1, .bool (hkOk p m r k)]) ∧ Fresh w.heap.size w7 r1 (hkR p m r k) ∧ Ext w w7 := by
          rintro q w5 x ⟨fq, hoq, hfq⟩ hu5 hx
          obtain ⟨Aq, nq, cq, rfl, hoqL⟩ := hoq.list
          refine ⟨Aq, nq, cq, rfl, fun w6 w7 hu6 hu7 => ⟨_, by rw [hok], ⟨fq, ?_, fun b hb => by have := hfq b hb; omega⟩, ((hu04.trans hu5 (fun _ h => by cases h)).trans (fp := []) hu6 (fun b hb => .inr (by simp only [List.mem_singleton] at hb; omega))).trans (fp := []) hu7 (fun b hb => .inr (by simp only [List.mem_singleton] at hb; omega))⟩⟩
          have e1 : hkR p m (r : Int) (k : Int) = ((k : Int) * hC m, x) := by rw [hx]; rw [hkR, if_pos hok]
          rw [e1]
          exact OwnV.pair_mk (by unfold inI; omega) (OwnL.upd (OwnL.upd hoqL hu6 (fun b hb h => by have := hfq b hb; simp only [List.mem_singleton] at h; omega)) hu7 (fun b hb h => by have := hfq b hb; simp only [List.mem_singleton] at h; omega))
        have hx2 : (hkR p m (r : Int) (k : Int)).2 = hk m k r := hk_two hm hok
        refine cmp (fun z1 => ?_) (fun z1 => ?_)
        · refine call (hankel_c p _ m r k S _ (RdV.list_mk (hr2.ext_ (fun b hb => Nat.lt_of_lt_of_le (hS b hb) hu12.size) hu24)) (fun b hb => Nat.lt_of_lt_of_le (hS b hb) hu04.size) hm (by omega)) ?_
          rintro _ w5 ⟨q, rfl, hfr, hu5⟩
          refine ⟨_, rfl, ?_⟩
          obtain ⟨Aq, nq, cq, rfl, hend⟩ := fin q w5 _ hfr hu5 hx2.symm
          refine fld gok rfl rfl rfl rfl (stB (hb4.ext hu5) (by simp) rfl ?_)
          intro w6 hb6 hu6
          have hb6 : Blk w6 w2.heap.size [.int .i64 ((k : Int) * hC m), .slice Aq nq cq] := hb6
          refine loadN [.int .i64 ((k : Int) * hC m), .slice Aq nq cq] rfl hb6.all ?_
          refine stA (cs' := #[.int .i64 ((k : Int) * hC m), .slice Aq nq cq]) gok rfl (((hb2.ext hu24).ext hu5).upd hu6 (by simp only [List.mem_singleton]; omega)) rfl (by simp [Value.oneCell']) ?_
          intro w7 hb7 hu7
          refine loadN [.int .i64 ((k : Int) * hC m), .slice Aq nq cq] rfl hb7.all ?_
          exact hend w6 w7 hu6 hu7
        · have hm192 : r * hR m ≤ 192 := by have h1 := hmulr.2; rw [← Int.natCast_mul] at h1; omega
          refine ar (by omega) ?_
          refine make_ (α := List Int) gok rfl rfl rfl (r * hR m) (r * hR m) (by simp) (by simp) (Nat.le_refl _) (by omega) (by omega) ?_
          intro A5 w5 ho5 hu5
          have hk0 : k = 0 := by omega
          obtain ⟨Aq, nq, cq, hq, hend⟩ := fin (.slice A5 (r * hR m) (r * hR m)) w5 (List.replicate (r * hR m) []) ⟨_, OwnV.list_mk ho5, fun b hb => by simp only [List.mem_singleton] at hb; omega⟩ hu5 (by rw [hx2, hk0, hk_nil (fun _ _ => rfl)])
          injection hq with q1 q2 q3
          subst q1; subst q2; subst q3
          refine fld gok rfl rfl rfl rfl (stB (hb4.ext hu5) (by simp) rfl ?_)
          intro w6 hb6 hu6
          have hb6 : Blk w6 w2.heap.size [.int .i64 ((k : Int) * hC m), .slice A5 (r * hR m) (r * hR m)] := hb6
          refine loadN [.int .i64 ((k : Int) * hC m), .slice A5 (r * hR m) (r * hR m)] rfl hb6.all ?_
          refine stA (cs' := #[.int .i64 ((k : Int) * hC m), .slice A5 (r * hR m) (r * hR m)]) gok rfl (((hb2.ext hu24).ext hu5).upd hu6 (by simp only [List.mem_singleton]; omega)) rfl (by simp [Value.oneCell']) ?_
          intro w7 hb7 hu7
          refine loadN [.int .i64 ((k : Int) * hC m), .slice A5 (r * hR m) (r * hR m)] rfl hb7.all ?_
          exact hend w6 w7 hu6 hu7
      · have hkk : 0 < hC m → (k : Int) ≤ (24 : Int).tdiv (hC m) := fun h => by omega
        have hok : hkOk p m (r : Int) (k : Int) = true := hkOk_iff.2 ⟨hm, by omega, by omega, hrc, hrr, hkk⟩
        have hmul : 0 ≤ (k : Int) * hC m ∧ (k : Int) * hC m ≤ 192 := hk_mul hkk hC0' hC8'
        have hmulr : 0 ≤ (r : Int) * (hR m : Nat) ∧ (r : Int) * (hR m : Nat) ≤ 192 := hk_mul (fun h => hrr (by omega)) (by omega) (by omega)
        refine ar (by omega) ?_
        refine build_ (cs := #[.int .i64 ((k : Int) * hC m), .slice none 0 0]) gok rfl rfl rfl ?_
        refine alloc_ gok rfl ?_
        intro w3 hb3 hu3 l3
        refine stA (cs' := #[.int .i64 ((k : Int) * hC m), .slice none 0 0]) gok rfl hb3 rfl (by simp [Value.oneCell']) ?_
        intro w4 hb4 hu4
        have es : (w2.drewN 1).heap.size = w2.heap.size := rfl
        rw [es] at hb4 hu4
        have hu24 : Ext w2 w4 := ((ext_drewN 1).trans hu3 (fun _ h => by cases h)).trans (fp := []) hu4 (fun b hb => .inr (by simp only [List.mem_singleton] at hb; omega))
        have hu04 : Ext w w4 := hu12.trans hu24 (fun _ h => by cases h)
        have s4 := hu24.size
        have l4 := hb4.lt
        have fin : ∀ (q : Value) (w5 : World) (x : List (List Int)), Fresh w4.heap.size w5 q x → Ext w4 w5 → x = (hkR p m (r : Int) (k : Int)).2 → ∃ Aq nq cq, q = .slice Aq nq cq ∧ ∀ w6 w7, Upd [w2.heap.size] w5 w6 → Upd [w.heap.size] w6 w7 →
            ∃ r1, Ending.returned (.tuple #[.agg #[.int .i64 ((k : Int) * hC m), .slice Aq nq cq], .bool true]) = .returned (.tuple #[r1, .bool (hkOk p m r k)]) ∧ Fresh w.heap.size w7 r1 (hkR p m r k) ∧ Ext w w7 := by
          rintro q w5 x ⟨fq, hoq, hfq⟩ hu5 hx
          obtain ⟨Aq, nq, cq, rfl, hoqL⟩ := hoq.list
          refine ⟨Aq, nq, cq, rfl, fun w6 w7 hu6 hu7 => ⟨_, by rw [hok], ⟨fq, ?_, fun b hb => by have := hfq b hb; omega⟩, ((hu04.trans hu5 (fun _ h => by cases h)).trans (fp := []) hu6 (fun b hb => .inr (by simp only [List.mem_singleton] at hb; omega))).trans (fp := []) hu7 (fun b hb => .inr (by simp only [List.mem_singleton] at hb; omega))⟩⟩
          have e1 : hkR p m (r : Int) (k : Int) = ((k : Int) * hC m, x) := by rw [hx]; rw [hkR, if_pos hok]
          rw [e1]
          exact OwnV.pair_mk (by unfold inI; omega) (OwnL.upd (OwnL.upd hoqL hu6 (fun b hb h => by have := hfq b hb; simp only [List.mem_singleton] at h; omega)) hu7 (fun b hb h => by have := hfq b hb; simp only [List.mem_singleton] at h; omega))
        have hx2 : (hkR p m (r : Int) (k : Int)).2 = hk m k r := hk_two hm hok
        refine cmp (fun z1 => ?_) (fun z1 => ?_)
        · refine call (hankel_c p _ m r k S _ (RdV.list_mk (hr2.ext_ (fun b hb => Nat.lt_of_lt_of_le (hS b hb) hu12.size) hu24)) (fun b hb => Nat.lt_of_lt_of_le (hS b hb) hu04.size) hm (by omega)) ?_
          rintro _ w5 ⟨q, rfl, hfr, hu5⟩
          refine ⟨_, rfl, ?_⟩
          obtain ⟨Aq, nq, cq, rfl, hend⟩ := fin q w5 _ hfr hu5 hx2.symm
          refine fld gok rfl rfl rfl rfl (stB (hb4.ext hu5) (by simp) rfl ?_)
          intro w6 hb6 hu6
          have hb6 : Blk w6 w2.heap.size [.int .i64 ((k : Int) * hC m), .slice Aq nq cq] := hb6
          refine loadN [.int .i64 ((k : Int) * hC m), .slice Aq nq cq] rfl hb6.all ?_
          refine stA (cs' := #[.int .i64 ((k : Int) * hC m), .slice Aq nq cq]) gok rfl (((hb2.ext hu24).ext hu5).upd hu6 (by simp only [List.mem_singleton]; omega)) rfl (by simp [Value.oneCell']) ?_
          intro w7 hb7 hu7
          refine loadN [.int .i64 ((k : Int) * hC m), .slice Aq nq cq] rfl hb7.all ?_
          exact hend w6 w7 hu6 hu7
        · have hm192 : r * hR m ≤ 192 := by have h1 := hmulr.2; rw [← Int.natCast_mul] at h1; omega
          refine ar (by omega) ?_
          refine make_ (α := List Int) gok rfl rfl rfl (r * hR m) (r * hR m) (by simp) (by simp) (Nat.le_refl _) (by omega) (by omega) ?_
          intro A5 w5 ho5 hu5
          have hk0 : k = 0 := by omega
          obtain ⟨Aq, nq, cq, hq, hend⟩ := fin (.slice A5 (r * hR m) (r * hR m)) w5 (List.replicate (r * hR m) []) ⟨_, OwnV.list_mk ho5, fun b hb => by simp only [List.mem_singleton] at hb; omega⟩ hu5 (by rw [hx2, hk0, hk_nil (fun _ _ => rfl)])
          injection hq with q1 q2 q3
          subst q1; subst q2; subst q3
          refine fld gok rfl rfl rfl rfl (stB (hb4.ext hu5) (by simp) rfl ?_)
          intro w6 hb6 hu6
          have hb6 : Blk w6 w2.heap.size [.int .i64 ((k : Int) * hC m), .slice A5 (r * hR m) (r * hR m)] := hb6
          refine loadN [.int .i64 ((k : Int) * hC m), .slice A5 (r * hR m) (r * hR m)] rfl hb6.all ?_
          refine stA (cs' := #[.int .i64 ((k : Int) * hC m), .slice A5 (r * hR m) (r * hR m)]) gok rfl (((hb2.ext hu24).ext hu5).upd hu6 (by simp only [List.mem_singleton]; omega)) rfl (by simp [Value.oneCell']) ?_
          intro w7 hb7 hu7
          refine loadN [.int .i64 ((k : Int) * hC m), .slice A5 (r * hR m) (r * hR m)] rfl hb7.all ?_
          exact hend w6 w7 hu6 hu7
end Go.Proofs.YtgnlfjlenjfffaaDoor
