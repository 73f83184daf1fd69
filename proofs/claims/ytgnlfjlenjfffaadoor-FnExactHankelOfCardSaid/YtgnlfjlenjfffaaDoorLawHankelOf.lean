/-
  The walk of the law of HankelOf: it returns true and changes nothing that lay before. Conditions: the arguments read as numbers and as a list of matrices; the table of primes lies.
-/
import Derived.Test.YtgnlfjlenjfffaaDoorHankelOf
namespace Go.Proofs.YtgnlfjlenjfffaaDoor
open Go
open Go.RowKit (Below)
open Go.Proofs.YtgnlfjlenjfffaaDoor.RW
open Rep Szn MkE

theorem RW.Blk.mut {w w' : World} {b a c : Nat} {cs : List Value} (h : Blk w b cs) (hm : Mut a c w w') (hd : b < a ∨ c ≤ b) : Blk w' b cs := h.keep (hm.block b h.lt hd)
theorem Seg.pair {w : World} {lo hi : Nat} {v : Value} {x : Mx} (h : Seg lo hi w v x) : ∃ A n c, v = .agg #[.int .i64 x.1, .slice A n c] := by
  obtain ⟨_, _, fp, h2, _⟩ := h
  obtain ⟨A, n, c, e, _⟩ := h2.pair
  exact ⟨A, n, c, e⟩
theorem cnt_rows (x : List (List Int)) : Mk.cnt x ≤ szn x := by
  show (x.map List.length).sum ≤ x.length + (x.map List.length).sum
  omega
theorem cnt_mats (x : List Mx) : Mk.cnt x ≤ szn x := by
  show (x.map fun y : Mx => 1 + Mk.cnt y.2).sum ≤ x.length + (x.map fun y : Mx => szn y.2).sum
  induction x with
  | nil => simp
  | cons y x ih =>
    have := cnt_rows y.2
    simp only [List.map_cons, List.sum_cons, List.length_cons]
    omega
theorem cnt_app (x y : List (List Int)) : Mk.cnt (x ++ y) = Mk.cnt x + Mk.cnt y := by
  show ((x ++ y).map List.length).sum = (x.map List.length).sum + (y.map List.length).sum
  rw [List.map_append, List.sum_append]
theorem hkRow_len {p : Int} {m : List Mx} (hm : respOk p m = true) (i u : Nat) : ∀ j, (hkRow m i u j).length ≤ 8 * j
  | 0 => Nat.le_refl _
  | j + 1 => by
    have := hkRow_len hm i u j
    rw [hkRow, List.length_append]
    obtain ⟨_, _, _, _, _, _, hsh⟩ := resp_shape hm
    have h8 : ((m.getD (i + j + 1) (0, [])).2.getD u []).length ≤ 8 := by
      by_cases hk' : i + j + 1 < m.length
      · rw [getDq hk']
        by_cases hu : u < m[i + j + 1].2.length
        · rw [getDq hu]
          have := (hsh _ hk').2 u hu
          omega
        · simp [List.getD, hu]
      · simp [List.getD, hk']
    omega
theorem hkBlk_cnt {p : Int} {m : List Mx} (hm : respOk p m = true) (i : Nat) {cols : Nat} (hc : cols ≤ 24) : ∀ u, Mk.cnt (hkBlk m i cols u) ≤ 192 * u
  | 0 => Nat.le_refl _
  | u + 1 => by
    have h1 := hkBlk_cnt hm i hc u
    have h2 := hkRow_len hm i u cols
    rw [hkBlk, cnt_app]
    have h3 : Mk.cnt [hkRow m i u cols] = (hkRow m i u cols).length := by show ([hkRow m i u cols].map List.length).sum = _; simp
    omega
theorem hk_cnt {p : Int} {m : List Mx} (hm : respOk p m = true) {cols : Nat} (hc : cols ≤ 24) : ∀ rows, Mk.cnt (hk m cols rows) ≤ 1536 * rows
  | 0 => Nat.le_refl _
  | i + 1 => by
    have h1 := hk_cnt hm hc i
    obtain ⟨_, _, _, h8, _, _, _⟩ := resp_shape hm
    have h2 := hkBlk_cnt hm i hc (m.getD 0 (0, [])).2.length
    rw [hk, cnt_app]
    omega
theorem hkR_cnt (p : Int) (a : List Mx) (r k : Int) : Mk.cnt (hkR p a r k) ≤ 36864 := by
  unfold hkR
  split
  · rename_i h
    obtain ⟨k1, k2, k3, k4, k5, k6⟩ := hkOk_iff.1 h
    obtain ⟨_, _, _, h8, hc0, hc8, _⟩ := resp_shape k1
    have h8' : hR a ≤ 8 := h8
    have hc0' : 0 ≤ hC a := hc0
    have hc8' : hC a ≤ 8 := hc8
    have e1 : (if hC a = 0 then 0 else k.toNat) ≤ 24 := by
      split
      · omega
      · have := tdiv24 (b := hC a) (by omega) (by omega); have := k6 (by omega); omega
    have e2 : (if hR a = 0 then 0 else r.toNat) ≤ 24 := by
      split
      · omega
      · have := tdiv24 (b := (hR a : Int)) (by omega) (by omega); have := k5 (by omega); omega
    have := hk_cnt k1 e1 (if hR a = 0 then 0 else r.toNat)
    show Mk.cnt (hk a _ _) ≤ 36864
    omega
  · show (0 : Nat) ≤ _
    omega
theorem spec_HankelOf_c (p : Int) (v : Value) (a : List Mx) (S : Nat → Prop) (r k : Int) (w : World) (hL : Lay w) (hv : RdV w S v a) (hS : ∀ b, S b → b < w.heap.size) (hip : inI p) (hir : inI r) (hik : inI k) :
    Calls Tryd.prog 8 #[.int .i64 p, v, .int .i64 r, .int .i64 k] w fun e w' => ∃ q, e = .returned (.tuple #[q, .bool (hkOk p a r k)]) ∧ Fresh w.heap.size w' q (hkR p a r k) ∧ Ext w w' :=
  spec_hk_c p v a S r k w hL hv hS hip hir hik
theorem impl_HankelOf_c (p : Int) (v : Value) (a : List Mx) (S : Nat → Prop) (r k : Int) (w : World) (hL : Lay w) (hv : RdV w S v a) (hS : ∀ b, S b → b < w.heap.size) (hip : inI p) (hir : inI r) (hik : inI k) :
    Calls Tryd.prog 10 #[.int .i64 p, v, .int .i64 r, .int .i64 k] w fun e w' => ∃ q, e = .returned (.tuple #[q, .bool (hkOk p a r k)]) ∧ Fresh w.heap.size w' q (hkR p a r k) ∧ Ext w w' :=
  impl_hk_c p v a S r k w hL hv hS hip hir hik

set_option maxRecDepth 10000 in
theorem FnExactHankelOf_c (p : Int) (va : Value) (a : List Mx) (r : Int) (k : Int) (w : World) (hL : Lay w) (ha : RdV w (fun i => i < w.heap.size) va a) (hip : inI p) (hir : inI r) (hik : inI k) :
    Calls Tryd.prog 3 #[.int .i64 p, va, .int .i64 r, .int .i64 k] w fun e w' => e = .returned (.bool true) ∧ Ext w w' := by
  have q1 := cnt_mats a
  have q2 := hkR_cnt p a r k
  refine enter (args := [_, _, _, _]) gok Tryd.func3 rfl rfl rfl rfl rfl ?_
  have X : Ext w w := Upd.refl _ _
  refine call (szMatrixS_t _ _ _ _ _ (RdV.old ha X) (fun i hi => Nat.lt_of_lt_of_le hi X.size) (by omega)) ?_
  rintro _ w1 ⟨rfl, u⟩
  refine ⟨_, rfl, ?_⟩
  have m := Mut.of_ext u
  replace X := m.ext (by omega) X
  have z1 := m.size
  clear m
  clear u
  refine cmp (fun _ => ⟨rfl, X⟩) (fun l2 => ?_)
  have lz1 := szOut_ge l2
  refine call (toMatrixS_t _ _ _ _ (RdV.old ha X) (fun i hi => Nat.lt_of_lt_of_le hi X.size) (by omega)) ?_
  rintro _ w2 ⟨o0, rfl, f, u⟩
  refine ⟨_, rfl, ?_⟩
  have m := Mut.of_ext u
  have so0 := Seg.of_fresh f u
  replace X := m.ext (by omega) X
  have z2 := m.size
  clear m
  clear f u
  refine call (spec_HankelOf_c _ _ _ _ _ _ _ (hL.ext X) so0.rdV so0.lt hip hir hik) ?_
  rintro _ w3 ⟨o1, rfl, fo1, u⟩
  refine ⟨_, rfl, ?_⟩
  have m := Mut.of_ext u
  have so1 := Seg.of_fresh fo1 u
  replace so0 := so0.mut m (by omega)
  replace X := m.ext (by omega) X
  have z3 := m.size
  clear m
  clear u fo1
  obtain ⟨Ao1, no1, co1, rfl⟩ := so1.pair
  refine alloc_ gok rfl ?_
  intro w4 bx0 u lbbx0
  have m := Mut.of_ext u
  replace so0 := so0.mut m (by omega)
  replace so1 := so1.mut m (by omega)
  replace X := m.ext (by omega) X
  have z4 := m.size
  clear m u
  refine stA (cs' := #[.int .i64 (hkR p a r k).1, .slice Ao1 no1 co1]) gok rfl bx0 rfl (by simp [Value.oneCell']) ?_
  clear bx0
  intro w5 bx0 u
  have m := Mut.of_upd (a := w3.heap.size) (b := w3.heap.size + 1) u (fun i hi => by simp only [List.mem_singleton] at hi; omega)
  replace so0 := so0.mut m (by omega)
  replace so1 := so1.mut m (by omega)
  replace X := m.ext (by omega) X
  have z5 := m.size
  clear m u
  refine call (toMatrixS_t _ _ _ _ (RdV.old ha X) (fun i hi => Nat.lt_of_lt_of_le hi X.size) (by omega)) ?_
  rintro _ w6 ⟨o2, rfl, f, u⟩
  refine ⟨_, rfl, ?_⟩
  have m := Mut.of_ext u
  have so2 := Seg.of_fresh f u
  replace so0 := so0.mut m (by omega)
  replace so1 := so1.mut m (by omega)
  replace bx0 := bx0.mut m (by omega)
  replace X := m.ext (by omega) X
  have z6 := m.size
  clear m
  clear f u
  refine call (impl_HankelOf_c _ _ _ _ _ _ _ (hL.ext X) so2.rdV so2.lt hip hir hik) ?_
  rintro _ w7 ⟨o3, rfl, fo3, u⟩
  refine ⟨_, rfl, ?_⟩
  have m := Mut.of_ext u
  have so3 := Seg.of_fresh fo3 u
  replace so0 := so0.mut m (by omega)
  replace so1 := so1.mut m (by omega)
  replace so2 := so2.mut m (by omega)
  replace bx0 := bx0.mut m (by omega)
  replace X := m.ext (by omega) X
  have z7 := m.size
  clear m
  clear u fo3
  obtain ⟨Ao3, no3, co3, rfl⟩ := so3.pair
  refine alloc_ gok rfl ?_
  intro w8 bx1 u lbbx1
  have m := Mut.of_ext u
  replace so0 := so0.mut m (by omega)
  replace so1 := so1.mut m (by omega)
  replace so2 := so2.mut m (by omega)
  replace so3 := so3.mut m (by omega)
  replace bx0 := bx0.mut m (by omega)
  replace X := m.ext (by omega) X
  have z8 := m.size
  clear m u
  refine stA (cs' := #[.int .i64 (hkR p a r k).1, .slice Ao3 no3 co3]) gok rfl bx1 rfl (by simp [Value.oneCell']) ?_
  clear bx1
  intro w9 bx1 u
  have m := Mut.of_upd (a := w7.heap.size) (b := w7.heap.size + 1) u (fun i hi => by simp only [List.mem_singleton] at hi; omega)
  replace so0 := so0.mut m (by omega)
  replace so1 := so1.mut m (by omega)
  replace so2 := so2.mut m (by omega)
  replace so3 := so3.mut m (by omega)
  replace bx0 := bx0.mut m (by omega)
  replace X := m.ext (by omega) X
  have z9 := m.size
  clear m u
  refine loadN [.int .i64 (hkR p a r k).1, .slice Ao3 no3 co3] rfl bx1.all ?_
  refine loadN [.int .i64 (hkR p a r k).1, .slice Ao1 no1 co1] rfl bx0.all ?_
  refine call (EqC.same eqMatrix_t so3.rdV so1.rdV so3.lt so1.lt rfl) ?_
  rintro _ w10 ⟨rfl, m⟩
  refine ⟨_, rfl, ?_⟩
  replace so0 := so0.mut m (by omega)
  replace so1 := so1.mut m (by omega)
  replace so2 := so2.mut m (by omega)
  replace so3 := so3.mut m (by omega)
  replace bx0 := bx0.mut m (by omega)
  replace bx1 := bx1.mut m (by omega)
  replace X := m.ext (by omega) X
  have z10 := m.size
  clear m
  refine cmpT rfl ?_
  refine call (toMatrixS_t _ _ _ _ (RdV.old ha X) (fun i hi => Nat.lt_of_lt_of_le hi X.size) (by omega)) ?_
  rintro _ w11 ⟨o4, rfl, f, u⟩
  refine ⟨_, rfl, ?_⟩
  have m := Mut.of_ext u
  have so4 := Seg.of_fresh f u
  replace so0 := so0.mut m (by omega)
  replace so1 := so1.mut m (by omega)
  replace so2 := so2.mut m (by omega)
  replace so3 := so3.mut m (by omega)
  replace bx0 := bx0.mut m (by omega)
  replace bx1 := bx1.mut m (by omega)
  replace X := m.ext (by omega) X
  have z11 := m.size
  clear m
  clear f u
  refine call (EqC.same eqMatrixS_t so2.rdV so4.rdV so2.lt so4.lt rfl) ?_
  rintro _ w12 ⟨rfl, m⟩
  refine ⟨_, rfl, ?_⟩
  replace so0 := so0.mut m (by omega)
  replace so1 := so1.mut m (by omega)
  replace so2 := so2.mut m (by omega)
  replace so3 := so3.mut m (by omega)
  replace so4 := so4.mut m (by omega)
  replace bx0 := bx0.mut m (by omega)
  replace bx1 := bx1.mut m (by omega)
  replace X := m.ext (by omega) X
  have z12 := m.size
  clear m
  refine call (MarkC.seg markMatrixS_t so2 (by omega)) ?_
  clear so2
  rintro _ w13 ⟨rfl, so2, m⟩
  refine ⟨_, rfl, ?_⟩
  replace so0 := so0.mut m (by omega)
  replace so1 := so1.mut m (by omega)
  replace so3 := so3.mut m (by omega)
  replace so4 := so4.mut m (by omega)
  replace bx0 := bx0.mut m (by omega)
  replace bx1 := bx1.mut m (by omega)
  replace X := m.ext (by omega) X
  have z13 := m.size
  clear m
  refine cmpF (by omega) ?_
  refine loadN [.int .i64 (hkR p a r k).1, .slice Ao3 no3 co3] rfl bx1.all ?_
  refine loadN [.int .i64 (hkR p a r k).1, .slice Ao1 no1 co1] rfl bx0.all ?_
  refine call (EqC.same eqMatrix_t so3.rdV so1.rdV so3.lt so1.lt rfl) ?_
  rintro _ w14 ⟨rfl, m⟩
  refine ⟨_, rfl, ?_⟩
  replace so0 := so0.mut m (by omega)
  replace so1 := so1.mut m (by omega)
  replace so2 := so2.mut m (by omega)
  replace so3 := so3.mut m (by omega)
  replace so4 := so4.mut m (by omega)
  replace bx0 := bx0.mut m (by omega)
  replace bx1 := bx1.mut m (by omega)
  replace X := m.ext (by omega) X
  have z14 := m.size
  clear m
  refine cmpT rfl ?_
  refine loadN [.int .i64 (hkR p a r k).1, .slice Ao3 no3 co3] rfl bx1.all ?_
  refine call (MarkC.seg markMatrix_t so3 (by omega)) ?_
  clear so3
  rintro _ w15 ⟨rfl, so3, m⟩
  refine ⟨_, rfl, ?_⟩
  replace so0 := so0.mut m (by omega)
  replace so1 := so1.mut m (by omega)
  replace so2 := so2.mut m (by omega)
  replace so4 := so4.mut m (by omega)
  replace bx0 := bx0.mut m (by omega)
  replace bx1 := bx1.mut m (by omega)
  replace X := m.ext (by omega) X
  have z15 := m.size
  clear m
  refine loadN [.int .i64 (hkR p a r k).1, .slice Ao3 no3 co3] rfl bx1.all ?_
  refine call (HeldC.mut heldMatrix_t so3.rdV so3.lt (by omega)) ?_
  rintro _ w16 ⟨rfl, m⟩
  refine ⟨_, rfl, ?_⟩
  replace so0 := so0.mut m (by omega)
  replace so1 := so1.mut m (by omega)
  replace so2 := so2.mut m (by omega)
  replace so3 := so3.mut m (by omega)
  replace so4 := so4.mut m (by omega)
  replace bx0 := bx0.mut m (by omega)
  replace bx1 := bx1.mut m (by omega)
  replace X := m.ext (by omega) X
  have z16 := m.size
  clear m
  refine cmpF (by omega) ?_
  refine cmpT (by omega) ?_
  refine call (toMatrixS_t _ _ _ _ (RdV.old ha X) (fun i hi => Nat.lt_of_lt_of_le hi X.size) (by omega)) ?_
  rintro _ w17 ⟨o5, rfl, f, u⟩
  refine ⟨_, rfl, ?_⟩
  have m := Mut.of_ext u
  have so5 := Seg.of_fresh f u
  replace so0 := so0.mut m (by omega)
  replace so1 := so1.mut m (by omega)
  replace so2 := so2.mut m (by omega)
  replace so3 := so3.mut m (by omega)
  replace so4 := so4.mut m (by omega)
  replace bx0 := bx0.mut m (by omega)
  replace bx1 := bx1.mut m (by omega)
  replace X := m.ext (by omega) X
  have z17 := m.size
  clear m
  clear f u
  refine call (impl_HankelOf_c _ _ _ _ _ _ _ (hL.ext X) so5.rdV so5.lt hip hir hik) ?_
  rintro _ w18 ⟨o6, rfl, fo6, u⟩
  refine ⟨_, rfl, ?_⟩
  have m := Mut.of_ext u
  have so6 := Seg.of_fresh fo6 u
  replace so0 := so0.mut m (by omega)
  replace so1 := so1.mut m (by omega)
  replace so2 := so2.mut m (by omega)
  replace so3 := so3.mut m (by omega)
  replace so4 := so4.mut m (by omega)
  replace so5 := so5.mut m (by omega)
  replace bx0 := bx0.mut m (by omega)
  replace bx1 := bx1.mut m (by omega)
  replace X := m.ext (by omega) X
  have z18 := m.size
  clear m
  clear u fo6
  obtain ⟨Ao6, no6, co6, rfl⟩ := so6.pair
  refine alloc_ gok rfl ?_
  intro w19 bx2 u lbbx2
  have m := Mut.of_ext u
  replace so0 := so0.mut m (by omega)
  replace so1 := so1.mut m (by omega)
  replace so2 := so2.mut m (by omega)
  replace so3 := so3.mut m (by omega)
  replace so4 := so4.mut m (by omega)
  replace so5 := so5.mut m (by omega)
  replace so6 := so6.mut m (by omega)
  replace bx0 := bx0.mut m (by omega)
  replace bx1 := bx1.mut m (by omega)
  replace X := m.ext (by omega) X
  have z19 := m.size
  clear m u
  refine stA (cs' := #[.int .i64 (hkR p a r k).1, .slice Ao6 no6 co6]) gok rfl bx2 rfl (by simp [Value.oneCell']) ?_
  clear bx2
  intro w20 bx2 u
  have m := Mut.of_upd (a := w18.heap.size) (b := w18.heap.size + 1) u (fun i hi => by simp only [List.mem_singleton] at hi; omega)
  replace so0 := so0.mut m (by omega)
  replace so1 := so1.mut m (by omega)
  replace so2 := so2.mut m (by omega)
  replace so3 := so3.mut m (by omega)
  replace so4 := so4.mut m (by omega)
  replace so5 := so5.mut m (by omega)
  replace so6 := so6.mut m (by omega)
  replace bx0 := bx0.mut m (by omega)
  replace bx1 := bx1.mut m (by omega)
  replace X := m.ext (by omega) X
  have z20 := m.size
  clear m u
  refine loadN [.int .i64 (hkR p a r k).1, .slice Ao6 no6 co6] rfl bx2.all ?_
  refine loadN [.int .i64 (hkR p a r k).1, .slice Ao1 no1 co1] rfl bx0.all ?_
  refine call (EqC.same eqMatrix_t so6.rdV so1.rdV so6.lt so1.lt rfl) ?_
  rintro _ w21 ⟨rfl, m⟩
  refine ⟨_, rfl, ?_⟩
  replace so0 := so0.mut m (by omega)
  replace so1 := so1.mut m (by omega)
  replace so2 := so2.mut m (by omega)
  replace so3 := so3.mut m (by omega)
  replace so4 := so4.mut m (by omega)
  replace so5 := so5.mut m (by omega)
  replace so6 := so6.mut m (by omega)
  replace bx0 := bx0.mut m (by omega)
  replace bx1 := bx1.mut m (by omega)
  replace bx2 := bx2.mut m (by omega)
  replace X := m.ext (by omega) X
  have z21 := m.size
  clear m
  refine cmpT rfl ?_
  refine loadN [.int .i64 (hkR p a r k).1, .slice Ao3 no3 co3] rfl bx1.all ?_
  refine call (HeldC.mut heldMatrix_t so3.rdV so3.lt (by omega)) ?_
  rintro _ w22 ⟨rfl, m⟩
  refine ⟨_, rfl, ?_⟩
  replace so0 := so0.mut m (by omega)
  replace so1 := so1.mut m (by omega)
  replace so2 := so2.mut m (by omega)
  replace so3 := so3.mut m (by omega)
  replace so4 := so4.mut m (by omega)
  replace so5 := so5.mut m (by omega)
  replace so6 := so6.mut m (by omega)
  replace bx0 := bx0.mut m (by omega)
  replace bx1 := bx1.mut m (by omega)
  replace bx2 := bx2.mut m (by omega)
  replace X := m.ext (by omega) X
  have z22 := m.size
  clear m
  refine cmpF (by omega) ?_
  refine cmpT (by omega) ?_
  exact ⟨rfl, X⟩

end Go.Proofs.YtgnlfjlenjfffaaDoor
