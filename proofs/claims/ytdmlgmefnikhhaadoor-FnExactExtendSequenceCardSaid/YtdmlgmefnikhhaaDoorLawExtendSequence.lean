/-
  The walk of the law of ExtendSequence: it returns true and changes nothing that lay before. Conditions: the arguments read as numbers and as lists of numbers; the table of primes lies.
-/
import Derived.Test.YtdmlgmefnikhhaaDoorLaw
import Derived.Test.YtdmlgmefnikhhaaDoorExtendSequence
namespace Go.Proofs.YtdmlgmefnikhhaaDoor
open Go
open Go.RowKit (Below)
open Go.Proofs.YtdmlgmefnikhhaaDoor.RW

theorem extR_len (p : Int) (s c : List Int) (n : Int) : (extR p s c n).length ≤ 60 := by
  unfold extR
  split
  · rename_i h
    obtain ⟨a1, a2, a3, a4, a5, a6⟩ := extOk_iff.1 h
    rw [extL_len]
    omega
  · exact Nat.zero_le _
theorem spec_ExtendSequence_c (p : Int) (v : Value) (s : List Int) (S : Nat → Prop) (u : Value) (c : List Int) (S' : Nat → Prop) (n : Int) (w : World) (hL : Lay w) (hv : RdV w S v s) (hS : ∀ b, S b → b < w.heap.size) (hu : RdV w S' u c) (hS' : ∀ b, S' b → b < w.heap.size) (_ : inI p) (_ : inI n) :
    Calls Tryd.prog 4 #[.int .i64 p, v, u, .int .i64 n] w fun e w' => ∃ r, e = .returned (.tuple #[r, .bool (extOk p s c n)]) ∧ Fresh w.heap.size w' r (extR p s c n) ∧ Ext w w' :=
  spec_ext_c p n v u s c S S' w hL hv hu hS hS'
theorem impl_ExtendSequence_c (p : Int) (v : Value) (s : List Int) (S : Nat → Prop) (u : Value) (c : List Int) (S' : Nat → Prop) (n : Int) (w : World) (hL : Lay w) (hv : RdV w S v s) (hS : ∀ b, S b → b < w.heap.size) (hu : RdV w S' u c) (hS' : ∀ b, S' b → b < w.heap.size) (_ : inI p) (_ : inI n) :
    Calls Tryd.prog 6 #[.int .i64 p, v, u, .int .i64 n] w fun e w' => ∃ r, e = .returned (.tuple #[r, .bool (extOk p s c n)]) ∧ Fresh w.heap.size w' r (extR p s c n) ∧ Ext w w' :=
  impl_ext_c p n v u s c S S' w hL hv hu hS hS'

set_option maxRecDepth 10000 in
theorem FnExactExtendSequence_c (p : Int) (vs : Value) (s : List Int) (vc : Value) (c : List Int) (n : Int) (w : World) (hL : Lay w) (hs : RdV w (fun i => i < w.heap.size) vs s) (hc : RdV w (fun i => i < w.heap.size) vc c) (hip : inI p) (hin : inI n) :
    Calls Tryd.prog 3 #[.int .i64 p, vs, vc, .int .i64 n] w fun e w' => e = .returned (.bool true) ∧ Ext w w' := by
  obtain ⟨As, ns, cs, rfl, rs⟩ := hs.list
  obtain rfl := rs.1
  obtain ⟨Ac, nc, cc, rfl, rc⟩ := hc.list
  obtain rfl := rc.1
  have q1 := cnt_ints s
  have q2 := cnt_ints c
  have q3 := cnt_ints (extR p s c n)
  have q4 := extR_len p s c n
  refine enter (args := [_, _, _, _]) gok Tryd.func3 rfl rfl rfl rfl rfl ?_
  have X : Ext w w := Upd.refl _ _
  refine cmp (fun _ => ⟨rfl, X⟩) (fun l1 => ?_)
  refine cmp (fun _ => ⟨rfl, X⟩) (fun l2 => ?_)
  refine call (toIntS_t _ _ _ _ (RdV.old hs X) (fun i hi => Nat.lt_of_lt_of_le hi X.size) (by omega)) ?_
  rintro _ w1 ⟨o0, rfl, f, u⟩
  refine ⟨_, rfl, ?_⟩
  have m := Mut.of_ext u
  have so0 := Seg.of_fresh f u
  replace X := m.ext (by omega) X
  have z1 := m.size
  clear m
  clear f u
  refine call (toIntS_t _ _ _ _ (RdV.old hc X) (fun i hi => Nat.lt_of_lt_of_le hi X.size) (by omega)) ?_
  rintro _ w2 ⟨o1, rfl, f, u⟩
  refine ⟨_, rfl, ?_⟩
  have m := Mut.of_ext u
  have so1 := Seg.of_fresh f u
  replace so0 := so0.mut m (by omega)
  replace X := m.ext (by omega) X
  have z2 := m.size
  clear m
  clear f u
  refine call (spec_ExtendSequence_c _ _ _ _ _ _ _ _ _ (hL.ext X) so0.rdV so0.lt so1.rdV so1.lt hip hin) ?_
  rintro _ w3 ⟨o2, rfl, fo2, u⟩
  refine ⟨_, rfl, ?_⟩
  have m := Mut.of_ext u
  have so2 := Seg.of_fresh fo2 u
  replace so0 := so0.mut m (by omega)
  replace so1 := so1.mut m (by omega)
  replace X := m.ext (by omega) X
  have z3 := m.size
  clear m
  clear u fo2
  refine call (toIntS_t _ _ _ _ (RdV.old hs X) (fun i hi => Nat.lt_of_lt_of_le hi X.size) (by omega)) ?_
  rintro _ w4 ⟨o3, rfl, f, u⟩
  refine ⟨_, rfl, ?_⟩
  have m := Mut.of_ext u
  have so3 := Seg.of_fresh f u
  replace so0 := so0.mut m (by omega)
  replace so1 := so1.mut m (by omega)
  replace so2 := so2.mut m (by omega)
  replace X := m.ext (by omega) X
  have z4 := m.size
  clear m
  clear f u
  refine call (toIntS_t _ _ _ _ (RdV.old hc X) (fun i hi => Nat.lt_of_lt_of_le hi X.size) (by omega)) ?_
  rintro _ w5 ⟨o4, rfl, f, u⟩
  refine ⟨_, rfl, ?_⟩
  have m := Mut.of_ext u
  have so4 := Seg.of_fresh f u
  replace so0 := so0.mut m (by omega)
  replace so1 := so1.mut m (by omega)
  replace so2 := so2.mut m (by omega)
  replace so3 := so3.mut m (by omega)
  replace X := m.ext (by omega) X
  have z5 := m.size
  clear m
  clear f u
  refine call (impl_ExtendSequence_c _ _ _ _ _ _ _ _ _ (hL.ext X) so3.rdV so3.lt so4.rdV so4.lt hip hin) ?_
  rintro _ w6 ⟨o5, rfl, fo5, u⟩
  refine ⟨_, rfl, ?_⟩
  have m := Mut.of_ext u
  have so5 := Seg.of_fresh fo5 u
  replace so0 := so0.mut m (by omega)
  replace so1 := so1.mut m (by omega)
  replace so2 := so2.mut m (by omega)
  replace so3 := so3.mut m (by omega)
  replace so4 := so4.mut m (by omega)
  replace X := m.ext (by omega) X
  have z6 := m.size
  clear m
  clear u fo5
  refine call (EqC.same eqIntS_t so5.rdV so2.rdV rfl) ?_
  rintro _ w7 ⟨rfl, m⟩
  refine ⟨_, rfl, ?_⟩
  replace so0 := so0.mut m (by omega)
  replace so1 := so1.mut m (by omega)
  replace so2 := so2.mut m (by omega)
  replace so3 := so3.mut m (by omega)
  replace so4 := so4.mut m (by omega)
  replace so5 := so5.mut m (by omega)
  replace X := m.ext (by omega) X
  have z7 := m.size
  clear m
  refine cmpT rfl ?_
  refine call (toIntS_t _ _ _ _ (RdV.old hs X) (fun i hi => Nat.lt_of_lt_of_le hi X.size) (by omega)) ?_
  rintro _ w8 ⟨o6, rfl, f, u⟩
  refine ⟨_, rfl, ?_⟩
  have m := Mut.of_ext u
  have so6 := Seg.of_fresh f u
  replace so0 := so0.mut m (by omega)
  replace so1 := so1.mut m (by omega)
  replace so2 := so2.mut m (by omega)
  replace so3 := so3.mut m (by omega)
  replace so4 := so4.mut m (by omega)
  replace so5 := so5.mut m (by omega)
  replace X := m.ext (by omega) X
  have z8 := m.size
  clear m
  clear f u
  refine call (EqC.same eqIntS_t so3.rdV so6.rdV rfl) ?_
  rintro _ w9 ⟨rfl, m⟩
  refine ⟨_, rfl, ?_⟩
  replace so0 := so0.mut m (by omega)
  replace so1 := so1.mut m (by omega)
  replace so2 := so2.mut m (by omega)
  replace so3 := so3.mut m (by omega)
  replace so4 := so4.mut m (by omega)
  replace so5 := so5.mut m (by omega)
  replace so6 := so6.mut m (by omega)
  replace X := m.ext (by omega) X
  have z9 := m.size
  clear m
  refine call (toIntS_t _ _ _ _ (RdV.old hc X) (fun i hi => Nat.lt_of_lt_of_le hi X.size) (by omega)) ?_
  rintro _ w10 ⟨o7, rfl, f, u⟩
  refine ⟨_, rfl, ?_⟩
  have m := Mut.of_ext u
  have so7 := Seg.of_fresh f u
  replace so0 := so0.mut m (by omega)
  replace so1 := so1.mut m (by omega)
  replace so2 := so2.mut m (by omega)
  replace so3 := so3.mut m (by omega)
  replace so4 := so4.mut m (by omega)
  replace so5 := so5.mut m (by omega)
  replace so6 := so6.mut m (by omega)
  replace X := m.ext (by omega) X
  have z10 := m.size
  clear m
  clear f u
  refine call (EqC.same eqIntS_t so4.rdV so7.rdV rfl) ?_
  rintro _ w11 ⟨rfl, m⟩
  refine ⟨_, rfl, ?_⟩
  replace so0 := so0.mut m (by omega)
  replace so1 := so1.mut m (by omega)
  replace so2 := so2.mut m (by omega)
  replace so3 := so3.mut m (by omega)
  replace so4 := so4.mut m (by omega)
  replace so5 := so5.mut m (by omega)
  replace so6 := so6.mut m (by omega)
  replace so7 := so7.mut m (by omega)
  replace X := m.ext (by omega) X
  have z11 := m.size
  clear m
  refine call (MarkC.seg markIntS_t so3 (by omega)) ?_
  clear so3
  rintro _ w12 ⟨rfl, so3, m⟩
  refine ⟨_, rfl, ?_⟩
  replace so0 := so0.mut m (by omega)
  replace so1 := so1.mut m (by omega)
  replace so2 := so2.mut m (by omega)
  replace so4 := so4.mut m (by omega)
  replace so5 := so5.mut m (by omega)
  replace so6 := so6.mut m (by omega)
  replace so7 := so7.mut m (by omega)
  replace X := m.ext (by omega) X
  have z12 := m.size
  clear m
  refine call (MarkC.seg markIntS_t so4 (by omega)) ?_
  clear so4
  rintro _ w13 ⟨rfl, so4, m⟩
  refine ⟨_, rfl, ?_⟩
  replace so0 := so0.mut m (by omega)
  replace so1 := so1.mut m (by omega)
  replace so2 := so2.mut m (by omega)
  replace so3 := so3.mut m (by omega)
  replace so5 := so5.mut m (by omega)
  replace so6 := so6.mut m (by omega)
  replace so7 := so7.mut m (by omega)
  replace X := m.ext (by omega) X
  have z13 := m.size
  clear m
  refine cmpF (by omega) ?_
  refine call (EqC.same eqIntS_t so5.rdV so2.rdV rfl) ?_
  rintro _ w14 ⟨rfl, m⟩
  refine ⟨_, rfl, ?_⟩
  replace so0 := so0.mut m (by omega)
  replace so1 := so1.mut m (by omega)
  replace so2 := so2.mut m (by omega)
  replace so3 := so3.mut m (by omega)
  replace so4 := so4.mut m (by omega)
  replace so5 := so5.mut m (by omega)
  replace so6 := so6.mut m (by omega)
  replace so7 := so7.mut m (by omega)
  replace X := m.ext (by omega) X
  have z14 := m.size
  clear m
  refine cmpT rfl ?_
  refine call (MarkC.seg markIntS_t so5 (by omega)) ?_
  clear so5
  rintro _ w15 ⟨rfl, so5, m⟩
  refine ⟨_, rfl, ?_⟩
  replace so0 := so0.mut m (by omega)
  replace so1 := so1.mut m (by omega)
  replace so2 := so2.mut m (by omega)
  replace so3 := so3.mut m (by omega)
  replace so4 := so4.mut m (by omega)
  replace so6 := so6.mut m (by omega)
  replace so7 := so7.mut m (by omega)
  replace X := m.ext (by omega) X
  have z15 := m.size
  clear m
  refine call (HeldC.mut heldIntS_t so5.rdV (by omega)) ?_
  rintro _ w16 ⟨rfl, m⟩
  refine ⟨_, rfl, ?_⟩
  replace so0 := so0.mut m (by omega)
  replace so1 := so1.mut m (by omega)
  replace so2 := so2.mut m (by omega)
  replace so3 := so3.mut m (by omega)
  replace so4 := so4.mut m (by omega)
  replace so5 := so5.mut m (by omega)
  replace so6 := so6.mut m (by omega)
  replace so7 := so7.mut m (by omega)
  replace X := m.ext (by omega) X
  have z16 := m.size
  clear m
  refine cmpF (by omega) ?_
  refine cmpT (by omega) ?_
  refine call (toIntS_t _ _ _ _ (RdV.old hs X) (fun i hi => Nat.lt_of_lt_of_le hi X.size) (by omega)) ?_
  rintro _ w17 ⟨o8, rfl, f, u⟩
  refine ⟨_, rfl, ?_⟩
  have m := Mut.of_ext u
  have so8 := Seg.of_fresh f u
  replace so0 := so0.mut m (by omega)
  replace so1 := so1.mut m (by omega)
  replace so2 := so2.mut m (by omega)
  replace so3 := so3.mut m (by omega)
  replace so4 := so4.mut m (by omega)
  replace so5 := so5.mut m (by omega)
  replace so6 := so6.mut m (by omega)
  replace so7 := so7.mut m (by omega)
  replace X := m.ext (by omega) X
  have z17 := m.size
  clear m
  clear f u
  refine call (toIntS_t _ _ _ _ (RdV.old hc X) (fun i hi => Nat.lt_of_lt_of_le hi X.size) (by omega)) ?_
  rintro _ w18 ⟨o9, rfl, f, u⟩
  refine ⟨_, rfl, ?_⟩
  have m := Mut.of_ext u
  have so9 := Seg.of_fresh f u
  replace so0 := so0.mut m (by omega)
  replace so1 := so1.mut m (by omega)
  replace so2 := so2.mut m (by omega)
  replace so3 := so3.mut m (by omega)
  replace so4 := so4.mut m (by omega)
  replace so5 := so5.mut m (by omega)
  replace so6 := so6.mut m (by omega)
  replace so7 := so7.mut m (by omega)
  replace so8 := so8.mut m (by omega)
  replace X := m.ext (by omega) X
  have z18 := m.size
  clear m
  clear f u
  refine call (impl_ExtendSequence_c _ _ _ _ _ _ _ _ _ (hL.ext X) so8.rdV so8.lt so9.rdV so9.lt hip hin) ?_
  rintro _ w19 ⟨o10, rfl, fo10, u⟩
  refine ⟨_, rfl, ?_⟩
  have m := Mut.of_ext u
  have so10 := Seg.of_fresh fo10 u
  replace so0 := so0.mut m (by omega)
  replace so1 := so1.mut m (by omega)
  replace so2 := so2.mut m (by omega)
  replace so3 := so3.mut m (by omega)
  replace so4 := so4.mut m (by omega)
  replace so5 := so5.mut m (by omega)
  replace so6 := so6.mut m (by omega)
  replace so7 := so7.mut m (by omega)
  replace so8 := so8.mut m (by omega)
  replace so9 := so9.mut m (by omega)
  replace X := m.ext (by omega) X
  have z19 := m.size
  clear m
  clear u fo10
  refine call (EqC.same eqIntS_t so10.rdV so2.rdV rfl) ?_
  rintro _ w20 ⟨rfl, m⟩
  refine ⟨_, rfl, ?_⟩
  replace so0 := so0.mut m (by omega)
  replace so1 := so1.mut m (by omega)
  replace so2 := so2.mut m (by omega)
  replace so3 := so3.mut m (by omega)
  replace so4 := so4.mut m (by omega)
  replace so5 := so5.mut m (by omega)
  replace so6 := so6.mut m (by omega)
  replace so7 := so7.mut m (by omega)
  replace so8 := so8.mut m (by omega)
  replace so9 := so9.mut m (by omega)
  replace so10 := so10.mut m (by omega)
  replace X := m.ext (by omega) X
  have z20 := m.size
  clear m
  refine cmpT rfl ?_
  refine call (HeldC.mut heldIntS_t so5.rdV (by omega)) ?_
  rintro _ w21 ⟨rfl, m⟩
  refine ⟨_, rfl, ?_⟩
  replace so0 := so0.mut m (by omega)
  replace so1 := so1.mut m (by omega)
  replace so2 := so2.mut m (by omega)
  replace so3 := so3.mut m (by omega)
  replace so4 := so4.mut m (by omega)
  replace so5 := so5.mut m (by omega)
  replace so6 := so6.mut m (by omega)
  replace so7 := so7.mut m (by omega)
  replace so8 := so8.mut m (by omega)
  replace so9 := so9.mut m (by omega)
  replace so10 := so10.mut m (by omega)
  replace X := m.ext (by omega) X
  have z21 := m.size
  clear m
  refine cmpF (by omega) ?_
  refine cmpT (by omega) ?_
  exact ⟨rfl, X⟩

end Go.Proofs.YtdmlgmefnikhhaaDoor
