/-
 Contracts, printed by a program (wip/y/gen.py): each function of Go computes its partial function. Condition of each: its partial function yields a value.
-/
import Derived.Test.YtbofgnbanmbopaaGreatDoorZCall2
namespace Go.Proofs.YtbofgnbanmbopaaGreatDoor
open Go Go.Proofs.YtbofgnbanmbopaaGreatDoor.RW
set_option maxRecDepth 100000
set_option maxHeartbeats 1000000
set_option linter.unusedVariables false

theorem impl_Graph_ends_c (g__0 : Int) (g__1 : List (Int × Int × List Int × List Int)) (g__1h : Hd) (g__2 : List Int) (g__2h : Hd) (g__3 : List Int) (g__3h : Hd) (y_0 : List Int) (y_1 : List Int) (hF : F_impl_Graph_ends (g__0, g__1, g__2, g__3) = some (y_0, y_1)) :
  ConF Tryz.prog 136 #[(.agg #[(.int .i64 g__0), (g__1h).v, (g__2h).v, (g__3h).v])] [Es (List (Int × Int × List Int × List Int)) g__1 g__1h, Es (List Int) g__2 g__2h, Es (List Int) g__3 g__3h] [] (fun v Γ' => ∃ z0 z1 : Hd, v = (.agg #[(z0).v, (z1).v]) ∧ Γ' = [E (List Int) y_0 z0, E (List Int) y_1 z1]) := by
 intro w0 S0 fp0 hI hS
 have H : Cx w0 fp0 S0 w0 [Es (List (Int × Int × List Int × List Int)) g__1 g__1h, Es (List Int) g__2 g__2h, Es (List Int) g__3 g__3h] := Cx.start hI hS
 clear hI hS
 refine enterC (args := [_]) gok Tryz.func136 rfl _ rfl rfl rfl ?_
 refine box_ H ?_; clear H; intro b5 w4 hx H
 clear hx
 refine alloc_ gok rfl H ?_; clear H; intro b8 w7 hx H
 clear hx
 obtain ⟨r0, f0, f1⟩ := bindS hF; clear hF
 refine heldJ H [] (.fst 0 (.fst 3 (.fst 1 (.fst 4 (.alts (.alt 2 (.alts (.alt 5 (.fst 6 (.act 7 (.act 8 .done))) (.alt 7 (.act 5 (.fst 6 (.act 8 .done))) .no))) (.alt 7 (.act 2 (.act 5 (.fst 6 (.act 8 .done)))) .no))))))) mixed [] trivial (by kernel_rfl) (fun (q0 : (List Int × List Int) × (Hd × Hd × Nat)) => [(1, (.pointer (some ⟨b5, 0, none⟩))), (2, (.pointer (some ⟨b8, 0, none⟩))), (3, (.pointer (some ⟨q0.2.2.2, 0, none⟩)))]) (fun (q0 : (List Int × List Int) × (Hd × Hd × Nat)) w' => (q0.1.1, q0.1.2) = r0 ∧ Cx w0 fp0 S0 w' [Bx b5 [(.int .i64 g__0), (g__1h).v, (g__2h).v, (g__3h).v], Es (List (Int × Int × List Int × List Int)) g__1 g__1h, Es (List Int) g__2 g__2h, Es (List Int) g__3 g__3h, Bx b8 [(.slice none 0 0), (.slice none 0 0)], Bx q0.2.2.2 [(q0.2.1).v, (q0.2.2.1).v], E (List Int) q0.1.1 q0.2.1, E (List Int) q0.1.2 q0.2.2.1]) ?_ ?_
 ·
  clear H; intro w1 H
  have hX : Ext w1 w1 := Upd.refl _ _
  have H0 := H
  refine anyH (fun _ => fld gok rfl rfl rfl rfl ⟨rfl, rfl⟩) ?_
  refine anyH (fun _ => fld gok rfl rfl rfl rfl ⟨rfl, rfl⟩) ?_
  refine load1X (H.bx 1 rfl (j := 0) rfl) ?_
  refine load1X (H.bx 1 rfl (j := 0) rfl) ?_
  refine both ?_ ?_
  ·
   obtain ⟨y0, e, f2⟩ := bindS f0; clear f0
   have i0 := e; clear e
   refine callFx (impl_repeated_c (-1) g__0 y0 i0) H trivial ?_; clear H i0
   rintro _ _ w2 ⟨h0, rfl, rfl⟩ hx H
   replace hX := hX.trans0 hx; clear hx
   refine hold hX ?_
   refine both ?_ ?_
   ·
    obtain ⟨y1, e, f3⟩ := bindS f2; clear f2
    have i1 := e; clear e
    refine callFx (impl_repeated_c (-1) g__0 y1 i1) H trivial ?_; clear H i1
    rintro _ _ w3 ⟨h1, rfl, rfl⟩ hx H
    replace hX := hX.trans0 hx; clear hx
    refine hold hX ?_
    refine anyH (fun _ => build_ (cs := #[(h0).v, (h1).v]) gok rfl rfl rfl ⟨rfl, rfl⟩) ?_
    refine allocX gok rfl H ?_; clear H; intro b0 w5 hx v0 H; replace v0 := Nat.le_trans hX.size v0
    replace hX := hX.trans0 hx; clear hx
    refine hold hX ?_
    refine stAX gok [(h0).v, (h1).v] rfl H rfl rfl rfl ?_; clear H; intro w6 hu H
    replace hX := hX.fresh hu v0; clear hu
    refine hold hX ?_
    exact ⟨((y0, y1), (h0, h1, b0)), ⟨rfl, rfl, rfl, trivial⟩, Option.some.inj f3, H.sel [4, 5, 6, 7, 3, 0, 2, 1] rfl⟩
   ·
    refine both ?_ ?_
    ·
     obtain ⟨a0, o0, f4⟩ := bindS f2; clear f2
     refine allocX gok rfl H ?_; clear H; intro b1 w8 hx v1 H; replace v1 := Nat.le_trans hX.size v1
     replace hX := hX.trans0 hx; clear hx
     refine hold hX ?_
     have e := o0; clear o0
     have i2 := e; clear e
     refine callFx (impl_repeated_c (-1) g__0 a0 i2) H trivial ?_; clear H i2
     rintro _ _ w9 ⟨h2, rfl, rfl⟩ hx H
     replace hX := hX.trans0 hx; clear hx
     refine hold hX ?_
     refine anyH (fun _ => build_ (cs := #[(h0).v, (h2).v]) gok rfl rfl rfl ⟨rfl, rfl⟩) ?_
     replace H := H.sel [1, 0, 2, 3, 4, 5, 6, 7] rfl
     refine stAX gok [(h0).v, (h2).v] rfl H rfl rfl rfl ?_; clear H; intro w10 hu H
     replace hX := hX.fresh hu v1; clear hu
     refine hold hX ?_
     exact ⟨((y0, a0), (h0, h2, b1)), ⟨rfl, rfl, rfl, trivial⟩, Option.some.inj f4, H.sel [4, 5, 6, 7, 3, 0, 2, 1] rfl⟩
    ·
     exact trivial
  ·
   refine both ?_ ?_
   ·
    obtain ⟨a1, o1, f5⟩ := bindS f0; clear f0
    obtain ⟨a2, o2, f6⟩ := bindS f5; clear f5
    refine allocX gok rfl H ?_; clear H; intro b2 w11 hx v2 H; replace v2 := Nat.le_trans hX.size v2
    replace hX := hX.trans0 hx; clear hx
    refine hold hX ?_
    have e := o1; clear o1
    have i3 := e; clear e
    refine callFx (impl_repeated_c (-1) g__0 a1 i3) H trivial ?_; clear H i3
    rintro _ _ w12 ⟨h3, rfl, rfl⟩ hx H
    replace hX := hX.trans0 hx; clear hx
    refine hold hX ?_
    have e := o2; clear o2
    have i4 := e; clear e
    refine callFx (impl_repeated_c (-1) g__0 a2 i4) H trivial ?_; clear H i4
    rintro _ _ w13 ⟨h4, rfl, rfl⟩ hx H
    replace hX := hX.trans0 hx; clear hx
    refine hold hX ?_
    refine anyH (fun _ => build_ (cs := #[(h3).v, (h4).v]) gok rfl rfl rfl ⟨rfl, rfl⟩) ?_
    replace H := H.sel [2, 0, 1, 3, 4, 5, 6, 7] rfl
    refine stAX gok [(h3).v, (h4).v] rfl H rfl rfl rfl ?_; clear H; intro w14 hu H
    replace hX := hX.fresh hu v2; clear hu
    refine hold hX ?_
    exact ⟨((a1, a2), (h3, h4, b2)), ⟨rfl, rfl, rfl, trivial⟩, Option.some.inj f6, H.sel [4, 5, 6, 7, 3, 0, 2, 1] rfl⟩
   ·
    exact trivial
 ·
  clear f0 H
  rintro T0 ⟨⟨s0_0, s0_1⟩, ⟨g0_0, g0_1, g0_2⟩⟩ w15 ⟨hr, (H : Cx w0 fp0 S0 w15 [Bx b5 [(.int .i64 g__0), (g__1h).v, (g__2h).v, (g__3h).v], Es (List (Int × Int × List Int × List Int)) g__1 g__1h, Es (List Int) g__2 g__2h, Es (List Int) g__3 g__3h, Bx b8 [(.slice none 0 0), (.slice none 0 0)], Bx g0_2 [(g0_0).v, (g0_1).v], E (List Int) s0_0 g0_0, E (List Int) s0_1 g0_1])⟩
  subst hr
  refine sq ?_
  refine fld gok rfl rfl rfl rfl ?_
  refine load1 (H.bx 0 rfl (j := 1) rfl) ?_
  refine lenE (H.rs (α := List (Int × Int × List Int × List Int)) 1 rfl).len ?_
  have x0 := (H.rs (α := List (Int × Int × List Int × List Int)) 1 rfl).max
  obtain ⟨r1, e, f7⟩ := bindS f1; clear f1
  refine loopS _ g__1.length (fun (k0 : Nat) (s1 : List Int × List Int) (_ : Unit) => [(2, (.pointer (some ⟨b8, 0, none⟩))), (3, (.pointer (some ⟨g0_2, 0, none⟩))), (18, (g__1h).v), (19, (.int .i64 ((g__1.length : Nat) : Int))), (20, (.int .i64 ((k0 : Nat) : Int)))]) (fun _ (s1 : List Int × List Int) (_ : Unit) w' => Cx w0 fp0 S0 w' [Bx b8 [(.slice none 0 0), (.slice none 0 0)], Bx g0_2 [(g0_0).v, (g0_1).v], E (List Int) s1.1 g0_0, E (List Int) s1.2 g0_1, Es (List (Int × Int × List Int × List Int)) g__1 g__1h]) (s0_0, s0_1) () e ⟨rfl, rfl, rfl, rfl, rfl, trivial⟩ (H.sel [4, 5, 6, 7, 1] rfl) ?_ ?_
  ·
   clear H e
   rintro T1 k0 ⟨s1_0, s1_1⟩ _ w16 o3 hk (H : Cx w0 fp0 S0 w16 [Bx b8 [(.slice none 0 0), (.slice none 0 0)], Bx g0_2 [(g0_0).v, (g0_1).v], E (List Int) s1_0 g0_0, E (List Int) s1_1 g0_1, Es (List (Int × Int × List Int × List Int)) g__1 g__1h]) f8
   refine boolE (z := true) (ltLen hk) ?_
   refine sq ?_
   refine sq ?_
   obtain ⟨a3, e, f9⟩ := bindS f8; clear f8
   have HH := H; clear H; obtain ⟨p0, m0, g1, c0, c1, c2, c3, H⟩ := HH.el (α := Int × Int × List Int × List Int) 4 rfl e; clear HH
   clear e
   obtain ⟨a3_0, a3_1, a3_2, a3_3⟩ := a3
   obtain ⟨_, _, h5, h6⟩ := g1
   replace H := H.part (β := List Int) a3_2 (h5 : Hd) 0 rfl (fun S h => (And.left (And.right (And.right h))))
   replace H := H.part (β := List Int) a3_3 (h6 : Hd) 1 rfl (fun S h => (And.right (And.right (And.right h))))
   replace H := H.sel [0, 1, 3, 4, 5, 6, 7] rfl
   refine idxE c0 c1 c2 ?_; clear c0 c1 c2
   refine loadN [(.int .i64 a3_0), (.int .i64 a3_1), (h5).v, (h6).v] rfl c3 ?_; clear c3
   refine alloc_ gok rfl H ?_; clear H; intro b3 w17 hx H
   clear hx
   refine stA gok [(.int .i64 a3_0), (.int .i64 a3_1), (h5).v, (h6).v] rfl H rfl rfl rfl ?_; clear H; intro w18 H
   refine sq ?_
   refine fld gok rfl rfl rfl rfl ?_
   refine load1 (H.bx 0 rfl (j := 3) rfl) ?_
   refine lenE (H.rs (α := List Int) 1 rfl).len ?_
   have x1 := (H.rs (α := List Int) 1 rfl).max
   obtain ⟨r2, e, f10⟩ := bindS f9; clear f9
   refine loopS _ a3_3.length (fun (k1 : Nat) (s2 : List Int) (_ : Unit) => [(2, (.pointer (some ⟨b8, 0, none⟩))), (3, (.pointer (some ⟨g0_2, 0, none⟩))), (4, (.int .i64 ((k0 : Nat) : Int))), (5, (.pointer (some ⟨b3, 0, none⟩))), (18, (g__1h).v), (19, (.int .i64 ((g__1.length : Nat) : Int))), (20, (.int .i64 ((k0 : Nat) : Int))), (26, (h6).v), (27, (.int .i64 ((a3_3.length : Nat) : Int))), (28, (.int .i64 ((k1 : Nat) : Int)))]) (fun _ (s2 : List Int) (_ : Unit) w' => Cx w0 fp0 S0 w' [Bx b8 [(.slice none 0 0), (.slice none 0 0)], Bx g0_2 [(g0_0).v, (g0_1).v], E (List Int) s2 g0_0, E (List Int) s1_1 g0_1, Bx b3 [(.int .i64 a3_0), (.int .i64 a3_1), (h5).v, (h6).v], Es (List Int) a3_2 h5, Es (List Int) a3_3 h6, Es (List (Int × Int × List Int × List Int)) g__1 g__1h]) s1_0 () e ⟨rfl, rfl, rfl, rfl, rfl, rfl, rfl, rfl, rfl, rfl, trivial⟩ (H.sel [3, 4, 5, 6, 0, 2, 1, 7] rfl) ?_ ?_
   ·
    clear H e
    rintro T2 k1 s2 _ w19 o4 hk (H : Cx w0 fp0 S0 w19 [Bx b8 [(.slice none 0 0), (.slice none 0 0)], Bx g0_2 [(g0_0).v, (g0_1).v], E (List Int) s2 g0_0, E (List Int) s1_1 g0_1, Bx b3 [(.int .i64 a3_0), (.int .i64 a3_1), (h5).v, (h6).v], Es (List Int) a3_2 h5, Es (List Int) a3_3 h6, Es (List (Int × Int × List Int × List Int)) g__1 g__1h]) f11
    refine boolE (z := true) (ltLen hk) ?_
    refine sq ?_
    refine sq ?_
    obtain ⟨a4, e, f12⟩ := bindS f11; clear f11
    obtain ⟨p1, m1, c4, c5, c6, c7⟩ := (H.rs (α := List Int) 6 rfl).at1 e; clear e
    refine idxE c4 c5 c6 ?_; clear c4 c5 c6
    refine load1 c7 ?_; clear c7
    refine fld gok rfl rfl rfl rfl ?_
    refine load1 (H.bx 1 rfl (j := 0) rfl) ?_
    obtain ⟨a5, e, f13⟩ := bindS f12; clear f12
    have i5 := e; clear e
    obtain ⟨p2, m2, c8, c9, c10⟩ := (H.ro (α := List Int) 2 rfl).setp i5
    refine idxE c8 c9 c10 ?_
    replace H := H.sel [2, 0, 1, 3, 4, 5, 6, 7] rfl
    refine setS (α := Int) H c8 c9 i5 ?_; clear H c8 c9 c10 i5; intro w20 H
    refine arK hk x1 ?_
    have hs := Option.some.inj f13; subst hs; clear f13
    exact ⟨(), ⟨rfl, rfl, rfl, rfl, rfl, rfl, rfl, rfl, rfl, rfl, trivial⟩, H.sel [1, 2, 0, 3, 4, 5, 6, 7] rfl⟩
   ·
    clear H e
    rintro T3 _ w21 (H : Cx w0 fp0 S0 w21 [Bx b8 [(.slice none 0 0), (.slice none 0 0)], Bx g0_2 [(g0_0).v, (g0_1).v], E (List Int) r2 g0_0, E (List Int) s1_1 g0_1, Bx b3 [(.int .i64 a3_0), (.int .i64 a3_1), (h5).v, (h6).v], Es (List Int) a3_2 h5, Es (List Int) a3_3 h6, Es (List (Int × Int × List Int × List Int)) g__1 g__1h])
    refine boolE (z := false) geLen ?_
    refine sq ?_
    refine fld gok rfl rfl rfl rfl ?_
    refine load1 (H.bx 4 rfl (j := 2) rfl) ?_
    refine lenE (H.rs (α := List Int) 5 rfl).len ?_
    have x2 := (H.rs (α := List Int) 5 rfl).max
    obtain ⟨r3, e, f14⟩ := bindS f10; clear f10
    refine loopS _ a3_2.length (fun (k2 : Nat) (s3 : List Int) (_ : Unit) => [(2, (.pointer (some ⟨b8, 0, none⟩))), (3, (.pointer (some ⟨g0_2, 0, none⟩))), (4, (.int .i64 ((k0 : Nat) : Int))), (18, (g__1h).v), (19, (.int .i64 ((g__1.length : Nat) : Int))), (20, (.int .i64 ((k0 : Nat) : Int))), (39, (h5).v), (40, (.int .i64 ((a3_2.length : Nat) : Int))), (41, (.int .i64 ((k2 : Nat) : Int)))]) (fun _ (s3 : List Int) (_ : Unit) w' => Cx w0 fp0 S0 w' [Bx b8 [(.slice none 0 0), (.slice none 0 0)], Bx g0_2 [(g0_0).v, (g0_1).v], E (List Int) r2 g0_0, E (List Int) s3 g0_1, Es (List (Int × Int × List Int × List Int)) g__1 g__1h, Es (List Int) a3_2 h5]) s1_1 () e ⟨rfl, rfl, rfl, rfl, rfl, rfl, rfl, rfl, rfl, trivial⟩ (H.sel [0, 1, 2, 3, 7, 5] rfl) ?_ ?_
    ·
     clear H e
     rintro T4 k2 s3 _ w22 o5 hk (H : Cx w0 fp0 S0 w22 [Bx b8 [(.slice none 0 0), (.slice none 0 0)], Bx g0_2 [(g0_0).v, (g0_1).v], E (List Int) r2 g0_0, E (List Int) s3 g0_1, Es (List (Int × Int × List Int × List Int)) g__1 g__1h, Es (List Int) a3_2 h5]) f15
     refine boolE (z := true) (ltLen hk) ?_
     refine sq ?_
     refine sq ?_
     obtain ⟨a6, e, f16⟩ := bindS f15; clear f15
     obtain ⟨p3, m3, c11, c12, c13, c14⟩ := (H.rs (α := List Int) 5 rfl).at1 e; clear e
     refine idxE c11 c12 c13 ?_; clear c11 c12 c13
     refine load1 c14 ?_; clear c14
     refine fld gok rfl rfl rfl rfl ?_
     refine load1 (H.bx 1 rfl (j := 1) rfl) ?_
     obtain ⟨a7, e, f17⟩ := bindS f16; clear f16
     have i6 := e; clear e
     obtain ⟨p4, m4, c15, c16, c17⟩ := (H.ro (α := List Int) 3 rfl).setp i6
     refine idxE c15 c16 c17 ?_
     replace H := H.sel [3, 0, 1, 2, 4, 5] rfl
     refine setS (α := Int) H c15 c16 i6 ?_; clear H c15 c16 c17 i6; intro w23 H
     refine arK hk x2 ?_
     have hs := Option.some.inj f17; subst hs; clear f17
     exact ⟨(), ⟨rfl, rfl, rfl, rfl, rfl, rfl, rfl, rfl, rfl, trivial⟩, H.sel [1, 2, 3, 0, 4, 5] rfl⟩
    ·
     clear H e
     rintro T5 _ w24 (H : Cx w0 fp0 S0 w24 [Bx b8 [(.slice none 0 0), (.slice none 0 0)], Bx g0_2 [(g0_0).v, (g0_1).v], E (List Int) r2 g0_0, E (List Int) r3 g0_1, Es (List (Int × Int × List Int × List Int)) g__1 g__1h, Es (List Int) a3_2 h5])
     refine boolE (z := false) geLen ?_
     refine sq ?_
     refine arK hk x0 ?_
     have hs := Option.some.inj f14; subst hs; clear f14
     exact ⟨(), ⟨rfl, rfl, rfl, rfl, rfl, trivial⟩, H.sel [0, 1, 2, 3, 4] rfl⟩
  ·
   clear H e
   obtain ⟨s4_0, s4_1⟩ := r1
   rintro T6 _ w25 (H : Cx w0 fp0 S0 w25 [Bx b8 [(.slice none 0 0), (.slice none 0 0)], Bx g0_2 [(g0_0).v, (g0_1).v], E (List Int) s4_0 g0_0, E (List Int) s4_1 g0_1, Es (List (Int × Int × List Int × List Int)) g__1 g__1h])
   refine boolE (z := false) geLen ?_
   refine sq ?_
   refine loadN [(g0_0).v, (g0_1).v] rfl (fun j u hj => H.bx 1 rfl hj) ?_
   refine stA gok [(g0_0).v, (g0_1).v] rfl H rfl rfl rfl ?_; clear H; intro w26 H
   refine loadN [(g0_0).v, (g0_1).v] rfl (fun j u hj => H.bx 0 rfl hj) ?_
   cases f7
   exact ⟨_, _, rfl, ⟨g0_0, g0_1, rfl, rfl⟩, (H.sel [2, 3] rfl).close ⟨cloE, cloE, trivial⟩⟩

theorem impl_walkerOf_c (g__0 : Int) (g__1 : List (Int × Int × List Int × List Int)) (g__1h : Hd) (g__2 : List Int) (g__2h : Hd) (g__3 : List Int) (g__3h : Hd) (y_0_0 : Int) (y_0_1 : List (Int × Int × List Int × List Int)) (y_0_2 : List Int) (y_0_3 : List Int) (y_1_0 : List Int) (y_1_1 : List Int) (y_2 : MI) (y_3 : MI) (y_4 : List Int) (y_5 : List Int) (hF : F_impl_walkerOf (g__0, g__1, g__2, g__3) = some ((y_0_0, y_0_1, y_0_2, y_0_3), (y_1_0, y_1_1), y_2, y_3, y_4, y_5)) :
  ConF Tryz.prog 120 #[(.agg #[(.int .i64 g__0), (g__1h).v, (g__2h).v, (g__3h).v])] [Es (List (Int × Int × List Int × List Int)) g__1 g__1h, Es (List Int) g__2 g__2h, Es (List Int) g__3 g__3h] [] (fun v Γ' => ∃ (z0 : Nat) (z1 : Hd) (z2 : Hd) (z3 : Mh) (z4 : Mh) (z5 : Hd) (z6 : Hd), v = (.pointer (some ⟨z0, 0, none⟩)) ∧ Γ' = [Bx z0 [(.int .i64 y_0_0), (g__1h).v, (g__2h).v, (g__3h).v, (z1).v, (z2).v, (z3).v, (z4).v, (z5).v, (z6).v], E (List Int) y_1_0 z1, E (List Int) y_1_1 z2, E MI y_2 z3, E MI y_3 z4, E (List Int) y_4 z5, E (List Int) y_5 z6]) := by
 intro w0 S0 fp0 hI hS
 have H : Cx w0 fp0 S0 w0 [Es (List (Int × Int × List Int × List Int)) g__1 g__1h, Es (List Int) g__2 g__2h, Es (List Int) g__3 g__3h] := Cx.start hI hS
 clear hI hS
 refine enterC (args := [_]) gok Tryz.func120 rfl _ rfl rfl rfl ?_
 refine box_ H ?_; clear H; intro b5 w4 hx H
 clear hx
 obtain ⟨r0, f0, f1⟩ := bindS hF; clear hF
 refine heldJ H [] (.fst 0 (.fst 1 (.alts (.alt 2 (.alts (.alt 3 (.act 4 (.fst 5 (.act 6 (.fst 7 .done)))) (.alt 4 (.act 3 (.fst 5 (.act 6 (.fst 7 .done)))) .no))) (.alt 3 (.alts (.alt 2 (.act 4 (.fst 5 (.act 6 (.fst 7 .done)))) (.alt 4 (.act 2 (.fst 5 (.act 6 (.fst 7 .done)))) .no))) (.alt 4 (.alts (.alt 2 (.act 3 (.fst 5 (.act 6 (.fst 7 .done)))) (.alt 3 (.act 2 (.fst 5 (.act 6 (.fst 7 .done)))) .no))) .no)))))) mixed [] trivial (by kernel_rfl) (fun (q0 : (Int × List Int × List Int × MI × MI) × (Hd × Hd × Mh × Mh × Nat)) => [(2, (.pointer (some ⟨q0.2.2.2.2.2, 0, none⟩)))]) (fun (q0 : (Int × List Int × List Int × MI × MI) × (Hd × Hd × Mh × Mh × Nat)) w' => (q0.1.1, q0.1.2.1, q0.1.2.2.1, q0.1.2.2.2.1, q0.1.2.2.2.2) = r0 ∧ Cx w0 fp0 S0 w' [Bx q0.2.2.2.2.2 [(.int .i64 q0.1.1), (g__1h).v, (g__2h).v, (g__3h).v, (q0.2.1).v, (q0.2.2.1).v, (q0.2.2.2.1).v, (q0.2.2.2.2.1).v, (.slice none 0 0), (.slice none 0 0)], Es (List (Int × Int × List Int × List Int)) g__1 g__1h, Es (List Int) g__2 g__2h, Es (List Int) g__3 g__3h, E (List Int) q0.1.2.1 q0.2.1, E (List Int) q0.1.2.2.1 q0.2.2.1, E MI q0.1.2.2.2.1 q0.2.2.2.1, E MI q0.1.2.2.2.2 q0.2.2.2.2.1]) ?_ ?_
 ·
  clear H; intro w1 H
  have hX : Ext w1 w1 := Upd.refl _ _
  have H0 := H
  refine loadNX [(.int .i64 g__0), (g__1h).v, (g__2h).v, (g__3h).v] rfl (fun j u hj => H.bx 0 rfl hj) ?_
  refine loadNX [(.int .i64 g__0), (g__1h).v, (g__2h).v, (g__3h).v] rfl (fun j u hj => H.bx 0 rfl hj) ?_
  refine both ?_ ?_
  ·
   obtain ⟨y0, e, f2⟩ := bindS f0; clear f0
   obtain ⟨y0_0, y0_1⟩ := y0
   have i0 := e; clear e
   refine callFx (impl_Graph_ends_c g__0 g__1 g__1h g__2 g__2h g__3 g__3h y0_0 y0_1 i0) H ⟨Vw.sh 1 rfl, Vw.sh 2 rfl, Vw.sh 3 rfl, trivial⟩ ?_; clear H i0
   rintro _ _ w2 ⟨h0, h1, rfl, rfl⟩ hx H
   replace hX := hX.trans0 hx; clear hx
   refine hold hX ?_
   refine both ?_ ?_
   ·
    refine mkM H ?_; clear H; intro h2 w3 hx H
    replace hX := hX.trans0 hx; clear hx
    refine hold hX ?_
    refine mkM H ?_; clear H; intro h3 w5 hx H
    replace hX := hX.trans0 hx; clear hx
    refine hold hX ?_
    refine anyH (fun _ => build_ (cs := #[(.int .i64 g__0), (g__1h).v, (g__2h).v, (g__3h).v, (h0).v, (h1).v, (h2).v, (h3).v, (.slice none 0 0), (.slice none 0 0)]) gok rfl rfl (by kernel_rfl) ⟨rfl, rfl⟩) ?_
    refine boxX H ?_; clear H; intro b0 w6 hx v0 H; replace v0 := Nat.le_trans hX.size v0
    replace hX := hX.trans0 hx; clear hx
    refine hold hX ?_
    exact ⟨((g__0, y0_0, y0_1, (⟨[]⟩ : MI), (⟨[]⟩ : MI)), (h0, h1, h2, h3, b0)), ⟨rfl, trivial⟩, Option.some.inj f2, H.sel [0, 6, 7, 8, 3, 4, 2, 1] rfl⟩
   ·
    refine both ?_ ?_
    ·
     refine mkM H ?_; clear H; intro h4 w7 hx H
     replace hX := hX.trans0 hx; clear hx
     refine hold hX ?_
     refine mkM H ?_; clear H; intro h5 w8 hx H
     replace hX := hX.trans0 hx; clear hx
     refine hold hX ?_
     refine anyH (fun _ => build_ (cs := #[(.int .i64 g__0), (g__1h).v, (g__2h).v, (g__3h).v, (h0).v, (h1).v, (h5).v, (h4).v, (.slice none 0 0), (.slice none 0 0)]) gok rfl rfl (by kernel_rfl) ⟨rfl, rfl⟩) ?_
     refine boxX H ?_; clear H; intro b1 w9 hx v1 H; replace v1 := Nat.le_trans hX.size v1
     replace hX := hX.trans0 hx; clear hx
     refine hold hX ?_
     exact ⟨((g__0, y0_0, y0_1, (⟨[]⟩ : MI), (⟨[]⟩ : MI)), (h0, h1, h5, h4, b1)), ⟨rfl, trivial⟩, Option.some.inj f2, H.sel [0, 6, 7, 8, 3, 4, 1, 2] rfl⟩
    ·
     exact trivial
  ·
   refine both ?_ ?_
   ·
    obtain ⟨a0, o0, f3⟩ := bindS f0; clear f0
    refine mkM H ?_; clear H; intro h6 w10 hx H
    replace hX := hX.trans0 hx; clear hx
    refine hold hX ?_
    refine both ?_ ?_
    ·
     have e := o0; clear o0
     obtain ⟨a0_0, a0_1⟩ := a0
     have i1 := e; clear e
     refine callFx (impl_Graph_ends_c g__0 g__1 g__1h g__2 g__2h g__3 g__3h a0_0 a0_1 i1) H ⟨Vw.sh 2 rfl, Vw.sh 3 rfl, Vw.sh 4 rfl, trivial⟩ ?_; clear H i1
     rintro _ _ w11 ⟨h7, h8, rfl, rfl⟩ hx H
     replace hX := hX.trans0 hx; clear hx
     refine hold hX ?_
     refine mkM H ?_; clear H; intro h9 w12 hx H
     replace hX := hX.trans0 hx; clear hx
     refine hold hX ?_
     refine anyH (fun _ => build_ (cs := #[(.int .i64 g__0), (g__1h).v, (g__2h).v, (g__3h).v, (h7).v, (h8).v, (h6).v, (h9).v, (.slice none 0 0), (.slice none 0 0)]) gok rfl rfl (by kernel_rfl) ⟨rfl, rfl⟩) ?_
     refine boxX H ?_; clear H; intro b2 w13 hx v2 H; replace v2 := Nat.le_trans hX.size v2
     replace hX := hX.trans0 hx; clear hx
     refine hold hX ?_
     exact ⟨((g__0, a0_0, a0_1, (⟨[]⟩ : MI), (⟨[]⟩ : MI)), (h7, h8, h6, h9, b2)), ⟨rfl, trivial⟩, Option.some.inj f3, H.sel [0, 6, 7, 8, 2, 3, 4, 1] rfl⟩
    ·
     refine both ?_ ?_
     ·
      refine mkM H ?_; clear H; intro h10 w14 hx H
      replace hX := hX.trans0 hx; clear hx
      refine hold hX ?_
      have e := o0; clear o0
      obtain ⟨a0_0, a0_1⟩ := a0
      have i1 := e; clear e
      refine callFx (impl_Graph_ends_c g__0 g__1 g__1h g__2 g__2h g__3 g__3h a0_0 a0_1 i1) H ⟨Vw.sh 3 rfl, Vw.sh 4 rfl, Vw.sh 5 rfl, trivial⟩ ?_; clear H i1
      rintro _ _ w15 ⟨h11, h12, rfl, rfl⟩ hx H
      replace hX := hX.trans0 hx; clear hx
      refine hold hX ?_
      refine anyH (fun _ => build_ (cs := #[(.int .i64 g__0), (g__1h).v, (g__2h).v, (g__3h).v, (h11).v, (h12).v, (h6).v, (h10).v, (.slice none 0 0), (.slice none 0 0)]) gok rfl rfl (by kernel_rfl) ⟨rfl, rfl⟩) ?_
      refine boxX H ?_; clear H; intro b3 w16 hx v3 H; replace v3 := Nat.le_trans hX.size v3
      replace hX := hX.trans0 hx; clear hx
      refine hold hX ?_
      exact ⟨((g__0, a0_0, a0_1, (⟨[]⟩ : MI), (⟨[]⟩ : MI)), (h11, h12, h6, h10, b3)), ⟨rfl, trivial⟩, Option.some.inj f3, H.sel [0, 6, 7, 8, 1, 2, 4, 3] rfl⟩
     ·
      exact trivial
   ·
    refine both ?_ ?_
    ·
     obtain ⟨a1, o1, f4⟩ := bindS f0; clear f0
     refine mkM H ?_; clear H; intro h13 w17 hx H
     replace hX := hX.trans0 hx; clear hx
     refine hold hX ?_
     refine both ?_ ?_
     ·
      have e := o1; clear o1
      obtain ⟨a1_0, a1_1⟩ := a1
      have i2 := e; clear e
      refine callFx (impl_Graph_ends_c g__0 g__1 g__1h g__2 g__2h g__3 g__3h a1_0 a1_1 i2) H ⟨Vw.sh 2 rfl, Vw.sh 3 rfl, Vw.sh 4 rfl, trivial⟩ ?_; clear H i2
      rintro _ _ w18 ⟨h14, h15, rfl, rfl⟩ hx H
      replace hX := hX.trans0 hx; clear hx
      refine hold hX ?_
      refine mkM H ?_; clear H; intro h16 w19 hx H
      replace hX := hX.trans0 hx; clear hx
      refine hold hX ?_
      refine anyH (fun _ => build_ (cs := #[(.int .i64 g__0), (g__1h).v, (g__2h).v, (g__3h).v, (h14).v, (h15).v, (h16).v, (h13).v, (.slice none 0 0), (.slice none 0 0)]) gok rfl rfl (by kernel_rfl) ⟨rfl, rfl⟩) ?_
      refine boxX H ?_; clear H; intro b4 w20 hx v4 H; replace v4 := Nat.le_trans hX.size v4
      replace hX := hX.trans0 hx; clear hx
      refine hold hX ?_
      exact ⟨((g__0, a1_0, a1_1, (⟨[]⟩ : MI), (⟨[]⟩ : MI)), (h14, h15, h16, h13, b4)), ⟨rfl, trivial⟩, Option.some.inj f4, H.sel [0, 6, 7, 8, 2, 3, 1, 4] rfl⟩
     ·
      refine both ?_ ?_
      ·
       refine mkM H ?_; clear H; intro h17 w21 hx H
       replace hX := hX.trans0 hx; clear hx
       refine hold hX ?_
       have e := o1; clear o1
       obtain ⟨a1_0, a1_1⟩ := a1
       have i2 := e; clear e
       refine callFx (impl_Graph_ends_c g__0 g__1 g__1h g__2 g__2h g__3 g__3h a1_0 a1_1 i2) H ⟨Vw.sh 3 rfl, Vw.sh 4 rfl, Vw.sh 5 rfl, trivial⟩ ?_; clear H i2
       rintro _ _ w22 ⟨h18, h19, rfl, rfl⟩ hx H
       replace hX := hX.trans0 hx; clear hx
       refine hold hX ?_
       refine anyH (fun _ => build_ (cs := #[(.int .i64 g__0), (g__1h).v, (g__2h).v, (g__3h).v, (h18).v, (h19).v, (h17).v, (h13).v, (.slice none 0 0), (.slice none 0 0)]) gok rfl rfl (by kernel_rfl) ⟨rfl, rfl⟩) ?_
       refine boxX H ?_; clear H; intro b6 w23 hx v5 H; replace v5 := Nat.le_trans hX.size v5
       replace hX := hX.trans0 hx; clear hx
       refine hold hX ?_
       exact ⟨((g__0, a1_0, a1_1, (⟨[]⟩ : MI), (⟨[]⟩ : MI)), (h18, h19, h17, h13, b6)), ⟨rfl, trivial⟩, Option.some.inj f4, H.sel [0, 6, 7, 8, 1, 2, 3, 4] rfl⟩
      ·
       exact trivial
    ·
     exact trivial
 ·
  clear f0 H
  rintro T0 ⟨⟨s0_0, s0_1, s0_2, s0_3, s0_4⟩, ⟨g0_0, g0_1, g0_2, g0_3, g0_4⟩⟩ w24 ⟨hr, (H : Cx w0 fp0 S0 w24 [Bx g0_4 [(.int .i64 s0_0), (g__1h).v, (g__2h).v, (g__3h).v, (g0_0).v, (g0_1).v, (g0_2).v, (g0_3).v, (.slice none 0 0), (.slice none 0 0)], Es (List (Int × Int × List Int × List Int)) g__1 g__1h, Es (List Int) g__2 g__2h, Es (List Int) g__3 g__3h, E (List Int) s0_1 g0_0, E (List Int) s0_2 g0_1, E MI s0_3 g0_2, E MI s0_4 g0_3])⟩
  subst hr
  replace H := H.nil (α := Int)
  replace H := H.nil (α := Int)
  cases f1
  exact ⟨_, _, rfl, ⟨g0_4, g0_0, g0_1, g0_2, g0_3, nilH, nilH, rfl, rfl⟩, (H.sel [2, 6, 7, 8, 9, 1, 0] rfl).close ⟨cloB, cloE, cloE, cloE, cloE, cloE, cloE, trivial⟩⟩

theorem impl_walker_wire_c (k_b : Nat) (k__0_0 : Int) (k__0_1 : List (Int × Int × List Int × List Int)) (k__0_1v : Value) (k__0_2 : List Int) (k__0_2v : Value) (k__0_3 : List Int) (k__0_3v : Value) (k__1_0 : List Int) (k__1_0v : Value) (k__1_1 : List Int) (k__1_1v : Value) (k__2 : MI) (k__2h : Mh) (k__3 : MI) (k__3v : Value) (k__4 : List Int) (k__4h : Hd) (k__5 : List Int) (k__5v : Value) (w_ : Int) (y_0_0 : Int) (y_0_1 : List (Int × Int × List Int × List Int)) (y_0_2 : List Int) (y_0_3 : List Int) (y_1_0 : List Int) (y_1_1 : List Int) (y_2 : MI) (y_3 : MI) (y_4 : List Int) (y_5 : List Int) (hF : F_impl_walker_wire ((k__0_0, k__0_1, k__0_2, k__0_3), (k__1_0, k__1_1), k__2, k__3, k__4, k__5) w_ = some ((y_0_0, y_0_1, y_0_2, y_0_3), (y_1_0, y_1_1), y_2, y_3, y_4, y_5)) :
  ConF Tryz.prog 121 #[(.pointer (some ⟨k_b, 0, none⟩)), (.int .i64 w_)] [] [Bx k_b [(.int .i64 k__0_0), k__0_1v, k__0_2v, k__0_3v, k__1_0v, k__1_1v, (k__2h).v, k__3v, (k__4h).v, k__5v], E MI k__2 k__2h, E (List Int) k__4 k__4h] (fun v Γ' => ∃ (z0 : Mh) (z1 : Hd), v = (.tuple #[]) ∧ Γ' = [Bx k_b [(.int .i64 y_0_0), k__0_1v, k__0_2v, k__0_3v, k__1_0v, k__1_1v, (z0).v, k__3v, (z1).v, k__5v], E MI y_2 z0, E (List Int) y_4 z1]) := by
 intro w0 S0 fp0 hI hS
 have H : Cx w0 fp0 S0 w0 [Bx k_b [(.int .i64 k__0_0), k__0_1v, k__0_2v, k__0_3v, k__1_0v, k__1_1v, (k__2h).v, k__3v, (k__4h).v, k__5v], E MI k__2 k__2h, E (List Int) k__4 k__4h] := Cx.start hI hS
 clear hI hS
 refine enterC (args := [_, _]) gok Tryz.func121 rfl _ rfl rfl rfl ?_
 refine fld gok rfl rfl rfl rfl ?_
 refine load1 (H.bx 0 rfl (j := 6) rfl) ?_
 obtain ⟨a4, e, hF5⟩ := bindS hF; clear hF
 refine lookMO gok Tryz.underlying129 Tryz.underlying3 rfl (H.ro (α := MI) 1 rfl) e ?_; clear e
 obtain ⟨a6, e, hF7⟩ := bindS hF5; clear hF5
 refine boolO e ?_; clear e
 cases a6
 ·
  have hF8 := condF hF7; clear hF7
  cases hF8
  exact ⟨_, _, rfl, ⟨k__2h, k__4h, rfl, rfl⟩, (H.sel [0, 1, 2] rfl).close ⟨cloB, cloE, cloE, trivial⟩⟩
 ·
  have hF9 := condT hF7; clear hF7
  refine heldX H [10] (.fst 0 (.fst 1 (.fst 2 (.fst 4 (.fst 5 (.fst 6 (.fst 7 (.fst 3 (.fst 8 (.act 9 (.act 10 .done))))))))))) mixed [] trivial (by kernel_rfl) ?_
  clear H; intro w1 H
  have hX : Ext w1 w1 := Upd.refl _ _
  have H0 := H
  refine anyH (fun _ => fld gok rfl rfl rfl rfl ⟨rfl, rfl⟩) ?_
  refine anyH (fun _ => fld gok rfl rfl rfl rfl ⟨rfl, rfl⟩) ?_
  refine load1X (H.bx 0 rfl (j := 6) rfl) ?_
  refine load1X (H.bx 0 rfl (j := 6) rfl) ?_
  refine lenM Tryz.underlying129 (H.ro (α := MI) 1 rfl) ?_
  refine hold hX ?_
  replace H := H.sel [1, 0, 2] rfl
  refine updM Tryz.underlying129 Tryz.underlying3 H ?_; clear H; intro w2 H
  refine hold trivial ?_
  refine fld gok rfl rfl rfl rfl ?_
  refine load1 (H.bx 1 rfl (j := 8) rfl) ?_
  refine lit1S (α := Int) gok rfl rfl rfl rfl H ?_; clear H; intro h0 w3 hx H
  clear hx
  obtain ⟨a0, e, f0⟩ := bindS hF9; clear hF9
  replace H := H.sel [3, 0, 1, 2] rfl
  refine append_ (α := Int) gok rfl rfl rfl rfl H e ?_; clear e H; intro h1 w4 H
  refine fld gok rfl rfl rfl rfl ?_
  replace H := H.sel [2, 0, 1] rfl
  refine stB (j := 8) H rfl rfl ?_; clear H; intro w5 H
  cases f0
  exact ⟨_, _, rfl, ⟨k__2h, h1, rfl, rfl⟩, (H.sel [0, 2, 1] rfl).close ⟨cloB, cloE, cloE, trivial⟩⟩

theorem impl_walker_edge_c (k_b : Nat) (k__0_0 : Int) (k__0_1 : List (Int × Int × List Int × List Int)) (k__0_1h : Hd) (k__0_2 : List Int) (k__0_2h : Hd) (k__0_3 : List Int) (k__0_3h : Hd) (k__1_0 : List Int) (k__1_0h : Hd) (k__1_1 : List Int) (k__1_1h : Hd) (k__2 : MI) (k__2h : Mh) (k__3 : MI) (k__3h : Mh) (k__4 : List Int) (k__4h : Hd) (k__5 : List Int) (k__5h : Hd) (e_ : Int) (y_0_0 : Int) (y_0_1 : List (Int × Int × List Int × List Int)) (y_0_2 : List Int) (y_0_3 : List Int) (y_1_0 : List Int) (y_1_1 : List Int) (y_2 : MI) (y_3 : MI) (y_4 : List Int) (y_5 : List Int) (hF : F_impl_walker_edge ((k__0_0, k__0_1, k__0_2, k__0_3), (k__1_0, k__1_1), k__2, k__3, k__4, k__5) e_ = some ((y_0_0, y_0_1, y_0_2, y_0_3), (y_1_0, y_1_1), y_2, y_3, y_4, y_5)) :
  ConF Tryz.prog 137 #[(.pointer (some ⟨k_b, 0, none⟩)), (.int .i64 e_)] [Es (List (Int × Int × List Int × List Int)) k__0_1 k__0_1h, Es (List Int) k__0_2 k__0_2h, Es (List Int) k__0_3 k__0_3h, Es (List Int) k__1_0 k__1_0h, Es (List Int) k__1_1 k__1_1h] [Bx k_b [(.int .i64 k__0_0), (k__0_1h).v, (k__0_2h).v, (k__0_3h).v, (k__1_0h).v, (k__1_1h).v, (k__2h).v, (k__3h).v, (k__4h).v, (k__5h).v], E MI k__2 k__2h, E MI k__3 k__3h, E (List Int) k__4 k__4h, E (List Int) k__5 k__5h] (fun v Γ' => ∃ (z0 : Mh) (z1 : Mh) (z2 : Hd) (z3 : Hd), v = (.tuple #[]) ∧ Γ' = [Bx k_b [(.int .i64 y_0_0), (k__0_1h).v, (k__0_2h).v, (k__0_3h).v, (k__1_0h).v, (k__1_1h).v, (z0).v, (z1).v, (z2).v, (z3).v], E MI y_2 z0, E MI y_3 z1, E (List Int) y_4 z2, E (List Int) y_5 z3]) := by
 intro w0 S0 fp0 hI hS
 have H : Cx w0 fp0 S0 w0 [Es (List (Int × Int × List Int × List Int)) k__0_1 k__0_1h, Es (List Int) k__0_2 k__0_2h, Es (List Int) k__0_3 k__0_3h, Es (List Int) k__1_0 k__1_0h, Es (List Int) k__1_1 k__1_1h, Bx k_b [(.int .i64 k__0_0), (k__0_1h).v, (k__0_2h).v, (k__0_3h).v, (k__1_0h).v, (k__1_1h).v, (k__2h).v, (k__3h).v, (k__4h).v, (k__5h).v], E MI k__2 k__2h, E MI k__3 k__3h, E (List Int) k__4 k__4h, E (List Int) k__5 k__5h] := Cx.start hI hS
 clear hI hS
 refine enterC (args := [_, _]) gok Tryz.func137 rfl _ rfl rfl rfl ?_
 refine sq ?_
 obtain ⟨a0, e, f0⟩ := bindS hF; clear hF
 refine boolO e ?_; clear e
 cases a0
 ·
  have f1 := condF f0; clear f0
  refine sq ?_
  refine fld gok rfl rfl rfl rfl ?_
  refine load1 (H.bx 5 rfl (j := 7) rfl) ?_
  obtain ⟨a1, e, f2⟩ := bindS f1; clear f1
  refine lookMO gok Tryz.underlying129 Tryz.underlying3 rfl (H.ro (α := MI) 7 rfl) e ?_; clear e
  cases a1
  ·
   have f3 := condF f2; clear f2
   refine heldX H [10] (.fst 0 (.fst 1 (.fst 2 (.fst 4 (.fst 5 (.fst 6 (.fst 7 (.fst 3 (.fst 8 (.act 9 (.act 10 .done))))))))))) mixed [] trivial (by kernel_rfl) ?_
   clear H; intro w1 H
   have hX : Ext w1 w1 := Upd.refl _ _
   have H0 := H
   refine anyH (fun _ => fld gok rfl rfl rfl rfl ⟨rfl, rfl⟩) ?_
   refine anyH (fun _ => fld gok rfl rfl rfl rfl ⟨rfl, rfl⟩) ?_
   refine load1X (H.bx 5 rfl (j := 7) rfl) ?_
   refine load1X (H.bx 5 rfl (j := 7) rfl) ?_
   refine lenM Tryz.underlying129 (H.ro (α := MI) 7 rfl) ?_
   refine hold hX ?_
   replace H := H.sel [7, 0, 1, 2, 3, 4, 5, 6, 8, 9] rfl
   refine updM Tryz.underlying129 Tryz.underlying3 H ?_; clear H; intro w2 H
   refine hold trivial ?_
   refine fld gok rfl rfl rfl rfl ?_
   refine load1 (H.bx 6 rfl (j := 9) rfl) ?_
   refine lit1S (α := Int) gok rfl rfl rfl rfl H ?_; clear H; intro h0 w3 hx H
   clear hx
   obtain ⟨a2, e, f4⟩ := bindS f3; clear f3
   replace H := H.sel [10, 0, 1, 2, 3, 4, 5, 6, 7, 8, 9] rfl
   refine append_ (α := Int) gok rfl rfl rfl rfl H e ?_; clear e H; intro h1 w4 H
   refine fld gok rfl rfl rfl rfl ?_
   replace H := H.sel [7, 0, 1, 2, 3, 4, 5, 6, 8, 9] rfl
   refine stB (j := 9) H rfl rfl ?_; clear H; intro w5 H
   refine heldX H [] (.fst 0 (.fst 1 (.fst 2 (.fst 3 (.fst 5 (.fst 9 (.fst 10 (.fst 11 (.fst 12 (.fst 14 (.fst 21 (.fst 4 (.fst 6 (.fst 7 (.fst 8 (.fst 13 (.fst 15 (.fst 16 (.fst 17 (.act 18 (.act 19 (.fst 20 .done)))))))))))))))))))))) mixed [] trivial (by kernel_rfl) ?_
   clear H; intro w6 H
   have hX : Ext w6 w6 := Upd.refl _ _
   have H0 := H
   refine anyH (fun _ => fld gok rfl rfl rfl rfl ⟨rfl, rfl⟩) ?_
   refine anyH (fun _ => fld gok rfl rfl rfl rfl ⟨rfl, rfl⟩) ?_
   refine anyH (fun _ => fld gok rfl rfl rfl rfl ⟨rfl, rfl⟩) ?_
   refine anyH (fun _ => fld gok rfl rfl rfl rfl ⟨rfl, rfl⟩) ?_
   refine load1X (H.bx 0 rfl (j := 1) rfl) ?_
   obtain ⟨a3, e, f5⟩ := bindS f4; clear f4
   have HH := H; clear H; obtain ⟨p0, m0, g0, c0, c1, c2, c3, H⟩ := HH.el (α := Int × Int × List Int × List Int) 3 rfl e; clear HH
   clear e
   obtain ⟨a3_0, a3_1, a3_2, a3_3⟩ := a3
   obtain ⟨_, _, h2, h3⟩ := g0
   replace H := H.part (β := List Int) a3_2 (h2 : Hd) 0 rfl (fun S h => (And.left (And.right (And.right h))))
   replace H := H.part (β := List Int) a3_3 (h3 : Hd) 1 rfl (fun S h => (And.right (And.right (And.right h))))
   replace H := H.sel [0, 1, 3, 4, 5, 6, 7, 8, 9, 10, 11, 12] rfl
   refine idxE c0 c1 c2 ?_; clear c0 c1 c2
   refine anyH (fun _ => fld gok rfl rfl rfl rfl ⟨rfl, rfl⟩) ?_
   refine load1X (c3 2 _ rfl) ?_
   refine load1X (H.bx 2 rfl (j := 1) rfl) ?_
   obtain ⟨a4, e, f6⟩ := bindS f5; clear f5
   have HH := H; clear H; obtain ⟨p1, m1, g1, c4, c5, c6, c7, H⟩ := HH.el (α := Int × Int × List Int × List Int) 5 rfl e; clear HH
   clear e
   obtain ⟨a4_0, a4_1, a4_2, a4_3⟩ := a4
   obtain ⟨_, _, h4, h5⟩ := g1
   replace H := H.part (β := List Int) a4_2 (h4 : Hd) 0 rfl (fun S h => (And.left (And.right (And.right h))))
   replace H := H.part (β := List Int) a4_3 (h5 : Hd) 1 rfl (fun S h => (And.right (And.right (And.right h))))
   replace H := H.sel [0, 1, 3, 4, 5, 6, 7, 8, 9, 10, 11, 12, 13, 14] rfl
   refine idxE c4 c5 c6 ?_; clear c4 c5 c6
   refine anyH (fun _ => fld gok rfl rfl rfl rfl ⟨rfl, rfl⟩) ?_
   refine load1X (c7 3 _ rfl) ?_
   replace H := H.dup 0 rfl persS
   replace H := H.dup 4 rfl persS
   refine litN (α := Sh (List Int)) (us := [(h2).v, (h5).v]) (xs := [a3_2, a4_3]) (gs := ([h2, h5] : List Hd)) gok rfl rfl rfl ⟨rfl, rfl, trivial⟩ rfl rfl H ?_; clear H; intro h6 w7 hx H
   replace hX := hX.trans0 hx; clear hx
   refine hold hX ?_
   obtain ⟨y0, e, f7⟩ := bindS f6; clear f6
   have i0 := e; clear e
   refine callFx (impl_joined_c [a3_2, a4_3] h6 y0 i0) H ⟨Vw.part (β := List (List Int)) (Vw.own (α := List (Sh (List Int))) 0 rfl) [a3_2, a4_3] h6 (fun S h => h), trivial⟩ ?_; clear H i0
   rintro _ _ w8 ⟨h7, rfl, rfl⟩ hx H
   replace hX := hX.trans0 hx; clear hx
   refine hold hX ?_
   refine lenE (H.ro (α := List Int) 0 rfl).len ?_
   have x0 := (H.ro (α := List Int) 0 rfl).max
   obtain ⟨r0, e, f8⟩ := bindS f7; clear f7
   refine loopS _ y0.length (fun (k0 : Nat) (s0 : Int × MI × List Int) (g2 : Mh × Hd) => [(0, (.pointer (some ⟨k_b, 0, none⟩))), (59, (h7).v), (60, (.int .i64 ((y0.length : Nat) : Int))), (61, (.int .i64 ((k0 : Nat) : Int)))]) (fun _ (s0 : Int × MI × List Int) (g2 : Mh × Hd) w' => Cx w0 fp0 S0 w' [Bx k_b [(.int .i64 s0.1), (k__0_1h).v, (k__0_2h).v, (k__0_3h).v, (k__1_0h).v, (k__1_1h).v, (g2.1).v, (k__3h).v, (g2.2).v, (h1).v], Es (List (Int × Int × List Int × List Int)) k__0_1 k__0_1h, Es (List Int) k__0_2 k__0_2h, Es (List Int) k__0_3 k__0_3h, Es (List Int) k__1_0 k__1_0h, Es (List Int) k__1_1 k__1_1h, E MI s0.2.1 g2.1, E MI (setM k__3 e_ ((k__3.kvs.length : Nat) : Int)) k__3h, E (List Int) s0.2.2 g2.2, E (List Int) a2 h1, E (List Int) y0 h7]) (k__0_0, k__2, k__4) (k__2h, k__4h) e ⟨rfl, rfl, rfl, rfl, trivial⟩ (H.sel [6, 9, 10, 11, 12, 13, 14, 8, 15, 7, 0] rfl) ?_ ?_
   ·
    clear H e
    rintro T0 k0 ⟨s0_0, s0_1, s0_2⟩ ⟨g2_0, g2_1⟩ w9 o0 hk (H : Cx w0 fp0 S0 w9 [Bx k_b [(.int .i64 s0_0), (k__0_1h).v, (k__0_2h).v, (k__0_3h).v, (k__1_0h).v, (k__1_1h).v, (g2_0).v, (k__3h).v, (g2_1).v, (h1).v], Es (List (Int × Int × List Int × List Int)) k__0_1 k__0_1h, Es (List Int) k__0_2 k__0_2h, Es (List Int) k__0_3 k__0_3h, Es (List Int) k__1_0 k__1_0h, Es (List Int) k__1_1 k__1_1h, E MI s0_1 g2_0, E MI (setM k__3 e_ ((k__3.kvs.length : Nat) : Int)) k__3h, E (List Int) s0_2 g2_1, E (List Int) a2 h1, E (List Int) y0 h7]) f9
    refine boolE (z := true) (ltLen hk) ?_
    refine sq ?_
    refine sq ?_
    obtain ⟨a5, e, f10⟩ := bindS f9; clear f9
    obtain ⟨p2, m2, c8, c9, c10, c11⟩ := (H.ro (α := List Int) 10 rfl).at1 e; clear e
    refine idxE c8 c9 c10 ?_; clear c8 c9 c10
    refine load1 c11 ?_; clear c11
    obtain ⟨y1, e, f11⟩ := bindS f10; clear f10
    obtain ⟨⟨y1_0_0, y1_0_1, y1_0_2, y1_0_3⟩, ⟨y1_1_0, y1_1_1⟩, y1_2, y1_3, y1_4, y1_5⟩ := y1
    have i1 := e; clear e
    replace H := H.sel [0, 6, 8, 1, 2, 3, 4, 5, 7, 9, 10] rfl
    refine callF (impl_walker_wire_c k_b s0_0 k__0_1 ((k__0_1h).v) k__0_2 ((k__0_2h).v) k__0_3 ((k__0_3h).v) k__1_0 ((k__1_0h).v) k__1_1 ((k__1_1h).v) s0_1 g2_0 (setM k__3 e_ ((k__3.kvs.length : Nat) : Int)) ((k__3h).v) s0_2 g2_1 a2 ((h1).v) a5 y1_0_0 y1_0_1 y1_0_2 y1_0_3 y1_1_0 y1_1_1 y1_2 y1_3 y1_4 y1_5 i1) (Γi := [Bx k_b [(.int .i64 s0_0), (k__0_1h).v, (k__0_2h).v, (k__0_3h).v, (k__1_0h).v, (k__1_1h).v, (g2_0).v, (k__3h).v, (g2_1).v, (h1).v], E MI s0_1 g2_0, E (List Int) s0_2 g2_1]) H trivial ?_; clear H i1
    rintro _ _ w10 ⟨h8, h9, rfl, rfl⟩ H
    refine arK hk x0 ?_
    have hs := Option.some.inj f11; subst hs; clear f11
    exact ⟨(h8, h9), ⟨rfl, rfl, rfl, rfl, trivial⟩, H.sel [0, 3, 4, 5, 6, 7, 1, 8, 2, 9, 10] rfl⟩
   ·
    clear H e
    obtain ⟨s1_0, s1_1, s1_2⟩ := r0
    rintro T1 ⟨g3_0, g3_1⟩ w11 (H : Cx w0 fp0 S0 w11 [Bx k_b [(.int .i64 s1_0), (k__0_1h).v, (k__0_2h).v, (k__0_3h).v, (k__1_0h).v, (k__1_1h).v, (g3_0).v, (k__3h).v, (g3_1).v, (h1).v], Es (List (Int × Int × List Int × List Int)) k__0_1 k__0_1h, Es (List Int) k__0_2 k__0_2h, Es (List Int) k__0_3 k__0_3h, Es (List Int) k__1_0 k__1_0h, Es (List Int) k__1_1 k__1_1h, E MI s1_1 g3_0, E MI (setM k__3 e_ ((k__3.kvs.length : Nat) : Int)) k__3h, E (List Int) s1_2 g3_1, E (List Int) a2 h1, E (List Int) y0 h7])
    refine boolE (z := false) geLen ?_
    refine sq ?_
    cases f8
    exact ⟨_, _, rfl, ⟨g3_0, k__3h, g3_1, h1, rfl, rfl⟩, (H.sel [0, 6, 7, 8, 9] rfl).close ⟨cloB, cloE, cloE, cloE, cloE, trivial⟩⟩
  ·
   have f12 := condT f2; clear f2
   cases f12
   exact ⟨_, _, rfl, ⟨k__2h, k__3h, k__4h, k__5h, rfl, rfl⟩, (H.sel [5, 6, 7, 8, 9] rfl).close ⟨cloB, cloE, cloE, cloE, cloE, trivial⟩⟩
 ·
  have f13 := condT f0; clear f0
  cases f13
  exact ⟨_, _, rfl, ⟨k__2h, k__3h, k__4h, k__5h, rfl, rfl⟩, (H.sel [5, 6, 7, 8, 9] rfl).close ⟨cloB, cloE, cloE, cloE, cloE, trivial⟩⟩

theorem impl_walker_walk_c (k_b : Nat) (k__0_0 : Int) (k__0_1 : List (Int × Int × List Int × List Int)) (k__0_1h : Hd) (k__0_2 : List Int) (k__0_2h : Hd) (k__0_3 : List Int) (k__0_3h : Hd) (k__1_0 : List Int) (k__1_0h : Hd) (k__1_1 : List Int) (k__1_1h : Hd) (k__2 : MI) (k__2h : Mh) (k__3 : MI) (k__3h : Mh) (k__4 : List Int) (k__4h : Hd) (k__5 : List Int) (k__5h : Hd) (y_0_0 : Int) (y_0_1 : List (Int × Int × List Int × List Int)) (y_0_2 : List Int) (y_0_3 : List Int) (y_1_0 : List Int) (y_1_1 : List Int) (y_2 : MI) (y_3 : MI) (y_4 : List Int) (y_5 : List Int) (hF : F_impl_walker_walk ((k__0_0, k__0_1, k__0_2, k__0_3), (k__1_0, k__1_1), k__2, k__3, k__4, k__5) = some ((y_0_0, y_0_1, y_0_2, y_0_3), (y_1_0, y_1_1), y_2, y_3, y_4, y_5)) :
  ConF Tryz.prog 122 #[(.pointer (some ⟨k_b, 0, none⟩))] [Es (List (Int × Int × List Int × List Int)) k__0_1 k__0_1h, Es (List Int) k__0_2 k__0_2h, Es (List Int) k__0_3 k__0_3h, Es (List Int) k__1_0 k__1_0h, Es (List Int) k__1_1 k__1_1h] [Bx k_b [(.int .i64 k__0_0), (k__0_1h).v, (k__0_2h).v, (k__0_3h).v, (k__1_0h).v, (k__1_1h).v, (k__2h).v, (k__3h).v, (k__4h).v, (k__5h).v], E MI k__2 k__2h, E MI k__3 k__3h, E (List Int) k__4 k__4h, E (List Int) k__5 k__5h] (fun v Γ' => ∃ (z0 : Mh) (z1 : Mh) (z2 : Hd) (z3 : Hd), v = (.tuple #[]) ∧ Γ' = [Bx k_b [(.int .i64 y_0_0), (k__0_1h).v, (k__0_2h).v, (k__0_3h).v, (k__1_0h).v, (k__1_1h).v, (z0).v, (z1).v, (z2).v, (z3).v], E MI y_2 z0, E MI y_3 z1, E (List Int) y_4 z2, E (List Int) y_5 z3]) := by
 intro w0 S0 fp0 hI hS
 have H : Cx w0 fp0 S0 w0 [Es (List (Int × Int × List Int × List Int)) k__0_1 k__0_1h, Es (List Int) k__0_2 k__0_2h, Es (List Int) k__0_3 k__0_3h, Es (List Int) k__1_0 k__1_0h, Es (List Int) k__1_1 k__1_1h, Bx k_b [(.int .i64 k__0_0), (k__0_1h).v, (k__0_2h).v, (k__0_3h).v, (k__1_0h).v, (k__1_1h).v, (k__2h).v, (k__3h).v, (k__4h).v, (k__5h).v], E MI k__2 k__2h, E MI k__3 k__3h, E (List Int) k__4 k__4h, E (List Int) k__5 k__5h] := Cx.start hI hS
 clear hI hS
 refine enterC (args := [_]) gok Tryz.func122 rfl _ rfl rfl rfl ?_
 refine loopW _ (fun (s0 : Int × MI × MI × List Int × List Int) (g0 : Mh × Mh × Hd × Hd) => [(0, (.pointer (some ⟨k_b, 0, none⟩)))]) (fun (s0 : Int × MI × MI × List Int × List Int) (g0 : Mh × Mh × Hd × Hd) w' => Cx w0 fp0 S0 w' [Bx k_b [(.int .i64 s0.1), (k__0_1h).v, (k__0_2h).v, (k__0_3h).v, (k__1_0h).v, (k__1_1h).v, (g0.1).v, (g0.2.1).v, (g0.2.2.1).v, (g0.2.2.2).v], Es (List (Int × Int × List Int × List Int)) k__0_1 k__0_1h, Es (List Int) k__0_2 k__0_2h, Es (List Int) k__0_3 k__0_3h, Es (List Int) k__1_0 k__1_0h, Es (List Int) k__1_1 k__1_1h, E MI s0.2.1 g0.1, E MI s0.2.2.1 g0.2.1, E (List Int) s0.2.2.2.1 g0.2.2.1, E (List Int) s0.2.2.2.2 g0.2.2.2]) (k__0_0, k__2, k__3, k__4, k__5) (k__2h, k__3h, k__4h, k__5h) hF ⟨rfl, trivial⟩ (H.sel [5, 0, 1, 2, 3, 4, 6, 7, 8, 9] rfl) ?_
 ·
  clear H
  rintro T0 ⟨s0_0, s0_1, s0_2, s0_3, s0_4⟩ ⟨g0_0, g0_1, g0_2, g0_3⟩ w1 o0 (H : Cx w0 fp0 S0 w1 [Bx k_b [(.int .i64 s0_0), (k__0_1h).v, (k__0_2h).v, (k__0_3h).v, (k__1_0h).v, (k__1_1h).v, (g0_0).v, (g0_1).v, (g0_2).v, (g0_3).v], Es (List (Int × Int × List Int × List Int)) k__0_1 k__0_1h, Es (List Int) k__0_2 k__0_2h, Es (List Int) k__0_3 k__0_3h, Es (List Int) k__1_0 k__1_0h, Es (List Int) k__1_1 k__1_1h, E MI s0_1 g0_0, E MI s0_2 g0_1, E (List Int) s0_3 g0_2, E (List Int) s0_4 g0_3]) hrt f0
  refine sq ?_
  refine fld gok rfl rfl rfl rfl ?_
  refine load1 (H.bx 0 rfl (j := 8) rfl) ?_
  refine lenE (H.ro (α := List Int) 8 rfl).len ?_
  obtain ⟨a0, e, f1⟩ := bindS f0; clear f0
  refine boolO e ?_; clear e
  cases a0
  ·
   have f2 := condF f1; clear f1
   have hs := Option.some.inj f2; subst hs; clear f2
   have f3 : some _ = some _ := congrArg some (hrt _ rfl).symm
   cases f3
   exact ⟨_, _, rfl, ⟨g0_0, g0_1, g0_2, g0_3, rfl, rfl⟩, (H.sel [0, 6, 7, 8, 9] rfl).close ⟨cloB, cloE, cloE, cloE, cloE, trivial⟩⟩
  ·
   have f4 := condT f1; clear f1
   refine fld gok rfl rfl rfl rfl ?_
   refine load1 (H.bx 0 rfl (j := 8) rfl) ?_
   obtain ⟨a1, e, f5⟩ := bindS f4; clear f4
   obtain ⟨p0, m0, c0, c1, c2, c3⟩ := (H.ro (α := List Int) 8 rfl).at1 e; clear e
   refine idxE c0 c1 c2 ?_; clear c0 c1 c2
   refine load1 c3 ?_; clear c3
   refine fld gok rfl rfl rfl rfl ?_
   refine load1 (H.bx 0 rfl (j := 8) rfl) ?_
   obtain ⟨a2, e, f6⟩ := bindS f5; clear f5
   replace H := H.sel [8, 0, 1, 2, 3, 4, 5, 6, 7, 9] rfl
   refine slO (α := Int) (hi := none) gok rfl rfl H e rfl (congrArg (fun n : Nat => some (n : Int)) (H.ro (α := List Int) 0 rfl).len) ?_; clear e H; intro h0 H
   refine fld gok rfl rfl rfl rfl ?_
   replace H := H.sel [1, 0, 2, 3, 4, 5, 6, 7, 8, 9] rfl
   refine stB (j := 8) H rfl rfl ?_; clear H; intro w2 H
   refine fld gok rfl rfl rfl rfl ?_
   refine fld gok rfl rfl rfl rfl ?_
   refine load1 (H.bx 0 rfl (j := 5) rfl) ?_
   obtain ⟨a3, e, f7⟩ := bindS f6; clear f6
   obtain ⟨p1, m1, c4, c5, c6, c7⟩ := (H.rs (α := List Int) 6 rfl).at1 e; clear e
   refine idxE c4 c5 c6 ?_; clear c4 c5 c6
   refine load1 c7 ?_; clear c7
   obtain ⟨y0, e, f8⟩ := bindS f7; clear f7
   obtain ⟨⟨y0_0_0, y0_0_1, y0_0_2, y0_0_3⟩, ⟨y0_1_0, y0_1_1⟩, y0_2, y0_3, y0_4, y0_5⟩ := y0
   have i0 := e; clear e
   replace H := H.sel [0, 7, 8, 1, 9, 2, 3, 4, 5, 6] rfl
   refine callF (impl_walker_edge_c k_b s0_0 k__0_1 k__0_1h k__0_2 k__0_2h k__0_3 k__0_3h k__1_0 k__1_0h k__1_1 k__1_1h s0_1 g0_0 s0_2 g0_1 a2 h0 s0_4 g0_3 a3 y0_0_0 y0_0_1 y0_0_2 y0_0_3 y0_1_0 y0_1_1 y0_2 y0_3 y0_4 y0_5 i0) (Γi := [Bx k_b [(.int .i64 s0_0), (k__0_1h).v, (k__0_2h).v, (k__0_3h).v, (k__1_0h).v, (k__1_1h).v, (g0_0).v, (g0_1).v, (h0).v, (g0_3).v], E MI s0_1 g0_0, E MI s0_2 g0_1, E (List Int) a2 h0, E (List Int) s0_4 g0_3]) H ⟨Vw.sh 0 rfl, Vw.sh 1 rfl, Vw.sh 2 rfl, Vw.sh 3 rfl, Vw.sh 4 rfl, trivial⟩ ?_; clear H i0
   rintro _ _ w3 ⟨h1, h2, h3, h4, rfl, rfl⟩ H
   refine fld gok rfl rfl rfl rfl ?_
   refine fld gok rfl rfl rfl rfl ?_
   refine load1 (H.bx 0 rfl (j := 4) rfl) ?_
   obtain ⟨a4, e, f9⟩ := bindS f8; clear f8
   obtain ⟨p2, m2, c8, c9, c10, c11⟩ := (H.rs (α := List Int) 8 rfl).at1 e; clear e
   refine idxE c8 c9 c10 ?_; clear c8 c9 c10
   refine load1 c11 ?_; clear c11
   obtain ⟨y1, e, f10⟩ := bindS f9; clear f9
   obtain ⟨⟨y1_0_0, y1_0_1, y1_0_2, y1_0_3⟩, ⟨y1_1_0, y1_1_1⟩, y1_2, y1_3, y1_4, y1_5⟩ := y1
   have i1 := e; clear e
   refine callF (impl_walker_edge_c k_b y0_0_0 k__0_1 k__0_1h k__0_2 k__0_2h k__0_3 k__0_3h k__1_0 k__1_0h k__1_1 k__1_1h y0_2 h1 y0_3 h2 y0_4 h3 y0_5 h4 a4 y1_0_0 y1_0_1 y1_0_2 y1_0_3 y1_1_0 y1_1_1 y1_2 y1_3 y1_4 y1_5 i1) (Γi := [Bx k_b [(.int .i64 y0_0_0), (k__0_1h).v, (k__0_2h).v, (k__0_3h).v, (k__1_0h).v, (k__1_1h).v, (h1).v, (h2).v, (h3).v, (h4).v], E MI y0_2 h1, E MI y0_3 h2, E (List Int) y0_4 h3, E (List Int) y0_5 h4]) H ⟨Vw.sh 0 rfl, Vw.sh 1 rfl, Vw.sh 2 rfl, Vw.sh 3 rfl, Vw.sh 4 rfl, trivial⟩ ?_; clear H i1
   rintro _ _ w4 ⟨h5, h6, h7, h8, rfl, rfl⟩ H
   have hs := Option.some.inj f10; subst hs; clear f10
   exact ⟨(y1_0_0, y1_2, y1_3, y1_4, y1_5), (h5, h6, h7, h8), rfl, ⟨rfl, trivial⟩, H.sel [0, 5, 6, 7, 8, 9, 1, 2, 3, 4] rfl⟩

theorem impl_Graph_openWalk_c (g__0 : Int) (g__1 : List (Int × Int × List Int × List Int)) (g__1h : Hd) (g__2 : List Int) (g__2h : Hd) (g__3 : List Int) (g__3h : Hd) (y_0_0 : Int) (y_0_1 : List (Int × Int × List Int × List Int)) (y_0_2 : List Int) (y_0_3 : List Int) (y_1_0 : List Int) (y_1_1 : List Int) (y_2 : MI) (y_3 : MI) (y_4 : List Int) (y_5 : List Int) (hF : F_impl_Graph_openWalk (g__0, g__1, g__2, g__3) = some ((y_0_0, y_0_1, y_0_2, y_0_3), (y_1_0, y_1_1), y_2, y_3, y_4, y_5)) :
  ConF Tryz.prog 101 #[(.agg #[(.int .i64 g__0), (g__1h).v, (g__2h).v, (g__3h).v])] [Es (List (Int × Int × List Int × List Int)) g__1 g__1h, Es (List Int) g__2 g__2h, Es (List Int) g__3 g__3h] [] (fun v Γ' => ∃ (z0 : Nat) (z1 : Hd) (z2 : Hd) (z3 : Mh) (z4 : Mh) (z5 : Hd) (z6 : Hd), v = (.pointer (some ⟨z0, 0, none⟩)) ∧ Γ' = [Bx z0 [(.int .i64 y_0_0), (g__1h).v, (g__2h).v, (g__3h).v, (z1).v, (z2).v, (z3).v, (z4).v, (z5).v, (z6).v], E (List Int) y_1_0 z1, E (List Int) y_1_1 z2, E MI y_2 z3, E MI y_3 z4, E (List Int) y_4 z5, E (List Int) y_5 z6]) := by
 intro w0 S0 fp0 hI hS
 have H : Cx w0 fp0 S0 w0 [Es (List (Int × Int × List Int × List Int)) g__1 g__1h, Es (List Int) g__2 g__2h, Es (List Int) g__3 g__3h] := Cx.start hI hS
 clear hI hS
 refine enterC (args := [_]) gok Tryz.func101 rfl _ rfl rfl rfl ?_
 refine box_ H ?_; clear H; intro b5 w4 hx H
 clear hx
 refine loadN [(.int .i64 g__0), (g__1h).v, (g__2h).v, (g__3h).v] rfl (fun j u hj => H.bx 0 rfl hj) ?_
 obtain ⟨y7, e, hF8⟩ := bindS hF; clear hF
 obtain ⟨⟨y7_0_0, y7_0_1, y7_0_2, y7_0_3⟩, ⟨y7_1_0, y7_1_1⟩, y7_2, y7_3, y7_4, y7_5⟩ := y7
 have ey7 := e; clear e
 refine callF (impl_walkerOf_c g__0 g__1 g__1h g__2 g__2h g__3 g__3h y7_0_0 y7_0_1 y7_0_2 y7_0_3 y7_1_0 y7_1_1 y7_2 y7_3 y7_4 y7_5 ey7) (Γi := []) H ⟨Vw.sh 1 rfl, Vw.sh 2 rfl, Vw.sh 3 rfl, trivial⟩ ?_; clear H ey7
 rintro _ _ w9 ⟨b0, h0, h1, h2, h3, h4, h5, rfl, rfl⟩ H
 refine sq ?_
 refine fld gok rfl rfl rfl rfl ?_
 refine load1 (H.bx 7 rfl (j := 2) rfl) ?_
 refine fld gok rfl rfl rfl rfl ?_
 refine load1 (H.bx 7 rfl (j := 3) rfl) ?_
 replace H := H.dup 10 rfl persS
 replace H := H.dup 10 rfl persS
 refine litN (α := Sh (List Int)) (us := [(g__2h).v, (g__3h).v]) (xs := [g__2, g__3]) (gs := ([g__2h, g__3h] : List Hd)) gok rfl rfl rfl ⟨rfl, rfl, trivial⟩ rfl rfl H ?_; clear H; intro h6 w1 hx H
 clear hx
 obtain ⟨y0, e, f0⟩ := bindS hF8; clear hF8
 have i0 := e; clear e
 refine callF (impl_joined_c [g__2, g__3] h6 y0 i0) (Γi := []) H ⟨Vw.part (β := List (List Int)) (Vw.own (α := List (Sh (List Int))) 0 rfl) [g__2, g__3] h6 (fun S h => h), trivial⟩ ?_; clear H i0
 rintro _ _ w2 ⟨h7, rfl, rfl⟩ H
 refine lenE (H.ro (α := List Int) 0 rfl).len ?_
 have x0 := (H.ro (α := List Int) 0 rfl).max
 obtain ⟨r0, e, f1⟩ := bindS f0; clear f0
 refine loopS _ y0.length (fun (k0 : Nat) (s0 : Int × MI × List Int) (g0 : Mh × Hd) => [(3, (.pointer (some ⟨b0, 0, none⟩))), (13, (h7).v), (14, (.int .i64 ((y0.length : Nat) : Int))), (15, (.int .i64 ((k0 : Nat) : Int)))]) (fun _ (s0 : Int × MI × List Int) (g0 : Mh × Hd) w' => Cx w0 fp0 S0 w' [Bx b0 [(.int .i64 s0.1), (g__1h).v, (g__2h).v, (g__3h).v, (h0).v, (h1).v, (g0.1).v, (h3).v, (g0.2).v, (h5).v], Es (List (Int × Int × List Int × List Int)) g__1 g__1h, Es (List Int) g__2 g__2h, Es (List Int) g__3 g__3h, E (List Int) y7_1_0 h0, E (List Int) y7_1_1 h1, E MI s0.2.1 g0.1, E MI y7_3 h3, E (List Int) s0.2.2 g0.2, E (List Int) y7_5 h5, E (List Int) y0 h7]) (y7_0_0, y7_2, y7_4) (h2, h4) e ⟨rfl, rfl, rfl, rfl, trivial⟩ (H.sel [2, 10, 11, 12, 3, 4, 5, 6, 7, 8, 0] rfl) ?_ ?_
 ·
  clear H e
  rintro T0 k0 ⟨s0_0, s0_1, s0_2⟩ ⟨g0_0, g0_1⟩ w3 o0 hk (H : Cx w0 fp0 S0 w3 [Bx b0 [(.int .i64 s0_0), (g__1h).v, (g__2h).v, (g__3h).v, (h0).v, (h1).v, (g0_0).v, (h3).v, (g0_1).v, (h5).v], Es (List (Int × Int × List Int × List Int)) g__1 g__1h, Es (List Int) g__2 g__2h, Es (List Int) g__3 g__3h, E (List Int) y7_1_0 h0, E (List Int) y7_1_1 h1, E MI s0_1 g0_0, E MI y7_3 h3, E (List Int) s0_2 g0_1, E (List Int) y7_5 h5, E (List Int) y0 h7]) f2
  refine boolE (z := true) (ltLen hk) ?_
  refine sq ?_
  refine sq ?_
  obtain ⟨a0, e, f3⟩ := bindS f2; clear f2
  obtain ⟨p0, m0, c0, c1, c2, c3⟩ := (H.ro (α := List Int) 10 rfl).at1 e; clear e
  refine idxE c0 c1 c2 ?_; clear c0 c1 c2
  refine load1 c3 ?_; clear c3
  obtain ⟨y1, e, f4⟩ := bindS f3; clear f3
  obtain ⟨⟨y1_0_0, y1_0_1, y1_0_2, y1_0_3⟩, ⟨y1_1_0, y1_1_1⟩, y1_2, y1_3, y1_4, y1_5⟩ := y1
  have i1 := e; clear e
  replace H := H.sel [0, 6, 8, 1, 2, 3, 4, 5, 7, 9, 10] rfl
  refine callF (impl_walker_wire_c b0 s0_0 g__1 ((g__1h).v) g__2 ((g__2h).v) g__3 ((g__3h).v) y7_1_0 ((h0).v) y7_1_1 ((h1).v) s0_1 g0_0 y7_3 ((h3).v) s0_2 g0_1 y7_5 ((h5).v) a0 y1_0_0 y1_0_1 y1_0_2 y1_0_3 y1_1_0 y1_1_1 y1_2 y1_3 y1_4 y1_5 i1) (Γi := [Bx b0 [(.int .i64 s0_0), (g__1h).v, (g__2h).v, (g__3h).v, (h0).v, (h1).v, (g0_0).v, (h3).v, (g0_1).v, (h5).v], E MI s0_1 g0_0, E (List Int) s0_2 g0_1]) H trivial ?_; clear H i1
  rintro _ _ w5 ⟨h8, h9, rfl, rfl⟩ H
  refine arK hk x0 ?_
  have hs := Option.some.inj f4; subst hs; clear f4
  exact ⟨(h8, h9), ⟨rfl, rfl, rfl, rfl, trivial⟩, H.sel [0, 3, 4, 5, 6, 7, 1, 8, 2, 9, 10] rfl⟩
 ·
  clear H e
  obtain ⟨s1_0, s1_1, s1_2⟩ := r0
  rintro T1 ⟨g1_0, g1_1⟩ w6 (H : Cx w0 fp0 S0 w6 [Bx b0 [(.int .i64 s1_0), (g__1h).v, (g__2h).v, (g__3h).v, (h0).v, (h1).v, (g1_0).v, (h3).v, (g1_1).v, (h5).v], Es (List (Int × Int × List Int × List Int)) g__1 g__1h, Es (List Int) g__2 g__2h, Es (List Int) g__3 g__3h, E (List Int) y7_1_0 h0, E (List Int) y7_1_1 h1, E MI s1_1 g1_0, E MI y7_3 h3, E (List Int) s1_2 g1_1, E (List Int) y7_5 h5, E (List Int) y0 h7])
  refine boolE (z := false) geLen ?_
  refine sq ?_
  obtain ⟨y2, e, f5⟩ := bindS f1; clear f1
  obtain ⟨⟨y2_0_0, y2_0_1, y2_0_2, y2_0_3⟩, ⟨y2_1_0, y2_1_1⟩, y2_2, y2_3, y2_4, y2_5⟩ := y2
  have i2 := e; clear e
  replace H := H.sel [0, 6, 7, 8, 9, 1, 2, 3, 4, 5, 10] rfl
  refine callF (impl_walker_walk_c b0 s1_0 g__1 g__1h g__2 g__2h g__3 g__3h y7_1_0 h0 y7_1_1 h1 s1_1 g1_0 y7_3 h3 s1_2 g1_1 y7_5 h5 y2_0_0 y2_0_1 y2_0_2 y2_0_3 y2_1_0 y2_1_1 y2_2 y2_3 y2_4 y2_5 i2) (Γi := [Bx b0 [(.int .i64 s1_0), (g__1h).v, (g__2h).v, (g__3h).v, (h0).v, (h1).v, (g1_0).v, (h3).v, (g1_1).v, (h5).v], E MI s1_1 g1_0, E MI y7_3 h3, E (List Int) s1_2 g1_1, E (List Int) y7_5 h5]) H ⟨Vw.sh 0 rfl, Vw.sh 1 rfl, Vw.sh 2 rfl, Vw.own 3 rfl, Vw.own 4 rfl, trivial⟩ ?_; clear H i2
  rintro _ _ w7 ⟨h10, h11, h13, h15, rfl, rfl⟩ H
  cases f5
  exact ⟨_, _, rfl, ⟨b0, h0, h1, h10, h11, h13, h15, rfl, rfl⟩, (H.sel [0, 8, 9, 1, 2, 3, 4] rfl).close ⟨cloB, cloE, cloE, cloE, cloE, cloE, cloE, trivial⟩⟩

theorem impl_upTo_c (n_ : Int) (y : List Int) (hF : F_impl_upTo n_ = some y) :
  ConF Tryz.prog 138 #[(.int .i64 n_)] [] [] (fun v Γ' => ∃ z0 : Hd, v = (z0).v ∧ Γ' = [E (List Int) y z0]) := by
 intro w0 S0 fp0 hI hS
 have H : Cx w0 fp0 S0 w0 [] := Cx.start hI hS
 clear hI hS
 refine enterC (args := [_]) gok Tryz.func138 rfl _ rfl rfl rfl ?_
 obtain ⟨y1, e, hF2⟩ := bindS hF; clear hF
 have ey1 := e; clear e
 refine callF (impl_zeros_c n_ y1 ey1) (Γi := []) H trivial ?_; clear H ey1
 rintro _ _ w3 ⟨h4, rfl, rfl⟩ H
 refine sq ?_
 refine lenE (H.ro (α := List Int) 0 rfl).len ?_
 have x0 := (H.ro (α := List Int) 0 rfl).max
 obtain ⟨r0, e, f0⟩ := bindS hF2; clear hF2
 refine loopS _ y1.length (fun (k6 : Nat) (s0 : List Int) (_ : Unit) => [(3, (h4).v), (8, (.int .i64 ((y1.length : Nat) : Int))), (9, (.int .i64 ((k6 : Nat) : Int)))]) (fun _ (s0 : List Int) (_ : Unit) w' => Cx w0 fp0 S0 w' [E (List Int) s0 h4]) y1 () e ⟨rfl, rfl, rfl, trivial⟩ (H.sel [0] rfl) ?_ ?_
 ·
  clear H e
  rintro T0 k6 s0 _ w1 o0 hk (H : Cx w0 fp0 S0 w1 [E (List Int) s0 h4]) f1
  refine boolE (z := true) (ltLen hk) ?_
  refine sq ?_
  refine sq ?_
  obtain ⟨a0, e, f2⟩ := bindS f1; clear f1
  have i0 := e; clear e
  obtain ⟨p0, m0, c0, c1, c2⟩ := (H.ro (α := List Int) 0 rfl).setp i0
  refine idxE c0 c1 c2 ?_
  refine setS (α := Int) H c0 c1 i0 ?_; clear H c0 c1 c2 i0; intro w2 H
  refine arK hk x0 ?_
  have hs := Option.some.inj f2; subst hs; clear f2
  exact ⟨(), ⟨rfl, rfl, rfl, trivial⟩, H.sel [0] rfl⟩
 ·
  clear H e
  rintro T1 _ w4 (H : Cx w0 fp0 S0 w4 [E (List Int) r0 h4])
  refine boolE (z := false) geLen ?_
  refine sq ?_
  cases f0
  exact ⟨_, _, rfl, ⟨h4, rfl, rfl⟩, (H.sel [0] rfl).close ⟨cloE, trivial⟩⟩

theorem impl_classes_root_c (c_ : List Int) (c_h : Hd) (w_ : Int) (y : Int) (hF : F_impl_classes_root c_ w_ = some y) :
  ConF Tryz.prog 140 #[(c_h).v, (.int .i64 w_)] [Es (List Int) c_ c_h] [] (fun v Γ' => v = (.int .i64 y) ∧ Γ' = []) := by
 intro w0 S0 fp0 hI hS
 have H : Cx w0 fp0 S0 w0 [Es (List Int) c_ c_h] := Cx.start hI hS
 clear hI hS
 refine enterC (args := [_, _]) gok Tryz.func140 rfl _ rfl rfl rfl ?_
 obtain ⟨r0, f0, f1⟩ := bindS hF; clear hF
 refine cut (fun (q0 : Int) => [(1, (.int .i64 q0))]) (fun (q0 : Int) w' => q0 = r0 ∧ Cx w0 fp0 S0 w' []) ?_ ?_
 ·
  refine loopW _ (fun (s0 : Int) (_ : Unit) => [(0, (c_h).v), (1, (.int .i64 s0))]) (fun (s0 : Int) (_ : Unit) w' => Cx w0 fp0 S0 w' [Es (List Int) c_ c_h]) w_ () f0 ⟨rfl, rfl, trivial⟩ (H.sel [0] rfl) ?_
  ·
   clear H
   rintro T0 s0 _ w1 o0 (H : Cx w0 fp0 S0 w1 [Es (List Int) c_ c_h]) hrt f2
   refine sq ?_
   obtain ⟨a0, e, f3⟩ := bindS f2; clear f2
   obtain ⟨p0, m0, c0, c1, c2, c3⟩ := (H.rs (α := List Int) 0 rfl).at1 e; clear e
   refine idxE c0 c1 c2 ?_; clear c0 c1 c2
   refine load1 c3 ?_; clear c3
   obtain ⟨a1, e, f4⟩ := bindS f3; clear f3
   refine boolO e ?_; clear e
   cases a1
   ·
    have f5 := condF f4; clear f4
    have hs := Option.some.inj f5; subst hs; clear f5
    have f6 : some _ = some _ := congrArg some (hrt _ rfl).symm
    exact ⟨s0, ⟨rfl, trivial⟩, Option.some.inj f6, H.sel [] rfl⟩
   ·
    have f7 := condT f4; clear f4
    obtain ⟨a2, e, f8⟩ := bindS f7; clear f7
    obtain ⟨p1, m1, c4, c5, c6, c7⟩ := (H.rs (α := List Int) 0 rfl).at1 e; clear e
    refine idxE c4 c5 c6 ?_; clear c4 c5 c6
    refine load1 c7 ?_; clear c7
    have hs := Option.some.inj f8; subst hs; clear f8
    exact ⟨a2, (), rfl, ⟨rfl, rfl, trivial⟩, H.sel [0] rfl⟩
 ·
  clear f0 H
  rintro T1 s1 w2 ⟨hr, (H : Cx w0 fp0 S0 w2 [])⟩
  subst hr
  cases f1
  exact ⟨_, _, rfl, ⟨rfl, rfl⟩, (H.sel [] rfl).close trivial⟩

theorem impl_classes_join_c (c_ : List Int) (c_h : Hd) (v_ : Int) (w_ : Int) (y : List Int) (hF : F_impl_classes_join c_ v_ w_ = some y) :
  ConF Tryz.prog 139 #[(c_h).v, (.int .i64 v_), (.int .i64 w_)] [] [E (List Int) c_ c_h] (fun v Γ' => v = (.tuple #[]) ∧ Γ' = [E (List Int) y c_h]) := by
 intro w0 S0 fp0 hI hS
 have H : Cx w0 fp0 S0 w0 [E (List Int) c_ c_h] := Cx.start hI hS
 clear hI hS
 refine enterC (args := [_, _, _]) gok Tryz.func139 rfl _ rfl rfl rfl ?_
 obtain ⟨y2, e, hF3⟩ := bindS hF; clear hF
 have ey2 := e; clear e
 refine callF (impl_classes_root_c c_ c_h v_ y2 ey2) (Γi := []) H ⟨Vw.own 0 rfl, trivial⟩ ?_; clear H ey2
 rintro _ _ w4 ⟨rfl, rfl⟩ H
 obtain ⟨y5, e, hF6⟩ := bindS hF3; clear hF3
 have ey5 := e; clear e
 refine callF (impl_classes_root_c c_ c_h w_ y5 ey5) (Γi := []) H ⟨Vw.own 0 rfl, trivial⟩ ?_; clear H ey5
 rintro _ _ w7 ⟨rfl, rfl⟩ H
 obtain ⟨a8, e, hF9⟩ := bindS hF6; clear hF6
 refine max_ e ?_; clear e
 obtain ⟨a0, e, f0⟩ := bindS hF9; clear hF9
 refine min_ e ?_; clear e
 obtain ⟨a1, e, f1⟩ := bindS f0; clear f0
 have i0 := e; clear e
 obtain ⟨p0, m0, c0, c1, c2⟩ := (H.ro (α := List Int) 0 rfl).setp i0
 refine idxE c0 c1 c2 ?_
 refine setS (α := Int) H c0 c1 i0 ?_; clear H c0 c1 c2 i0; intro w1 H
 cases f1
 exact ⟨_, _, rfl, ⟨rfl, rfl⟩, (H.sel [0] rfl).close ⟨cloE, trivial⟩⟩

theorem impl_Graph_components_c (g__0 : Int) (g__1 : List (Int × Int × List Int × List Int)) (g__1h : Hd) (g__2 : List Int) (g__2h : Hd) (g__3 : List Int) (g__3h : Hd) (y0 : List Int) (y1 : Int) (hF : F_impl_Graph_components (g__0, g__1, g__2, g__3) = some (y0, y1)) :
  ConF Tryz.prog 124 #[(.agg #[(.int .i64 g__0), (g__1h).v, (g__2h).v, (g__3h).v])] [Es (List (Int × Int × List Int × List Int)) g__1 g__1h, Es (List Int) g__2 g__2h, Es (List Int) g__3 g__3h] [] (fun v Γ' => ∃ z0 : Hd, v = (.tuple #[(z0).v, (.int .i64 y1)]) ∧ Γ' = [E (List Int) y0 z0]) := by
 intro w0 S0 fp0 hI hS
 have H : Cx w0 fp0 S0 w0 [Es (List (Int × Int × List Int × List Int)) g__1 g__1h, Es (List Int) g__2 g__2h, Es (List Int) g__3 g__3h] := Cx.start hI hS
 clear hI hS
 refine enterC (args := [_]) gok Tryz.func124 rfl _ rfl rfl rfl ?_
 refine box_ H ?_; clear H; intro b5 w4 hx H
 clear hx
 refine fld gok rfl rfl rfl rfl ?_
 refine load1 (H.bx 0 rfl (j := 0) rfl) ?_
 obtain ⟨y7, e, hF8⟩ := bindS hF; clear hF
 have ey7 := e; clear e
 refine callF (impl_upTo_c g__0 y7 ey7) (Γi := []) H trivial ?_; clear H ey7
 rintro _ _ w9 ⟨h0, rfl, rfl⟩ H
 refine sq ?_
 refine fld gok rfl rfl rfl rfl ?_
 refine load1 (H.bx 1 rfl (j := 1) rfl) ?_
 refine lenE (H.rs (α := List (Int × Int × List Int × List Int)) 2 rfl).len ?_
 have x0 := (H.rs (α := List (Int × Int × List Int × List Int)) 2 rfl).max
 obtain ⟨r0, e, f0⟩ := bindS hF8; clear hF8
 refine loopS _ g__1.length (fun (k0 : Nat) (s0 : List Int) (_ : Unit) => [(1, (.pointer (some ⟨b5, 0, none⟩))), (4, (h0).v), (18, (g__1h).v), (19, (.int .i64 ((g__1.length : Nat) : Int))), (20, (.int .i64 ((k0 : Nat) : Int)))]) (fun _ (s0 : List Int) (_ : Unit) w' => Cx w0 fp0 S0 w' [Bx b5 [(.int .i64 g__0), (g__1h).v, (g__2h).v, (g__3h).v], Es (List (Int × Int × List Int × List Int)) g__1 g__1h, Es (List Int) g__2 g__2h, Es (List Int) g__3 g__3h, E (List Int) s0 h0]) y7 () e ⟨rfl, rfl, rfl, rfl, rfl, trivial⟩ (H.sel [1, 2, 3, 4, 0] rfl) ?_ ?_
 ·
  clear H e
  rintro T0 k0 s0 _ w1 o0 hk (H : Cx w0 fp0 S0 w1 [Bx b5 [(.int .i64 g__0), (g__1h).v, (g__2h).v, (g__3h).v], Es (List (Int × Int × List Int × List Int)) g__1 g__1h, Es (List Int) g__2 g__2h, Es (List Int) g__3 g__3h, E (List Int) s0 h0]) f1
  refine boolE (z := true) (ltLen hk) ?_
  refine sq ?_
  refine sq ?_
  obtain ⟨a0, e, f2⟩ := bindS f1; clear f1
  have HH := H; clear H; obtain ⟨p0, m0, g0, c0, c1, c2, c3, H⟩ := HH.el (α := Int × Int × List Int × List Int) 1 rfl e; clear HH
  clear e
  obtain ⟨a0_0, a0_1, a0_2, a0_3⟩ := a0
  obtain ⟨_, _, h1, h2⟩ := g0
  replace H := H.part (β := List Int) a0_2 (h1 : Hd) 0 rfl (fun S h => (And.left (And.right (And.right h))))
  replace H := H.part (β := List Int) a0_3 (h2 : Hd) 1 rfl (fun S h => (And.right (And.right (And.right h))))
  replace H := H.sel [0, 1, 3, 4, 5, 6, 7] rfl
  refine idxE c0 c1 c2 ?_; clear c0 c1 c2
  refine loadN [(.int .i64 a0_0), (.int .i64 a0_1), (h1).v, (h2).v] rfl c3 ?_; clear c3
  refine alloc_ gok rfl H ?_; clear H; intro b0 w2 hx H
  clear hx
  refine stA gok [(.int .i64 a0_0), (.int .i64 a0_1), (h1).v, (h2).v] rfl H rfl rfl rfl ?_; clear H; intro w3 H
  refine fld gok rfl rfl rfl rfl ?_
  refine load1 (H.bx 0 rfl (j := 2) rfl) ?_
  refine fld gok rfl rfl rfl rfl ?_
  refine load1 (H.bx 0 rfl (j := 3) rfl) ?_
  replace H := H.dup 1 rfl persS
  replace H := H.dup 3 rfl persS
  refine litN (α := Sh (List Int)) (us := [(h1).v, (h2).v]) (xs := [a0_2, a0_3]) (gs := ([h1, h2] : List Hd)) gok rfl rfl rfl ⟨rfl, rfl, trivial⟩ rfl rfl H ?_; clear H; intro h3 w5 hx H
  clear hx
  obtain ⟨y2, e, f3⟩ := bindS f2; clear f2
  have i0 := e; clear e
  refine callF (impl_joined_c [a0_2, a0_3] h3 y2 i0) (Γi := []) H ⟨Vw.part (β := List (List Int)) (Vw.own (α := List (Sh (List Int))) 0 rfl) [a0_2, a0_3] h3 (fun S h => h), trivial⟩ ?_; clear H i0
  rintro _ _ w6 ⟨h4, rfl, rfl⟩ H
  refine lenE (H.ro (α := List Int) 0 rfl).len ?_
  have x1 := (H.ro (α := List Int) 0 rfl).max
  obtain ⟨r1, e, f4⟩ := bindS f3; clear f3
  refine loopS _ y2.length (fun (k1 : Nat) (s1 : List Int) (_ : Unit) => [(1, (.pointer (some ⟨b5, 0, none⟩))), (4, (h0).v), (7, (h4).v), (18, (g__1h).v), (19, (.int .i64 ((g__1.length : Nat) : Int))), (20, (.int .i64 ((k0 : Nat) : Int))), (30, (h4).v), (31, (.int .i64 ((y2.length : Nat) : Int))), (32, (.int .i64 ((k1 : Nat) : Int)))]) (fun _ (s1 : List Int) (_ : Unit) w' => Cx w0 fp0 S0 w' [Bx b5 [(.int .i64 g__0), (g__1h).v, (g__2h).v, (g__3h).v], Es (List (Int × Int × List Int × List Int)) g__1 g__1h, Es (List Int) g__2 g__2h, Es (List Int) g__3 g__3h, E (List Int) s1 h0, E (List Int) y2 h4]) s0 () e ⟨rfl, rfl, rfl, rfl, rfl, rfl, rfl, rfl, rfl, trivial⟩ (H.sel [5, 6, 7, 8, 9, 0] rfl) ?_ ?_
  ·
   clear H e
   rintro T1 k1 s1 _ w7 o1 hk (H : Cx w0 fp0 S0 w7 [Bx b5 [(.int .i64 g__0), (g__1h).v, (g__2h).v, (g__3h).v], Es (List (Int × Int × List Int × List Int)) g__1 g__1h, Es (List Int) g__2 g__2h, Es (List Int) g__3 g__3h, E (List Int) s1 h0, E (List Int) y2 h4]) f5
   refine boolE (z := true) (ltLen hk) ?_
   refine sq ?_
   refine sq ?_
   obtain ⟨a1, e, f6⟩ := bindS f5; clear f5
   obtain ⟨p1, m1, c4, c5, c6, c7⟩ := (H.ro (α := List Int) 5 rfl).at1 e; clear e
   refine idxE c4 c5 c6 ?_; clear c4 c5 c6
   refine load1 c7 ?_; clear c7
   obtain ⟨a2, e, f7⟩ := bindS f6; clear f6
   obtain ⟨p2, m2, c8, c9, c10, c11⟩ := (H.ro (α := List Int) 5 rfl).at1 e; clear e
   refine idxE c8 c9 c10 ?_; clear c8 c9 c10
   refine load1 c11 ?_; clear c11
   obtain ⟨y3, e, f8⟩ := bindS f7; clear f7
   have i1 := e; clear e
   replace H := H.sel [4, 0, 1, 2, 3, 5] rfl
   refine callF (impl_classes_join_c s1 h0 a2 a1 y3 i1) (Γi := [E (List Int) s1 h0]) H trivial ?_; clear H i1
   rintro _ _ w8 ⟨rfl, rfl⟩ H
   refine arK hk x1 ?_
   have hs := Option.some.inj f8; subst hs; clear f8
   exact ⟨(), ⟨rfl, rfl, rfl, rfl, rfl, rfl, rfl, rfl, rfl, trivial⟩, H.sel [1, 2, 3, 4, 0, 5] rfl⟩
  ·
   clear H e
   rintro T2 _ w10 (H : Cx w0 fp0 S0 w10 [Bx b5 [(.int .i64 g__0), (g__1h).v, (g__2h).v, (g__3h).v], Es (List (Int × Int × List Int × List Int)) g__1 g__1h, Es (List Int) g__2 g__2h, Es (List Int) g__3 g__3h, E (List Int) r1 h0, E (List Int) y2 h4])
   refine boolE (z := false) geLen ?_
   refine sq ?_
   refine arK hk x0 ?_
   have hs := Option.some.inj f4; subst hs; clear f4
   exact ⟨(), ⟨rfl, rfl, rfl, rfl, rfl, trivial⟩, H.sel [0, 1, 2, 3, 4] rfl⟩
 ·
  clear H e
  rintro T3 _ w11 (H : Cx w0 fp0 S0 w11 [Bx b5 [(.int .i64 g__0), (g__1h).v, (g__2h).v, (g__3h).v], Es (List (Int × Int × List Int × List Int)) g__1 g__1h, Es (List Int) g__2 g__2h, Es (List Int) g__3 g__3h, E (List Int) r0 h0])
  refine boolE (z := false) geLen ?_
  refine sq ?_
  refine fld gok rfl rfl rfl rfl ?_
  refine load1 (H.bx 0 rfl (j := 0) rfl) ?_
  obtain ⟨y4, e, f9⟩ := bindS f0; clear f0
  have i2 := e; clear e
  refine callF (impl_zeros_c g__0 y4 i2) (Γi := []) H trivial ?_; clear H i2
  rintro _ _ w12 ⟨h5, rfl, rfl⟩ H
  refine sq ?_
  refine lenE (H.ro (α := List Int) 0 rfl).len ?_
  have x2 := (H.ro (α := List Int) 0 rfl).max
  obtain ⟨r2, e, f10⟩ := bindS f9; clear f9
  refine loopS _ y4.length (fun (k2 : Nat) (s2 : List Int × Int) (_ : Unit) => [(4, (h0).v), (10, (h5).v), (11, (.int .i64 s2.2)), (48, (.int .i64 ((y4.length : Nat) : Int))), (49, (.int .i64 ((k2 : Nat) : Int)))]) (fun _ (s2 : List Int × Int) (_ : Unit) w' => Cx w0 fp0 S0 w' [E (List Int) r0 h0, E (List Int) s2.1 h5]) (y4, 0) () e ⟨rfl, rfl, rfl, rfl, rfl, trivial⟩ (H.sel [5, 0] rfl) ?_ ?_
  ·
   clear H e
   rintro T4 k2 ⟨s2_0, s2_1⟩ _ w13 o2 hk (H : Cx w0 fp0 S0 w13 [E (List Int) r0 h0, E (List Int) s2_0 h5]) f11
   refine boolE (z := true) (ltLen hk) ?_
   refine sq ?_
   obtain ⟨r3, f12, f13⟩ := bindS f11; clear f11
   refine cut (fun (q0 : List Int × Int) => [(4, (h0).v), (10, (h5).v), (11, (.int .i64 q0.2)), (48, (.int .i64 ((y4.length : Nat) : Int))), (49, (.int .i64 ((k2 : Nat) : Int)))]) (fun (q0 : List Int × Int) w' => (q0.1, q0.2) = r3 ∧ Cx w0 fp0 S0 w' [E (List Int) r0 h0, E (List Int) q0.1 h5]) ?_ ?_
   ·
    refine sq ?_
    obtain ⟨y5, e, f14⟩ := bindS f12; clear f12
    have i3 := e; clear e
    refine callF (impl_classes_root_c r0 h0 ((k2 : Nat) : Int) y5 i3) (Γi := []) H ⟨Vw.own 0 rfl, trivial⟩ ?_; clear H i3
    rintro _ _ w14 ⟨rfl, rfl⟩ H
    obtain ⟨a3, e, f15⟩ := bindS f14; clear f14
    refine boolO e ?_; clear e
    cases a3
    ·
     have f16 := condF f15; clear f15
     obtain ⟨a4, e, f17⟩ := bindS f16; clear f16
     have i4 := e; clear e
     obtain ⟨p3, m3, c12, c13, c14⟩ := (H.ro (α := List Int) 1 rfl).setp i4
     refine idxE c12 c13 c14 ?_
     replace H := H.sel [1, 0] rfl
     refine setS (α := Int) H c12 c13 i4 ?_; clear H c12 c13 c14 i4; intro w15 H
     obtain ⟨a5, e, f18⟩ := bindS f17; clear f17
     refine arO e ?_; clear e
     exact ⟨(a4, a5), ⟨rfl, rfl, rfl, rfl, rfl, trivial⟩, Option.some.inj f18, H.sel [1, 0] rfl⟩
    ·
     have f19 := condT f15; clear f15
     obtain ⟨a6, e, f20⟩ := bindS f19; clear f19
     obtain ⟨p4, m4, c15, c16, c17, c18⟩ := (H.ro (α := List Int) 1 rfl).at1 e; clear e
     refine idxE c15 c16 c17 ?_; clear c15 c16 c17
     refine load1 c18 ?_; clear c18
     obtain ⟨a7, e, f21⟩ := bindS f20; clear f20
     have i5 := e; clear e
     obtain ⟨p5, m5, c19, c20, c21⟩ := (H.ro (α := List Int) 1 rfl).setp i5
     refine idxE c19 c20 c21 ?_
     replace H := H.sel [1, 0] rfl
     refine setS (α := Int) H c19 c20 i5 ?_; clear H c19 c20 c21 i5; intro w16 H
     exact ⟨(a7, s2_1), ⟨rfl, rfl, rfl, rfl, rfl, trivial⟩, Option.some.inj f21, H.sel [1, 0] rfl⟩
   ·
    clear f12 H
    rintro T5 ⟨s3_0, s3_1⟩ w17 ⟨hr, (H : Cx w0 fp0 S0 w17 [E (List Int) r0 h0, E (List Int) s3_0 h5])⟩
    subst hr
    refine arK hk x2 ?_
    have hs := Option.some.inj f13; subst hs; clear f13
    exact ⟨(), ⟨rfl, rfl, rfl, rfl, rfl, trivial⟩, H.sel [0, 1] rfl⟩
  ·
   clear H e
   obtain ⟨s4_0, s4_1⟩ := r2
   rintro T6 _ w18 (H : Cx w0 fp0 S0 w18 [E (List Int) r0 h0, E (List Int) s4_0 h5])
   refine boolE (z := false) geLen ?_
   refine sq ?_
   cases f10
   exact ⟨_, _, rfl, ⟨h5, rfl, rfl⟩, (H.sel [1] rfl).close ⟨cloE, trivial⟩⟩

theorem impl_Graph_closedParts_c (g__0 : Int) (g__1 : List (Int × Int × List Int × List Int)) (g__1h : Hd) (g__2 : List Int) (g__2h : Hd) (g__3 : List Int) (g__3h : Hd) (open_b : Nat) (open__0_0 : Int) (open__0_1 : List (Int × Int × List Int × List Int)) (open__0_1h : Hd) (open__0_2 : List Int) (open__0_2h : Hd) (open__0_3 : List Int) (open__0_3h : Hd) (open__1_0 : List Int) (open__1_0h : Hd) (open__1_1 : List Int) (open__1_1h : Hd) (open__2 : MI) (open__2h : Mh) (open__3 : MI) (open__3h : Mh) (open__4 : List Int) (open__4h : Hd) (open__5 : List Int) (open__5h : Hd) (y : List Int) (hF : F_impl_Graph_closedParts (g__0, g__1, g__2, g__3) ((open__0_0, open__0_1, open__0_2, open__0_3), (open__1_0, open__1_1), open__2, open__3, open__4, open__5) = some y) :
  ConF Tryz.prog 104 #[(.agg #[(.int .i64 g__0), (g__1h).v, (g__2h).v, (g__3h).v]), (.pointer (some ⟨open_b, 0, none⟩))] [Es (List (Int × Int × List Int × List Int)) g__1 g__1h, Es (List Int) g__2 g__2h, Es (List Int) g__3 g__3h, Es (List (Int × Int × List Int × List Int)) open__0_1 open__0_1h, Es (List Int) open__0_2 open__0_2h, Es (List Int) open__0_3 open__0_3h, Es (List Int) open__1_0 open__1_0h, Es (List Int) open__1_1 open__1_1h, Es MI open__2 open__2h, Es MI open__3 open__3h, Es (List Int) open__4 open__4h, Es (List Int) open__5 open__5h] [Bx open_b [(.int .i64 open__0_0), (open__0_1h).v, (open__0_2h).v, (open__0_3h).v, (open__1_0h).v, (open__1_1h).v, (open__2h).v, (open__3h).v, (open__4h).v, (open__5h).v]] (fun v Γ' => ∃ z0 : Hd, v = (z0).v ∧ Γ' = [Bx open_b [(.int .i64 open__0_0), (open__0_1h).v, (open__0_2h).v, (open__0_3h).v, (open__1_0h).v, (open__1_1h).v, (open__2h).v, (open__3h).v, (open__4h).v, (open__5h).v], E (List Int) y z0]) := by
 intro w0 S0 fp0 hI hS
 have H : Cx w0 fp0 S0 w0 [Es (List (Int × Int × List Int × List Int)) g__1 g__1h, Es (List Int) g__2 g__2h, Es (List Int) g__3 g__3h, Es (List (Int × Int × List Int × List Int)) open__0_1 open__0_1h, Es (List Int) open__0_2 open__0_2h, Es (List Int) open__0_3 open__0_3h, Es (List Int) open__1_0 open__1_0h, Es (List Int) open__1_1 open__1_1h, Es MI open__2 open__2h, Es MI open__3 open__3h, Es (List Int) open__4 open__4h, Es (List Int) open__5 open__5h, Bx open_b [(.int .i64 open__0_0), (open__0_1h).v, (open__0_2h).v, (open__0_3h).v, (open__1_0h).v, (open__1_1h).v, (open__2h).v, (open__3h).v, (open__4h).v, (open__5h).v]] := Cx.start hI hS
 clear hI hS
 refine enterC (args := [_, _]) gok Tryz.func104 rfl _ rfl rfl rfl ?_
 refine box_ H ?_; clear H; intro b5 w4 hx H
 clear hx
 replace H : Cx w0 fp0 S0 w4 [Bx b5 [(.int .i64 g__0), (g__1h).v, (g__2h).v, (g__3h).v], Bx open_b [(.int .i64 open__0_0), (open__0_1h).v, (open__0_2h).v, (open__0_3h).v, (open__1_0h).v, (open__1_1h).v, (open__2h).v, (open__3h).v, (open__4h).v, (open__5h).v], Es (List (Int × Int × List Int × List Int)) g__1 g__1h, Es (List Int) g__2 g__2h, Es (List Int) g__3 g__3h, Es MI open__2 open__2h] := H.sel [0, 13, 1, 2, 3, 9] rfl
 refine loadN [(.int .i64 g__0), (g__1h).v, (g__2h).v, (g__3h).v] rfl (fun j u hj => H.bx 0 rfl hj) ?_
 obtain ⟨y7, e, hF8⟩ := bindS hF; clear hF
 obtain ⟨y7, y0⟩ := y7
 have ey7 := e; clear e
 refine callF (impl_Graph_components_c g__0 g__1 g__1h g__2 g__2h g__3 g__3h y7 y0 ey7) (Γi := []) H ⟨Vw.sh 2 rfl, Vw.sh 3 rfl, Vw.sh 4 rfl, trivial⟩ ?_; clear H ey7
 rintro _ _ w9 ⟨h0, rfl, rfl⟩ H
 refine mkML H ?_; clear H; intro bm w1 hx H
 clear hx
 refine sq ?_
 refine fld gok rfl rfl rfl rfl ?_
 refine load1 (H.bx 2 rfl (j := 1) rfl) ?_
 refine lenE (H.rs (α := List (Int × Int × List Int × List Int)) 4 rfl).len ?_
 have x0 := (H.rs (α := List (Int × Int × List Int × List Int)) 4 rfl).max
 obtain ⟨r0, e, f0⟩ := bindS hF8; clear hF8
 obtain ⟨hc, hy⟩ := cond_some f0; clear f0
 have hc : (decide (g__1.length ≤ maxN) && open__2.kvs.all (fun p => (idxO y7 p.1).isSome) && r0.all (fun c => open__2.kvs.any fun p => decide (idxO y7 p.1 = some c))) = true := hc
 rw [Bool.and_eq_true, Bool.and_eq_true, decide_eq_true_eq] at hc
 obtain ⟨⟨hmxN, hall⟩, hany⟩ := hc
 refine loopS _ g__1.length (fun (k0 : Nat) (s : List Int) (_ : List Int) => [(1, (.pointer (some ⟨open_b, 0, none⟩))), (2, (.pointer (some ⟨b5, 0, none⟩))), (5, (h0).v), (7, (.map (some bm))), (22, (g__1h).v), (23, (.int .i64 ((g__1.length : Nat) : Int))), (24, (.int .i64 ((k0 : Nat) : Int)))]) (fun k0 (s : List Int) (ks : List Int) w' => (∀ c ∈ ks, c ∈ s) ∧ Cx w0 fp0 S0 w' [EML bm ks k0 none, E (List Int) y7 h0, Bx b5 [(.int .i64 g__0), (g__1h).v, (g__2h).v, (g__3h).v], Bx open_b [(.int .i64 open__0_0), (open__0_1h).v, (open__0_2h).v, (open__0_3h).v, (open__1_0h).v, (open__1_1h).v, (open__2h).v, (open__3h).v, (open__4h).v, (open__5h).v], Es (List (Int × Int × List Int × List Int)) g__1 g__1h, Es (List Int) g__2 g__2h, Es (List Int) g__3 g__3h, Es MI open__2 open__2h]) [] [] e ⟨rfl, rfl, rfl, rfl, rfl, rfl, rfl, trivial⟩ ⟨fun _ h => h, H⟩ ?_ ?_
 ·
  clear H e
  rintro T0 k0 s0 ks w2 o0 hk ⟨hks, (H : Cx w0 fp0 S0 w2 [EML bm ks k0 none, E (List Int) y7 h0, Bx b5 [(.int .i64 g__0), (g__1h).v, (g__2h).v, (g__3h).v], Bx open_b [(.int .i64 open__0_0), (open__0_1h).v, (open__0_2h).v, (open__0_3h).v, (open__1_0h).v, (open__1_1h).v, (open__2h).v, (open__3h).v, (open__4h).v, (open__5h).v], Es (List (Int × Int × List Int × List Int)) g__1 g__1h, Es (List Int) g__2 g__2h, Es (List Int) g__3 g__3h, Es MI open__2 open__2h])⟩ f1
  refine boolE (z := true) (ltLen hk) ?_
  refine sq ?_
  refine sq ?_
  obtain ⟨a0, e, f2⟩ := bindS f1; clear f1
  have HH := H; clear H; obtain ⟨p0, m0, g0, c0, c1, c2, c3, H⟩ := HH.el (α := Int × Int × List Int × List Int) 4 rfl e; clear HH
  clear e
  obtain ⟨a0_0, a0_1, a0_2, a0_3⟩ := a0
  obtain ⟨_, _, h3, h4⟩ := g0
  replace H := H.part (β := List Int) a0_2 (h3 : Hd) 0 rfl (fun S h => (And.left (And.right (And.right h))))
  replace H := H.part (β := List Int) a0_3 (h4 : Hd) 1 rfl (fun S h => (And.right (And.right (And.right h))))
  replace H := H.sel [0, 1, 3, 4, 5, 6, 7, 8, 9, 10] rfl
  refine idxE c0 c1 c2 ?_; clear c0 c1 c2
  refine loadN [(.int .i64 a0_0), (.int .i64 a0_1), (h3).v, (h4).v] rfl c3 ?_; clear c3
  refine alloc_ gok rfl H ?_; clear H; intro b0 w3 hx H
  clear hx
  refine stA gok [(.int .i64 a0_0), (.int .i64 a0_1), (h3).v, (h4).v] rfl H rfl rfl rfl ?_; clear H; intro w5 H
  refine fld gok rfl rfl rfl rfl ?_
  refine load1 (H.bx 0 rfl (j := 2) rfl) ?_
  refine fld gok rfl rfl rfl rfl ?_
  refine load1 (H.bx 0 rfl (j := 3) rfl) ?_
  replace H := H.dup 1 rfl persS
  replace H := H.dup 3 rfl persS
  refine litN (α := Sh (List Int)) (us := [(h3).v, (h4).v]) (xs := [a0_2, a0_3]) (gs := ([h3, h4] : List Hd)) gok rfl rfl rfl ⟨rfl, rfl, trivial⟩ rfl rfl H ?_; clear H; intro h5 w6 hx H
  clear hx
  obtain ⟨y1, e, f3⟩ := bindS f2; clear f2
  have i0 := e; clear e
  refine callF (impl_joined_c [a0_2, a0_3] h5 y1 i0) (Γi := []) H ⟨Vw.part (β := List (List Int)) (Vw.own (α := List (Sh (List Int))) 0 rfl) [a0_2, a0_3] h5 (fun S h => h), trivial⟩ ?_; clear H i0
  rintro _ _ w7 ⟨h6, rfl, rfl⟩ H
  obtain ⟨a1, e, f4⟩ := bindS f3; clear f3
  obtain ⟨p1, m1, c4, c5, c6, c7⟩ := (H.ro (α := List Int) 0 rfl).at1 e; clear e
  refine idxE c4 c5 c6 ?_; clear c4 c5 c6
  refine load1 c7 ?_; clear c7
  obtain ⟨a2, e, f5⟩ := bindS f4; clear f4
  obtain ⟨p2, m2, c8, c9, c10, c11⟩ := (H.ro (α := List Int) 6 rfl).at1 e; clear e
  refine idxE c8 c9 c10 ?_; clear c8 c9 c10
  refine load1 c11 ?_; clear c11
  replace H : Cx w0 fp0 S0 w7 [EML bm ks k0 none, E (List Int) y7 h0, Bx b5 [(.int .i64 g__0), (g__1h).v, (g__2h).v, (g__3h).v], Bx open_b [(.int .i64 open__0_0), (open__0_1h).v, (open__0_2h).v, (open__0_3h).v, (open__1_0h).v, (open__1_1h).v, (open__2h).v, (open__3h).v, (open__4h).v, (open__5h).v], Es (List (Int × Int × List Int × List Int)) g__1 g__1h, Es (List Int) g__2 g__2h, Es (List Int) g__3 g__3h, Es MI open__2 open__2h] := H.sel [5, 6, 7, 8, 9, 10, 11, 12] rfl
  refine lookML gok Tryz.underlying153 Tryz.underlying3 rfl H ?_; clear H; intro l hl hll H
  refine lit1S (α := Int) gok rfl rfl rfl rfl H ?_; clear H; intro h7 w8 hx H
  clear hx
  replace H := H.sel [1, 0, 2, 3, 4, 5, 6, 7, 8, 9] rfl
  have e : appO l [((k0 : Nat) : Int)] = some (l ++ [((k0 : Nat) : Int)]) := by
   unfold appO
   rw [if_pos (by simp only [List.length_cons, List.length_nil]; omega)]
  refine append_ (α := Int) gok rfl rfl rfl rfl H e ?_; clear e H; intro h8 w10 H
  refine updML (N' := k0 + 1) Tryz.underlying153 Tryz.underlying3 H (by simp; omega) (Nat.le_succ _) ?_; clear H; intro w12 ks' hks' H
  refine arK hk x0 ?_
  have hs := Option.some.inj f5; subst hs; clear f5
  refine ⟨ks', ⟨rfl, rfl, rfl, rfl, rfl, rfl, rfl, trivial⟩, fun c hc => ?_, H⟩
  rcases hks' c hc with h | h
  ·
   exact List.mem_append_left _ (hks c h)
  ·
   exact List.mem_append_right _ (by rw [h]; simp)
 ·
  clear H e
  rintro T1 ks w13 ⟨hks, (H : Cx w0 fp0 S0 w13 [EML bm ks g__1.length none, E (List Int) y7 h0, Bx b5 [(.int .i64 g__0), (g__1h).v, (g__2h).v, (g__3h).v], Bx open_b [(.int .i64 open__0_0), (open__0_1h).v, (open__0_2h).v, (open__0_3h).v, (open__1_0h).v, (open__1_1h).v, (open__2h).v, (open__3h).v, (open__4h).v, (open__5h).v], Es (List (Int × Int × List Int × List Int)) g__1 g__1h, Es (List Int) g__2 g__2h, Es (List Int) g__3 g__3h, Es MI open__2 open__2h])⟩
  refine boolE (z := false) geLen ?_
  refine sq ?_
  refine sq ?_
  refine fld gok rfl rfl rfl rfl ?_
  refine load1 (H.bx 3 rfl (j := 6) rfl) ?_
  refine rangeM Tryz.underlying129 H 7 rfl ?_; clear H; intro bi w14 hx hkk H
  clear hx
  refine loopKV (fun (_ : Unit) (_ _ : Int) => some ()) (fun _ _ _ _ _ _ => rfl) open__2.kvs hkk (fun (_ : Unit) (_ : List Int) => [(1, (.pointer (some ⟨open_b, 0, none⟩))), (2, (.pointer (some ⟨b5, 0, none⟩))), (5, (h0).v), (7, (.map (some bm))), (53, (.pointer (some ⟨bi, 0, none⟩)))]) (fun lf (_ : Unit) (ks : List Int) w' => ((∀ p ∈ lf, p ∈ open__2.kvs) ∧ ∀ c ∈ ks, ∃ p ∈ lf, idxO y7 p.1 = some c) ∧ Cx w0 fp0 S0 w' [EML bm ks g__1.length none, E (List Int) y7 h0, Bx b5 [(.int .i64 g__0), (g__1h).v, (g__2h).v, (g__3h).v], Bx open_b [(.int .i64 open__0_0), (open__0_1h).v, (open__0_2h).v, (open__0_3h).v, (open__1_0h).v, (open__1_1h).v, (open__2h).v, (open__3h).v, (open__4h).v, (open__5h).v], Es (List (Int × Int × List Int × List Int)) g__1 g__1h, Es (List Int) g__2 g__2h, Es (List Int) g__3 g__3h, Es MI open__2 open__2h, It open__2h bi none lf]) () ks (kvO_unit _) ⟨rfl, rfl, rfl, rfl, rfl, trivial⟩ ⟨⟨fun p hp => hp, fun c hc => ?_⟩, H.sel [1, 2, 3, 4, 5, 6, 7, 8, 0] rfl⟩ ?_ ?_
  ·
   have := List.all_eq_true.1 hany c (hks c hc)
   obtain ⟨p, hp, h⟩ := List.any_eq_true.1 this
   exact ⟨p, hp, of_decide_eq_true h⟩
  ·
   clear H
   rintro T2 lf _ ks w15 J0 hne ⟨⟨hlf, hkl⟩, (H : Cx w0 fp0 S0 w15 [EML bm ks g__1.length none, E (List Int) y7 h0, Bx b5 [(.int .i64 g__0), (g__1h).v, (g__2h).v, (g__3h).v], Bx open_b [(.int .i64 open__0_0), (open__0_1h).v, (open__0_2h).v, (open__0_3h).v, (open__1_0h).v, (open__1_1h).v, (open__2h).v, (open__3h).v, (open__4h).v, (open__5h).v], Es (List (Int × Int × List Int × List Int)) g__1 g__1h, Es (List Int) g__2 g__2h, Es (List Int) g__3 g__3h, Es MI open__2 open__2h, It open__2h bi none lf])⟩ hgo
   replace H := H.sel [8, 0, 1, 2, 3, 4, 5, 6, 7] rfl
   refine nextM H hne ?_; clear H; intro k v lf' w16 hp H
   obtain ⟨_, _, hj⟩ := hgo _ _ _ hp
   refine sq ?_
   refine entryM H 0 rfl ?_
   have hmem : (k, v) ∈ open__2.kvs := hlf _ (hp.mem_iff.2 (.head _))
   obtain ⟨a3, e⟩ := Option.isSome_iff_exists.1 (List.all_eq_true.1 hall _ hmem)
   have e' := e
   obtain ⟨p3, m3, c12, c13, c14, c15⟩ := (H.ro (α := List Int) 2 rfl).at1 e
   refine idxE c12 c13 c14 ?_; clear c12 c13 c14
   refine load1 c15 ?_; clear c15
   replace H := H.itEnd
   replace H := H.sel [1, 2, 3, 4, 5, 6, 7, 8, 0] rfl
   refine delML Tryz.underlying153 Tryz.underlying3 H ?_; clear H; intro w17 ks' hks' H
   refine hj ks' _ _ ⟨rfl, rfl, rfl, rfl, rfl, trivial⟩ ⟨⟨fun p h => hlf p (hp.mem_iff.2 (.tail _ h)), fun c hc => ?_⟩, H⟩
   obtain ⟨h1, h2⟩ := hks' c hc
   obtain ⟨p, hp1, hp2⟩ := hkl c h1
   rcases List.mem_cons.1 (hp.mem_iff.1 hp1) with rfl | h
   ·
    rw [e'] at hp2
    exact (h2 (Option.some.inj hp2).symm).elim
   ·
    exact ⟨p, h, hp2⟩
  ·
   clear H
   rintro T3 ks w18 ⟨⟨_, hkl⟩, (H : Cx w0 fp0 S0 w18 [EML bm ks g__1.length none, E (List Int) y7 h0, Bx b5 [(.int .i64 g__0), (g__1h).v, (g__2h).v, (g__3h).v], Bx open_b [(.int .i64 open__0_0), (open__0_1h).v, (open__0_2h).v, (open__0_3h).v, (open__1_0h).v, (open__1_1h).v, (open__2h).v, (open__3h).v, (open__4h).v, (open__5h).v], Es (List (Int × Int × List Int × List Int)) g__1 g__1h, Es (List Int) g__2 g__2h, Es (List Int) g__3 g__3h, Es MI open__2 open__2h, It open__2h bi none []])⟩
   obtain rfl : ks = [] := by
    cases ks with
    | nil => rfl
    | cons c ks => obtain ⟨p, hp, _⟩ := hkl c (.head _); cases hp
   replace H := H.sel [8, 0, 1, 2, 3, 4, 5, 6, 7] rfl
   refine nextN H ?_
   refine sq ?_
   refine lit0 (α := Int) gok rfl rfl H ?_; clear H; intro h9 w19 hx H
   clear hx
   replace H := H.sel [2, 0, 5] rfl
   refine sq ?_
   refine rangeML Tryz.underlying153 H ?_; clear H; intro r1 w20 H
   refine loop (σ := Unit) (fun _ => [(12, (h9).v), (65, (.pointer (some ⟨r1, 0, none⟩)))]) (fun _ w' => Cx w0 fp0 S0 w' [EIt bm r1, E (List Int) [] h9, Bx open_b [(.int .i64 open__0_0), (open__0_1h).v, (open__0_2h).v, (open__0_3h).v, (open__1_0h).v, (open__1_1h).v, (open__2h).v, (open__3h).v, (open__4h).v, (open__5h).v]]) (fun _ => 0) () ⟨rfl, rfl, trivial⟩ H ?_
   clear H
   rintro T4 _ w21 (H : Cx w0 fp0 S0 w21 [EIt bm r1, E (List Int) [] h9, Bx open_b [(.int .i64 open__0_0), (open__0_1h).v, (open__0_2h).v, (open__0_3h).v, (open__1_0h).v, (open__1_1h).v, (open__2h).v, (open__3h).v, (open__4h).v, (open__5h).v]])
   refine nextML H ?_
   refine sq ?_
   have hn := (H.ro (α := List Int) 1 rfl).len
   refine callF (sortFunc_0 h9 _ hn) (Γi := []) H trivial ?_; clear H
   rintro _ _ w22 ⟨rfl, rfl⟩ H
   cases hy
   exact ⟨_, _, rfl, ⟨h9, rfl, rfl⟩, (H.sel [2, 1] rfl).close ⟨cloB, cloE, trivial⟩⟩

theorem impl_Graph_canonicalNumbers_1_c (k_b : Nat) (k__0_0 : Int) (k__0_1 : List (Int × Int × List Int × List Int)) (k__0_1h : Hd) (k__0_2 : List Int) (k__0_2h : Hd) (k__0_3 : List Int) (k__0_3h : Hd) (k__1_0 : List Int) (k__1_0h : Hd) (k__1_1 : List Int) (k__1_1h : Hd) (k__2 : MI) (k__2h : Mh) (k__3 : MI) (k__3h : Mh) (k__4 : List Int) (k__4h : Hd) (k__5 : List Int) (k__5h : Hd) (c0_b : Nat) (c0_ : Int) (c1_b : Nat) (c1_ : List Int) (c1_h : Hd) (c2_b : Nat) (c2_ : Int) (c3_b : Nat) (c3_ : List Int) (c3_h : Hd) (y0 : Int) (y1 : List Int) (y2 : Int) (y3 : List Int) (hF : F_impl_Graph_canonicalNumbers_1 ((k__0_0, k__0_1, k__0_2, k__0_3), (k__1_0, k__1_1), k__2, k__3, k__4, k__5) c0_ c1_ c2_ c3_ = some (y0, y1, y2, y3)) :
  ConF Tryz.prog 103 #[(.pointer (some ⟨k_b, 0, none⟩)), (.pointer (some ⟨c0_b, 0, none⟩)), (.pointer (some ⟨c1_b, 0, none⟩)), (.pointer (some ⟨c2_b, 0, none⟩)), (.pointer (some ⟨c3_b, 0, none⟩))] [Es (List (Int × Int × List Int × List Int)) k__0_1 k__0_1h, Es (List Int) k__0_2 k__0_2h, Es (List Int) k__0_3 k__0_3h, Es (List Int) k__1_0 k__1_0h, Es (List Int) k__1_1 k__1_1h, Es MI k__2 k__2h, Es MI k__3 k__3h, Es (List Int) k__4 k__4h, Es (List Int) k__5 k__5h] [Bx k_b [(.int .i64 k__0_0), (k__0_1h).v, (k__0_2h).v, (k__0_3h).v, (k__1_0h).v, (k__1_1h).v, (k__2h).v, (k__3h).v, (k__4h).v, (k__5h).v], Bx c0_b [(.int .i64 c0_)], Bx c1_b [(c1_h).v], E (List Int) c1_ c1_h, Bx c2_b [(.int .i64 c2_)], Bx c3_b [(c3_h).v], E (List Int) c3_ c3_h] (fun v Γ' => v = (.tuple #[]) ∧ Γ' = [Bx k_b [(.int .i64 k__0_0), (k__0_1h).v, (k__0_2h).v, (k__0_3h).v, (k__1_0h).v, (k__1_1h).v, (k__2h).v, (k__3h).v, (k__4h).v, (k__5h).v], Bx c0_b [(.int .i64 y0)], Bx c1_b [(c1_h).v], E (List Int) y1 c1_h, Bx c2_b [(.int .i64 y2)], Bx c3_b [(c3_h).v], E (List Int) y3 c3_h]) := by
 intro w0 S0 fp0 hI hS
 have H : Cx w0 fp0 S0 w0 [Es (List (Int × Int × List Int × List Int)) k__0_1 k__0_1h, Es (List Int) k__0_2 k__0_2h, Es (List Int) k__0_3 k__0_3h, Es (List Int) k__1_0 k__1_0h, Es (List Int) k__1_1 k__1_1h, Es MI k__2 k__2h, Es MI k__3 k__3h, Es (List Int) k__4 k__4h, Es (List Int) k__5 k__5h, Bx k_b [(.int .i64 k__0_0), (k__0_1h).v, (k__0_2h).v, (k__0_3h).v, (k__1_0h).v, (k__1_1h).v, (k__2h).v, (k__3h).v, (k__4h).v, (k__5h).v], Bx c0_b [(.int .i64 c0_)], Bx c1_b [(c1_h).v], E (List Int) c1_ c1_h, Bx c2_b [(.int .i64 c2_)], Bx c3_b [(c3_h).v], E (List Int) c3_ c3_h] := Cx.start hI hS
 clear hI hS
 refine enterC (args := [_, _, _, _, _]) gok Tryz.func103 rfl _ rfl rfl rfl ?_
 obtain ⟨r0, f0, f1⟩ := bindS hF; clear hF
 refine cut (fun (q0 : List Int) => [(0, (.pointer (some ⟨k_b, 0, none⟩))), (1, (.pointer (some ⟨c0_b, 0, none⟩))), (3, (.pointer (some ⟨c2_b, 0, none⟩))), (4, (.pointer (some ⟨c3_b, 0, none⟩)))]) (fun (q0 : List Int) w' => q0 = r0 ∧ Cx w0 fp0 S0 w' [Bx k_b [(.int .i64 k__0_0), (k__0_1h).v, (k__0_2h).v, (k__0_3h).v, (k__1_0h).v, (k__1_1h).v, (k__2h).v, (k__3h).v, (k__4h).v, (k__5h).v], Es (List (Int × Int × List Int × List Int)) k__0_1 k__0_1h, Es (List Int) k__0_2 k__0_2h, Es (List Int) k__0_3 k__0_3h, Es (List Int) k__1_0 k__1_0h, Es (List Int) k__1_1 k__1_1h, Es MI k__2 k__2h, Es MI k__3 k__3h, Es (List Int) k__4 k__4h, Es (List Int) k__5 k__5h, Bx c0_b [(.int .i64 c0_)], Bx c2_b [(.int .i64 c2_)], Bx c3_b [(c3_h).v], E (List Int) c3_ c3_h, Bx c1_b [(c1_h).v], E (List Int) q0 c1_h]) ?_ ?_
 ·
  refine fld gok rfl rfl rfl rfl ?_
  refine load1 (H.bx 9 rfl (j := 6) rfl) ?_
  refine rangeM Tryz.underlying129 H 5 rfl ?_; clear H; intro b0 w1 hx hk95 H
  clear hx
  obtain ⟨r1, e, f2⟩ := bindS f0; clear f0
  refine loopKV _ (commNum _) k__2.kvs hk95 (fun (s0 : List Int) (_ : Unit) => [(0, (.pointer (some ⟨k_b, 0, none⟩))), (1, (.pointer (some ⟨c0_b, 0, none⟩))), (2, (.pointer (some ⟨c1_b, 0, none⟩))), (3, (.pointer (some ⟨c2_b, 0, none⟩))), (4, (.pointer (some ⟨c3_b, 0, none⟩))), (14, (.pointer (some ⟨b0, 0, none⟩)))]) (fun l0 (s0 : List Int) (_ : Unit) w' => Cx w0 fp0 S0 w' [Bx k_b [(.int .i64 k__0_0), (k__0_1h).v, (k__0_2h).v, (k__0_3h).v, (k__1_0h).v, (k__1_1h).v, (k__2h).v, (k__3h).v, (k__4h).v, (k__5h).v], Es (List (Int × Int × List Int × List Int)) k__0_1 k__0_1h, Es (List Int) k__0_2 k__0_2h, Es (List Int) k__0_3 k__0_3h, Es (List Int) k__1_0 k__1_0h, Es (List Int) k__1_1 k__1_1h, Es MI k__2 k__2h, Es MI k__3 k__3h, Es (List Int) k__4 k__4h, Es (List Int) k__5 k__5h, Bx c0_b [(.int .i64 c0_)], Bx c1_b [(c1_h).v], E (List Int) s0 c1_h, Bx c2_b [(.int .i64 c2_)], Bx c3_b [(c3_h).v], E (List Int) c3_ c3_h, It k__2h b0 none l0]) c1_ () e ⟨rfl, rfl, rfl, rfl, rfl, rfl, trivial⟩ (H.sel [10, 1, 2, 3, 4, 5, 6, 7, 8, 9, 11, 12, 13, 14, 15, 16, 0] rfl) ?_ ?_
  ·
   clear H e
   rintro T0 l0 s0 _ w2 J0 hne (H : Cx w0 fp0 S0 w2 [Bx k_b [(.int .i64 k__0_0), (k__0_1h).v, (k__0_2h).v, (k__0_3h).v, (k__1_0h).v, (k__1_1h).v, (k__2h).v, (k__3h).v, (k__4h).v, (k__5h).v], Es (List (Int × Int × List Int × List Int)) k__0_1 k__0_1h, Es (List Int) k__0_2 k__0_2h, Es (List Int) k__0_3 k__0_3h, Es (List Int) k__1_0 k__1_0h, Es (List Int) k__1_1 k__1_1h, Es MI k__2 k__2h, Es MI k__3 k__3h, Es (List Int) k__4 k__4h, Es (List Int) k__5 k__5h, Bx c0_b [(.int .i64 c0_)], Bx c1_b [(c1_h).v], E (List Int) s0 c1_h, Bx c2_b [(.int .i64 c2_)], Bx c3_b [(c3_h).v], E (List Int) c3_ c3_h, It k__2h b0 none l0]) hgo
   replace H := H.sel [16, 0, 1, 2, 3, 4, 5, 6, 7, 8, 9, 10, 11, 12, 13, 14, 15] rfl
   refine nextM H hne ?_; clear H; intro k0 v0 l1 w3 hp145 H
   obtain ⟨s1, f3, hj⟩ := hgo _ _ _ hp145
   refine sq ?_
   refine entryM H 0 rfl ?_
   refine load1 (H.bx0 12 rfl) ?_
   refine load1 (H.bx0 11 rfl) ?_
   obtain ⟨a0, e, f4⟩ := bindS f3; clear f3
   refine arO e ?_; clear e
   obtain ⟨a1, e, f5⟩ := bindS f4; clear f4
   have i0 := e; clear e
   obtain ⟨p0, m0, c0, c1, c2⟩ := (H.ro (α := List Int) 13 rfl).setp i0
   refine idxE c0 c1 c2 ?_
   replace H := H.sel [13, 0, 1, 2, 3, 4, 5, 6, 7, 8, 9, 10, 11, 12, 14, 15, 16] rfl
   refine setS (α := Int) H c0 c1 i0 ?_; clear H c0 c1 c2 i0; intro w4 H
   replace H := H.sel [1, 0, 2, 3, 4, 5, 6, 7, 8, 9, 10, 11, 12, 13, 14, 15, 16] rfl
   replace H := H.itEnd
   have hs := Option.some.inj f5; subst hs; clear f5
   exact hj () _ _ ⟨rfl, rfl, rfl, rfl, rfl, rfl, trivial⟩ (H.sel [2, 3, 4, 5, 6, 7, 8, 9, 10, 11, 12, 13, 1, 14, 15, 16, 0] rfl)
  ·
   clear H e
   rintro T1 _ w5 (H : Cx w0 fp0 S0 w5 [Bx k_b [(.int .i64 k__0_0), (k__0_1h).v, (k__0_2h).v, (k__0_3h).v, (k__1_0h).v, (k__1_1h).v, (k__2h).v, (k__3h).v, (k__4h).v, (k__5h).v], Es (List (Int × Int × List Int × List Int)) k__0_1 k__0_1h, Es (List Int) k__0_2 k__0_2h, Es (List Int) k__0_3 k__0_3h, Es (List Int) k__1_0 k__1_0h, Es (List Int) k__1_1 k__1_1h, Es MI k__2 k__2h, Es MI k__3 k__3h, Es (List Int) k__4 k__4h, Es (List Int) k__5 k__5h, Bx c0_b [(.int .i64 c0_)], Bx c1_b [(c1_h).v], E (List Int) r1 c1_h, Bx c2_b [(.int .i64 c2_)], Bx c3_b [(c3_h).v], E (List Int) c3_ c3_h, It k__2h b0 none []])
   replace H := H.sel [16, 0, 1, 2, 3, 4, 5, 6, 7, 8, 9, 10, 11, 12, 13, 14, 15] rfl
   refine nextN H ?_
   refine sq ?_
   exact ⟨r1, ⟨rfl, rfl, rfl, rfl, trivial⟩, Option.some.inj f2, H.sel [1, 2, 3, 4, 5, 6, 7, 8, 9, 10, 11, 14, 15, 16, 12, 13] rfl⟩
 ·
  clear f0 H
  rintro T2 s2 w6 ⟨hr, (H : Cx w0 fp0 S0 w6 [Bx k_b [(.int .i64 k__0_0), (k__0_1h).v, (k__0_2h).v, (k__0_3h).v, (k__1_0h).v, (k__1_1h).v, (k__2h).v, (k__3h).v, (k__4h).v, (k__5h).v], Es (List (Int × Int × List Int × List Int)) k__0_1 k__0_1h, Es (List Int) k__0_2 k__0_2h, Es (List Int) k__0_3 k__0_3h, Es (List Int) k__1_0 k__1_0h, Es (List Int) k__1_1 k__1_1h, Es MI k__2 k__2h, Es MI k__3 k__3h, Es (List Int) k__4 k__4h, Es (List Int) k__5 k__5h, Bx c0_b [(.int .i64 c0_)], Bx c2_b [(.int .i64 c2_)], Bx c3_b [(c3_h).v], E (List Int) c3_ c3_h, Bx c1_b [(c1_h).v], E (List Int) s2 c1_h])⟩
  subst hr
  obtain ⟨r2, f6, f7⟩ := bindS f1; clear f1
  refine cut (fun (q1 : List Int) => [(0, (.pointer (some ⟨k_b, 0, none⟩))), (1, (.pointer (some ⟨c0_b, 0, none⟩))), (3, (.pointer (some ⟨c2_b, 0, none⟩)))]) (fun (q1 : List Int) w' => q1 = r2 ∧ Cx w0 fp0 S0 w' [Bx k_b [(.int .i64 k__0_0), (k__0_1h).v, (k__0_2h).v, (k__0_3h).v, (k__1_0h).v, (k__1_1h).v, (k__2h).v, (k__3h).v, (k__4h).v, (k__5h).v], Es (List (Int × Int × List Int × List Int)) k__0_1 k__0_1h, Es (List Int) k__0_2 k__0_2h, Es (List Int) k__0_3 k__0_3h, Es (List Int) k__1_0 k__1_0h, Es (List Int) k__1_1 k__1_1h, Es MI k__2 k__2h, Es MI k__3 k__3h, Es (List Int) k__4 k__4h, Es (List Int) k__5 k__5h, Bx c0_b [(.int .i64 c0_)], Bx c2_b [(.int .i64 c2_)], Bx c3_b [(c3_h).v], E (List Int) q1 c3_h, Bx c1_b [(c1_h).v], E (List Int) s2 c1_h]) ?_ ?_
  ·
   refine fld gok rfl rfl rfl rfl ?_
   refine load1 (H.bx 0 rfl (j := 7) rfl) ?_
   refine rangeM Tryz.underlying129 H 7 rfl ?_; clear H; intro b1 w7 hx hk243 H
   clear hx
   obtain ⟨r3, e, f8⟩ := bindS f6; clear f6
   refine loopKV _ (commNum _) k__3.kvs hk243 (fun (s3 : List Int) (_ : Unit) => [(0, (.pointer (some ⟨k_b, 0, none⟩))), (1, (.pointer (some ⟨c0_b, 0, none⟩))), (3, (.pointer (some ⟨c2_b, 0, none⟩))), (4, (.pointer (some ⟨c3_b, 0, none⟩))), (30, (.pointer (some ⟨b1, 0, none⟩)))]) (fun l2 (s3 : List Int) (_ : Unit) w' => Cx w0 fp0 S0 w' [Bx k_b [(.int .i64 k__0_0), (k__0_1h).v, (k__0_2h).v, (k__0_3h).v, (k__1_0h).v, (k__1_1h).v, (k__2h).v, (k__3h).v, (k__4h).v, (k__5h).v], Es (List (Int × Int × List Int × List Int)) k__0_1 k__0_1h, Es (List Int) k__0_2 k__0_2h, Es (List Int) k__0_3 k__0_3h, Es (List Int) k__1_0 k__1_0h, Es (List Int) k__1_1 k__1_1h, Es MI k__2 k__2h, Es MI k__3 k__3h, Es (List Int) k__4 k__4h, Es (List Int) k__5 k__5h, Bx c0_b [(.int .i64 c0_)], Bx c2_b [(.int .i64 c2_)], Bx c3_b [(c3_h).v], E (List Int) s3 c3_h, It k__3h b1 none l2, Bx c1_b [(c1_h).v], E (List Int) s2 c1_h]) c3_ () e ⟨rfl, rfl, rfl, rfl, rfl, trivial⟩ (H.sel [1, 2, 3, 4, 5, 6, 7, 8, 9, 10, 11, 12, 13, 14, 0, 15, 16] rfl) ?_ ?_
   ·
    clear H e
    rintro T3 l2 s3 _ w8 J1 hne (H : Cx w0 fp0 S0 w8 [Bx k_b [(.int .i64 k__0_0), (k__0_1h).v, (k__0_2h).v, (k__0_3h).v, (k__1_0h).v, (k__1_1h).v, (k__2h).v, (k__3h).v, (k__4h).v, (k__5h).v], Es (List (Int × Int × List Int × List Int)) k__0_1 k__0_1h, Es (List Int) k__0_2 k__0_2h, Es (List Int) k__0_3 k__0_3h, Es (List Int) k__1_0 k__1_0h, Es (List Int) k__1_1 k__1_1h, Es MI k__2 k__2h, Es MI k__3 k__3h, Es (List Int) k__4 k__4h, Es (List Int) k__5 k__5h, Bx c0_b [(.int .i64 c0_)], Bx c2_b [(.int .i64 c2_)], Bx c3_b [(c3_h).v], E (List Int) s3 c3_h, It k__3h b1 none l2, Bx c1_b [(c1_h).v], E (List Int) s2 c1_h]) hgo
    replace H := H.sel [14, 0, 1, 2, 3, 4, 5, 6, 7, 8, 9, 10, 11, 12, 13, 15, 16] rfl
    refine nextM H hne ?_; clear H; intro k1 v1 l3 w9 hp293 H
    obtain ⟨s4, f9, hj⟩ := hgo _ _ _ hp293
    refine sq ?_
    refine entryM H 0 rfl ?_
    refine load1 (H.bx0 13 rfl) ?_
    refine load1 (H.bx0 12 rfl) ?_
    obtain ⟨a2, e, f10⟩ := bindS f9; clear f9
    refine arO e ?_; clear e
    obtain ⟨a3, e, f11⟩ := bindS f10; clear f10
    have i1 := e; clear e
    obtain ⟨p1, m1, c3, c4, c5⟩ := (H.ro (α := List Int) 14 rfl).setp i1
    refine idxE c3 c4 c5 ?_
    replace H := H.sel [14, 0, 1, 2, 3, 4, 5, 6, 7, 8, 9, 10, 11, 12, 13, 15, 16] rfl
    refine setS (α := Int) H c3 c4 i1 ?_; clear H c3 c4 c5 i1; intro w10 H
    replace H := H.sel [1, 0, 2, 3, 4, 5, 6, 7, 8, 9, 10, 11, 12, 13, 14, 15, 16] rfl
    replace H := H.itEnd
    have hs := Option.some.inj f11; subst hs; clear f11
    exact hj () _ _ ⟨rfl, rfl, rfl, rfl, rfl, trivial⟩ (H.sel [2, 3, 4, 5, 6, 7, 8, 9, 10, 11, 12, 13, 14, 1, 0, 15, 16] rfl)
   ·
    clear H e
    rintro T4 _ w11 (H : Cx w0 fp0 S0 w11 [Bx k_b [(.int .i64 k__0_0), (k__0_1h).v, (k__0_2h).v, (k__0_3h).v, (k__1_0h).v, (k__1_1h).v, (k__2h).v, (k__3h).v, (k__4h).v, (k__5h).v], Es (List (Int × Int × List Int × List Int)) k__0_1 k__0_1h, Es (List Int) k__0_2 k__0_2h, Es (List Int) k__0_3 k__0_3h, Es (List Int) k__1_0 k__1_0h, Es (List Int) k__1_1 k__1_1h, Es MI k__2 k__2h, Es MI k__3 k__3h, Es (List Int) k__4 k__4h, Es (List Int) k__5 k__5h, Bx c0_b [(.int .i64 c0_)], Bx c2_b [(.int .i64 c2_)], Bx c3_b [(c3_h).v], E (List Int) r3 c3_h, It k__3h b1 none [], Bx c1_b [(c1_h).v], E (List Int) s2 c1_h])
    replace H := H.sel [14, 0, 1, 2, 3, 4, 5, 6, 7, 8, 9, 10, 11, 12, 13, 15, 16] rfl
    refine nextN H ?_
    refine sq ?_
    exact ⟨r3, ⟨rfl, rfl, rfl, trivial⟩, Option.some.inj f8, H.sel [1, 2, 3, 4, 5, 6, 7, 8, 9, 10, 11, 12, 13, 14, 15, 16] rfl⟩
  ·
   clear f6 H
   rintro T5 s5 w12 ⟨hr, (H : Cx w0 fp0 S0 w12 [Bx k_b [(.int .i64 k__0_0), (k__0_1h).v, (k__0_2h).v, (k__0_3h).v, (k__1_0h).v, (k__1_1h).v, (k__2h).v, (k__3h).v, (k__4h).v, (k__5h).v], Es (List (Int × Int × List Int × List Int)) k__0_1 k__0_1h, Es (List Int) k__0_2 k__0_2h, Es (List Int) k__0_3 k__0_3h, Es (List Int) k__1_0 k__1_0h, Es (List Int) k__1_1 k__1_1h, Es MI k__2 k__2h, Es MI k__3 k__3h, Es (List Int) k__4 k__4h, Es (List Int) k__5 k__5h, Bx c0_b [(.int .i64 c0_)], Bx c2_b [(.int .i64 c2_)], Bx c3_b [(c3_h).v], E (List Int) s5 c3_h, Bx c1_b [(c1_h).v], E (List Int) s2 c1_h])⟩
   subst hr
   refine heldX H [7] (.fst 1 (.fst 2 (.fst 3 (.fst 0 (.fst 4 (.act 5 (.fst 6 (.act 7 .done)))))))) mixed [] trivial (by kernel_rfl) ?_
   clear H; intro w13 H
   have hX : Ext w13 w13 := Upd.refl _ _
   have H0 := H
   refine anyH (fun _ => fld gok rfl rfl rfl rfl ⟨rfl, rfl⟩) ?_
   refine load1X (H.bx0 10 rfl) ?_
   refine load1X (H.bx 0 rfl (j := 6) rfl) ?_
   refine lenM Tryz.underlying129 (H.rs (α := MI) 6 rfl) ?_
   refine hold hX ?_
   obtain ⟨a4, e, f12⟩ := bindS f7; clear f7
   refine arO e ?_; clear e
   replace H := H.sel [10, 0, 1, 2, 3, 4, 5, 6, 7, 8, 9, 11, 12, 13, 14, 15] rfl
   refine stB0 H rfl ?_; clear H; intro w14 H
   refine hold trivial ?_
   refine heldX H [7] (.fst 1 (.fst 2 (.fst 3 (.fst 0 (.fst 4 (.act 5 (.fst 6 (.act 7 .done)))))))) mixed [] trivial (by kernel_rfl) ?_
   clear H; intro w15 H
   have hX : Ext w15 w15 := Upd.refl _ _
   have H0 := H
   refine anyH (fun _ => fld gok rfl rfl rfl rfl ⟨rfl, rfl⟩) ?_
   refine load1X (H.bx0 11 rfl) ?_
   refine load1X (H.bx 1 rfl (j := 7) rfl) ?_
   refine lenM Tryz.underlying129 (H.rs (α := MI) 8 rfl) ?_
   refine hold hX ?_
   obtain ⟨a5, e, f13⟩ := bindS f12; clear f12
   refine arO e ?_; clear e
   replace H := H.sel [11, 0, 1, 2, 3, 4, 5, 6, 7, 8, 9, 10, 12, 13, 14, 15] rfl
   refine stB0 H rfl ?_; clear H; intro w16 H
   refine hold trivial ?_
   cases f13
   exact ⟨_, _, rfl, ⟨rfl, rfl⟩, (H.sel [2, 1, 14, 15, 0, 12, 13] rfl).close ⟨cloB, cloB, cloB, cloE, cloB, cloB, cloE, trivial⟩⟩

theorem impl_Graph_canonicalNumbers_c (g__0 : Int) (g__1 : List (Int × Int × List Int × List Int)) (g__1h : Hd) (g__2 : List Int) (g__2h : Hd) (g__3 : List Int) (g__3h : Hd) (y0 : List Int) (y1 : List Int) (hF : F_impl_Graph_canonicalNumbers (g__0, g__1, g__2, g__3) = some (y0, y1)) :
  ConF Tryz.prog 82 #[(.agg #[(.int .i64 g__0), (g__1h).v, (g__2h).v, (g__3h).v])] [Es (List (Int × Int × List Int × List Int)) g__1 g__1h, Es (List Int) g__2 g__2h, Es (List Int) g__3 g__3h] [] (fun v Γ' => ∃ z0 z1 : Hd, v = (.tuple #[(z0).v, (z1).v]) ∧ Γ' = [E (List Int) y0 z0, E (List Int) y1 z1]) := by
 intro w0 S0 fp0 hI hS
 have H : Cx w0 fp0 S0 w0 [Es (List (Int × Int × List Int × List Int)) g__1 g__1h, Es (List Int) g__2 g__2h, Es (List Int) g__3 g__3h] := Cx.start hI hS
 clear hI hS
 refine enterC (args := [_]) gok Tryz.func82 rfl _ rfl rfl rfl ?_
 refine box_ H ?_; clear H; intro b5 w4 hx H
 clear hx
 refine loadN [(.int .i64 g__0), (g__1h).v, (g__2h).v, (g__3h).v] rfl (fun j u hj => H.bx 0 rfl hj) ?_
 obtain ⟨y7, e, hF8⟩ := bindS hF; clear hF
 obtain ⟨⟨y7_0_0, y7_0_1, y7_0_2, y7_0_3⟩, ⟨y7_1_0, y7_1_1⟩, y7_2, y7_3, y7_4, y7_5⟩ := y7
 have ey7 := e; clear e
 refine callF (impl_Graph_openWalk_c g__0 g__1 g__1h g__2 g__2h g__3 g__3h y7_0_0 y7_0_1 y7_0_2 y7_0_3 y7_1_0 y7_1_1 y7_2 y7_3 y7_4 y7_5 ey7) (Γi := []) H ⟨Vw.sh 1 rfl, Vw.sh 2 rfl, Vw.sh 3 rfl, trivial⟩ ?_; clear H ey7
 rintro _ _ w9 ⟨b0, h0, h1, h2, h3, h4, h5, rfl, rfl⟩ H
 obtain ⟨r0, f0, f1⟩ := bindS hF8; clear hF8
 refine heldJ H [] (.fst 0 (.fst 3 (.fst 1 (.fst 4 (.fst 5 (.alts (.alt 2 (.alts (.alt 6 (.alts (.alt 7 (.act 8 (.act 9 (.act 10 .done))) (.alt 8 (.act 7 (.act 9 (.act 10 .done))) .no))) (.alt 7 (.alts (.alt 6 (.act 8 (.act 9 (.act 10 .done))) (.alt 8 (.act 6 (.act 9 (.act 10 .done))) .no))) (.alt 8 (.alts (.alt 6 (.act 7 (.act 9 (.act 10 .done))) (.alt 7 (.act 6 (.act 9 (.act 10 .done))) .no))) .no)))) (.alt 7 (.alts (.alt 2 (.alts (.alt 6 (.act 8 (.act 9 (.act 10 .done))) (.alt 8 (.act 6 (.act 9 (.act 10 .done))) .no))) (.alt 8 (.act 2 (.act 6 (.act 9 (.act 10 .done)))) .no))) (.alt 8 (.alts (.alt 2 (.alts (.alt 6 (.act 7 (.act 9 (.act 10 .done))) (.alt 7 (.act 6 (.act 9 (.act 10 .done))) .no))) (.alt 7 (.act 2 (.act 6 (.act 9 (.act 10 .done)))) .no))) .no))))))))) mixed [] trivial (by kernel_rfl) (fun (q0 : (List Int × List Int) × (Hd × Hd × Nat × Nat)) => [(1, (.pointer (some ⟨b5, 0, none⟩))), (4, (.pointer (some ⟨b0, 0, none⟩))), (5, (.pointer (some ⟨q0.2.2.2.1, 0, none⟩))), (6, (.pointer (some ⟨q0.2.2.2.2, 0, none⟩)))]) (fun (q0 : (List Int × List Int) × (Hd × Hd × Nat × Nat)) w' => (q0.1.1, q0.1.2) = r0 ∧ Cx w0 fp0 S0 w' [Bx b5 [(.int .i64 g__0), (g__1h).v, (g__2h).v, (g__3h).v], Es (List (Int × Int × List Int × List Int)) g__1 g__1h, Es (List Int) g__2 g__2h, Es (List Int) g__3 g__3h, Bx b0 [(.int .i64 y7_0_0), (g__1h).v, (g__2h).v, (g__3h).v, (h0).v, (h1).v, (h2).v, (h3).v, (h4).v, (h5).v], E (List Int) y7_1_0 h0, E (List Int) y7_1_1 h1, E MI y7_2 h2, E MI y7_3 h3, E (List Int) y7_4 h4, E (List Int) y7_5 h5, Bx q0.2.2.2.1 [(q0.2.1).v], E (List Int) q0.1.1 q0.2.1, Bx q0.2.2.2.2 [(q0.2.2.1).v], E (List Int) q0.1.2 q0.2.2.1]) ?_ ?_
 ·
  clear H; intro w1 H
  have hX : Ext w1 w1 := Upd.refl _ _
  have H0 := H
  refine anyH (fun _ => fld gok rfl rfl rfl rfl ⟨rfl, rfl⟩) ?_
  refine anyH (fun _ => fld gok rfl rfl rfl rfl ⟨rfl, rfl⟩) ?_
  refine load1X (H.bx 7 rfl (j := 0) rfl) ?_
  refine load1X (H.bx 7 rfl (j := 1) rfl) ?_
  refine lenE (H.rs (α := List (Int × Int × List Int × List Int)) 8 rfl).len ?_
  refine both ?_ ?_
  ·
   obtain ⟨y2, e, f2⟩ := bindS f0; clear f0
   have i0 := e; clear e
   refine callFx (impl_repeated_c (-1) g__0 y2 i0) H trivial ?_; clear H i0
   rintro _ _ w2 ⟨h6, rfl, rfl⟩ hx H
   replace hX := hX.trans0 hx; clear hx
   refine hold hX ?_
   refine both ?_ ?_
   ·
    obtain ⟨y3, e, f3⟩ := bindS f2; clear f2
    have i1 := e; clear e
    refine callFx (impl_repeated_c (-1) ((g__1.length : Nat) : Int) y3 i1) H trivial ?_; clear H i1
    rintro _ _ w3 ⟨h7, rfl, rfl⟩ hx H
    replace hX := hX.trans0 hx; clear hx
    refine hold hX ?_
    refine both ?_ ?_
    ·
     refine allocX gok rfl H ?_; clear H; intro b1 w5 hx v0 H; replace v0 := Nat.le_trans hX.size v0
     replace hX := hX.trans0 hx; clear hx
     refine hold hX ?_
     refine allocX gok rfl H ?_; clear H; intro b2 w6 hx v1 H; replace v1 := Nat.le_trans hX.size v1
     replace hX := hX.trans0 hx; clear hx
     refine hold hX ?_
     replace H := H.sel [1, 0, 2, 3, 4, 5, 6, 7, 8, 9, 10, 11, 12, 13, 14] rfl
     refine stB0X H rfl ?_; clear H; intro w7 hu H
     replace hX := hX.fresh hu v0; clear hu
     refine hold hX ?_
     replace H := H.sel [1, 0, 2, 3, 4, 5, 6, 7, 8, 9, 10, 11, 12, 13, 14] rfl
     refine stB0X H rfl ?_; clear H; intro w8 hu H
     replace hX := hX.fresh hu v1; clear hu
     refine hold hX ?_
     exact ⟨((y2, y3), (h6, h7, b1, b2)), ⟨rfl, rfl, rfl, rfl, trivial⟩, Option.some.inj f3, H.sel [11, 12, 13, 14, 4, 5, 6, 7, 8, 9, 10, 1, 3, 0, 2] rfl⟩
    ·
     refine both ?_ ?_
     ·
      refine allocX gok rfl H ?_; clear H; intro b3 w10 hx v2 H; replace v2 := Nat.le_trans hX.size v2
      replace hX := hX.trans0 hx; clear hx
      refine hold hX ?_
      refine allocX gok rfl H ?_; clear H; intro b4 w11 hx v3 H; replace v3 := Nat.le_trans hX.size v3
      replace hX := hX.trans0 hx; clear hx
      refine hold hX ?_
      refine stB0X H rfl ?_; clear H; intro w12 hu H
      replace hX := hX.fresh hu v3; clear hu
      refine hold hX ?_
      replace H := H.sel [1, 0, 2, 3, 4, 5, 6, 7, 8, 9, 10, 11, 12, 13, 14] rfl
      refine stB0X H rfl ?_; clear H; intro w13 hu H
      replace hX := hX.fresh hu v2; clear hu
      refine hold hX ?_
      exact ⟨((y2, y3), (h6, h7, b4, b3)), ⟨rfl, rfl, rfl, rfl, trivial⟩, Option.some.inj f3, H.sel [11, 12, 13, 14, 4, 5, 6, 7, 8, 9, 10, 1, 3, 0, 2] rfl⟩
     ·
      exact trivial
   ·
    refine both ?_ ?_
    ·
     obtain ⟨a0, o0, f4⟩ := bindS f2; clear f2
     refine allocX gok rfl H ?_; clear H; intro b6 w14 hx v4 H; replace v4 := Nat.le_trans hX.size v4
     replace hX := hX.trans0 hx; clear hx
     refine hold hX ?_
     refine both ?_ ?_
     ·
      have e := o0; clear o0
      have i2 := e; clear e
      refine callFx (impl_repeated_c (-1) ((g__1.length : Nat) : Int) a0 i2) H trivial ?_; clear H i2
      rintro _ _ w15 ⟨h8, rfl, rfl⟩ hx H
      replace hX := hX.trans0 hx; clear hx
      refine hold hX ?_
      refine allocX gok rfl H ?_; clear H; intro b7 w16 hx v5 H; replace v5 := Nat.le_trans hX.size v5
      replace hX := hX.trans0 hx; clear hx
      refine hold hX ?_
      replace H := H.sel [2, 0, 1, 3, 4, 5, 6, 7, 8, 9, 10, 11, 12, 13, 14] rfl
      refine stB0X H rfl ?_; clear H; intro w17 hu H
      replace hX := hX.fresh hu v4; clear hu
      refine hold hX ?_
      replace H := H.sel [1, 0, 2, 3, 4, 5, 6, 7, 8, 9, 10, 11, 12, 13, 14] rfl
      refine stB0X H rfl ?_; clear H; intro w18 hu H
      replace hX := hX.fresh hu v5; clear hu
      refine hold hX ?_
      exact ⟨((y2, a0), (h6, h8, b6, b7)), ⟨rfl, rfl, rfl, rfl, trivial⟩, Option.some.inj f4, H.sel [11, 12, 13, 14, 4, 5, 6, 7, 8, 9, 10, 1, 3, 0, 2] rfl⟩
     ·
      refine both ?_ ?_
      ·
       refine allocX gok rfl H ?_; clear H; intro b8 w19 hx v6 H; replace v6 := Nat.le_trans hX.size v6
       replace hX := hX.trans0 hx; clear hx
       refine hold hX ?_
       have e := o0; clear o0
       have i2 := e; clear e
       refine callFx (impl_repeated_c (-1) ((g__1.length : Nat) : Int) a0 i2) H trivial ?_; clear H i2
       rintro _ _ w20 ⟨h9, rfl, rfl⟩ hx H
       replace hX := hX.trans0 hx; clear hx
       refine hold hX ?_
       replace H := H.sel [2, 0, 1, 3, 4, 5, 6, 7, 8, 9, 10, 11, 12, 13, 14] rfl
       refine stB0X H rfl ?_; clear H; intro w21 hu H
       replace hX := hX.fresh hu v4; clear hu
       refine hold hX ?_
       replace H := H.sel [2, 0, 1, 3, 4, 5, 6, 7, 8, 9, 10, 11, 12, 13, 14] rfl
       refine stB0X H rfl ?_; clear H; intro w22 hu H
       replace hX := hX.fresh hu v6; clear hu
       refine hold hX ?_
       exact ⟨((y2, a0), (h6, h9, b6, b8)), ⟨rfl, rfl, rfl, rfl, trivial⟩, Option.some.inj f4, H.sel [11, 12, 13, 14, 4, 5, 6, 7, 8, 9, 10, 1, 3, 0, 2] rfl⟩
      ·
       exact trivial
    ·
     refine both ?_ ?_
     ·
      obtain ⟨a1, o1, f5⟩ := bindS f2; clear f2
      refine allocX gok rfl H ?_; clear H; intro b9 w23 hx v7 H; replace v7 := Nat.le_trans hX.size v7
      replace hX := hX.trans0 hx; clear hx
      refine hold hX ?_
      refine both ?_ ?_
      ·
       have e := o1; clear o1
       have i3 := e; clear e
       refine callFx (impl_repeated_c (-1) ((g__1.length : Nat) : Int) a1 i3) H trivial ?_; clear H i3
       rintro _ _ w24 ⟨h10, rfl, rfl⟩ hx H
       replace hX := hX.trans0 hx; clear hx
       refine hold hX ?_
       refine allocX gok rfl H ?_; clear H; intro b11 w25 hx v8 H; replace v8 := Nat.le_trans hX.size v8
       replace hX := hX.trans0 hx; clear hx
       refine hold hX ?_
       refine stB0X H rfl ?_; clear H; intro w26 hu H
       replace hX := hX.fresh hu v8; clear hu
       refine hold hX ?_
       replace H := H.sel [2, 0, 1, 3, 4, 5, 6, 7, 8, 9, 10, 11, 12, 13, 14] rfl
       refine stB0X H rfl ?_; clear H; intro w27 hu H
       replace hX := hX.fresh hu v7; clear hu
       refine hold hX ?_
       exact ⟨((y2, a1), (h6, h10, b11, b9)), ⟨rfl, rfl, rfl, rfl, trivial⟩, Option.some.inj f5, H.sel [11, 12, 13, 14, 4, 5, 6, 7, 8, 9, 10, 1, 3, 0, 2] rfl⟩
      ·
       refine both ?_ ?_
       ·
        refine allocX gok rfl H ?_; clear H; intro b12 w28 hx v9 H; replace v9 := Nat.le_trans hX.size v9
        replace hX := hX.trans0 hx; clear hx
        refine hold hX ?_
        have e := o1; clear o1
        have i3 := e; clear e
        refine callFx (impl_repeated_c (-1) ((g__1.length : Nat) : Int) a1 i3) H trivial ?_; clear H i3
        rintro _ _ w29 ⟨h11, rfl, rfl⟩ hx H
        replace hX := hX.trans0 hx; clear hx
        refine hold hX ?_
        replace H := H.sel [1, 0, 2, 3, 4, 5, 6, 7, 8, 9, 10, 11, 12, 13, 14] rfl
        refine stB0X H rfl ?_; clear H; intro w30 hu H
        replace hX := hX.fresh hu v9; clear hu
        refine hold hX ?_
        replace H := H.sel [2, 0, 1, 3, 4, 5, 6, 7, 8, 9, 10, 11, 12, 13, 14] rfl
        refine stB0X H rfl ?_; clear H; intro w31 hu H
        replace hX := hX.fresh hu v7; clear hu
        refine hold hX ?_
        exact ⟨((y2, a1), (h6, h11, b12, b9)), ⟨rfl, rfl, rfl, rfl, trivial⟩, Option.some.inj f5, H.sel [11, 12, 13, 14, 4, 5, 6, 7, 8, 9, 10, 1, 3, 0, 2] rfl⟩
       ·
        exact trivial
     ·
      exact trivial
  ·
   refine both ?_ ?_
   ·
    obtain ⟨a2, o2, f6⟩ := bindS f0; clear f0
    obtain ⟨a3, o3, f7⟩ := bindS f6; clear f6
    refine allocX gok rfl H ?_; clear H; intro b13 w32 hx v10 H; replace v10 := Nat.le_trans hX.size v10
    replace hX := hX.trans0 hx; clear hx
    refine hold hX ?_
    refine both ?_ ?_
    ·
     have e := o2; clear o2
     have i4 := e; clear e
     refine callFx (impl_repeated_c (-1) g__0 a2 i4) H trivial ?_; clear H i4
     rintro _ _ w33 ⟨h13, rfl, rfl⟩ hx H
     replace hX := hX.trans0 hx; clear hx
     refine hold hX ?_
     refine both ?_ ?_
     ·
      have e := o3; clear o3
      have i5 := e; clear e
      refine callFx (impl_repeated_c (-1) ((g__1.length : Nat) : Int) a3 i5) H trivial ?_; clear H i5
      rintro _ _ w34 ⟨h15, rfl, rfl⟩ hx H
      replace hX := hX.trans0 hx; clear hx
      refine hold hX ?_
      refine allocX gok rfl H ?_; clear H; intro b14 w35 hx v11 H; replace v11 := Nat.le_trans hX.size v11
      replace hX := hX.trans0 hx; clear hx
      refine hold hX ?_
      replace H := H.sel [3, 0, 1, 2, 4, 5, 6, 7, 8, 9, 10, 11, 12, 13, 14] rfl
      refine stB0X H rfl ?_; clear H; intro w36 hu H
      replace hX := hX.fresh hu v10; clear hu
      refine hold hX ?_
      replace H := H.sel [1, 0, 2, 3, 4, 5, 6, 7, 8, 9, 10, 11, 12, 13, 14] rfl
      refine stB0X H rfl ?_; clear H; intro w37 hu H
      replace hX := hX.fresh hu v11; clear hu
      refine hold hX ?_
      exact ⟨((a2, a3), (h13, h15, b13, b14)), ⟨rfl, rfl, rfl, rfl, trivial⟩, Option.some.inj f7, H.sel [11, 12, 13, 14, 4, 5, 6, 7, 8, 9, 10, 1, 3, 0, 2] rfl⟩
     ·
      refine both ?_ ?_
      ·
       refine allocX gok rfl H ?_; clear H; intro b15 w38 hx v12 H; replace v12 := Nat.le_trans hX.size v12
       replace hX := hX.trans0 hx; clear hx
       refine hold hX ?_
       have e := o3; clear o3
       have i5 := e; clear e
       refine callFx (impl_repeated_c (-1) ((g__1.length : Nat) : Int) a3 i5) H trivial ?_; clear H i5
       rintro _ _ w39 ⟨h17, rfl, rfl⟩ hx H
       replace hX := hX.trans0 hx; clear hx
       refine hold hX ?_
       replace H := H.sel [3, 0, 1, 2, 4, 5, 6, 7, 8, 9, 10, 11, 12, 13, 14] rfl
       refine stB0X H rfl ?_; clear H; intro w40 hu H
       replace hX := hX.fresh hu v10; clear hu
       refine hold hX ?_
       replace H := H.sel [2, 0, 1, 3, 4, 5, 6, 7, 8, 9, 10, 11, 12, 13, 14] rfl
       refine stB0X H rfl ?_; clear H; intro w41 hu H
       replace hX := hX.fresh hu v12; clear hu
       refine hold hX ?_
       exact ⟨((a2, a3), (h13, h17, b13, b15)), ⟨rfl, rfl, rfl, rfl, trivial⟩, Option.some.inj f7, H.sel [11, 12, 13, 14, 4, 5, 6, 7, 8, 9, 10, 1, 3, 0, 2] rfl⟩
      ·
       exact trivial
    ·
     refine both ?_ ?_
     ·
      refine allocX gok rfl H ?_; clear H; intro b16 w42 hx v13 H; replace v13 := Nat.le_trans hX.size v13
      replace hX := hX.trans0 hx; clear hx
      refine hold hX ?_
      have e := o2; clear o2
      have i4 := e; clear e
      refine callFx (impl_repeated_c (-1) g__0 a2 i4) H trivial ?_; clear H i4
      rintro _ _ w43 ⟨h19, rfl, rfl⟩ hx H
      replace hX := hX.trans0 hx; clear hx
      refine hold hX ?_
      have e := o3; clear o3
      have i5 := e; clear e
      refine callFx (impl_repeated_c (-1) ((g__1.length : Nat) : Int) a3 i5) H trivial ?_; clear H i5
      rintro _ _ w44 ⟨h21, rfl, rfl⟩ hx H
      replace hX := hX.trans0 hx; clear hx
      refine hold hX ?_
      replace H := H.sel [3, 0, 1, 2, 4, 5, 6, 7, 8, 9, 10, 11, 12, 13, 14] rfl
      refine stB0X H rfl ?_; clear H; intro w45 hu H
      replace hX := hX.fresh hu v10; clear hu
      refine hold hX ?_
      replace H := H.sel [3, 0, 1, 2, 4, 5, 6, 7, 8, 9, 10, 11, 12, 13, 14] rfl
      refine stB0X H rfl ?_; clear H; intro w46 hu H
      replace hX := hX.fresh hu v13; clear hu
      refine hold hX ?_
      exact ⟨((a2, a3), (h19, h21, b13, b16)), ⟨rfl, rfl, rfl, rfl, trivial⟩, Option.some.inj f7, H.sel [11, 12, 13, 14, 4, 5, 6, 7, 8, 9, 10, 1, 3, 0, 2] rfl⟩
     ·
      exact trivial
   ·
    refine both ?_ ?_
    ·
     obtain ⟨a4, o4, f8⟩ := bindS f0; clear f0
     obtain ⟨a5, o5, f9⟩ := bindS f8; clear f8
     refine allocX gok rfl H ?_; clear H; intro b17 w47 hx v14 H; replace v14 := Nat.le_trans hX.size v14
     replace hX := hX.trans0 hx; clear hx
     refine hold hX ?_
     refine both ?_ ?_
     ·
      have e := o4; clear o4
      have i6 := e; clear e
      refine callFx (impl_repeated_c (-1) g__0 a4 i6) H trivial ?_; clear H i6
      rintro _ _ w48 ⟨h23, rfl, rfl⟩ hx H
      replace hX := hX.trans0 hx; clear hx
      refine hold hX ?_
      refine both ?_ ?_
      ·
       have e := o5; clear o5
       have i7 := e; clear e
       refine callFx (impl_repeated_c (-1) ((g__1.length : Nat) : Int) a5 i7) H trivial ?_; clear H i7
       rintro _ _ w49 ⟨h24, rfl, rfl⟩ hx H
       replace hX := hX.trans0 hx; clear hx
       refine hold hX ?_
       refine allocX gok rfl H ?_; clear H; intro b18 w50 hx v15 H; replace v15 := Nat.le_trans hX.size v15
       replace hX := hX.trans0 hx; clear hx
       refine hold hX ?_
       refine stB0X H rfl ?_; clear H; intro w51 hu H
       replace hX := hX.fresh hu v15; clear hu
       refine hold hX ?_
       replace H := H.sel [3, 0, 1, 2, 4, 5, 6, 7, 8, 9, 10, 11, 12, 13, 14] rfl
       refine stB0X H rfl ?_; clear H; intro w52 hu H
       replace hX := hX.fresh hu v14; clear hu
       refine hold hX ?_
       exact ⟨((a4, a5), (h23, h24, b18, b17)), ⟨rfl, rfl, rfl, rfl, trivial⟩, Option.some.inj f9, H.sel [11, 12, 13, 14, 4, 5, 6, 7, 8, 9, 10, 1, 3, 0, 2] rfl⟩
      ·
       refine both ?_ ?_
       ·
        refine allocX gok rfl H ?_; clear H; intro b19 w53 hx v16 H; replace v16 := Nat.le_trans hX.size v16
        replace hX := hX.trans0 hx; clear hx
        refine hold hX ?_
        have e := o5; clear o5
        have i7 := e; clear e
        refine callFx (impl_repeated_c (-1) ((g__1.length : Nat) : Int) a5 i7) H trivial ?_; clear H i7
        rintro _ _ w54 ⟨h25, rfl, rfl⟩ hx H
        replace hX := hX.trans0 hx; clear hx
        refine hold hX ?_
        replace H := H.sel [1, 0, 2, 3, 4, 5, 6, 7, 8, 9, 10, 11, 12, 13, 14] rfl
        refine stB0X H rfl ?_; clear H; intro w55 hu H
        replace hX := hX.fresh hu v16; clear hu
        refine hold hX ?_
        replace H := H.sel [3, 0, 1, 2, 4, 5, 6, 7, 8, 9, 10, 11, 12, 13, 14] rfl
        refine stB0X H rfl ?_; clear H; intro w56 hu H
        replace hX := hX.fresh hu v14; clear hu
        refine hold hX ?_
        exact ⟨((a4, a5), (h23, h25, b19, b17)), ⟨rfl, rfl, rfl, rfl, trivial⟩, Option.some.inj f9, H.sel [11, 12, 13, 14, 4, 5, 6, 7, 8, 9, 10, 1, 3, 0, 2] rfl⟩
       ·
        exact trivial
     ·
      refine both ?_ ?_
      ·
       refine allocX gok rfl H ?_; clear H; intro b20 w57 hx v17 H; replace v17 := Nat.le_trans hX.size v17
       replace hX := hX.trans0 hx; clear hx
       refine hold hX ?_
       have e := o4; clear o4
       have i6 := e; clear e
       refine callFx (impl_repeated_c (-1) g__0 a4 i6) H trivial ?_; clear H i6
       rintro _ _ w58 ⟨h26, rfl, rfl⟩ hx H
       replace hX := hX.trans0 hx; clear hx
       refine hold hX ?_
       have e := o5; clear o5
       have i7 := e; clear e
       refine callFx (impl_repeated_c (-1) ((g__1.length : Nat) : Int) a5 i7) H trivial ?_; clear H i7
       rintro _ _ w59 ⟨h27, rfl, rfl⟩ hx H
       replace hX := hX.trans0 hx; clear hx
       refine hold hX ?_
       replace H := H.sel [2, 0, 1, 3, 4, 5, 6, 7, 8, 9, 10, 11, 12, 13, 14] rfl
       refine stB0X H rfl ?_; clear H; intro w60 hu H
       replace hX := hX.fresh hu v17; clear hu
       refine hold hX ?_
       replace H := H.sel [3, 0, 1, 2, 4, 5, 6, 7, 8, 9, 10, 11, 12, 13, 14] rfl
       refine stB0X H rfl ?_; clear H; intro w61 hu H
       replace hX := hX.fresh hu v14; clear hu
       refine hold hX ?_
       exact ⟨((a4, a5), (h26, h27, b20, b17)), ⟨rfl, rfl, rfl, rfl, trivial⟩, Option.some.inj f9, H.sel [11, 12, 13, 14, 4, 5, 6, 7, 8, 9, 10, 1, 3, 0, 2] rfl⟩
      ·
       exact trivial
    ·
     exact trivial
 ·
  clear f0 H
  rintro T0 ⟨⟨s0_0, s0_1⟩, ⟨g0_0, g0_1, g0_2, g0_3⟩⟩ w62 ⟨hr, (H : Cx w0 fp0 S0 w62 [Bx b5 [(.int .i64 g__0), (g__1h).v, (g__2h).v, (g__3h).v], Es (List (Int × Int × List Int × List Int)) g__1 g__1h, Es (List Int) g__2 g__2h, Es (List Int) g__3 g__3h, Bx b0 [(.int .i64 y7_0_0), (g__1h).v, (g__2h).v, (g__3h).v, (h0).v, (h1).v, (h2).v, (h3).v, (h4).v, (h5).v], E (List Int) y7_1_0 h0, E (List Int) y7_1_1 h1, E MI y7_2 h2, E MI y7_3 h3, E (List Int) y7_4 h4, E (List Int) y7_5 h5, Bx g0_2 [(g0_0).v], E (List Int) s0_0 g0_0, Bx g0_3 [(g0_1).v], E (List Int) s0_1 g0_1])⟩
  subst hr
  refine alloc_ gok rfl H ?_; clear H; intro b21 w63 hx H
  clear hx
  refine alloc_ gok rfl H ?_; clear H; intro b22 w64 hx H
  clear hx
  replace H := H.sel [1, 0, 2, 3, 4, 5, 6, 7, 8, 9, 10, 11, 12, 13, 14, 15, 16] rfl
  refine stB0 H rfl ?_; clear H; intro w65 H
  replace H := H.sel [1, 0, 2, 3, 4, 5, 6, 7, 8, 9, 10, 11, 12, 13, 14, 15, 16] rfl
  refine stB0 H rfl ?_; clear H; intro w66 H
  obtain ⟨y4, e, f10⟩ := bindS f1; clear f1
  obtain ⟨y4_0, y4_1, y4_2, y4_3⟩ := y4
  have i8 := e; clear e
  replace H := H.sel [6, 1, 13, 14, 0, 15, 16, 2, 3, 4, 5, 7, 8, 9, 10, 11, 12] rfl
  refine callF (impl_Graph_canonicalNumbers_1_c b0 y7_0_0 g__1 g__1h g__2 g__2h g__3 g__3h y7_1_0 h0 y7_1_1 h1 y7_2 h2 y7_3 h3 y7_4 h4 y7_5 h5 b21 0 g0_2 s0_0 g0_0 b22 0 g0_3 s0_1 g0_1 y4_0 y4_1 y4_2 y4_3 i8) (Γi := [Bx b0 [(.int .i64 y7_0_0), (g__1h).v, (g__2h).v, (g__3h).v, (h0).v, (h1).v, (h2).v, (h3).v, (h4).v, (h5).v], Bx b21 [(.int .i64 0)], Bx g0_2 [(g0_0).v], E (List Int) s0_0 g0_0, Bx b22 [(.int .i64 0)], Bx g0_3 [(g0_1).v], E (List Int) s0_1 g0_1]) H ⟨Vw.sh 1 rfl, Vw.sh 2 rfl, Vw.sh 3 rfl, Vw.own 4 rfl, Vw.own 5 rfl, Vw.own 6 rfl, Vw.own 7 rfl, Vw.own 8 rfl, Vw.own 9 rfl, trivial⟩ ?_; clear H i8
  rintro _ _ w67 ⟨rfl, rfl⟩ H
  refine sq ?_
  refine loadN [(.int .i64 g__0), (g__1h).v, (g__2h).v, (g__3h).v] rfl (fun j u hj => H.bx 7 rfl hj) ?_
  obtain ⟨y5, e, f11⟩ := bindS f10; clear f10
  have i9 := e; clear e
  refine callF (impl_Graph_closedParts_c g__0 g__1 g__1h g__2 g__2h g__3 g__3h b0 y7_0_0 g__1 g__1h g__2 g__2h g__3 g__3h y7_1_0 h0 y7_1_1 h1 y7_2 h2 y7_3 h3 y7_4 h4 y7_5 h5 y5 i9) (Γi := [Bx b0 [(.int .i64 y7_0_0), (g__1h).v, (g__2h).v, (g__3h).v, (h0).v, (h1).v, (h2).v, (h3).v, (h4).v, (h5).v]]) H ⟨Vw.sh 7 rfl, Vw.sh 8 rfl, Vw.sh 9 rfl, Vw.sh 7 rfl, Vw.sh 8 rfl, Vw.sh 9 rfl, Vw.own 10 rfl, Vw.own 11 rfl, Vw.own 12 rfl, Vw.own 13 rfl, Vw.own 14 rfl, Vw.own 15 rfl, trivial⟩ ?_; clear H i9
  rintro _ _ w68 ⟨h28, rfl, rfl⟩ H
  refine lenE (H.ro (α := List Int) 1 rfl).len ?_
  have x0 := (H.ro (α := List Int) 1 rfl).max
  obtain ⟨r1, e, f12⟩ := bindS f11; clear f11
  refine loopS _ y5.length (fun (k0 : Nat) (_ : Unit) (_ : Unit) => [(5, (.pointer (some ⟨g0_2, 0, none⟩))), (6, (.pointer (some ⟨g0_3, 0, none⟩))), (9, (.func (.func 103) #[] #[(.pointer (some ⟨b21, 0, none⟩)), (.pointer (some ⟨g0_2, 0, none⟩)), (.pointer (some ⟨b22, 0, none⟩)), (.pointer (some ⟨g0_3, 0, none⟩))])), (27, (h28).v), (28, (.int .i64 ((y5.length : Nat) : Int))), (29, (.int .i64 ((k0 : Nat) : Int)))]) (fun _ (_ : Unit) (_ : Unit) w' => Cx w0 fp0 S0 w' [Bx g0_2 [(g0_0).v], E (List Int) y4_1 g0_0, Bx g0_3 [(g0_1).v], E (List Int) y4_3 g0_1, Bx b21 [(.int .i64 y4_0)], Bx b22 [(.int .i64 y4_2)], E (List Int) y5 h28]) () () e ⟨rfl, rfl, rfl, rfl, rfl, rfl, trivial⟩ (H.sel [3, 4, 6, 7, 2, 5, 1] rfl) ?_ ?_
  ·
   clear H e
   rintro T1 k0 _ _ w69 o6 hk (H : Cx w0 fp0 S0 w69 [Bx g0_2 [(g0_0).v], E (List Int) y4_1 g0_0, Bx g0_3 [(g0_1).v], E (List Int) y4_3 g0_1, Bx b21 [(.int .i64 y4_0)], Bx b22 [(.int .i64 y4_2)], E (List Int) y5 h28]) f13
   refine boolE (z := true) (ltLen hk) ?_
   refine sq ?_
   refine sq ?_
   cases f13
  ·
   clear H e
   rintro T2 _ w70 (H : Cx w0 fp0 S0 w70 [Bx g0_2 [(g0_0).v], E (List Int) y4_1 g0_0, Bx g0_3 [(g0_1).v], E (List Int) y4_3 g0_1, Bx b21 [(.int .i64 y4_0)], Bx b22 [(.int .i64 y4_2)], E (List Int) y5 h28])
   refine boolE (z := false) geLen ?_
   refine sq ?_
   refine heldX H [] (.fst 0 (.fst 2 (.fst 1 (.fst 3 .done)))) mixed [] trivial (by kernel_rfl) ?_
   clear H; intro w71 H
   have hX : Ext w71 w71 := Upd.refl _ _
   have H0 := H
   refine load1X (H.bx0 0 rfl) ?_
   refine load1X (H.bx0 2 rfl) ?_
   cases f12
   exact ⟨_, _, rfl, ⟨g0_0, g0_1, rfl, rfl⟩, (H.sel [1, 3] rfl).close ⟨cloE, cloE, trivial⟩⟩

theorem impl_chosen_c (v_ : List Int) (v_h : Hd) (at_ : List Int) (at_h : Hd) (y : List Int) (hF : F_impl_chosen v_ at_ = some y) :
  ConF Tryz.prog 135 #[(v_h).v, (at_h).v] [Es (List Int) v_ v_h, Es (List Int) at_ at_h] [] (fun v Γ' => ∃ z0 : Hd, v = (z0).v ∧ Γ' = [E (List Int) y z0]) := by
 intro w0 S0 fp0 hI hS
 have H : Cx w0 fp0 S0 w0 [Es (List Int) v_ v_h, Es (List Int) at_ at_h] := Cx.start hI hS
 clear hI hS
 refine enterC (args := [_, _]) gok Tryz.func135 rfl _ rfl rfl rfl ?_
 refine lenE (H.rs (α := List Int) 1 rfl).len ?_
 obtain ⟨a3, e, hF4⟩ := bindS hF; clear hF
 refine make_ (α := Int) gok rfl rfl rfl rfl e H ?_; clear e H; intro h6 w5 hx H
 clear hx
 refine sq ?_
 refine lenE (H.rs (α := List Int) 2 rfl).len ?_
 have x0 := (H.rs (α := List Int) 2 rfl).max
 obtain ⟨r0, e, f0⟩ := bindS hF4; clear hF4
 refine loopS _ at_.length (fun (k8 : Nat) (s0 : List Int) (g0 : Hd) => [(0, (v_h).v), (5, (g0).v), (11, (at_h).v), (12, (.int .i64 ((at_.length : Nat) : Int))), (13, (.int .i64 ((k8 : Nat) : Int)))]) (fun _ (s0 : List Int) (g0 : Hd) w' => Cx w0 fp0 S0 w' [Es (List Int) v_ v_h, E (List Int) s0 g0, Es (List Int) at_ at_h]) a3 h6 e ⟨rfl, rfl, rfl, rfl, rfl, trivial⟩ (H.sel [1, 0, 2] rfl) ?_ ?_
 ·
  clear H e
  rintro T0 k8 s0 g0 w1 o0 hk (H : Cx w0 fp0 S0 w1 [Es (List Int) v_ v_h, E (List Int) s0 g0, Es (List Int) at_ at_h]) f1
  refine boolE (z := true) (ltLen hk) ?_
  refine sq ?_
  refine sq ?_
  obtain ⟨a0, e, f2⟩ := bindS f1; clear f1
  obtain ⟨p0, m0, c0, c1, c2, c3⟩ := (H.rs (α := List Int) 2 rfl).at1 e; clear e
  refine idxE c0 c1 c2 ?_; clear c0 c1 c2
  refine load1 c3 ?_; clear c3
  obtain ⟨a1, e, f3⟩ := bindS f2; clear f2
  obtain ⟨p1, m1, c4, c5, c6, c7⟩ := (H.rs (α := List Int) 0 rfl).at1 e; clear e
  refine idxE c4 c5 c6 ?_; clear c4 c5 c6
  refine load1 c7 ?_; clear c7
  refine lit1S (α := Int) gok rfl rfl rfl rfl H ?_; clear H; intro h0 w2 hx H
  clear hx
  obtain ⟨a2, e, f4⟩ := bindS f3; clear f3
  replace H := H.sel [2, 0, 1, 3] rfl
  refine append_ (α := Int) gok rfl rfl rfl rfl H e ?_; clear e H; intro h1 w3 H
  refine arK hk x0 ?_
  have hs := Option.some.inj f4; subst hs; clear f4
  exact ⟨h1, ⟨rfl, rfl, rfl, rfl, rfl, trivial⟩, H.sel [1, 0, 2] rfl⟩
 ·
  clear H e
  rintro T1 g1 w4 (H : Cx w0 fp0 S0 w4 [Es (List Int) v_ v_h, E (List Int) r0 g1, Es (List Int) at_ at_h])
  refine boolE (z := false) geLen ?_
  refine sq ?_
  cases f0
  exact ⟨_, _, rfl, ⟨g1, rfl, rfl⟩, (H.sel [1] rfl).close ⟨cloE, trivial⟩⟩

theorem impl_mapped_c (list_ : List Int) (list_h : Hd) (to_ : List Int) (to_h : Hd) (y : List Int) (hF : F_impl_mapped list_ to_ = some y) :
  ConF Tryz.prog 119 #[(list_h).v, (to_h).v] [Es (List Int) list_ list_h, Es (List Int) to_ to_h] [] (fun v Γ' => ∃ z0 : Hd, v = (z0).v ∧ Γ' = [E (List Int) y z0]) := by
 intro w0 S0 fp0 hI hS
 have H : Cx w0 fp0 S0 w0 [Es (List Int) list_ list_h, Es (List Int) to_ to_h] := Cx.start hI hS
 clear hI hS
 refine enterC (args := [_, _]) gok Tryz.func119 rfl _ rfl rfl rfl ?_
 obtain ⟨y3, e, hF4⟩ := bindS hF; clear hF
 have ey3 := e; clear e
 refine callF (impl_chosen_c to_ to_h list_ list_h y3 ey3) (Γi := []) H ⟨Vw.sh 1 rfl, Vw.sh 0 rfl, trivial⟩ ?_; clear H ey3
 rintro _ _ w5 ⟨h6, rfl, rfl⟩ H
 cases hF4
 exact ⟨_, _, rfl, ⟨h6, rfl, rfl⟩, (H.sel [0] rfl).close ⟨cloE, trivial⟩⟩

theorem impl_Graph_moved_c (g__0 : Int) (g__1 : List (Int × Int × List Int × List Int)) (g__1h : Hd) (g__2 : List Int) (g__2h : Hd) (g__3 : List Int) (g__3h : Hd) (count_ : Int) (to_ : List Int) (to_h : Hd) (y_0 : Int) (y_1 : List (Int × Int × List Int × List Int)) (y_2 : List Int) (y_3 : List Int) (hF : F_impl_Graph_moved (g__0, g__1, g__2, g__3) count_ to_ = some (y_0, y_1, y_2, y_3)) :
  ConF Tryz.prog 100 #[(.agg #[(.int .i64 g__0), (g__1h).v, (g__2h).v, (g__3h).v]), (.int .i64 count_), (to_h).v] [Es (List (Int × Int × List Int × List Int)) g__1 g__1h, Es (List Int) g__2 g__2h, Es (List Int) g__3 g__3h, Es (List Int) to_ to_h] [] (fun v Γ' => ∃ z0 z1 z2 : Hd, v = (.agg #[(.int .i64 y_0), (z0).v, (z1).v, (z2).v]) ∧ Γ' = [E (List (Int × Int × List Int × List Int)) y_1 z0, E (List Int) y_2 z1, E (List Int) y_3 z2]) := by
 intro w0 S0 fp0 hI hS
 have H : Cx w0 fp0 S0 w0 [Es (List (Int × Int × List Int × List Int)) g__1 g__1h, Es (List Int) g__2 g__2h, Es (List Int) g__3 g__3h, Es (List Int) to_ to_h] := Cx.start hI hS
 clear hI hS
 refine enterC (args := [_, _, _]) gok Tryz.func100 rfl _ rfl rfl rfl ?_
 refine box_ H ?_; clear H; intro b6 w5 hx H
 clear hx
 refine alloc_ gok rfl H ?_; clear H; intro b9 w8 hx H
 clear hx
 obtain ⟨r0, f0, f1⟩ := bindS hF; clear hF
 refine heldJ H [] (.fst 0 (.fst 1 (.fst 3 (.fst 5 (.fst 7 (.fst 2 (.fst 6 (.alts (.alt 4 (.alts (.alt 8 (.fst 9 (.act 10 (.act 11 .done))) (.alt 10 (.act 8 (.fst 9 (.act 11 .done))) .no))) (.alt 10 (.act 4 (.act 8 (.fst 9 (.act 11 .done)))) .no)))))))))) mixed [] trivial (by kernel_rfl) (fun (q0 : (Int × List Int × List Int) × (Hd × Hd × Nat)) => [(2, (to_h).v), (3, (.pointer (some ⟨b6, 0, none⟩))), (6, (.pointer (some ⟨b9, 0, none⟩))), (7, (.pointer (some ⟨q0.2.2.2, 0, none⟩)))]) (fun (q0 : (Int × List Int × List Int) × (Hd × Hd × Nat)) w' => (q0.1.1, q0.1.2.1, q0.1.2.2) = r0 ∧ Cx w0 fp0 S0 w' [Es (List Int) to_ to_h, Bx b6 [(.int .i64 g__0), (g__1h).v, (g__2h).v, (g__3h).v], Es (List (Int × Int × List Int × List Int)) g__1 g__1h, Es (List Int) g__2 g__2h, Es (List Int) g__3 g__3h, Bx b9 [(.int .i64 0), (.slice none 0 0), (.slice none 0 0), (.slice none 0 0)], Bx q0.2.2.2 [(.int .i64 q0.1.1), (.slice none 0 0), (q0.2.1).v, (q0.2.2.1).v], E (List Int) q0.1.2.1 q0.2.1, E (List Int) q0.1.2.2 q0.2.2.1]) ?_ ?_
 ·
  clear H; intro w1 H
  have hX : Ext w1 w1 := Upd.refl _ _
  have H0 := H
  refine anyH (fun _ => fld gok rfl rfl rfl rfl ⟨rfl, rfl⟩) ?_
  refine anyH (fun _ => fld gok rfl rfl rfl rfl ⟨rfl, rfl⟩) ?_
  refine load1X (H.bx 1 rfl (j := 2) rfl) ?_
  refine load1X (H.bx 1 rfl (j := 3) rfl) ?_
  refine both ?_ ?_
  ·
   obtain ⟨y0, e, f2⟩ := bindS f0; clear f0
   have i0 := e; clear e
   refine callFx (impl_mapped_c g__2 g__2h to_ to_h y0 i0) H ⟨Vw.sh 3 rfl, Vw.sh 5 rfl, trivial⟩ ?_; clear H i0
   rintro _ _ w2 ⟨h0, rfl, rfl⟩ hx H
   replace hX := hX.trans0 hx; clear hx
   refine hold hX ?_
   refine both ?_ ?_
   ·
    obtain ⟨y1, e, f3⟩ := bindS f2; clear f2
    have i1 := e; clear e
    refine callFx (impl_mapped_c g__3 g__3h to_ to_h y1 i1) H ⟨Vw.sh 5 rfl, Vw.sh 6 rfl, trivial⟩ ?_; clear H i1
    rintro _ _ w3 ⟨h1, rfl, rfl⟩ hx H
    replace hX := hX.trans0 hx; clear hx
    refine hold hX ?_
    refine anyH (fun _ => build_ (cs := #[(.int .i64 count_), (.slice none 0 0), (h0).v, (h1).v]) gok rfl rfl rfl ⟨rfl, rfl⟩) ?_
    refine allocX gok rfl H ?_; clear H; intro b0 w4 hx v0 H; replace v0 := Nat.le_trans hX.size v0
    replace hX := hX.trans0 hx; clear hx
    refine hold hX ?_
    refine stAX gok [(.int .i64 count_), (.slice none 0 0), (h0).v, (h1).v] rfl H rfl rfl rfl ?_; clear H; intro w6 hu H
    replace hX := hX.fresh hu v0; clear hu
    refine hold hX ?_
    exact ⟨((count_, y0, y1), (h0, h1, b0)), ⟨rfl, rfl, rfl, rfl, trivial⟩, Option.some.inj f3, H.sel [8, 4, 5, 6, 7, 3, 0, 2, 1] rfl⟩
   ·
    refine both ?_ ?_
    ·
     obtain ⟨a0, o0, f4⟩ := bindS f2; clear f2
     refine allocX gok rfl H ?_; clear H; intro b1 w7 hx v1 H; replace v1 := Nat.le_trans hX.size v1
     replace hX := hX.trans0 hx; clear hx
     refine hold hX ?_
     have e := o0; clear o0
     have i2 := e; clear e
     refine callFx (impl_mapped_c g__3 g__3h to_ to_h a0 i2) H ⟨Vw.sh 6 rfl, Vw.sh 7 rfl, trivial⟩ ?_; clear H i2
     rintro _ _ w9 ⟨h2, rfl, rfl⟩ hx H
     replace hX := hX.trans0 hx; clear hx
     refine hold hX ?_
     refine anyH (fun _ => build_ (cs := #[(.int .i64 count_), (.slice none 0 0), (h0).v, (h2).v]) gok rfl rfl rfl ⟨rfl, rfl⟩) ?_
     replace H := H.sel [1, 0, 2, 3, 4, 5, 6, 7, 8] rfl
     refine stAX gok [(.int .i64 count_), (.slice none 0 0), (h0).v, (h2).v] rfl H rfl rfl rfl ?_; clear H; intro w10 hu H
     replace hX := hX.fresh hu v1; clear hu
     refine hold hX ?_
     exact ⟨((count_, y0, a0), (h0, h2, b1)), ⟨rfl, rfl, rfl, rfl, trivial⟩, Option.some.inj f4, H.sel [8, 4, 5, 6, 7, 3, 0, 2, 1] rfl⟩
    ·
     exact trivial
  ·
   refine both ?_ ?_
   ·
    obtain ⟨a1, o1, f5⟩ := bindS f0; clear f0
    obtain ⟨a2, o2, f6⟩ := bindS f5; clear f5
    refine allocX gok rfl H ?_; clear H; intro b2 w11 hx v2 H; replace v2 := Nat.le_trans hX.size v2
    replace hX := hX.trans0 hx; clear hx
    refine hold hX ?_
    have e := o1; clear o1
    have i3 := e; clear e
    refine callFx (impl_mapped_c g__2 g__2h to_ to_h a1 i3) H ⟨Vw.sh 4 rfl, Vw.sh 6 rfl, trivial⟩ ?_; clear H i3
    rintro _ _ w12 ⟨h3, rfl, rfl⟩ hx H
    replace hX := hX.trans0 hx; clear hx
    refine hold hX ?_
    have e := o2; clear o2
    have i4 := e; clear e
    refine callFx (impl_mapped_c g__3 g__3h to_ to_h a2 i4) H ⟨Vw.sh 6 rfl, Vw.sh 7 rfl, trivial⟩ ?_; clear H i4
    rintro _ _ w13 ⟨h4, rfl, rfl⟩ hx H
    replace hX := hX.trans0 hx; clear hx
    refine hold hX ?_
    refine anyH (fun _ => build_ (cs := #[(.int .i64 count_), (.slice none 0 0), (h3).v, (h4).v]) gok rfl rfl rfl ⟨rfl, rfl⟩) ?_
    replace H := H.sel [2, 0, 1, 3, 4, 5, 6, 7, 8] rfl
    refine stAX gok [(.int .i64 count_), (.slice none 0 0), (h3).v, (h4).v] rfl H rfl rfl rfl ?_; clear H; intro w14 hu H
    replace hX := hX.fresh hu v2; clear hu
    refine hold hX ?_
    exact ⟨((count_, a1, a2), (h3, h4, b2)), ⟨rfl, rfl, rfl, rfl, trivial⟩, Option.some.inj f6, H.sel [8, 4, 5, 6, 7, 3, 0, 2, 1] rfl⟩
   ·
    exact trivial
 ·
  clear f0 H
  rintro T0 ⟨⟨s0_0, s0_1, s0_2⟩, ⟨g0_0, g0_1, g0_2⟩⟩ w15 ⟨hr, (H : Cx w0 fp0 S0 w15 [Es (List Int) to_ to_h, Bx b6 [(.int .i64 g__0), (g__1h).v, (g__2h).v, (g__3h).v], Es (List (Int × Int × List Int × List Int)) g__1 g__1h, Es (List Int) g__2 g__2h, Es (List Int) g__3 g__3h, Bx b9 [(.int .i64 0), (.slice none 0 0), (.slice none 0 0), (.slice none 0 0)], Bx g0_2 [(.int .i64 s0_0), (.slice none 0 0), (g0_0).v, (g0_1).v], E (List Int) s0_1 g0_0, E (List Int) s0_2 g0_1])⟩
  subst hr
  refine sq ?_
  refine fld gok rfl rfl rfl rfl ?_
  refine load1 (H.bx 1 rfl (j := 1) rfl) ?_
  refine lenE (H.rs (α := List (Int × Int × List Int × List Int)) 2 rfl).len ?_
  have x0 := (H.rs (α := List (Int × Int × List Int × List Int)) 2 rfl).max
  obtain ⟨r1, e, f7⟩ := bindS f1; clear f1
  replace H := H.nil (α := Int × Int × List Int × List Int)
  refine loopS _ g__1.length (fun (k0 : Nat) (s1 : List (Int × Int × List Int × List Int)) (g1 : Hd) => [(2, (to_h).v), (6, (.pointer (some ⟨b9, 0, none⟩))), (7, (.pointer (some ⟨g0_2, 0, none⟩))), (21, (g__1h).v), (22, (.int .i64 ((g__1.length : Nat) : Int))), (23, (.int .i64 ((k0 : Nat) : Int)))]) (fun _ (s1 : List (Int × Int × List Int × List Int)) (g1 : Hd) w' => Cx w0 fp0 S0 w' [Es (List Int) to_ to_h, Bx b9 [(.int .i64 0), (.slice none 0 0), (.slice none 0 0), (.slice none 0 0)], Bx g0_2 [(.int .i64 s0_0), (g1).v, (g0_0).v, (g0_1).v], E (List (Int × Int × List Int × List Int)) s1 g1, E (List Int) s0_1 g0_0, E (List Int) s0_2 g0_1, Es (List (Int × Int × List Int × List Int)) g__1 g__1h]) [] nilH e ⟨rfl, rfl, rfl, rfl, rfl, rfl, trivial⟩ (H.sel [1, 6, 7, 0, 8, 9, 3] rfl) ?_ ?_
  ·
   clear H e
   rintro T1 k0 s1 g1 w16 o3 hk (H : Cx w0 fp0 S0 w16 [Es (List Int) to_ to_h, Bx b9 [(.int .i64 0), (.slice none 0 0), (.slice none 0 0), (.slice none 0 0)], Bx g0_2 [(.int .i64 s0_0), (g1).v, (g0_0).v, (g0_1).v], E (List (Int × Int × List Int × List Int)) s1 g1, E (List Int) s0_1 g0_0, E (List Int) s0_2 g0_1, Es (List (Int × Int × List Int × List Int)) g__1 g__1h]) f8
   refine boolE (z := true) (ltLen hk) ?_
   refine sq ?_
   refine sq ?_
   obtain ⟨a3, e, f9⟩ := bindS f8; clear f8
   have HH := H; clear H; obtain ⟨p0, m0, g2, c0, c1, c2, c3, H⟩ := HH.el (α := Int × Int × List Int × List Int) 6 rfl e; clear HH
   clear e
   obtain ⟨a3_0, a3_1, a3_2, a3_3⟩ := a3
   obtain ⟨_, _, h5, h6⟩ := g2
   replace H := H.part (β := List Int) a3_2 (h5 : Hd) 0 rfl (fun S h => (And.left (And.right (And.right h))))
   replace H := H.part (β := List Int) a3_3 (h6 : Hd) 1 rfl (fun S h => (And.right (And.right (And.right h))))
   replace H := H.sel [0, 1, 3, 4, 5, 6, 7, 8, 9] rfl
   refine idxE c0 c1 c2 ?_; clear c0 c1 c2
   refine loadN [(.int .i64 a3_0), (.int .i64 a3_1), (h5).v, (h6).v] rfl c3 ?_; clear c3
   refine alloc_ gok rfl H ?_; clear H; intro b3 w17 hx H
   clear hx
   refine stA gok [(.int .i64 a3_0), (.int .i64 a3_1), (h5).v, (h6).v] rfl H rfl rfl rfl ?_; clear H; intro w18 H
   refine heldX H [16, 18, 17] (.fst 0 (.fst 2 (.fst 4 (.fst 6 (.fst 8 (.fst 10 (.fst 12 (.fst 1 (.fst 3 (.fst 5 (.fst 7 (.fst 11 (.act 9 (.act 13 (.fst 14 (.act 15 (.act 16 (.act 17 (.act 18 .done))))))))))))))))))) mixed [] trivial (by kernel_rfl) ?_
   clear H; intro w19 H
   have hX : Ext w19 w19 := Upd.refl _ _
   have H0 := H
   refine anyH (fun _ => fld gok rfl rfl rfl rfl ⟨rfl, rfl⟩) ?_
   refine anyH (fun _ => fld gok rfl rfl rfl rfl ⟨rfl, rfl⟩) ?_
   refine anyH (fun _ => fld gok rfl rfl rfl rfl ⟨rfl, rfl⟩) ?_
   refine anyH (fun _ => fld gok rfl rfl rfl rfl ⟨rfl, rfl⟩) ?_
   refine anyH (fun _ => fld gok rfl rfl rfl rfl ⟨rfl, rfl⟩) ?_
   refine load1X (H.bx 5 rfl (j := 1) rfl) ?_
   refine load1X (H.bx 0 rfl (j := 0) rfl) ?_
   refine load1X (H.bx 0 rfl (j := 1) rfl) ?_
   refine load1X (H.bx 0 rfl (j := 2) rfl) ?_
   refine load1X (H.bx 0 rfl (j := 3) rfl) ?_
   obtain ⟨y2, e, f10⟩ := bindS f9; clear f9
   have i5 := e; clear e
   refine callFx (impl_mapped_c a3_2 h5 to_ to_h y2 i5) H ⟨Vw.sh 2 rfl, Vw.sh 3 rfl, trivial⟩ ?_; clear H i5
   rintro _ _ w20 ⟨h7, rfl, rfl⟩ hx H
   replace hX := hX.trans0 hx; clear hx
   refine hold hX ?_
   obtain ⟨y3, e, f11⟩ := bindS f10; clear f10
   have i6 := e; clear e
   refine callFx (impl_mapped_c a3_3 h6 to_ to_h y3 i6) H ⟨Vw.sh 2 rfl, Vw.sh 4 rfl, trivial⟩ ?_; clear H i6
   rintro _ _ w21 ⟨h8, rfl, rfl⟩ hx H
   replace hX := hX.trans0 hx; clear hx
   refine hold hX ?_
   refine anyH (fun _ => build_ (cs := #[(.int .i64 a3_0), (.int .i64 a3_1), (h7).v, (h8).v]) gok rfl rfl rfl ⟨rfl, rfl⟩) ?_
   replace H := H.sel [1, 0, 2, 3, 4, 5, 6, 7, 8, 9, 10, 11] rfl
   replace H := H.join (α := List Int) (β := List Int)
   replace H := H.sc (α := Int) a3_1
   replace H := H.join (α := Int) (β := List Int × List Int)
   replace H := H.sc (α := Int) a3_0
   replace H := H.join (α := Int) (β := Int × List Int × List Int)
   refine lit1 (α := Int × Int × List Int × List Int) (g := ((), (), h7, h8)) gok rfl rfl rfl rfl rfl H ?_; clear H; intro h9 w22 hx H
   replace hX := hX.trans0 hx; clear hx
   refine hold hX ?_
   obtain ⟨a4, e, f12⟩ := bindS f11; clear f11
   replace H := H.sel [7, 0, 1, 2, 3, 4, 5, 6, 8, 9, 10] rfl
   refine append_ (α := Int × Int × List Int × List Int) gok rfl rfl rfl rfl H e ?_; clear e H; intro h10 w23 H
   refine hold trivial ?_
   refine fld gok rfl rfl rfl rfl ?_
   refine hold trivial ?_
   replace H := H.sel [6, 0, 1, 2, 3, 4, 5, 7, 8, 9] rfl
   refine stB (j := 1) H rfl rfl ?_; clear H; intro w24 H
   refine hold trivial ?_
   refine arK hk x0 ?_
   have hs := Option.some.inj f12; subst hs; clear f12
   exact ⟨h10, ⟨rfl, rfl, rfl, rfl, rfl, rfl, trivial⟩, H.sel [5, 6, 0, 1, 7, 8, 9] rfl⟩
  ·
   clear H e
   rintro T2 g3 w25 (H : Cx w0 fp0 S0 w25 [Es (List Int) to_ to_h, Bx b9 [(.int .i64 0), (.slice none 0 0), (.slice none 0 0), (.slice none 0 0)], Bx g0_2 [(.int .i64 s0_0), (g3).v, (g0_0).v, (g0_1).v], E (List (Int × Int × List Int × List Int)) r1 g3, E (List Int) s0_1 g0_0, E (List Int) s0_2 g0_1, Es (List (Int × Int × List Int × List Int)) g__1 g__1h])
   refine boolE (z := false) geLen ?_
   refine sq ?_
   refine loadN [(.int .i64 s0_0), (g3).v, (g0_0).v, (g0_1).v] rfl (fun j u hj => H.bx 2 rfl hj) ?_
   replace H := H.sel [1, 0, 2, 3, 4, 5, 6] rfl
   refine stA gok [(.int .i64 s0_0), (g3).v, (g0_0).v, (g0_1).v] rfl H rfl rfl rfl ?_; clear H; intro w26 H
   refine loadN [(.int .i64 s0_0), (g3).v, (g0_0).v, (g0_1).v] rfl (fun j u hj => H.bx 0 rfl hj) ?_
   cases f7
   exact ⟨_, _, rfl, ⟨g3, g0_0, g0_1, rfl, rfl⟩, (H.sel [3, 4, 5] rfl).close ⟨cloE, cloE, cloE, trivial⟩⟩

theorem impl_Graph_renumbered_c (g__0 : Int) (g__1 : List (Int × Int × List Int × List Int)) (g__1h : Hd) (g__2 : List Int) (g__2h : Hd) (g__3 : List Int) (g__3h : Hd) (wires_ : List Int) (wires_h : Hd) (edges_ : List Int) (edges_h : Hd) (y_0 : Int) (y_1 : List (Int × Int × List Int × List Int)) (y_2 : List Int) (y_3 : List Int) (hF : F_impl_Graph_renumbered (g__0, g__1, g__2, g__3) wires_ edges_ = some (y_0, y_1, y_2, y_3)) :
  ConF Tryz.prog 81 #[(.agg #[(.int .i64 g__0), (g__1h).v, (g__2h).v, (g__3h).v]), (wires_h).v, (edges_h).v] [Es (List (Int × Int × List Int × List Int)) g__1 g__1h, Es (List Int) g__2 g__2h, Es (List Int) g__3 g__3h, Es (List Int) wires_ wires_h, Es (List Int) edges_ edges_h] [] (fun v Γ' => ∃ z0 z1 z2 : Hd, v = (.agg #[(.int .i64 y_0), (z0).v, (z1).v, (z2).v]) ∧ Γ' = [E (List (Int × Int × List Int × List Int)) y_1 z0, E (List Int) y_2 z1, E (List Int) y_3 z2]) := by
 intro w0 S0 fp0 hI hS
 have H : Cx w0 fp0 S0 w0 [Es (List (Int × Int × List Int × List Int)) g__1 g__1h, Es (List Int) g__2 g__2h, Es (List Int) g__3 g__3h, Es (List Int) wires_ wires_h, Es (List Int) edges_ edges_h] := Cx.start hI hS
 clear hI hS
 refine enterC (args := [_, _, _]) gok Tryz.func81 rfl _ rfl rfl rfl ?_
 refine box_ H ?_; clear H; intro b7 w6 hx H
 clear hx
 refine alloc_ gok rfl H ?_; clear H; intro b0 w9 hx H
 clear hx
 refine loadN [(.int .i64 g__0), (g__1h).v, (g__2h).v, (g__3h).v] rfl (fun j u hj => H.bx 1 rfl hj) ?_
 refine fld gok rfl rfl rfl rfl ?_
 refine load1 (H.bx 1 rfl (j := 0) rfl) ?_
 obtain ⟨y0, e, f0⟩ := bindS hF; clear hF
 obtain ⟨y0_0, y0_1, y0_2, y0_3⟩ := y0
 have i0 := e; clear e
 refine callF (impl_Graph_moved_c g__0 g__1 g__1h g__2 g__2h g__3 g__3h g__0 wires_ wires_h y0_0 y0_1 y0_2 y0_3 i0) (Γi := []) H ⟨Vw.sh 2 rfl, Vw.sh 3 rfl, Vw.sh 4 rfl, Vw.sh 5 rfl, trivial⟩ ?_; clear H i0
 rintro _ _ w1 ⟨h0, h1, h2, rfl, rfl⟩ H
 refine alloc_ gok rfl H ?_; clear H; intro b1 w2 hx H
 clear hx
 refine stA gok [(.int .i64 y0_0), (h0).v, (h1).v, (h2).v] rfl H rfl rfl rfl ?_; clear H; intro w3 H
 obtain ⟨r0, f1, f2⟩ := bindS f0; clear f0
 refine heldJ H [] (.fst 0 (.fst 2 (.fst 4 (.fst 6 (.fst 1 (.fst 3 (.fst 5 (.fst 7 (.fst 8 (.alts (.alt 9 (.fst 10 (.act 11 (.act 12 .done))) (.alt 11 (.act 9 (.fst 10 (.act 12 .done))) .no)))))))))))) mixed [] trivial (by kernel_rfl) (fun (q0 : (Int × (List (Int × Int × List Int × List Int))) × (Hd × Nat)) => [(2, (edges_h).v), (6, (.pointer (some ⟨b0, 0, none⟩))), (7, (.pointer (some ⟨b1, 0, none⟩))), (8, (.pointer (some ⟨q0.2.2, 0, none⟩)))]) (fun (q0 : (Int × (List (Int × Int × List Int × List Int))) × (Hd × Nat)) w' => (q0.1.1, q0.1.2) = r0 ∧ Cx w0 fp0 S0 w' [Es (List Int) edges_ edges_h, Bx b0 [(.int .i64 0), (.slice none 0 0), (.slice none 0 0), (.slice none 0 0)], Bx b1 [(.int .i64 y0_0), (h0).v, (h1).v, (h2).v], E (List (Int × Int × List Int × List Int)) y0_1 h0, E (List Int) y0_2 h1, E (List Int) y0_3 h2, Bx q0.2.2 [(.int .i64 q0.1.1), (q0.2.1).v, (h1).v, (h2).v], E (List (Int × Int × List Int × List Int)) q0.1.2 q0.2.1]) ?_ ?_
 ·
  clear H; intro w4 H
  have hX : Ext w4 w4 := Upd.refl _ _
  have H0 := H
  refine anyH (fun _ => fld gok rfl rfl rfl rfl ⟨rfl, rfl⟩) ?_
  refine anyH (fun _ => fld gok rfl rfl rfl rfl ⟨rfl, rfl⟩) ?_
  refine anyH (fun _ => fld gok rfl rfl rfl rfl ⟨rfl, rfl⟩) ?_
  refine anyH (fun _ => fld gok rfl rfl rfl rfl ⟨rfl, rfl⟩) ?_
  refine load1X (H.bx 0 rfl (j := 0) rfl) ?_
  refine load1X (H.bx 0 rfl (j := 2) rfl) ?_
  refine load1X (H.bx 0 rfl (j := 3) rfl) ?_
  refine load1X (H.bx 0 rfl (j := 1) rfl) ?_
  refine lenE (H.ro (α := List (Int × Int × List Int × List Int)) 1 rfl).len ?_
  refine both ?_ ?_
  ·
   obtain ⟨a0, e, f3⟩ := bindS f1; clear f1
   refine make_ (α := Int × Int × List Int × List Int) gok rfl rfl rfl rfl (makeCO_of e) H ?_; clear e H; intro h3 w5 hx H
   replace hX := hX.trans0 hx; clear hx
   refine hold hX ?_
   refine anyH (fun _ => build_ (cs := #[(.int .i64 y0_0), (h3).v, (h1).v, (h2).v]) gok rfl rfl rfl ⟨rfl, rfl⟩) ?_
   refine allocX gok rfl H ?_; clear H; intro b2 w7 hx v0 H; replace v0 := Nat.le_trans hX.size v0
   replace hX := hX.trans0 hx; clear hx
   refine hold hX ?_
   refine stAX gok [(.int .i64 y0_0), (h3).v, (h1).v, (h2).v] rfl H rfl rfl rfl ?_; clear H; intro w8 hu H
   replace hX := hX.fresh hu v0; clear hu
   refine hold hX ?_
   exact ⟨((y0_0, a0), (h3, b2)), ⟨rfl, rfl, rfl, rfl, trivial⟩, Option.some.inj f3, H.sel [12, 6, 2, 3, 4, 5, 0, 1] rfl⟩
  ·
   refine both ?_ ?_
   ·
    obtain ⟨a1, o0, f4⟩ := bindS f1; clear f1
    refine allocX gok rfl H ?_; clear H; intro b3 w10 hx v1 H; replace v1 := Nat.le_trans hX.size v1
    replace hX := hX.trans0 hx; clear hx
    refine hold hX ?_
    have e := o0; clear o0
    refine make_ (α := Int × Int × List Int × List Int) gok rfl rfl rfl rfl (makeCO_of e) H ?_; clear e H; intro h4 w11 hx H
    replace hX := hX.trans0 hx; clear hx
    refine hold hX ?_
    refine anyH (fun _ => build_ (cs := #[(.int .i64 y0_0), (h4).v, (h1).v, (h2).v]) gok rfl rfl rfl ⟨rfl, rfl⟩) ?_
    replace H := H.sel [1, 0, 2, 3, 4, 5, 6, 7, 8, 9, 10, 11, 12] rfl
    refine stAX gok [(.int .i64 y0_0), (h4).v, (h1).v, (h2).v] rfl H rfl rfl rfl ?_; clear H; intro w12 hu H
    replace hX := hX.fresh hu v1; clear hu
    refine hold hX ?_
    exact ⟨((y0_0, a1), (h4, b3)), ⟨rfl, rfl, rfl, rfl, trivial⟩, Option.some.inj f4, H.sel [12, 6, 2, 3, 4, 5, 0, 1] rfl⟩
   ·
    exact trivial
 ·
  clear f1 H
  rintro T0 ⟨⟨s0_0, s0_1⟩, ⟨g0_0, g0_1⟩⟩ w13 ⟨hr, (H : Cx w0 fp0 S0 w13 [Es (List Int) edges_ edges_h, Bx b0 [(.int .i64 0), (.slice none 0 0), (.slice none 0 0), (.slice none 0 0)], Bx b1 [(.int .i64 y0_0), (h0).v, (h1).v, (h2).v], E (List (Int × Int × List Int × List Int)) y0_1 h0, E (List Int) y0_2 h1, E (List Int) y0_3 h2, Bx g0_1 [(.int .i64 s0_0), (g0_0).v, (h1).v, (h2).v], E (List (Int × Int × List Int × List Int)) s0_1 g0_0])⟩
  subst hr
  refine sq ?_
  refine fld gok rfl rfl rfl rfl ?_
  refine load1 (H.bx 2 rfl (j := 1) rfl) ?_
  refine lenE (H.ro (α := List (Int × Int × List Int × List Int)) 3 rfl).len ?_
  have x0 := (H.ro (α := List (Int × Int × List Int × List Int)) 3 rfl).max
  replace H := H.sel [3, 0, 1, 2, 4, 5, 6, 7] rfl
  replace H := H.drain
  obtain ⟨r1, e, f5⟩ := bindS f2; clear f2
  refine loopS _ y0_1.length (fun (k0 : Nat) (s1 : List (Int × Int × List Int × List Int)) (_ : Unit) => [(2, (edges_h).v), (6, (.pointer (some ⟨b0, 0, none⟩))), (8, (.pointer (some ⟨g0_1, 0, none⟩))), (28, (h0).v), (29, (.int .i64 ((y0_1.length : Nat) : Int))), (30, (.int .i64 ((k0 : Nat) : Int)))]) (fun (k0 : Nat) (s1 : List (Int × Int × List Int × List Int)) (_ : Unit) w' => Cx w0 fp0 S0 w' [Es (List Int) edges_ edges_h, Bx b0 [(.int .i64 0), (.slice none 0 0), (.slice none 0 0), (.slice none 0 0)], Bx g0_1 [(.int .i64 s0_0), (g0_0).v, (h1).v, (h2).v], E (List (Int × Int × List Int × List Int)) s1 g0_0, E (List Int) y0_2 h1, E (List Int) y0_3 h2, ED (Int × Int × List Int × List Int) k0 y0_1 h0]) s0_1 () e ⟨rfl, rfl, rfl, rfl, rfl, rfl, trivial⟩ (H.sel [1, 2, 6, 7, 4, 5, 0] rfl) ?_ ?_
  ·
   clear H e
   rintro T1 k0 s1 _ w15 o1 hk (H : Cx w0 fp0 S0 w15 [Es (List Int) edges_ edges_h, Bx b0 [(.int .i64 0), (.slice none 0 0), (.slice none 0 0), (.slice none 0 0)], Bx g0_1 [(.int .i64 s0_0), (g0_0).v, (h1).v, (h2).v], E (List (Int × Int × List Int × List Int)) s1 g0_0, E (List Int) y0_2 h1, E (List Int) y0_3 h2, ED (Int × Int × List Int × List Int) k0 y0_1 h0]) f6
   refine boolE (z := true) (ltLen hk) ?_
   refine sq ?_
   refine sq ?_
   obtain ⟨a2, e, f7⟩ := bindS f6; clear f6
   replace H := H.sel [6, 0, 1, 2, 3, 4, 5] rfl
   have HH := H; clear H; obtain ⟨p0, m0, g1, c0, c1, c2, c3, H⟩ := HH.drTake e; clear HH e
   obtain ⟨a2_0, a2_1, a2_2, a2_3⟩ := a2
   obtain ⟨_, _, h5, h6⟩ := g1
   replace H := H.split
   replace H := H.sel [1, 2, 3, 4, 5, 6, 7, 8] rfl
   replace H := H.split
   replace H := H.sel [1, 2, 3, 4, 5, 6, 7, 8] rfl
   replace H := H.split
   refine idxE c0 c1 c2 ?_; clear c0 c1 c2
   refine loadN [(.int .i64 a2_0), (.int .i64 a2_1), (h5).v, (h6).v] rfl c3 ?_; clear c3
   refine alloc_ gok rfl H ?_; clear H; intro b4 w16 hx H
   clear hx
   refine stA gok [(.int .i64 a2_0), (.int .i64 a2_1), (h5).v, (h6).v] rfl H rfl rfl rfl ?_; clear H; intro w17 H
   refine heldX H [8] (.fst 0 (.fst 2 (.fst 3 (.fst 4 (.fst 1 (.fst 5 (.fst 6 (.fst 7 (.act 8 .done))))))))) mixed [] trivial (by kernel_rfl) ?_
   clear H; intro w18 H
   have hX : Ext w18 w18 := Upd.refl _ _
   have H0 := H
   refine anyH (fun _ => fld gok rfl rfl rfl rfl ⟨rfl, rfl⟩) ?_
   obtain ⟨a3, e, f8⟩ := bindS f7; clear f7
   obtain ⟨p1, m1, c4, c5, c6, c7⟩ := (H.rs (α := List Int) 4 rfl).at1 e; clear e
   refine idxE c4 c5 c6 ?_; clear c4 c5 c6
   refine load1X (H.bx 6 rfl (j := 1) rfl) ?_
   refine load1X c7 ?_; clear c7
   refine loadNX [(.int .i64 a2_0), (.int .i64 a2_1), (h5).v, (h6).v] rfl (fun j u hj => H.bx 0 rfl hj) ?_
   replace H := H.sel [1, 2, 0, 3, 4, 5, 6, 7, 8, 9] rfl
   replace H := H.join (α := List Int) (β := List Int)
   replace H := H.sc (α := Int) a2_1
   replace H := H.join (α := Int) (β := List Int × List Int)
   replace H := H.sc (α := Int) a2_0
   replace H := H.join (α := Int) (β := Int × List Int × List Int)
   obtain ⟨a4, e, f9⟩ := bindS f8; clear f8
   have i1 := e; clear e
   replace H := H.sel [6, 0, 1, 2, 3, 4, 5, 7, 8] rfl
   have HH := H; clear H; obtain ⟨p2, m2, c8, c9, c10, c11, H⟩ := HH.hole (α := Int × Int × List Int × List Int) i1; clear HH
   refine idxE c9 c10 c11 ?_
   refine stXA (α := Int × Int × List Int × List Int) gok [(.int .i64 a2_0), (.int .i64 a2_1), (h5).v, (h6).v] rfl rfl H c9 rfl rfl ?_; clear H; intro w19 H
   replace H := H.sel [1, 0, 2, 3, 4, 5, 6, 7, 8] rfl
   replace H := H.put c10 i1; clear c9 c10 c11 i1
   refine hold trivial ?_
   refine arK hk x0 ?_
   have hs := Option.some.inj f9; subst hs; clear f9
   exact ⟨(), ⟨rfl, rfl, rfl, rfl, rfl, rfl, trivial⟩, H.sel [3, 4, 5, 0, 6, 7, 2] rfl⟩
  ·
   clear H e
   rintro T2 _ w20 (H : Cx w0 fp0 S0 w20 [Es (List Int) edges_ edges_h, Bx b0 [(.int .i64 0), (.slice none 0 0), (.slice none 0 0), (.slice none 0 0)], Bx g0_1 [(.int .i64 s0_0), (g0_0).v, (h1).v, (h2).v], E (List (Int × Int × List Int × List Int)) r1 g0_0, E (List Int) y0_2 h1, E (List Int) y0_3 h2, ED (Int × Int × List Int × List Int) y0_1.length y0_1 h0])
   refine boolE (z := false) geLen ?_
   refine sq ?_
   refine loadN [(.int .i64 s0_0), (g0_0).v, (h1).v, (h2).v] rfl (fun j u hj => H.bx 2 rfl hj) ?_
   replace H := H.sel [1, 0, 2, 3, 4, 5, 6] rfl
   refine stA gok [(.int .i64 s0_0), (g0_0).v, (h1).v, (h2).v] rfl H rfl rfl rfl ?_; clear H; intro w22 H
   refine loadN [(.int .i64 s0_0), (g0_0).v, (h1).v, (h2).v] rfl (fun j u hj => H.bx 0 rfl hj) ?_
   cases f5
   exact ⟨_, _, rfl, ⟨g0_0, h1, h2, rfl, rfl⟩, (H.sel [3, 4, 5] rfl).close ⟨cloE, cloE, cloE, trivial⟩⟩

theorem impl_Graph_canonical_c (g__0 : Int) (g__1 : List (Int × Int × List Int × List Int)) (g__1h : Hd) (g__2 : List Int) (g__2h : Hd) (g__3 : List Int) (g__3h : Hd) (y_0 : Int) (y_1 : List (Int × Int × List Int × List Int)) (y_2 : List Int) (y_3 : List Int) (hF : F_impl_Graph_canonical (g__0, g__1, g__2, g__3) = some (y_0, y_1, y_2, y_3)) :
  ConF Tryz.prog 67 #[(.agg #[(.int .i64 g__0), (g__1h).v, (g__2h).v, (g__3h).v])] [Es (List (Int × Int × List Int × List Int)) g__1 g__1h, Es (List Int) g__2 g__2h, Es (List Int) g__3 g__3h] [] (fun v Γ' => ∃ z0 z1 z2 : Hd, v = (.agg #[(.int .i64 y_0), (z0).v, (z1).v, (z2).v]) ∧ Γ' = [E (List (Int × Int × List Int × List Int)) y_1 z0, E (List Int) y_2 z1, E (List Int) y_3 z2]) := by
 intro w0 S0 fp0 hI hS
 have H : Cx w0 fp0 S0 w0 [Es (List (Int × Int × List Int × List Int)) g__1 g__1h, Es (List Int) g__2 g__2h, Es (List Int) g__3 g__3h] := Cx.start hI hS
 clear hI hS
 refine enterC (args := [_]) gok Tryz.func67 rfl _ rfl rfl rfl ?_
 refine box_ H ?_; clear H; intro b5 w4 hx H
 clear hx
 refine alloc_ gok rfl H ?_; clear H; intro b8 w7 hx H
 clear hx
 refine heldX H [6] (.fst 0 (.fst 1 (.act 2 (.fst 3 (.fst 4 (.act 5 (.act 6 .done))))))) mixed [] trivial (by kernel_rfl) ?_
 clear H; intro w1 H
 have hX : Ext w1 w1 := Upd.refl _ _
 have H0 := H
 refine loadNX [(.int .i64 g__0), (g__1h).v, (g__2h).v, (g__3h).v] rfl (fun j u hj => H.bx 1 rfl hj) ?_
 refine loadNX [(.int .i64 g__0), (g__1h).v, (g__2h).v, (g__3h).v] rfl (fun j u hj => H.bx 1 rfl hj) ?_
 obtain ⟨y0, e, f0⟩ := bindS hF; clear hF
 obtain ⟨y0_0, y0_1⟩ := y0
 have i0 := e; clear e
 refine callFx (impl_Graph_canonicalNumbers_c g__0 g__1 g__1h g__2 g__2h g__3 g__3h y0_0 y0_1 i0) H ⟨Vw.sh 2 rfl, Vw.sh 3 rfl, Vw.sh 4 rfl, trivial⟩ ?_; clear H i0
 rintro _ _ w2 ⟨h0, h1, rfl, rfl⟩ hx H
 replace hX := hX.trans0 hx; clear hx
 refine hold hX ?_
 obtain ⟨y1, e, f1⟩ := bindS f0; clear f0
 obtain ⟨y1_0, y1_1, y1_2, y1_3⟩ := y1
 have i1 := e; clear e
 refine callFx (impl_Graph_renumbered_c g__0 g__1 g__1h g__2 g__2h g__3 g__3h y0_0 h0 y0_1 h1 y1_0 y1_1 y1_2 y1_3 i1) H ⟨Vw.sh 4 rfl, Vw.sh 5 rfl, Vw.sh 6 rfl, Vw.own 0 rfl, Vw.own 1 rfl, trivial⟩ ?_; clear H i1
 rintro _ _ w3 ⟨h2, h3, h4, rfl, rfl⟩ hx H
 replace hX := hX.trans0 hx; clear hx
 refine hold hX ?_
 replace H := H.sel [5, 0, 1, 2, 3, 4, 6, 7, 8, 9] rfl
 refine stA gok [(.int .i64 y1_0), (h2).v, (h3).v, (h4).v] rfl H rfl rfl rfl ?_; clear H; intro w5 H
 refine hold trivial ?_
 refine loadN [(.int .i64 y1_0), (h2).v, (h3).v, (h4).v] rfl (fun j u hj => H.bx 0 rfl hj) ?_
 cases f1
 exact ⟨_, _, rfl, ⟨h2, h3, h4, rfl, rfl⟩, (H.sel [1, 2, 3] rfl).close ⟨cloE, cloE, cloE, trivial⟩⟩

theorem impl_drawing_finish_c (d_b : Nat) (d__0_0 : Int) (d__0_1 : List (Int × Int × List Int × List Int)) (d__0_1h : Hd) (d__0_2 : List Int) (d__0_2h : Hd) (d__0_3 : List Int) (d__0_3h : Hd) (y0_0 : Int) (y0_1 : List (Int × Int × List Int × List Int)) (y0_2 : List Int) (y0_3 : List Int) (y1 : Bool) (hF : F_impl_drawing_finish (d__0_0, d__0_1, d__0_2, d__0_3) = some ((y0_0, y0_1, y0_2, y0_3), y1)) :
  ConF Tryz.prog 42 #[(.pointer (some ⟨d_b, 0, none⟩))] [Es (List (Int × Int × List Int × List Int)) d__0_1 d__0_1h, Es (List Int) d__0_2 d__0_2h, Es (List Int) d__0_3 d__0_3h] [Bx d_b [(.int .i64 d__0_0), (d__0_1h).v, (d__0_2h).v, (d__0_3h).v]] (fun v Γ' => ∃ z0 z1 z2 : Hd, v = (.tuple #[(.agg #[(.int .i64 y0_0), (z0).v, (z1).v, (z2).v]), (.bool y1)]) ∧ Γ' = [Bx d_b [(.int .i64 d__0_0), (d__0_1h).v, (d__0_2h).v, (d__0_3h).v], E (List (Int × Int × List Int × List Int)) y0_1 z0, E (List Int) y0_2 z1, E (List Int) y0_3 z2]) := by
 intro w0 S0 fp0 hI hS
 have H : Cx w0 fp0 S0 w0 [Es (List (Int × Int × List Int × List Int)) d__0_1 d__0_1h, Es (List Int) d__0_2 d__0_2h, Es (List Int) d__0_3 d__0_3h, Bx d_b [(.int .i64 d__0_0), (d__0_1h).v, (d__0_2h).v, (d__0_3h).v]] := Cx.start hI hS
 clear hI hS
 refine enterC (args := [_]) gok Tryz.func42 rfl _ rfl rfl rfl ?_
 refine alloc_ gok rfl H ?_; clear H; intro b6 w5 hx H
 clear hx
 refine sq ?_
 refine fld gok rfl rfl rfl rfl ?_
 refine loadN [(.int .i64 d__0_0), (d__0_1h).v, (d__0_2h).v, (d__0_3h).v] rfl (H.bxs 4 rfl 0 rfl) ?_
 obtain ⟨y8, e, hF9⟩ := bindS hF; clear hF
 have ey8 := e; clear e
 refine callF (impl_Graph_isMonogamous_c d__0_0 d__0_1 d__0_1h d__0_2 d__0_2h d__0_3 d__0_3h y8 ey8) (Γi := []) H ⟨Vw.sh 1 rfl, Vw.sh 2 rfl, Vw.sh 3 rfl, trivial⟩ ?_; clear H ey8
 rintro _ _ w1 ⟨rfl, rfl⟩ H
 obtain ⟨a0, e, f0⟩ := bindS hF9; clear hF9
 refine boolO e ?_; clear e
 cases a0
 ·
  have f1 := condF f0; clear f0
  refine fld gok rfl rfl rfl rfl ?_
  refine loadN [(.int .i64 d__0_0), (d__0_1h).v, (d__0_2h).v, (d__0_3h).v] rfl (H.bxs 4 rfl 0 rfl) ?_
  obtain ⟨y0, e, f2⟩ := bindS f1; clear f1
  obtain ⟨y0_0, y0_1, y0_2, y0_3⟩ := y0
  have i0 := e; clear e
  refine callF (impl_Graph_canonical_c d__0_0 d__0_1 d__0_1h d__0_2 d__0_2h d__0_3 d__0_3h y0_0 y0_1 y0_2 y0_3 i0) (Γi := []) H ⟨Vw.sh 1 rfl, Vw.sh 2 rfl, Vw.sh 3 rfl, trivial⟩ ?_; clear H i0
  rintro _ _ w2 ⟨h0, h1, h2, rfl, rfl⟩ H
  replace H := H.sel [3, 0, 1, 2, 4, 5, 6, 7] rfl
  refine stA gok [(.int .i64 y0_0), (h0).v, (h1).v, (h2).v] rfl H rfl rfl rfl ?_; clear H; intro w3 H
  refine loadN [(.int .i64 y0_0), (h0).v, (h1).v, (h2).v] rfl (fun j u hj => H.bx 0 rfl hj) ?_
  cases f2
  exact ⟨_, _, rfl, ⟨h0, h1, h2, rfl, rfl⟩, (H.sel [7, 1, 2, 3] rfl).close ⟨cloB, cloE, cloE, cloE, trivial⟩⟩
 ·
  have f3 := condT f0; clear f0
  refine build_ (cs := #[(.int .i64 0), (.slice none 0 0), (.slice none 0 0), (.slice none 0 0)]) gok rfl rfl rfl ?_
  refine stA gok [(.int .i64 0), (.slice none 0 0), (.slice none 0 0), (.slice none 0 0)] rfl H rfl rfl rfl ?_; clear H; intro w4 H
  refine loadN [(.int .i64 0), (.slice none 0 0), (.slice none 0 0), (.slice none 0 0)] rfl (fun j u hj => H.bx 0 rfl hj) ?_
  replace H := H.nil (α := Int × Int × List Int × List Int)
  replace H := H.nil (α := Int)
  replace H := H.nil (α := Int)
  cases f3
  exact ⟨_, _, rfl, ⟨nilH, nilH, nilH, rfl, rfl⟩, (H.sel [7, 2, 1, 0] rfl).close ⟨cloB, cloE, cloE, cloE, trivial⟩⟩
end Go.Proofs.YtbofgnbanmbopaaGreatDoor
