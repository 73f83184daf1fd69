/-
 Contracts, printed by a program (wip/y/gen.py): each function of Go computes its partial function. Condition of each: its partial function yields a value.
-/
import Derived.Test.YtalmpcgbghnhpaaGreatDoorZCall
namespace Go.Proofs.YtalmpcgbghnhpaaGreatDoor
open Go Go.Proofs.YtalmpcgbghnhpaaGreatDoor.RW
set_option maxRecDepth 100000
set_option linter.unusedVariables false

theorem spec_hgEdge_c (e__0 : Int) (e__1 : Int) (e__2 : List Int) (e__2h : Hd) (e__3 : List Int) (e__3h : Hd) (wires_ : Int) (y : Bool) (hF : F_spec_hgEdge (e__0, e__1, e__2, e__3) wires_ = some y) :
  ConF Tryz.prog 101 #[(.agg #[(.int .i64 e__0), (.int .i64 e__1), (e__2h).v, (e__3h).v]), (.int .i64 wires_)] [Es (List Int) e__2 e__2h, Es (List Int) e__3 e__3h] [] (fun v Γ' => v = (.bool y) ∧ Γ' = []) := by
 intro w0 S0 fp0 hI hS
 have H : Cx w0 fp0 S0 w0 [Es (List Int) e__2 e__2h, Es (List Int) e__3 e__3h] := Cx.start hI hS
 clear hI hS
 refine enterC (args := [_, _]) gok Tryz.func101 rfl _ rfl rfl rfl ?_
 refine box_ H ?_; clear H; intro b4 w3 hx H
 clear hx
 refine sq ?_
 obtain ⟨r0, f0, f1⟩ := bindS hF; clear hF
 refine cut (fun (q0 : Bool) => [(1, (.int .i64 wires_)), (2, (.pointer (some ⟨b4, 0, none⟩))), (19, (.bool q0))]) (fun (q0 : Bool) w' => q0 = r0 ∧ Cx w0 fp0 S0 w' [Bx b4 [(.int .i64 e__0), (.int .i64 e__1), (e__2h).v, (e__3h).v], Es (List Int) e__2 e__2h, Es (List Int) e__3 e__3h]) ?_ ?_
 ·
  refine fld gok rfl rfl rfl rfl ?_
  refine load1 (H.bx 0 rfl (j := 0) rfl) ?_
  obtain ⟨y0, e, f2⟩ := bindS f0; clear f0
  have i0 := e; clear e
  refine callF (spec_l1In_c e__0 3 14 y0 i0) (Γi := []) H trivial ?_; clear H i0
  rintro _ _ w1 ⟨rfl, rfl⟩ H
  obtain ⟨a0, e, f3⟩ := bindS f2; clear f2
  refine boolO e ?_; clear e
  cases a0
  ·
   have f4 := condF f3; clear f3
   refine fld gok rfl rfl rfl rfl ?_
   refine load1 (H.bx 0 rfl (j := 0) rfl) ?_
   refine fld gok rfl rfl rfl rfl ?_
   refine load1 (H.bx 0 rfl (j := 1) rfl) ?_
   refine build_ (cs := #[(.int .i64 e__0), (.int .i64 e__1), (.string .empty)]) gok rfl rfl rfl ?_
   obtain ⟨y1, e, f5⟩ := bindS f4; clear f4
   have i1 := e; clear e
   refine callF (spec_tmLeaf_c e__0 e__1 .empty y1 i1) (Γi := []) H trivial ?_; clear H i1
   rintro _ _ w2 ⟨rfl, rfl⟩ H
   obtain ⟨a1, e, f6⟩ := bindS f5; clear f5
   refine boolO e ?_; clear e
   exact ⟨a1, ⟨rfl, rfl, rfl, trivial⟩, Option.some.inj f6, H.sel [0, 1, 2] rfl⟩
  ·
   have f7 := condT f3; clear f3
   exact ⟨true, ⟨rfl, rfl, rfl, trivial⟩, Option.some.inj f7, H.sel [0, 1, 2] rfl⟩
 ·
  clear f0 H
  rintro T0 s0 w4 ⟨hr, (H : Cx w0 fp0 S0 w4 [Bx b4 [(.int .i64 e__0), (.int .i64 e__1), (e__2h).v, (e__3h).v], Es (List Int) e__2 e__2h, Es (List Int) e__3 e__3h])⟩
  subst hr
  cases s0
  ·
   have f8 := condF f1; clear f1
   refine fld gok rfl rfl rfl rfl ?_
   refine load1 (H.bx 0 rfl (j := 0) rfl) ?_
   obtain ⟨y2, e, f9⟩ := bindS f8; clear f8
   obtain ⟨y2_0, y2_1⟩ := y2
   have i2 := e; clear e
   refine callF (spec_tmKind_c e__0 y2_0 y2_1 i2) (Γi := []) H trivial ?_; clear H i2
   rintro _ _ w5 ⟨rfl, rfl⟩ H
   obtain ⟨r1, f10, f11⟩ := bindS f9; clear f9
   refine cut (fun (q1 : Bool) => [(4, (.bool q1))]) (fun (q1 : Bool) w' => q1 = r1 ∧ Cx w0 fp0 S0 w' []) ?_ ?_
   ·
    refine fld gok rfl rfl rfl rfl ?_
    refine load1 (H.bx 0 rfl (j := 2) rfl) ?_
    refine lenE (H.rs (α := List Int) 1 rfl).len ?_
    obtain ⟨a2, e, f12⟩ := bindS f10; clear f10
    refine boolO e ?_; clear e
    cases a2
    ·
     have f13 := condF f12; clear f12
     exact ⟨false, ⟨rfl, trivial⟩, Option.some.inj f13, H.sel [] rfl⟩
    ·
     have f14 := condT f12; clear f12
     refine fld gok rfl rfl rfl rfl ?_
     refine load1 (H.bx 0 rfl (j := 3) rfl) ?_
     refine lenE (H.rs (α := List Int) 2 rfl).len ?_
     obtain ⟨a3, e, f15⟩ := bindS f14; clear f14
     refine boolO e ?_; clear e
     cases a3
     ·
      have f16 := condF f15; clear f15
      exact ⟨false, ⟨rfl, trivial⟩, Option.some.inj f16, H.sel [] rfl⟩
     ·
      have f17 := condT f15; clear f15
      refine fld gok rfl rfl rfl rfl ?_
      refine load1 (H.bx 0 rfl (j := 2) rfl) ?_
      obtain ⟨a4, e, f18⟩ := bindS f17; clear f17
      refine arO e ?_; clear e
      obtain ⟨y3, e, f19⟩ := bindS f18; clear f18
      have i3 := e; clear e
      refine callF (spec_l1All_c e__2 e__2h 0 a4 y3 i3) (Γi := []) H ⟨Vw.sh 1 rfl, trivial⟩ ?_; clear H i3
      rintro _ _ w6 ⟨rfl, rfl⟩ H
      cases y3
      ·
       have f20 := condF f19; clear f19
       exact ⟨false, ⟨rfl, trivial⟩, Option.some.inj f20, H.sel [] rfl⟩
      ·
       have f21 := condT f19; clear f19
       refine fld gok rfl rfl rfl rfl ?_
       refine load1 (H.bx 0 rfl (j := 3) rfl) ?_
       obtain ⟨a5, e, f22⟩ := bindS f21; clear f21
       refine arO e ?_; clear e
       obtain ⟨y4, e, f23⟩ := bindS f22; clear f22
       have i4 := e; clear e
       refine callF (spec_l1All_c e__3 e__3h 0 a5 y4 i4) (Γi := []) H ⟨Vw.sh 2 rfl, trivial⟩ ?_; clear H i4
       rintro _ _ w7 ⟨rfl, rfl⟩ H
       exact ⟨y4, ⟨rfl, trivial⟩, Option.some.inj f23, H.sel [] rfl⟩
   ·
    clear f10 H
    rintro T1 s1 w8 ⟨hr, (H : Cx w0 fp0 S0 w8 [])⟩
    subst hr
    cases f11
    exact ⟨_, _, rfl, ⟨rfl, rfl⟩, (H.sel [] rfl).close trivial⟩
  ·
   have f24 := condT f1; clear f1
   cases f24
   exact ⟨_, _, rfl, ⟨rfl, rfl⟩, (H.sel [] rfl).close trivial⟩

theorem spec_hgValid_c (g__0 : Int) (g__1 : List (Int × Int × List Int × List Int)) (g__1h : Hd) (g__2 : List Int) (g__2h : Hd) (g__3 : List Int) (g__3h : Hd) (y : Bool) (hF : F_spec_hgValid (g__0, g__1, g__2, g__3) = some y) :
  ConF Tryz.prog 84 #[(.agg #[(.int .i64 g__0), (g__1h).v, (g__2h).v, (g__3h).v])] [Es (List (Int × Int × List Int × List Int)) g__1 g__1h, Es (List Int) g__2 g__2h, Es (List Int) g__3 g__3h] [] (fun v Γ' => v = (.bool y) ∧ Γ' = []) := by
 intro w0 S0 fp0 hI hS
 have H : Cx w0 fp0 S0 w0 [Es (List (Int × Int × List Int × List Int)) g__1 g__1h, Es (List Int) g__2 g__2h, Es (List Int) g__3 g__3h] := Cx.start hI hS
 clear hI hS
 refine enterC (args := [_]) gok Tryz.func84 rfl _ rfl rfl rfl ?_
 refine box_ H ?_; clear H; intro b5 w4 hx H
 clear hx
 refine sq ?_
 obtain ⟨r0, f0, f1⟩ := bindS hF; clear hF
 refine cut (fun (q0 : Bool) => [(1, (.pointer (some ⟨b5, 0, none⟩))), (47, (.bool q0))]) (fun (q0 : Bool) w' => q0 = r0 ∧ Cx w0 fp0 S0 w' [Bx b5 [(.int .i64 g__0), (g__1h).v, (g__2h).v, (g__3h).v], Es (List (Int × Int × List Int × List Int)) g__1 g__1h, Es (List Int) g__2 g__2h, Es (List Int) g__3 g__3h]) ?_ ?_
 ·
  refine fld gok rfl rfl rfl rfl ?_
  refine load1 (H.bx 0 rfl (j := 0) rfl) ?_
  obtain ⟨y0, e, f2⟩ := bindS f0; clear f0
  have i0 := e; clear e
  refine callF (spec_l1In_c g__0 0 100 y0 i0) (Γi := []) H trivial ?_; clear H i0
  rintro _ _ w1 ⟨rfl, rfl⟩ H
  obtain ⟨a0, e, f3⟩ := bindS f2; clear f2
  refine boolO e ?_; clear e
  cases a0
  ·
   have f4 := condF f3; clear f3
   refine fld gok rfl rfl rfl rfl ?_
   refine load1 (H.bx 0 rfl (j := 1) rfl) ?_
   refine lenE (H.rs (α := List (Int × Int × List Int × List Int)) 1 rfl).len ?_
   obtain ⟨a1, e, f5⟩ := bindS f4; clear f4
   refine boolO e ?_; clear e
   cases a1
   ·
    have f6 := condF f5; clear f5
    refine fld gok rfl rfl rfl rfl ?_
    refine load1 (H.bx 0 rfl (j := 2) rfl) ?_
    refine lenE (H.rs (α := List Int) 2 rfl).len ?_
    obtain ⟨a2, e, f7⟩ := bindS f6; clear f6
    refine boolO e ?_; clear e
    cases a2
    ·
     have f8 := condF f7; clear f7
     refine fld gok rfl rfl rfl rfl ?_
     refine load1 (H.bx 0 rfl (j := 3) rfl) ?_
     refine lenE (H.rs (α := List Int) 3 rfl).len ?_
     obtain ⟨a3, e, f9⟩ := bindS f8; clear f8
     refine boolO e ?_; clear e
     cases a3
     ·
      have f10 := condF f9; clear f9
      refine fld gok rfl rfl rfl rfl ?_
      refine load1 (H.bx 0 rfl (j := 2) rfl) ?_
      refine fld gok rfl rfl rfl rfl ?_
      refine load1 (H.bx 0 rfl (j := 0) rfl) ?_
      obtain ⟨a4, e, f11⟩ := bindS f10; clear f10
      refine arO e ?_; clear e
      obtain ⟨y1, e, f12⟩ := bindS f11; clear f11
      have i1 := e; clear e
      refine callF (spec_l1All_c g__2 g__2h 0 a4 y1 i1) (Γi := []) H ⟨Vw.sh 2 rfl, trivial⟩ ?_; clear H i1
      rintro _ _ w2 ⟨rfl, rfl⟩ H
      obtain ⟨a5, e, f13⟩ := bindS f12; clear f12
      refine boolO e ?_; clear e
      cases a5
      ·
       have f14 := condF f13; clear f13
       refine fld gok rfl rfl rfl rfl ?_
       refine load1 (H.bx 0 rfl (j := 3) rfl) ?_
       refine fld gok rfl rfl rfl rfl ?_
       refine load1 (H.bx 0 rfl (j := 0) rfl) ?_
       obtain ⟨a6, e, f15⟩ := bindS f14; clear f14
       refine arO e ?_; clear e
       obtain ⟨y2, e, f16⟩ := bindS f15; clear f15
       have i2 := e; clear e
       refine callF (spec_l1All_c g__3 g__3h 0 a6 y2 i2) (Γi := []) H ⟨Vw.sh 3 rfl, trivial⟩ ?_; clear H i2
       rintro _ _ w3 ⟨rfl, rfl⟩ H
       obtain ⟨a7, e, f17⟩ := bindS f16; clear f16
       refine boolO e ?_; clear e
       exact ⟨a7, ⟨rfl, rfl, trivial⟩, Option.some.inj f17, H.sel [0, 1, 2, 3] rfl⟩
      ·
       have f18 := condT f13; clear f13
       exact ⟨true, ⟨rfl, rfl, trivial⟩, Option.some.inj f18, H.sel [0, 1, 2, 3] rfl⟩
     ·
      have f19 := condT f9; clear f9
      exact ⟨true, ⟨rfl, rfl, trivial⟩, Option.some.inj f19, H.sel [0, 1, 2, 3] rfl⟩
    ·
     have f20 := condT f7; clear f7
     exact ⟨true, ⟨rfl, rfl, trivial⟩, Option.some.inj f20, H.sel [0, 1, 2, 3] rfl⟩
   ·
    have f21 := condT f5; clear f5
    exact ⟨true, ⟨rfl, rfl, trivial⟩, Option.some.inj f21, H.sel [0, 1, 2, 3] rfl⟩
  ·
   have f22 := condT f3; clear f3
   exact ⟨true, ⟨rfl, rfl, trivial⟩, Option.some.inj f22, H.sel [0, 1, 2, 3] rfl⟩
 ·
  clear f0 H
  rintro T0 s0 w5 ⟨hr, (H : Cx w0 fp0 S0 w5 [Bx b5 [(.int .i64 g__0), (g__1h).v, (g__2h).v, (g__3h).v], Es (List (Int × Int × List Int × List Int)) g__1 g__1h, Es (List Int) g__2 g__2h, Es (List Int) g__3 g__3h])⟩
  subst hr
  cases s0
  ·
   have f23 := condF f1; clear f1
   refine sq ?_
   refine fld gok rfl rfl rfl rfl ?_
   refine load1 (H.bx 0 rfl (j := 1) rfl) ?_
   refine lenE (H.rs (α := List (Int × Int × List Int × List Int)) 1 rfl).len ?_
   have x0 := (H.rs (α := List (Int × Int × List Int × List Int)) 1 rfl).max
   obtain ⟨r1, e, f24⟩ := bindS f23; clear f23
   refine loopO _ g__1.length (fun (k0 : Nat) (_ : Unit) (_ : Unit) => [(1, (.pointer (some ⟨b5, 0, none⟩))), (49, (g__1h).v), (50, (.int .i64 ((g__1.length : Nat) : Int))), (51, (.int .i64 ((k0 : Nat) : Int)))]) (fun _ (_ : Unit) (_ : Unit) w' => Cx w0 fp0 S0 w' [Bx b5 [(.int .i64 g__0), (g__1h).v, (g__2h).v, (g__3h).v], Es (List (Int × Int × List Int × List Int)) g__1 g__1h, Es (List Int) g__2 g__2h, Es (List Int) g__3 g__3h]) () () e ⟨rfl, rfl, rfl, rfl, trivial⟩ (H.sel [0, 1, 2, 3] rfl) ?_ ?_
   ·
    clear H e
    rintro T1 k0 _ _ w6 o0 hk (H : Cx w0 fp0 S0 w6 [Bx b5 [(.int .i64 g__0), (g__1h).v, (g__2h).v, (g__3h).v], Es (List (Int × Int × List Int × List Int)) g__1 g__1h, Es (List Int) g__2 g__2h, Es (List Int) g__3 g__3h]) hrt f25
    refine boolE (z := true) (ltLen hk) ?_
    refine sq ?_
    refine sq ?_
    obtain ⟨a8, e, f26⟩ := bindS f25; clear f25
    have HH := H; clear H; obtain ⟨p0, m0, g0, c0, c1, c2, c3, H⟩ := HH.el (α := Int × Int × List Int × List Int) 1 rfl e; clear HH
    clear e
    obtain ⟨a8_0, a8_1, a8_2, a8_3⟩ := a8
    obtain ⟨_, _, h0, h1⟩ := g0
    replace H := H.part (β := List Int) a8_2 (h0 : Hd) 0 rfl (fun S h => (And.left (And.right (And.right h))))
    replace H := H.part (β := List Int) a8_3 (h1 : Hd) 1 rfl (fun S h => (And.right (And.right (And.right h))))
    replace H := H.sel [0, 1, 3, 4, 5, 6] rfl
    refine idxE c0 c1 c2 ?_; clear c0 c1 c2
    refine loadN [(.int .i64 a8_0), (.int .i64 a8_1), (h0).v, (h1).v] rfl c3 ?_; clear c3
    refine alloc_ gok rfl H ?_; clear H; intro b0 w7 hx H
    clear hx
    refine stA gok [(.int .i64 a8_0), (.int .i64 a8_1), (h0).v, (h1).v] rfl H rfl rfl rfl ?_; clear H; intro w8 H
    refine loadN [(.int .i64 a8_0), (.int .i64 a8_1), (h0).v, (h1).v] rfl (fun j u hj => H.bx 0 rfl hj) ?_
    refine fld gok rfl rfl rfl rfl ?_
    refine load1 (H.bx 3 rfl (j := 0) rfl) ?_
    obtain ⟨y3, e, f27⟩ := bindS f26; clear f26
    have i3 := e; clear e
    refine callF (spec_hgEdge_c a8_0 a8_1 a8_2 h0 a8_3 h1 g__0 y3 i3) (Γi := []) H ⟨Vw.sh 2 rfl, Vw.sh 1 rfl, trivial⟩ ?_; clear H i3
    rintro _ _ w9 ⟨rfl, rfl⟩ H
    obtain ⟨a9, e, f28⟩ := bindS f27; clear f27
    refine boolO e ?_; clear e
    cases a9
    ·
     have f29 := condF f28; clear f28
     refine arK hk x0 ?_
     have hs := Option.some.inj f29; subst hs; clear f29
     exact ⟨(), (), rfl, ⟨rfl, rfl, rfl, rfl, trivial⟩, H.sel [3, 4, 5, 6] rfl⟩
    ·
     have f30 := condT f28; clear f28
     have hs := Option.some.inj f30; subst hs; clear f30
     have hr := hrt _ rfl; subst hr
     have f31 : some _ = some _ := f24
     cases f31
     exact ⟨_, _, rfl, ⟨rfl, rfl⟩, (H.sel [] rfl).close trivial⟩
   ·
    clear H e
    rintro T2 _ _ w10 hr (H : Cx w0 fp0 S0 w10 [Bx b5 [(.int .i64 g__0), (g__1h).v, (g__2h).v, (g__3h).v], Es (List (Int × Int × List Int × List Int)) g__1 g__1h, Es (List Int) g__2 g__2h, Es (List Int) g__3 g__3h])
    subst hr
    refine boolE (z := false) geLen ?_
    refine sq ?_
    refine loadN [(.int .i64 g__0), (g__1h).v, (g__2h).v, (g__3h).v] rfl (fun j u hj => H.bx 0 rfl hj) ?_
    obtain ⟨y4, e, f32⟩ := bindS f24; clear f24
    obtain ⟨y4_0, y4_1⟩ := y4
    have i4 := e; clear e
    refine callF (spec_hgCounts_c g__0 g__1 g__1h g__2 g__2h g__3 g__3h y4_0 y4_1 i4) (Γi := []) H ⟨Vw.sh 1 rfl, Vw.sh 2 rfl, Vw.sh 3 rfl, trivial⟩ ?_; clear H i4
    rintro _ _ w11 ⟨h2, h3, rfl, rfl⟩ H
    refine sq ?_
    refine lenE (H.ro (α := List Int) 0 rfl).len ?_
    have x1 := (H.ro (α := List Int) 0 rfl).max
    obtain ⟨r2, e, f33⟩ := bindS f32; clear f32
    refine loopO _ y4_0.length (fun (k1 : Nat) (_ : Unit) (_ : Unit) => [(5, (h2).v), (6, (h3).v), (67, (.int .i64 ((y4_0.length : Nat) : Int))), (68, (.int .i64 ((k1 : Nat) : Int)))]) (fun _ (_ : Unit) (_ : Unit) w' => Cx w0 fp0 S0 w' [E (List Int) y4_0 h2, E (List Int) y4_1 h3]) () () e ⟨rfl, rfl, rfl, rfl, trivial⟩ (H.sel [0, 1] rfl) ?_ ?_
    ·
     clear H e
     rintro T3 k1 _ _ w12 o1 hk (H : Cx w0 fp0 S0 w12 [E (List Int) y4_0 h2, E (List Int) y4_1 h3]) hrt f34
     refine boolE (z := true) (ltLen hk) ?_
     refine sq ?_
     refine sq ?_
     refine heldX H [] (.fst 0 (.fst 1 (.fst 2 (.fst 4 (.fst 5 (.fst 6 (.fst 3 (.fst 7 (.fst 8 (.fst 9 .done)))))))))) mixed [] trivial (by kernel_rfl) ?_
     clear H; intro w13 H
     have hX : Ext w13 w13 := Upd.refl _ _
     have H0 := H
     obtain ⟨a10, e, f35⟩ := bindS f34; clear f34
     obtain ⟨p1, m1, c4, c5, c6, c7⟩ := (H.ro (α := List Int) 0 rfl).at1 e; clear e
     refine idxE c4 c5 c6 ?_; clear c4 c5 c6
     obtain ⟨a11, e, f36⟩ := bindS f35; clear f35
     obtain ⟨p2, m2, c8, c9, c10, c11⟩ := (H.ro (α := List Int) 1 rfl).at1 e; clear e
     refine idxE c8 c9 c10 ?_; clear c8 c9 c10
     refine load1X c7 ?_; clear c7
     refine load1X c11 ?_; clear c11
     obtain ⟨a12, e, f37⟩ := bindS f36; clear f36
     refine arO e ?_; clear e
     obtain ⟨a13, e, f38⟩ := bindS f37; clear f37
     refine boolO e ?_; clear e
     cases a13
     ·
      have f39 := condF f38; clear f38
      refine arK hk x1 ?_
      have hs := Option.some.inj f39; subst hs; clear f39
      exact ⟨(), (), rfl, ⟨rfl, rfl, rfl, rfl, trivial⟩, H.sel [0, 1] rfl⟩
     ·
      have f40 := condT f38; clear f38
      have hs := Option.some.inj f40; subst hs; clear f40
      have hr := hrt _ rfl; subst hr
      have f41 : some _ = some _ := f33
      cases f41
      exact ⟨_, _, rfl, ⟨rfl, rfl⟩, (H.sel [] rfl).close trivial⟩
    ·
     clear H e
     rintro T4 _ _ w14 hr (H : Cx w0 fp0 S0 w14 [E (List Int) y4_0 h2, E (List Int) y4_1 h3])
     subst hr
     refine boolE (z := false) geLen ?_
     refine sq ?_
     cases f33
     exact ⟨_, _, rfl, ⟨rfl, rfl⟩, (H.sel [] rfl).close trivial⟩
  ·
   have f42 := condT f1; clear f1
   cases f42
   exact ⟨_, _, rfl, ⟨rfl, rfl⟩, (H.sel [] rfl).close trivial⟩

theorem spec_hgIf_c (g__0 : Int) (g__1 : List (Int × Int × List Int × List Int)) (g__1h : Hd) (g__2 : List Int) (g__2h : Hd) (g__3 : List Int) (g__3h : Hd) (y0_0 : Int) (y0_1 : List (Int × Int × List Int × List Int)) (y0_2 : List Int) (y0_3 : List Int) (y1 : Bool) (hF : F_spec_hgIf (g__0, g__1, g__2, g__3) = some ((y0_0, y0_1, y0_2, y0_3), y1)) :
  ConS Tryz.prog 54 #[(.agg #[(.int .i64 g__0), (g__1h).v, (g__2h).v, (g__3h).v])] [Es (List (Int × Int × List Int × List Int)) g__1 g__1h, Es (List Int) g__2 g__2h, Es (List Int) g__3 g__3h] [] (fun v Γ' => ∃ z0 z1 z2 : Hd, v = (.tuple #[(.agg #[(.int .i64 y0_0), (z0).v, (z1).v, (z2).v]), (.bool y1)]) ∧ Γ' = [Es (List (Int × Int × List Int × List Int)) y0_1 z0, Es (List Int) y0_2 z1, Es (List Int) y0_3 z2]) := by
 intro w0 S0 fp0 hI hS
 have H : Cx w0 fp0 S0 w0 [Es (List (Int × Int × List Int × List Int)) g__1 g__1h, Es (List Int) g__2 g__2h, Es (List Int) g__3 g__3h] := Cx.start hI hS
 clear hI hS
 refine enterC (args := [_]) gok Tryz.func54 rfl _ rfl rfl rfl ?_
 refine box_ H ?_; clear H; intro b5 w4 hx H
 clear hx
 refine alloc_ gok rfl H ?_; clear H; intro b8 w7 hx H
 clear hx
 refine sq ?_
 refine loadN [(.int .i64 g__0), (g__1h).v, (g__2h).v, (g__3h).v] rfl (fun j u hj => H.bx 1 rfl hj) ?_
 obtain ⟨y0, e, f0⟩ := bindS hF; clear hF
 have i0 := e; clear e
 refine callF (spec_hgValid_c g__0 g__1 g__1h g__2 g__2h g__3 g__3h y0 i0) (Γi := []) H ⟨Vw.sh 2 rfl, Vw.sh 3 rfl, Vw.sh 4 rfl, trivial⟩ ?_; clear H i0
 rintro _ _ w1 ⟨rfl, rfl⟩ H
 obtain ⟨a0, e, f1⟩ := bindS f0; clear f0
 refine boolO e ?_; clear e
 cases a0
 ·
  have f2 := condF f1; clear f1
  refine loadN [(.int .i64 g__0), (g__1h).v, (g__2h).v, (g__3h).v] rfl (fun j u hj => H.bx 1 rfl hj) ?_
  refine stA gok [(.int .i64 g__0), (g__1h).v, (g__2h).v, (g__3h).v] rfl H rfl rfl rfl ?_; clear H; intro w2 H
  refine loadN [(.int .i64 g__0), (g__1h).v, (g__2h).v, (g__3h).v] rfl (fun j u hj => H.bx 0 rfl hj) ?_
  cases f2
  exact ⟨_, _, rfl, ⟨g__1h, g__2h, g__3h, rfl, rfl⟩, (H.sel [2, 3, 4] rfl)⟩
 ·
  have f3 := condT f1; clear f1
  refine build_ (cs := #[(.int .i64 0), (.slice none 0 0), (.slice none 0 0), (.slice none 0 0)]) gok rfl rfl rfl ?_
  refine stA gok [(.int .i64 0), (.slice none 0 0), (.slice none 0 0), (.slice none 0 0)] rfl H rfl rfl rfl ?_; clear H; intro w3 H
  refine loadN [(.int .i64 0), (.slice none 0 0), (.slice none 0 0), (.slice none 0 0)] rfl (fun j u hj => H.bx 0 rfl hj) ?_
  replace H := H.nil (α := Int × Int × List Int × List Int)
  replace H := H.frz
  replace H := H.nil (α := Int)
  replace H := H.frz
  replace H := H.nil (α := Int)
  replace H := H.frz
  cases f3
  exact ⟨_, _, rfl, ⟨nilH, nilH, nilH, rfl, rfl⟩, (H.sel [2, 1, 0] rfl)⟩

theorem spec_hgPar_c (a__0 : Int) (a__1 : List (Int × Int × List Int × List Int)) (a__1h : Hd) (a__2 : List Int) (a__2h : Hd) (a__3 : List Int) (a__3h : Hd) (b__0 : Int) (b__1 : List (Int × Int × List Int × List Int)) (b__1h : Hd) (b__2 : List Int) (b__2h : Hd) (b__3 : List Int) (b__3h : Hd) (y_0 : Int) (y_1 : List (Int × Int × List Int × List Int)) (y_2 : List Int) (y_3 : List Int) (hF : F_spec_hgPar (a__0, a__1, a__2, a__3) (b__0, b__1, b__2, b__3) = some (y_0, y_1, y_2, y_3)) :
  ConF Tryz.prog 56 #[(.agg #[(.int .i64 a__0), (a__1h).v, (a__2h).v, (a__3h).v]), (.agg #[(.int .i64 b__0), (b__1h).v, (b__2h).v, (b__3h).v])] [Es (List (Int × Int × List Int × List Int)) a__1 a__1h, Es (List Int) a__2 a__2h, Es (List Int) a__3 a__3h, Es (List (Int × Int × List Int × List Int)) b__1 b__1h, Es (List Int) b__2 b__2h, Es (List Int) b__3 b__3h] [] (fun v Γ' => ∃ z0 z1 z2 : Hd, v = (.agg #[(.int .i64 y_0), (z0).v, (z1).v, (z2).v]) ∧ Γ' = [E (List (Int × Int × List Int × List Int)) y_1 z0, E (List Int) y_2 z1, E (List Int) y_3 z2]) := by
 intro w0 S0 fp0 hI hS
 have H : Cx w0 fp0 S0 w0 [Es (List (Int × Int × List Int × List Int)) a__1 a__1h, Es (List Int) a__2 a__2h, Es (List Int) a__3 a__3h, Es (List (Int × Int × List Int × List Int)) b__1 b__1h, Es (List Int) b__2 b__2h, Es (List Int) b__3 b__3h] := Cx.start hI hS
 clear hI hS
 refine enterC (args := [_, _]) gok Tryz.func56 rfl _ rfl rfl rfl ?_
 refine box_ H ?_; clear H; intro b8 w7 hx H
 clear hx
 refine box_ H ?_; clear H; intro b0 w1 hx H
 clear hx
 refine alloc_ gok rfl H ?_; clear H; intro b1 w2 hx H
 clear hx
 refine loadN [(.int .i64 a__0), (a__1h).v, (a__2h).v, (a__3h).v] rfl (fun j u hj => H.bx 2 rfl hj) ?_
 refine loadN [(.int .i64 b__0), (b__1h).v, (b__2h).v, (b__3h).v] rfl (fun j u hj => H.bx 1 rfl hj) ?_
 obtain ⟨y0, e, f0⟩ := bindS hF; clear hF
 obtain ⟨y0_0, y0_1, y0_2, y0_3⟩ := y0
 have i0 := e; clear e
 refine callF (spec_hgBeside_c a__0 a__1 a__1h a__2 a__2h a__3 a__3h b__0 b__1 b__1h b__2 b__2h b__3 b__3h y0_0 y0_1 y0_2 y0_3 i0) (Γi := []) H ⟨Vw.sh 3 rfl, Vw.sh 4 rfl, Vw.sh 5 rfl, Vw.sh 6 rfl, Vw.sh 7 rfl, Vw.sh 8 rfl, trivial⟩ ?_; clear H i0
 rintro _ _ w3 ⟨h0, h1, h2, rfl, rfl⟩ H
 replace H := H.sel [3, 0, 1, 2, 4, 5, 6, 7, 8, 9, 10, 11] rfl
 refine stA gok [(.int .i64 y0_0), (h0).v, (h1).v, (h2).v] rfl H rfl rfl rfl ?_; clear H; intro w4 H
 refine loadN [(.int .i64 y0_0), (h0).v, (h1).v, (h2).v] rfl (fun j u hj => H.bx 0 rfl hj) ?_
 cases f0
 exact ⟨_, _, rfl, ⟨h0, h1, h2, rfl, rfl⟩, (H.sel [1, 2, 3] rfl).close ⟨cloE, cloE, cloE, trivial⟩⟩

theorem spec_hgMade_cn : ∀ (fuel : Nat) (t__0 : List (Int × Int × ByteArray)) (t__0h : Hd) (y0_0 : Int) (y0_1 : List (Int × Int × List Int × List Int)) (y0_2 : List Int) (y0_3 : List Int) (y1 : Bool) (hF : F_spec_hgMade_n fuel t__0 = some ((y0_0, y0_1, y0_2, y0_3), y1)),
  ConS Tryz.prog 28 #[(.agg #[(t__0h).v])] [Es (List (Int × Int × ByteArray)) t__0 t__0h] [] (fun v Γ' => ∃ z0 z1 z2 : Hd, v = (.tuple #[(.agg #[(.int .i64 y0_0), (z0).v, (z1).v, (z2).v]), (.bool y1)]) ∧ Γ' = [Es (List (Int × Int × List Int × List Int)) y0_1 z0, Es (List Int) y0_2 z1, Es (List Int) y0_3 z2]) := by
 intro fuel
 induction fuel with
 | zero => intro t__0 t__0h y0_0 y0_1 y0_2 y0_3 y1 hF; cases hF
 | succ fuel ih =>
 intro t__0 t__0h y0_0 y0_1 y0_2 y0_3 y1 hF
 intro w0 S0 fp0 hI hS
 have H : Cx w0 fp0 S0 w0 [Es (List (Int × Int × ByteArray)) t__0 t__0h] := Cx.start hI hS
 clear hI hS
 refine enterC (args := [_]) gok Tryz.func28 rfl _ rfl rfl rfl ?_
 refine box_ H ?_; clear H; intro b3 w2 hx H
 clear hx
 refine alloc_ gok rfl H ?_; clear H; intro b6 w5 hx H
 clear hx
 refine loadN [(t__0h).v] rfl (fun j u hj => H.bx 1 rfl hj) ?_
 obtain ⟨y8, e, hF9⟩ := bindS hF; clear hF
 have ey8 := e; clear e
 refine callF (spec_tmTop_c t__0 t__0h y8 ey8) (Γi := []) H ⟨Vw.sh 2 rfl, trivial⟩ ?_; clear H ey8
 rintro _ _ w1 ⟨rfl, rfl⟩ H
 refine sq ?_
 obtain ⟨a0, e, f0⟩ := bindS hF9; clear hF9
 refine boolO e ?_; clear e
 cases a0
 ·
  have f1 := condF f0; clear f0
  refine loadN [(t__0h).v] rfl (fun j u hj => H.bx 1 rfl hj) ?_
  obtain ⟨y0, e, f2⟩ := bindS f1; clear f1
  obtain ⟨y0_0_0, y0_1_0⟩ := y0
  have i0 := e; clear e
  refine callS (spec_tmParts_c t__0 t__0h y0_0_0 y0_1_0 i0) (Γi := []) H [2] rfl (persC persS persN) ?_; clear H i0
  rintro _ _ w3 ⟨h0, h1, rfl, rfl⟩ H
  refine alloc_ gok rfl H ?_; clear H; intro b0 w4 hx H
  clear hx
  refine alloc_ gok rfl H ?_; clear H; intro b1 w6 hx H
  clear hx
  replace H := H.sel [1, 0, 2, 3, 4, 5, 6] rfl
  refine stA gok [(h0).v] rfl H rfl rfl rfl ?_; clear H; intro w7 H
  replace H := H.sel [1, 0, 2, 3, 4, 5, 6] rfl
  refine stA gok [(h1).v] rfl H rfl rfl rfl ?_; clear H; intro w8 H
  refine loadN [(h0).v] rfl (fun j u hj => H.bx 1 rfl hj) ?_
  obtain ⟨y2, e, f3⟩ := bindS f2; clear f2
  obtain ⟨⟨y2_0_0, y2_0_1, y2_0_2, y2_0_3⟩, y2_1⟩ := y2
  have i1 := e; clear e
  refine callS (ih y0_0_0 h0 y2_0_0 y2_0_1 y2_0_2 y2_0_3 y2_1 i1) (Γi := []) H [2] rfl (persC persS persN) ?_; clear H i1
  rintro _ _ w9 ⟨h2, h3, h4, rfl, rfl⟩ H
  refine alloc_ gok rfl H ?_; clear H; intro b2 w11 hx H
  clear hx
  refine stA gok [(.int .i64 y2_0_0), (h2).v, (h3).v, (h4).v] rfl H rfl rfl rfl ?_; clear H; intro w12 H
  refine loadN [(h1).v] rfl (fun j u hj => H.bx 4 rfl hj) ?_
  obtain ⟨y3, e, f4⟩ := bindS f3; clear f3
  obtain ⟨⟨y3_0_0, y3_0_1, y3_0_2, y3_0_3⟩, y3_1⟩ := y3
  have i2 := e; clear e
  refine callS (ih y0_1_0 h1 y3_0_0 y3_0_1 y3_0_2 y3_0_3 y3_1 i2) (Γi := []) H [7] rfl (persC persS persN) ?_; clear H i2
  rintro _ _ w13 ⟨h5, h6, h7, rfl, rfl⟩ H
  refine alloc_ gok rfl H ?_; clear H; intro b4 w14 hx H
  clear hx
  refine stA gok [(.int .i64 y3_0_0), (h5).v, (h6).v, (h7).v] rfl H rfl rfl rfl ?_; clear H; intro w15 H
  refine sq ?_
  obtain ⟨r0, f5, f6⟩ := bindS f4; clear f4
  refine cut (fun (q0 : Bool) => [(2, (.pointer (some ⟨b6, 0, none⟩))), (4, (.int .i64 y8)), (7, (.pointer (some ⟨b2, 0, none⟩))), (9, (.pointer (some ⟨b4, 0, none⟩))), (40, (.bool q0))]) (fun (q0 : Bool) w' => q0 = r0 ∧ Cx w0 fp0 S0 w' [Bx b6 [(.int .i64 0), (.slice none 0 0), (.slice none 0 0), (.slice none 0 0)], Bx b2 [(.int .i64 y2_0_0), (h2).v, (h3).v, (h4).v], Es (List (Int × Int × List Int × List Int)) y2_0_1 h2, Es (List Int) y2_0_2 h3, Es (List Int) y2_0_3 h4, Bx b4 [(.int .i64 y3_0_0), (h5).v, (h6).v, (h7).v], Es (List (Int × Int × List Int × List Int)) y3_0_1 h5, Es (List Int) y3_0_2 h6, Es (List Int) y3_0_3 h7]) ?_ ?_
  ·
   obtain ⟨a1, e, f7⟩ := bindS f5; clear f5
   refine boolO e ?_; clear e
   cases a1
   ·
    have f8 := condF f7; clear f7
    obtain ⟨a2, e, f9⟩ := bindS f8; clear f8
    refine boolO e ?_; clear e
    exact ⟨a2, ⟨rfl, rfl, rfl, rfl, rfl, trivial⟩, Option.some.inj f9, H.sel [12, 4, 5, 6, 7, 0, 1, 2, 3] rfl⟩
   ·
    have f10 := condT f7; clear f7
    exact ⟨true, ⟨rfl, rfl, rfl, rfl, rfl, trivial⟩, Option.some.inj f10, H.sel [12, 4, 5, 6, 7, 0, 1, 2, 3] rfl⟩
  ·
   clear f5 H
   rintro T0 s0 w17 ⟨hr, (H : Cx w0 fp0 S0 w17 [Bx b6 [(.int .i64 0), (.slice none 0 0), (.slice none 0 0), (.slice none 0 0)], Bx b2 [(.int .i64 y2_0_0), (h2).v, (h3).v, (h4).v], Es (List (Int × Int × List Int × List Int)) y2_0_1 h2, Es (List Int) y2_0_2 h3, Es (List Int) y2_0_3 h4, Bx b4 [(.int .i64 y3_0_0), (h5).v, (h6).v, (h7).v], Es (List (Int × Int × List Int × List Int)) y3_0_1 h5, Es (List Int) y3_0_2 h6, Es (List Int) y3_0_3 h7])⟩
   subst hr
   cases s0
   ·
    have f11 := condF f6; clear f6
    refine sq ?_
    obtain ⟨a3, e, f12⟩ := bindS f11; clear f11
    refine boolO e ?_; clear e
    cases a3
    ·
     have f13 := condF f12; clear f12
     refine loadN [(.int .i64 y2_0_0), (h2).v, (h3).v, (h4).v] rfl (fun j u hj => H.bx 1 rfl hj) ?_
     refine loadN [(.int .i64 y3_0_0), (h5).v, (h6).v, (h7).v] rfl (fun j u hj => H.bx 5 rfl hj) ?_
     obtain ⟨y4, e, f14⟩ := bindS f13; clear f13
     obtain ⟨y4_0, y4_1, y4_2, y4_3⟩ := y4
     have i3 := e; clear e
     refine callF (spec_hgPar_c y2_0_0 y2_0_1 h2 y2_0_2 h3 y2_0_3 h4 y3_0_0 y3_0_1 h5 y3_0_2 h6 y3_0_3 h7 y4_0 y4_1 y4_2 y4_3 i3) (Γi := []) H ⟨Vw.sh 2 rfl, Vw.sh 3 rfl, Vw.sh 4 rfl, Vw.sh 6 rfl, Vw.sh 7 rfl, Vw.sh 8 rfl, trivial⟩ ?_; clear H i3
     rintro _ _ w18 ⟨h8, h9, h10, rfl, rfl⟩ H
     obtain ⟨y5, e, f15⟩ := bindS f14; clear f14
     obtain ⟨⟨y5_0_0, y5_0_1, y5_0_2, y5_0_3⟩, y5_1⟩ := y5
     have i4 := e; clear e
     replace H := H.frz
     replace H := H.sel [1, 0, 2, 3, 4, 5, 6, 7, 8, 9, 10, 11] rfl
     replace H := H.frz
     replace H := H.sel [2, 0, 1, 3, 4, 5, 6, 7, 8, 9, 10, 11] rfl
     replace H := H.frz
     refine callS (spec_hgIf_c y4_0 y4_1 h8 y4_2 h9 y4_3 h10 y5_0_0 y5_0_1 y5_0_2 y5_0_3 y5_1 i4) (Γi := []) H [2, 1, 0] rfl (persC persS (persC persS (persC persS persN))) ?_; clear H i4
     rintro _ _ w19 ⟨h11, h12, h13, rfl, rfl⟩ H
     replace H := H.sel [6, 0, 1, 2, 3, 4, 5, 7, 8, 9, 10, 11, 12, 13, 14] rfl
     refine stA gok [(.int .i64 y5_0_0), (h11).v, (h12).v, (h13).v] rfl H rfl rfl rfl ?_; clear H; intro w20 H
     refine loadN [(.int .i64 y5_0_0), (h11).v, (h12).v, (h13).v] rfl (fun j u hj => H.bx 0 rfl hj) ?_
     cases f15
     exact ⟨_, _, rfl, ⟨h11, h12, h13, rfl, rfl⟩, (H.sel [1, 2, 3] rfl)⟩
    ·
     have f16 := condT f12; clear f12
     refine loadN [(.int .i64 y2_0_0), (h2).v, (h3).v, (h4).v] rfl (fun j u hj => H.bx 1 rfl hj) ?_
     refine loadN [(.int .i64 y3_0_0), (h5).v, (h6).v, (h7).v] rfl (fun j u hj => H.bx 5 rfl hj) ?_
     obtain ⟨y6, e, f17⟩ := bindS f16; clear f16
     obtain ⟨y6_0, y6_1, y6_2, y6_3⟩ := y6
     have i5 := e; clear e
     refine callF (spec_hgSeq_c y2_0_0 y2_0_1 h2 y2_0_2 h3 y2_0_3 h4 y3_0_0 y3_0_1 h5 y3_0_2 h6 y3_0_3 h7 y6_0 y6_1 y6_2 y6_3 i5) (Γi := []) H ⟨Vw.sh 2 rfl, Vw.sh 3 rfl, Vw.sh 4 rfl, Vw.sh 6 rfl, Vw.sh 7 rfl, Vw.sh 8 rfl, trivial⟩ ?_; clear H i5
     rintro _ _ w22 ⟨h14, h15, h16, rfl, rfl⟩ H
     obtain ⟨y7, e, f18⟩ := bindS f17; clear f17
     obtain ⟨⟨y7_0_0, y7_0_1, y7_0_2, y7_0_3⟩, y7_1⟩ := y7
     have i6 := e; clear e
     replace H := H.frz
     replace H := H.sel [1, 0, 2, 3, 4, 5, 6, 7, 8, 9, 10, 11] rfl
     replace H := H.frz
     replace H := H.sel [2, 0, 1, 3, 4, 5, 6, 7, 8, 9, 10, 11] rfl
     replace H := H.frz
     refine callS (spec_hgIf_c y6_0 y6_1 h14 y6_2 h15 y6_3 h16 y7_0_0 y7_0_1 y7_0_2 y7_0_3 y7_1 i6) (Γi := []) H [2, 1, 0] rfl (persC persS (persC persS (persC persS persN))) ?_; clear H i6
     rintro _ _ w23 ⟨h18, h20, h21, rfl, rfl⟩ H
     replace H := H.sel [6, 0, 1, 2, 3, 4, 5, 7, 8, 9, 10, 11, 12, 13, 14] rfl
     refine stA gok [(.int .i64 y7_0_0), (h18).v, (h20).v, (h21).v] rfl H rfl rfl rfl ?_; clear H; intro w25 H
     refine loadN [(.int .i64 y7_0_0), (h18).v, (h20).v, (h21).v] rfl (fun j u hj => H.bx 0 rfl hj) ?_
     cases f18
     exact ⟨_, _, rfl, ⟨h18, h20, h21, rfl, rfl⟩, (H.sel [1, 2, 3] rfl)⟩
   ·
    have f19 := condT f6; clear f6
    refine build_ (cs := #[(.int .i64 0), (.slice none 0 0), (.slice none 0 0), (.slice none 0 0)]) gok rfl rfl rfl ?_
    refine stA gok [(.int .i64 0), (.slice none 0 0), (.slice none 0 0), (.slice none 0 0)] rfl H rfl rfl rfl ?_; clear H; intro w26 H
    refine loadN [(.int .i64 0), (.slice none 0 0), (.slice none 0 0), (.slice none 0 0)] rfl (fun j u hj => H.bx 0 rfl hj) ?_
    replace H := H.nil (α := Int × Int × List Int × List Int)
    replace H := H.frz
    replace H := H.nil (α := Int)
    replace H := H.frz
    replace H := H.nil (α := Int)
    replace H := H.frz
    cases f19
    exact ⟨_, _, rfl, ⟨nilH, nilH, nilH, rfl, rfl⟩, (H.sel [2, 1, 0] rfl)⟩
 ·
  have f20 := condT f0; clear f0
  refine fld gok rfl rfl rfl rfl ?_
  refine load1 (H.bx 1 rfl (j := 0) rfl) ?_
  obtain ⟨a4, e, f21⟩ := bindS f20; clear f20
  have HH := H; clear H; obtain ⟨p0, m0, g0, c0, c1, c2, c3, H⟩ := HH.el (α := Int × Int × ByteArray) 2 rfl e; clear HH
  clear e
  obtain ⟨a4_0, a4_1, a4_2⟩ := a4
  obtain ⟨_, _, _⟩ := g0
  replace H := H.sel [1, 2, 3] rfl
  refine idxE c0 c1 c2 ?_; clear c0 c1 c2
  refine loadN [(.int .i64 a4_0), (.int .i64 a4_1), (.string a4_2)] rfl c3 ?_; clear c3
  obtain ⟨y9, e, f22⟩ := bindS f21; clear f21
  obtain ⟨y9_0, y9_1, y9_2, y9_3⟩ := y9
  have i7 := e; clear e
  refine callF (spec_hgLeaf_c a4_0 a4_1 a4_2 y9_0 y9_1 y9_2 y9_3 i7) (Γi := []) H trivial ?_; clear H i7
  rintro _ _ w29 ⟨h22, h23, h24, rfl, rfl⟩ H
  replace H := H.sel [3, 0, 1, 2, 4, 5] rfl
  refine stA gok [(.int .i64 y9_0), (h22).v, (h23).v, (h24).v] rfl H rfl rfl rfl ?_; clear H; intro w30 H
  refine loadN [(.int .i64 y9_0), (h22).v, (h23).v, (h24).v] rfl (fun j u hj => H.bx 0 rfl hj) ?_
  replace H := H.sel [1, 0, 2, 3, 4, 5] rfl
  replace H := H.frz
  replace H := H.sel [2, 0, 1, 3, 4, 5] rfl
  replace H := H.frz
  replace H := H.sel [3, 0, 1, 2, 4, 5] rfl
  replace H := H.frz
  cases f22
  exact ⟨_, _, rfl, ⟨h22, h23, h24, rfl, rfl⟩, (H.sel [2, 1, 0] rfl)⟩
theorem spec_hgMade_c (t__0 : List (Int × Int × ByteArray)) (t__0h : Hd) (y0_0 : Int) (y0_1 : List (Int × Int × List Int × List Int)) (y0_2 : List Int) (y0_3 : List Int) (y1 : Bool) (hF : F_spec_hgMade t__0 = some ((y0_0, y0_1, y0_2, y0_3), y1)) :
  ConS Tryz.prog 28 #[(.agg #[(t__0h).v])] [Es (List (Int × Int × ByteArray)) t__0 t__0h] [] (fun v Γ' => ∃ z0 z1 z2 : Hd, v = (.tuple #[(.agg #[(.int .i64 y0_0), (z0).v, (z1).v, (z2).v]), (.bool y1)]) ∧ Γ' = [Es (List (Int × Int × List Int × List Int)) y0_1 z0, Es (List Int) y0_2 z1, Es (List Int) y0_3 z2]) := spec_hgMade_cn _ t__0 t__0h y0_0 y0_1 y0_2 y0_3 y1 hF

theorem spec_GraphOf_c (t__0 : List (Int × Int × ByteArray)) (t__0h : Hd) (y0_0 : Int) (y0_1 : List (Int × Int × List Int × List Int)) (y0_2 : List Int) (y0_3 : List Int) (y1 : Bool) (hF : F_spec_GraphOf t__0 = some ((y0_0, y0_1, y0_2, y0_3), y1)) :
  ConS Tryz.prog 14 #[(.agg #[(t__0h).v])] [Es (List (Int × Int × ByteArray)) t__0 t__0h] [] (fun v Γ' => ∃ z0 z1 z2 : Hd, v = (.tuple #[(.agg #[(.int .i64 y0_0), (z0).v, (z1).v, (z2).v]), (.bool y1)]) ∧ Γ' = [Es (List (Int × Int × List Int × List Int)) y0_1 z0, Es (List Int) y0_2 z1, Es (List Int) y0_3 z2]) := by
 intro w0 S0 fp0 hI hS
 have H : Cx w0 fp0 S0 w0 [Es (List (Int × Int × ByteArray)) t__0 t__0h] := Cx.start hI hS
 clear hI hS
 refine enterC (args := [_]) gok Tryz.func14 rfl _ rfl rfl rfl ?_
 refine box_ H ?_; clear H; intro b3 w2 hx H
 clear hx
 refine alloc_ gok rfl H ?_; clear H; intro b6 w5 hx H
 clear hx
 refine sq ?_
 refine loadN [(t__0h).v] rfl (fun j u hj => H.bx 1 rfl hj) ?_
 obtain ⟨y8, e, hF9⟩ := bindS hF; clear hF
 have ey8 := e; clear e
 refine callF (spec_tmValid_c t__0 t__0h y8 ey8) (Γi := []) H ⟨Vw.sh 2 rfl, trivial⟩ ?_; clear H ey8
 rintro _ _ w1 ⟨rfl, rfl⟩ H
 obtain ⟨a0, e, f0⟩ := bindS hF9; clear hF9
 refine boolO e ?_; clear e
 cases a0
 ·
  have f1 := condF f0; clear f0
  refine loadN [(t__0h).v] rfl (fun j u hj => H.bx 1 rfl hj) ?_
  obtain ⟨y0, e, f2⟩ := bindS f1; clear f1
  obtain ⟨⟨y0_0_0, y0_0_1, y0_0_2, y0_0_3⟩, y0_1⟩ := y0
  have i0 := e; clear e
  refine callS (spec_hgMade_c t__0 t__0h y0_0_0 y0_0_1 y0_0_2 y0_0_3 y0_1 i0) (Γi := []) H [2] rfl (persC persS persN) ?_; clear H i0
  rintro _ _ w3 ⟨h0, h1, h2, rfl, rfl⟩ H
  replace H := H.sel [3, 0, 1, 2, 4, 5] rfl
  refine stA gok [(.int .i64 y0_0_0), (h0).v, (h1).v, (h2).v] rfl H rfl rfl rfl ?_; clear H; intro w4 H
  refine loadN [(.int .i64 y0_0_0), (h0).v, (h1).v, (h2).v] rfl (fun j u hj => H.bx 0 rfl hj) ?_
  cases f2
  exact ⟨_, _, rfl, ⟨h0, h1, h2, rfl, rfl⟩, (H.sel [1, 2, 3] rfl)⟩
 ·
  have f3 := condT f0; clear f0
  refine build_ (cs := #[(.int .i64 0), (.slice none 0 0), (.slice none 0 0), (.slice none 0 0)]) gok rfl rfl rfl ?_
  refine stA gok [(.int .i64 0), (.slice none 0 0), (.slice none 0 0), (.slice none 0 0)] rfl H rfl rfl rfl ?_; clear H; intro w6 H
  refine loadN [(.int .i64 0), (.slice none 0 0), (.slice none 0 0), (.slice none 0 0)] rfl (fun j u hj => H.bx 0 rfl hj) ?_
  replace H := H.nil (α := Int × Int × List Int × List Int)
  replace H := H.frz
  replace H := H.nil (α := Int)
  replace H := H.frz
  replace H := H.nil (α := Int)
  replace H := H.frz
  cases f3
  exact ⟨_, _, rfl, ⟨nilH, nilH, nilH, rfl, rfl⟩, (H.sel [2, 1, 0] rfl)⟩

theorem spec_fdGood_c (p_ : Int) (y : Bool) (hF : F_spec_fdGood p_ = some y) :
  ConF Tryz.prog 30 #[(.int .i64 p_)] [] [] (fun v Γ' => v = (.bool y) ∧ Γ' = []) := by
 intro w0 S0 fp0 hI hS
 have H : Cx w0 fp0 S0 w0 [] := Cx.start hI hS
 clear hI hS
 refine enterC (args := [_]) gok Tryz.func30 rfl _ rfl rfl rfl ?_
 refine sq ?_
 obtain ⟨y1, e, hF2⟩ := bindS hF; clear hF
 have ey1 := e; clear e
 refine callF (spec_l1In_c p_ 2 97 y1 ey1) (Γi := []) H trivial ?_; clear H ey1
 rintro _ _ w3 ⟨rfl, rfl⟩ H
 obtain ⟨a4, e, hF5⟩ := bindS hF2; clear hF2
 refine boolO e ?_; clear e
 cases a4
 ·
  have hF6 := condF hF5; clear hF5
  obtain ⟨r0, f0, f1⟩ := bindS hF6; clear hF6
  refine cut (fun (q0 : Unit) => []) (fun (q0 : Unit) w' => .inl () = r0 ∧ Cx w0 fp0 S0 w' []) ?_ ?_
  ·
   refine loopW _ (fun (s0 : Int) (_ : Unit) => [(0, (.int .i64 p_)), (3, (.int .i64 s0))]) (fun (s0 : Int) (_ : Unit) w' => Cx w0 fp0 S0 w' []) 2 () f0 ⟨rfl, rfl, trivial⟩ (H.sel [] rfl) ?_
   ·
    clear H
    rintro T0 s0 _ w1 o0 (H : Cx w0 fp0 S0 w1 []) hrt f2
    refine sq ?_
    obtain ⟨a0, e, f3⟩ := bindS f2; clear f2
    refine arO e ?_; clear e
    obtain ⟨a1, e, f4⟩ := bindS f3; clear f3
    refine boolO e ?_; clear e
    cases a1
    ·
     have f5 := condF f4; clear f4
     have hs := Option.some.inj f5; subst hs; clear f5
     have f6 : some _ = some _ := congrArg some (hrt _ rfl).symm
     exact ⟨(), trivial, Option.some.inj f6, H.sel [] rfl⟩
    ·
     have f7 := condT f4; clear f4
     refine sq ?_
     obtain ⟨a2, e, f8⟩ := bindS f7; clear f7
     refine remO_ e ?_; clear e
     obtain ⟨a3, e, f9⟩ := bindS f8; clear f8
     refine boolO e ?_; clear e
     cases a3
     ·
      have f10 := condF f9; clear f9
      obtain ⟨a5, e, f11⟩ := bindS f10; clear f10
      refine arO e ?_; clear e
      have hs := Option.some.inj f11; subst hs; clear f11
      exact ⟨a5, (), rfl, ⟨rfl, rfl, trivial⟩, H.sel [] rfl⟩
     ·
      have f12 := condT f9; clear f9
      have hs := Option.some.inj f12; subst hs; clear f12
      have f13 : some _ = some _ := congrArg some (hrt _ rfl).symm
      have hs := Option.some.inj f13; subst hs; clear f13
      have f14 : some _ = some _ := f1; clear f1
      cases f14
      exact ⟨_, _, rfl, ⟨rfl, rfl⟩, (H.sel [] rfl).close trivial⟩
  ·
   clear f0 H
   rintro T1 _ w2 ⟨hr, (H : Cx w0 fp0 S0 w2 [])⟩
   subst hr
   cases f1
   exact ⟨_, _, rfl, ⟨rfl, rfl⟩, (H.sel [] rfl).close trivial⟩
 ·
  have f15 := condT hF5; clear hF5
  cases f15
  exact ⟨_, _, rfl, ⟨rfl, rfl⟩, (H.sel [] rfl).close trivial⟩

theorem spec_tmGood_c (p_ : Int) (t__0 : List (Int × Int × ByteArray)) (t__0h : Hd) (y : Bool) (hF : F_spec_tmGood p_ t__0 = some y) :
  ConF Tryz.prog 15 #[(.int .i64 p_), (.agg #[(t__0h).v])] [Es (List (Int × Int × ByteArray)) t__0 t__0h] [] (fun v Γ' => v = (.bool y) ∧ Γ' = []) := by
 intro w0 S0 fp0 hI hS
 have H : Cx w0 fp0 S0 w0 [Es (List (Int × Int × ByteArray)) t__0 t__0h] := Cx.start hI hS
 clear hI hS
 refine enterC (args := [_, _]) gok Tryz.func15 rfl _ rfl rfl rfl ?_
 refine box_ H ?_; clear H; intro b3 w2 hx H
 clear hx
 refine sq ?_
 refine loadN [(t__0h).v] rfl (fun j u hj => H.bx 0 rfl hj) ?_
 obtain ⟨y5, e, hF6⟩ := bindS hF; clear hF
 obtain ⟨⟨y5_0_0, y5_0_1, y5_0_2⟩, y5_1⟩ := y5
 have ey5 := e; clear e
 refine callF (spec_tmScan_c t__0 t__0h y5_0_0 y5_0_1 y5_0_2 y5_1 ey5) (Γi := []) H ⟨Vw.sh 1 rfl, trivial⟩ ?_; clear H ey5
 rintro _ _ w7 ⟨h8, h0, h1, rfl, rfl⟩ H
 refine alloc_ gok rfl H ?_; clear H; intro b0 w1 hx H
 clear hx
 refine stA gok [(h8).v, (h0).v, (h1).v] rfl H rfl rfl rfl ?_; clear H; intro w3 H
 obtain ⟨r0, f0, f1⟩ := bindS hF6; clear hF6
 refine cut (fun (q0 : Bool) => [(0, (.int .i64 p_)), (3, (.pointer (some ⟨b3, 0, none⟩))), (20, (.bool q0))]) (fun (q0 : Bool) w' => q0 = r0 ∧ Cx w0 fp0 S0 w' [Bx b3 [(t__0h).v], Es (List (Int × Int × ByteArray)) t__0 t__0h]) ?_ ?_
 ·
  obtain ⟨a0, e, f2⟩ := bindS f0; clear f0
  refine boolO e ?_; clear e
  cases a0
  ·
   have f3 := condF f2; clear f2
   obtain ⟨y0, e, f4⟩ := bindS f3; clear f3
   have i0 := e; clear e
   refine callF (spec_fdGood_c p_ y0 i0) (Γi := []) H trivial ?_; clear H i0
   rintro _ _ w4 ⟨rfl, rfl⟩ H
   obtain ⟨a1, e, f5⟩ := bindS f4; clear f4
   refine boolO e ?_; clear e
   exact ⟨a1, ⟨rfl, rfl, rfl, trivial⟩, Option.some.inj f5, H.sel [4, 5] rfl⟩
  ·
   have f6 := condT f2; clear f2
   exact ⟨true, ⟨rfl, rfl, rfl, trivial⟩, Option.some.inj f6, H.sel [4, 5] rfl⟩
 ·
  clear f0 H
  rintro T0 s0 w5 ⟨hr, (H : Cx w0 fp0 S0 w5 [Bx b3 [(t__0h).v], Es (List (Int × Int × ByteArray)) t__0 t__0h])⟩
  subst hr
  cases s0
  ·
   have f7 := condF f1; clear f1
   refine sq ?_
   refine fld gok rfl rfl rfl rfl ?_
   refine load1 (H.bx 0 rfl (j := 0) rfl) ?_
   refine lenE (H.rs (α := List (Int × Int × ByteArray)) 1 rfl).len ?_
   have x0 := (H.rs (α := List (Int × Int × ByteArray)) 1 rfl).max
   obtain ⟨r1, e, f8⟩ := bindS f7; clear f7
   refine loopO _ t__0.length (fun (k0 : Nat) (_ : Unit) (_ : Unit) => [(0, (.int .i64 p_)), (22, (t__0h).v), (23, (.int .i64 ((t__0.length : Nat) : Int))), (24, (.int .i64 ((k0 : Nat) : Int)))]) (fun _ (_ : Unit) (_ : Unit) w' => Cx w0 fp0 S0 w' [Es (List (Int × Int × ByteArray)) t__0 t__0h]) () () e ⟨rfl, rfl, rfl, rfl, trivial⟩ (H.sel [1] rfl) ?_ ?_
   ·
    clear H e
    rintro T1 k0 _ _ w6 o0 hk (H : Cx w0 fp0 S0 w6 [Es (List (Int × Int × ByteArray)) t__0 t__0h]) hrt f9
    refine boolE (z := true) (ltLen hk) ?_
    refine sq ?_
    refine sq ?_
    obtain ⟨a2, e, f10⟩ := bindS f9; clear f9
    have HH := H; clear H; obtain ⟨p0, m0, g0, c0, c1, c2, c3, H⟩ := HH.el (α := Int × Int × ByteArray) 0 rfl e; clear HH
    clear e
    obtain ⟨a2_0, a2_1, a2_2⟩ := a2
    obtain ⟨_, _, _⟩ := g0
    replace H := H.sel [1] rfl
    refine idxE c0 c1 c2 ?_; clear c0 c1 c2
    refine loadN [(.int .i64 a2_0), (.int .i64 a2_1), (.string a2_2)] rfl c3 ?_; clear c3
    refine alloc_ gok rfl H ?_; clear H; intro b1 w8 hx H
    clear hx
    refine stA gok [(.int .i64 a2_0), (.int .i64 a2_1), (.string a2_2)] rfl H rfl rfl rfl ?_; clear H; intro w9 H
    obtain ⟨r2, f11, f12⟩ := bindS f10; clear f10
    refine cut (fun (q1 : Bool) => [(0, (.int .i64 p_)), (22, (t__0h).v), (23, (.int .i64 ((t__0.length : Nat) : Int))), (24, (.int .i64 ((k0 : Nat) : Int))), (41, (.bool q1))]) (fun (q1 : Bool) w' => q1 = r2 ∧ Cx w0 fp0 S0 w' [Es (List (Int × Int × ByteArray)) t__0 t__0h]) ?_ ?_
    ·
     refine fld gok rfl rfl rfl rfl ?_
     refine load1 (H.bx 0 rfl (j := 0) rfl) ?_
     obtain ⟨a3, e, f13⟩ := bindS f11; clear f11
     refine boolO e ?_; clear e
     cases a3
     ·
      have f14 := condF f13; clear f13
      refine fld gok rfl rfl rfl rfl ?_
      refine load1 (H.bx 0 rfl (j := 0) rfl) ?_
      obtain ⟨a4, e, f15⟩ := bindS f14; clear f14
      refine boolO e ?_; clear e
      cases a4
      ·
       have f16 := condF f15; clear f15
       exact ⟨false, ⟨rfl, rfl, rfl, rfl, rfl, trivial⟩, Option.some.inj f16, H.sel [1] rfl⟩
      ·
       have f17 := condT f15; clear f15
       refine fld gok rfl rfl rfl rfl ?_
       refine load1 (H.bx 0 rfl (j := 1) rfl) ?_
       obtain ⟨a5, e, f18⟩ := bindS f17; clear f17
       refine boolO e ?_; clear e
       exact ⟨a5, ⟨rfl, rfl, rfl, rfl, rfl, trivial⟩, Option.some.inj f18, H.sel [1] rfl⟩
     ·
      have f19 := condT f13; clear f13
      refine fld gok rfl rfl rfl rfl ?_
      refine load1 (H.bx 0 rfl (j := 1) rfl) ?_
      obtain ⟨a6, e, f20⟩ := bindS f19; clear f19
      refine boolO e ?_; clear e
      exact ⟨a6, ⟨rfl, rfl, rfl, rfl, rfl, trivial⟩, Option.some.inj f20, H.sel [1] rfl⟩
    ·
     clear f11 H
     rintro T2 s1 w10 ⟨hr, (H : Cx w0 fp0 S0 w10 [Es (List (Int × Int × ByteArray)) t__0 t__0h])⟩
     subst hr
     cases s1
     ·
      have f21 := condF f12; clear f12
      refine arK hk x0 ?_
      have hs := Option.some.inj f21; subst hs; clear f21
      exact ⟨(), (), rfl, ⟨rfl, rfl, rfl, rfl, trivial⟩, H.sel [0] rfl⟩
     ·
      have f22 := condT f12; clear f12
      have hs := Option.some.inj f22; subst hs; clear f22
      have hr := hrt _ rfl; subst hr
      have f23 : some _ = some _ := f8
      cases f23
      exact ⟨_, _, rfl, ⟨rfl, rfl⟩, (H.sel [] rfl).close trivial⟩
   ·
    clear H e
    rintro T3 _ _ w11 hr (H : Cx w0 fp0 S0 w11 [Es (List (Int × Int × ByteArray)) t__0 t__0h])
    subst hr
    refine boolE (z := false) geLen ?_
    refine sq ?_
    cases f8
    exact ⟨_, _, rfl, ⟨rfl, rfl⟩, (H.sel [] rfl).close trivial⟩
  ·
   have f24 := condT f1; clear f1
   cases f24
   exact ⟨_, _, rfl, ⟨rfl, rfl⟩, (H.sel [] rfl).close trivial⟩

theorem spec_hgGood_c (p_ : Int) (g__0 : Int) (g__1 : List (Int × Int × List Int × List Int)) (g__1h : Hd) (g__2 : List Int) (g__2h : Hd) (g__3 : List Int) (g__3h : Hd) (y : Bool) (hF : F_spec_hgGood p_ (g__0, g__1, g__2, g__3) = some y) :
  ConF Tryz.prog 59 #[(.int .i64 p_), (.agg #[(.int .i64 g__0), (g__1h).v, (g__2h).v, (g__3h).v])] [Es (List (Int × Int × List Int × List Int)) g__1 g__1h, Es (List Int) g__2 g__2h, Es (List Int) g__3 g__3h] [] (fun v Γ' => v = (.bool y) ∧ Γ' = []) := by
 intro w0 S0 fp0 hI hS
 have H : Cx w0 fp0 S0 w0 [Es (List (Int × Int × List Int × List Int)) g__1 g__1h, Es (List Int) g__2 g__2h, Es (List Int) g__3 g__3h] := Cx.start hI hS
 clear hI hS
 refine enterC (args := [_, _]) gok Tryz.func59 rfl _ rfl rfl rfl ?_
 refine box_ H ?_; clear H; intro b5 w4 hx H
 clear hx
 refine sq ?_
 obtain ⟨r0, f0, f1⟩ := bindS hF; clear hF
 refine cut (fun (q0 : Bool) => [(0, (.int .i64 p_)), (3, (.pointer (some ⟨b5, 0, none⟩))), (14, (.bool q0))]) (fun (q0 : Bool) w' => q0 = r0 ∧ Cx w0 fp0 S0 w' [Bx b5 [(.int .i64 g__0), (g__1h).v, (g__2h).v, (g__3h).v], Es (List (Int × Int × List Int × List Int)) g__1 g__1h, Es (List Int) g__2 g__2h, Es (List Int) g__3 g__3h]) ?_ ?_
 ·
  obtain ⟨y0, e, f2⟩ := bindS f0; clear f0
  have i0 := e; clear e
  refine callF (spec_fdGood_c p_ y0 i0) (Γi := []) H trivial ?_; clear H i0
  rintro _ _ w1 ⟨rfl, rfl⟩ H
  obtain ⟨a0, e, f3⟩ := bindS f2; clear f2
  refine boolO e ?_; clear e
  cases a0
  ·
   have f4 := condF f3; clear f3
   refine loadN [(.int .i64 g__0), (g__1h).v, (g__2h).v, (g__3h).v] rfl (fun j u hj => H.bx 0 rfl hj) ?_
   obtain ⟨y1, e, f5⟩ := bindS f4; clear f4
   have i1 := e; clear e
   refine callF (spec_hgValid_c g__0 g__1 g__1h g__2 g__2h g__3 g__3h y1 i1) (Γi := []) H ⟨Vw.sh 1 rfl, Vw.sh 2 rfl, Vw.sh 3 rfl, trivial⟩ ?_; clear H i1
   rintro _ _ w2 ⟨rfl, rfl⟩ H
   obtain ⟨a1, e, f6⟩ := bindS f5; clear f5
   refine boolO e ?_; clear e
   exact ⟨a1, ⟨rfl, rfl, rfl, trivial⟩, Option.some.inj f6, H.sel [0, 1, 2, 3] rfl⟩
  ·
   have f7 := condT f3; clear f3
   exact ⟨true, ⟨rfl, rfl, rfl, trivial⟩, Option.some.inj f7, H.sel [0, 1, 2, 3] rfl⟩
 ·
  clear f0 H
  rintro T0 s0 w3 ⟨hr, (H : Cx w0 fp0 S0 w3 [Bx b5 [(.int .i64 g__0), (g__1h).v, (g__2h).v, (g__3h).v], Es (List (Int × Int × List Int × List Int)) g__1 g__1h, Es (List Int) g__2 g__2h, Es (List Int) g__3 g__3h])⟩
  subst hr
  cases s0
  ·
   have f8 := condF f1; clear f1
   refine sq ?_
   refine fld gok rfl rfl rfl rfl ?_
   refine load1 (H.bx 0 rfl (j := 1) rfl) ?_
   refine lenE (H.rs (α := List (Int × Int × List Int × List Int)) 1 rfl).len ?_
   have x0 := (H.rs (α := List (Int × Int × List Int × List Int)) 1 rfl).max
   obtain ⟨r1, e, f9⟩ := bindS f8; clear f8
   refine loopO _ g__1.length (fun (k0 : Nat) (_ : Unit) (_ : Unit) => [(0, (.int .i64 p_)), (16, (g__1h).v), (17, (.int .i64 ((g__1.length : Nat) : Int))), (18, (.int .i64 ((k0 : Nat) : Int)))]) (fun _ (_ : Unit) (_ : Unit) w' => Cx w0 fp0 S0 w' [Es (List (Int × Int × List Int × List Int)) g__1 g__1h]) () () e ⟨rfl, rfl, rfl, rfl, trivial⟩ (H.sel [1] rfl) ?_ ?_
   ·
    clear H e
    rintro T1 k0 _ _ w5 o0 hk (H : Cx w0 fp0 S0 w5 [Es (List (Int × Int × List Int × List Int)) g__1 g__1h]) hrt f10
    refine boolE (z := true) (ltLen hk) ?_
    refine sq ?_
    refine sq ?_
    obtain ⟨a2, e, f11⟩ := bindS f10; clear f10
    have HH := H; clear H; obtain ⟨p0, m0, g0, c0, c1, c2, c3, H⟩ := HH.el (α := Int × Int × List Int × List Int) 0 rfl e; clear HH
    clear e
    obtain ⟨a2_0, a2_1, a2_2, a2_3⟩ := a2
    obtain ⟨_, _, h0, h1⟩ := g0
    replace H := H.part (β := List Int) a2_2 (h0 : Hd) 0 rfl (fun S h => (And.left (And.right (And.right h))))
    replace H := H.part (β := List Int) a2_3 (h1 : Hd) 1 rfl (fun S h => (And.right (And.right (And.right h))))
    replace H := H.sel [0, 1, 3] rfl
    refine idxE c0 c1 c2 ?_; clear c0 c1 c2
    refine loadN [(.int .i64 a2_0), (.int .i64 a2_1), (h0).v, (h1).v] rfl c3 ?_; clear c3
    refine alloc_ gok rfl H ?_; clear H; intro b0 w6 hx H
    clear hx
    refine stA gok [(.int .i64 a2_0), (.int .i64 a2_1), (h0).v, (h1).v] rfl H rfl rfl rfl ?_; clear H; intro w7 H
    refine fld gok rfl rfl rfl rfl ?_
    refine load1 (H.bx 0 rfl (j := 1) rfl) ?_
    obtain ⟨a3, e, f12⟩ := bindS f11; clear f11
    refine boolO e ?_; clear e
    cases a3
    ·
     have f13 := condF f12; clear f12
     refine arK hk x0 ?_
     have hs := Option.some.inj f13; subst hs; clear f13
     exact ⟨(), (), rfl, ⟨rfl, rfl, rfl, rfl, trivial⟩, H.sel [3] rfl⟩
    ·
     have f14 := condT f12; clear f12
     have hs := Option.some.inj f14; subst hs; clear f14
     have hr := hrt _ rfl; subst hr
     have f15 : some _ = some _ := f9
     cases f15
     exact ⟨_, _, rfl, ⟨rfl, rfl⟩, (H.sel [] rfl).close trivial⟩
   ·
    clear H e
    rintro T2 _ _ w8 hr (H : Cx w0 fp0 S0 w8 [Es (List (Int × Int × List Int × List Int)) g__1 g__1h])
    subst hr
    refine boolE (z := false) geLen ?_
    refine sq ?_
    cases f9
    exact ⟨_, _, rfl, ⟨rfl, rfl⟩, (H.sel [] rfl).close trivial⟩
  ·
   have f16 := condT f1; clear f1
   cases f16
   exact ⟨_, _, rfl, ⟨rfl, rfl⟩, (H.sel [] rfl).close trivial⟩

theorem spec_dnTimeless_c (kind_ : Int) (y : Bool) (hF : F_spec_dnTimeless kind_ = some y) :
  ConF Tryz.prog 60 #[(.int .i64 kind_)] [] [] (fun v Γ' => v = (.bool y) ∧ Γ' = []) := by
 intro w0 S0 fp0 hI hS
 have H : Cx w0 fp0 S0 w0 [] := Cx.start hI hS
 clear hI hS
 refine enterC (args := [_]) gok Tryz.func60 rfl _ rfl rfl rfl ?_
 obtain ⟨r9, f0, f1⟩ := bindS hF; clear hF
 refine cut (fun (q0 : Bool) => [(2, (.bool q0))]) (fun (q0 : Bool) w' => q0 = r9 ∧ Cx w0 fp0 S0 w' []) ?_ ?_
 ·
  obtain ⟨a0, e, f2⟩ := bindS f0; clear f0
  refine boolO e ?_; clear e
  cases a0
  ·
   have f3 := condF f2; clear f2
   exact ⟨false, ⟨rfl, trivial⟩, Option.some.inj f3, H.sel [] rfl⟩
  ·
   have f4 := condT f2; clear f2
   obtain ⟨a1, e, f5⟩ := bindS f4; clear f4
   refine boolO e ?_; clear e
   exact ⟨a1, ⟨rfl, trivial⟩, Option.some.inj f5, H.sel [] rfl⟩
 ·
  clear f0 H
  rintro T0 s7 w1 ⟨hr, (H : Cx w0 fp0 S0 w1 [])⟩
  subst hr
  cases f1
  exact ⟨_, _, rfl, ⟨rfl, rfl⟩, (H.sel [] rfl).close trivial⟩

theorem spec_dnAsked_c (p_ : Int) (g__0 : Int) (g__1 : List (Int × Int × List Int × List Int)) (g__1h : Hd) (g__2 : List Int) (g__2h : Hd) (g__3 : List Int) (g__3h : Hd) (y : Bool) (hF : F_spec_dnAsked p_ (g__0, g__1, g__2, g__3) = some y) :
  ConF Tryz.prog 31 #[(.int .i64 p_), (.agg #[(.int .i64 g__0), (g__1h).v, (g__2h).v, (g__3h).v])] [Es (List (Int × Int × List Int × List Int)) g__1 g__1h, Es (List Int) g__2 g__2h, Es (List Int) g__3 g__3h] [] (fun v Γ' => v = (.bool y) ∧ Γ' = []) := by
 intro w0 S0 fp0 hI hS
 have H : Cx w0 fp0 S0 w0 [Es (List (Int × Int × List Int × List Int)) g__1 g__1h, Es (List Int) g__2 g__2h, Es (List Int) g__3 g__3h] := Cx.start hI hS
 clear hI hS
 refine enterC (args := [_, _]) gok Tryz.func31 rfl _ rfl rfl rfl ?_
 refine box_ H ?_; clear H; intro b5 w4 hx H
 clear hx
 refine sq ?_
 refine loadN [(.int .i64 g__0), (g__1h).v, (g__2h).v, (g__3h).v] rfl (fun j u hj => H.bx 0 rfl hj) ?_
 obtain ⟨y7, e, hF8⟩ := bindS hF; clear hF
 have ey7 := e; clear e
 refine callF (spec_hgGood_c p_ g__0 g__1 g__1h g__2 g__2h g__3 g__3h y7 ey7) (Γi := []) H ⟨Vw.sh 1 rfl, Vw.sh 2 rfl, Vw.sh 3 rfl, trivial⟩ ?_; clear H ey7
 rintro _ _ w9 ⟨rfl, rfl⟩ H
 obtain ⟨a0, e, f0⟩ := bindS hF8; clear hF8
 refine boolO e ?_; clear e
 cases a0
 ·
  have f1 := condF f0; clear f0
  refine sq ?_
  refine fld gok rfl rfl rfl rfl ?_
  refine load1 (H.bx 0 rfl (j := 1) rfl) ?_
  refine lenE (H.rs (α := List (Int × Int × List Int × List Int)) 1 rfl).len ?_
  have x0 := (H.rs (α := List (Int × Int × List Int × List Int)) 1 rfl).max
  obtain ⟨r0, e, f2⟩ := bindS f1; clear f1
  refine loopO _ g__1.length (fun (k0 : Nat) (_ : Unit) (_ : Unit) => [(12, (g__1h).v), (13, (.int .i64 ((g__1.length : Nat) : Int))), (14, (.int .i64 ((k0 : Nat) : Int)))]) (fun _ (_ : Unit) (_ : Unit) w' => Cx w0 fp0 S0 w' [Es (List (Int × Int × List Int × List Int)) g__1 g__1h]) () () e ⟨rfl, rfl, rfl, trivial⟩ (H.sel [1] rfl) ?_ ?_
  ·
   clear H e
   rintro T0 k0 _ _ w1 o0 hk (H : Cx w0 fp0 S0 w1 [Es (List (Int × Int × List Int × List Int)) g__1 g__1h]) hrt f3
   refine boolE (z := true) (ltLen hk) ?_
   refine sq ?_
   refine sq ?_
   obtain ⟨a1, e, f4⟩ := bindS f3; clear f3
   have HH := H; clear H; obtain ⟨p0, m0, g0, c0, c1, c2, c3, H⟩ := HH.el (α := Int × Int × List Int × List Int) 0 rfl e; clear HH
   clear e
   obtain ⟨a1_0, a1_1, a1_2, a1_3⟩ := a1
   obtain ⟨_, _, h0, h1⟩ := g0
   replace H := H.part (β := List Int) a1_2 (h0 : Hd) 0 rfl (fun S h => (And.left (And.right (And.right h))))
   replace H := H.part (β := List Int) a1_3 (h1 : Hd) 1 rfl (fun S h => (And.right (And.right (And.right h))))
   replace H := H.sel [0, 1, 3] rfl
   refine idxE c0 c1 c2 ?_; clear c0 c1 c2
   refine loadN [(.int .i64 a1_0), (.int .i64 a1_1), (h0).v, (h1).v] rfl c3 ?_; clear c3
   refine alloc_ gok rfl H ?_; clear H; intro b0 w2 hx H
   clear hx
   refine stA gok [(.int .i64 a1_0), (.int .i64 a1_1), (h0).v, (h1).v] rfl H rfl rfl rfl ?_; clear H; intro w3 H
   refine fld gok rfl rfl rfl rfl ?_
   refine load1 (H.bx 0 rfl (j := 0) rfl) ?_
   obtain ⟨y0, e, f5⟩ := bindS f4; clear f4
   have i0 := e; clear e
   refine callF (spec_dnTimeless_c a1_0 y0 i0) (Γi := []) H trivial ?_; clear H i0
   rintro _ _ w5 ⟨rfl, rfl⟩ H
   obtain ⟨a2, e, f6⟩ := bindS f5; clear f5
   refine boolO e ?_; clear e
   cases a2
   ·
    have f7 := condF f6; clear f6
    refine arK hk x0 ?_
    have hs := Option.some.inj f7; subst hs; clear f7
    exact ⟨(), (), rfl, ⟨rfl, rfl, rfl, trivial⟩, H.sel [3] rfl⟩
   ·
    have f8 := condT f6; clear f6
    have hs := Option.some.inj f8; subst hs; clear f8
    have hr := hrt _ rfl; subst hr
    have f9 : some _ = some _ := f2
    cases f9
    exact ⟨_, _, rfl, ⟨rfl, rfl⟩, (H.sel [] rfl).close trivial⟩
  ·
   clear H e
   rintro T1 _ _ w6 hr (H : Cx w0 fp0 S0 w6 [Es (List (Int × Int × List Int × List Int)) g__1 g__1h])
   subst hr
   refine boolE (z := false) geLen ?_
   refine sq ?_
   cases f2
   exact ⟨_, _, rfl, ⟨rfl, rfl⟩, (H.sel [] rfl).close trivial⟩
 ·
  have f10 := condT f0; clear f0
  cases f10
  exact ⟨_, _, rfl, ⟨rfl, rfl⟩, (H.sel [] rfl).close trivial⟩

theorem spec_fdAdd_c (p_ : Int) (a_ : Int) (b_ : Int) (y : Int) (hF : F_spec_fdAdd p_ a_ b_ = some y) :
  ConF Tryz.prog 90 #[(.int .i64 p_), (.int .i64 a_), (.int .i64 b_)] [] [] (fun v Γ' => v = (.int .i64 y) ∧ Γ' = []) := by
 intro w0 S0 fp0 hI hS
 have H : Cx w0 fp0 S0 w0 [] := Cx.start hI hS
 clear hI hS
 refine enterC (args := [_, _, _]) gok Tryz.func90 rfl _ rfl rfl rfl ?_
 obtain ⟨a1, e, hF2⟩ := bindS hF; clear hF
 refine arO e ?_; clear e
 obtain ⟨a3, e, hF4⟩ := bindS hF2; clear hF2
 refine remO_ e ?_; clear e
 cases hF4
 exact ⟨_, _, rfl, ⟨rfl, rfl⟩, (H.sel [] rfl).close trivial⟩

theorem spec_dnRow_c (p_ : Int) (n_ : Int) (at_ : List Int) (at_h : Hd) (values_ : List Int) (values_h : Hd) (y : List Int) (hF : F_spec_dnRow p_ n_ at_ values_ = some y) :
  ConF Tryz.prog 62 #[(.int .i64 p_), (.int .i64 n_), (at_h).v, (values_h).v] [Es (List Int) at_ at_h, Es (List Int) values_ values_h] [] (fun v Γ' => ∃ z0 : Hd, v = (z0).v ∧ Γ' = [E (List Int) y z0]) := by
 intro w0 S0 fp0 hI hS
 have H : Cx w0 fp0 S0 w0 [Es (List Int) at_ at_h, Es (List Int) values_ values_h] := Cx.start hI hS
 clear hI hS
 refine enterC (args := [_, _, _, _]) gok Tryz.func62 rfl _ rfl rfl rfl ?_
 obtain ⟨a3, e, hF4⟩ := bindS hF; clear hF
 refine make_ (α := Int) gok rfl rfl rfl rfl (makeCO_of e) H ?_; clear e H; intro h6 w5 hx H
 clear hx
 refine sq ?_
 refine lenE (H.rs (α := List Int) 1 rfl).len ?_
 have x0 := (H.rs (α := List Int) 1 rfl).max
 obtain ⟨r0, e, f0⟩ := bindS hF4; clear hF4
 refine loopS _ at_.length (fun (k8 : Nat) (s0 : List Int) (_ : Unit) => [(0, (.int .i64 p_)), (3, (values_h).v), (9, (h6).v), (14, (at_h).v), (15, (.int .i64 ((at_.length : Nat) : Int))), (16, (.int .i64 ((k8 : Nat) : Int)))]) (fun _ (s0 : List Int) (_ : Unit) w' => Cx w0 fp0 S0 w' [Es (List Int) values_ values_h, E (List Int) s0 h6, Es (List Int) at_ at_h]) a3 () e ⟨rfl, rfl, rfl, rfl, rfl, rfl, trivial⟩ (H.sel [2, 0, 1] rfl) ?_ ?_
 ·
  clear H e
  rintro T0 k8 s0 _ w1 o0 hk (H : Cx w0 fp0 S0 w1 [Es (List Int) values_ values_h, E (List Int) s0 h6, Es (List Int) at_ at_h]) f1
  refine boolE (z := true) (ltLen hk) ?_
  refine sq ?_
  refine sq ?_
  obtain ⟨a0, e, f2⟩ := bindS f1; clear f1
  obtain ⟨p0, m0, c0, c1, c2, c3⟩ := (H.rs (α := List Int) 2 rfl).at1 e; clear e
  refine idxE c0 c1 c2 ?_; clear c0 c1 c2
  refine load1 c3 ?_; clear c3
  refine heldX H [13] (.fst 0 (.fst 1 (.fst 2 (.fst 3 (.fst 4 (.fst 5 (.fst 7 (.fst 8 (.fst 9 (.fst 6 (.fst 10 (.act 11 (.fst 12 (.act 13 .done)))))))))))))) mixed [] trivial (by kernel_rfl) ?_
  clear H; intro w2 H
  have hX : Ext w2 w2 := Upd.refl _ _
  have H0 := H
  obtain ⟨a1, e, f3⟩ := bindS f2; clear f2
  obtain ⟨p1, m1, c4, c5, c6, c7⟩ := (H.ro (α := List Int) 1 rfl).at1 e; clear e
  refine idxE c4 c5 c6 ?_; clear c4 c5 c6
  obtain ⟨a2, e, f4⟩ := bindS f3; clear f3
  obtain ⟨p2, m2, c8, c9, c10, c11⟩ := (H.rs (α := List Int) 0 rfl).at1 e; clear e
  refine idxE c8 c9 c10 ?_; clear c8 c9 c10
  refine load1X c7 ?_; clear c7
  refine load1X c11 ?_; clear c11
  obtain ⟨y0, e, f5⟩ := bindS f4; clear f4
  have i0 := e; clear e
  refine callFx (spec_fdAdd_c p_ a1 a2 y0 i0) H trivial ?_; clear H i0
  rintro _ _ w3 ⟨rfl, rfl⟩ hx H
  replace hX := hX.trans0 hx; clear hx
  refine hold hX ?_
  obtain ⟨a4, e, f6⟩ := bindS f5; clear f5
  have i1 := e; clear e
  obtain ⟨p3, m3, c12, c13, c14⟩ := (H.ro (α := List Int) 1 rfl).setp i1
  refine idxE c12 c13 c14 ?_
  replace H := H.sel [1, 0, 2] rfl
  refine setS (α := Int) H c12 c13 i1 ?_; clear H c12 c13 c14 i1; intro w4 H
  refine hold trivial ?_
  refine arK hk x0 ?_
  have hs := Option.some.inj f6; subst hs; clear f6
  exact ⟨(), ⟨rfl, rfl, rfl, rfl, rfl, rfl, trivial⟩, H.sel [1, 0, 2] rfl⟩
 ·
  clear H e
  rintro T1 _ w6 (H : Cx w0 fp0 S0 w6 [Es (List Int) values_ values_h, E (List Int) r0 h6, Es (List Int) at_ at_h])
  refine boolE (z := false) geLen ?_
  refine sq ?_
  cases f0
  exact ⟨_, _, rfl, ⟨h6, rfl, rfl⟩, (H.sel [1] rfl).close ⟨cloE, trivial⟩⟩

theorem spec_fdNeg_c (p_ : Int) (a_ : Int) (y : Int) (hF : F_spec_fdNeg p_ a_ = some y) :
  ConF Tryz.prog 91 #[(.int .i64 p_), (.int .i64 a_)] [] [] (fun v Γ' => v = (.int .i64 y) ∧ Γ' = []) := by
 intro w0 S0 fp0 hI hS
 have H : Cx w0 fp0 S0 w0 [] := Cx.start hI hS
 clear hI hS
 refine enterC (args := [_, _]) gok Tryz.func91 rfl _ rfl rfl rfl ?_
 obtain ⟨a1, e, hF2⟩ := bindS hF; clear hF
 refine arO e ?_; clear e
 obtain ⟨a3, e, hF4⟩ := bindS hF2; clear hF2
 refine remO_ e ?_; clear e
 cases hF4
 exact ⟨_, _, rfl, ⟨rfl, rfl⟩, (H.sel [] rfl).close trivial⟩

theorem spec_dnRows_c (p_ : Int) (n_ : Int) (e__0 : Int) (e__1 : Int) (e__2 : List Int) (e__2h : Hd) (e__3 : List Int) (e__3h : Hd) (y : List (List Int)) (hF : F_spec_dnRows p_ n_ (e__0, e__1, e__2, e__3) = some y) :
  ConF Tryz.prog 63 #[(.int .i64 p_), (.int .i64 n_), (.agg #[(.int .i64 e__0), (.int .i64 e__1), (e__2h).v, (e__3h).v])] [Es (List Int) e__2 e__2h, Es (List Int) e__3 e__3h] [] (fun v Γ' => ∃ z0 : Hd, v = (z0).v ∧ Γ' = [E (List (List Int)) y z0]) := by
 intro w0 S0 fp0 hI hS
 have H : Cx w0 fp0 S0 w0 [Es (List Int) e__2 e__2h, Es (List Int) e__3 e__3h] := Cx.start hI hS
 clear hI hS
 refine enterC (args := [_, _, _]) gok Tryz.func63 rfl _ rfl rfl rfl ?_
 refine box_ H ?_; clear H; intro b4 w3 hx H
 clear hx
 refine heldX H [] (.fst 0 (.fst 2 (.fst 1 (.fst 4 (.fst 3 (.fst 5 .done)))))) mixed [] trivial (by kernel_rfl) ?_
 clear H; intro w6 H
 have hX : Ext w6 w6 := Upd.refl _ _
 have H0 := H
 refine anyH (fun _ => fld gok rfl rfl rfl rfl ⟨rfl, rfl⟩) ?_
 refine anyH (fun _ => fld gok rfl rfl rfl rfl ⟨rfl, rfl⟩) ?_
 refine load1X (H.bx 0 rfl (j := 2) rfl) ?_
 refine load1X (H.bx 0 rfl (j := 3) rfl) ?_
 refine fld gok rfl rfl rfl rfl ?_
 refine load1 (H.bx 0 rfl (j := 0) rfl) ?_
 obtain ⟨r0, f0, f1⟩ := bindS hF; clear hF
 refine cut (fun (q0 : (List Int × List Int × Int) × (Hd × Hd)) => [(0, (.int .i64 p_)), (1, (.int .i64 n_)), (5, (.pointer (some ⟨b4, 0, none⟩))), (7, (q0.2.1).v), (8, (q0.2.2).v), (9, (.int .i64 q0.1.2.2))]) (fun (q0 : (List Int × List Int × Int) × (Hd × Hd)) w' => (q0.1.1, q0.1.2.1, q0.1.2.2) = r0 ∧ Cx w0 fp0 S0 w' [Bx b4 [(.int .i64 e__0), (.int .i64 e__1), (e__2h).v, (e__3h).v], Es (List Int) e__2 e__2h, Es (List Int) e__3 e__3h, Es (List Int) q0.1.1 q0.2.1, Es (List Int) q0.1.2.1 q0.2.2]) ?_ ?_
 ·
  obtain ⟨a0, e, f2⟩ := bindS f0; clear f0
  refine boolO e ?_; clear e
  cases a0
  ·
   have f3 := condF f2; clear f2
   replace H := H.dup 1 rfl persS
   replace H := H.dup 3 rfl persS
   exact ⟨((e__2, e__3, e__0), (e__2h, e__3h)), ⟨rfl, rfl, rfl, rfl, rfl, rfl, trivial⟩, Option.some.inj f3, H.sel [2, 3, 4, 1, 0] rfl⟩
  ·
   have f4 := condT f2; clear f2
   refine heldX H [] (.fst 0 (.fst 2 (.fst 4 (.fst 5 (.fst 6 (.fst 1 (.fst 7 (.fst 3 (.fst 8 (.fst 9 .done)))))))))) mixed [] trivial (by kernel_rfl) ?_
   clear H; intro w1 H
   have hX : Ext w1 w1 := Upd.refl _ _
   have H0 := H
   refine anyH (fun _ => fld gok rfl rfl rfl rfl ⟨rfl, rfl⟩) ?_
   refine anyH (fun _ => fld gok rfl rfl rfl rfl ⟨rfl, rfl⟩) ?_
   obtain ⟨a1, e, f5⟩ := bindS f4; clear f4
   refine arO e ?_; clear e
   obtain ⟨a2, e, f6⟩ := bindS f5; clear f5
   refine arO e ?_; clear e
   refine load1X (H.bx 0 rfl (j := 3) rfl) ?_
   refine load1X (H.bx 0 rfl (j := 2) rfl) ?_
   replace H := H.dup 2 rfl persS
   replace H := H.dup 2 rfl persS
   exact ⟨((e__3, e__2, a2), (e__3h, e__2h)), ⟨rfl, rfl, rfl, rfl, rfl, rfl, trivial⟩, Option.some.inj f6, H.sel [2, 3, 4, 1, 0] rfl⟩
 ·
  clear f0 H
  rintro T0 ⟨⟨s0_0, s0_1, s0_2⟩, ⟨g0_0, g0_1⟩⟩ w2 ⟨hr, (H : Cx w0 fp0 S0 w2 [Bx b4 [(.int .i64 e__0), (.int .i64 e__1), (e__2h).v, (e__3h).v], Es (List Int) e__2 e__2h, Es (List Int) e__3 e__3h, Es (List Int) s0_0 g0_0, Es (List Int) s0_1 g0_1])⟩
  subst hr
  refine sq ?_
  obtain ⟨a3, e, f7⟩ := bindS f1; clear f1
  refine boolO e ?_; clear e
  cases a3
  ·
   have f8 := condF f7; clear f7
   obtain ⟨a4, e, f9⟩ := bindS f8; clear f8
   refine boolO e ?_; clear e
   cases a4
   ·
    have f10 := condF f9; clear f9
    obtain ⟨a5, e, f11⟩ := bindS f10; clear f10
    refine boolO e ?_; clear e
    cases a5
    ·
     have f12 := condF f11; clear f11
     obtain ⟨a6, e, f13⟩ := bindS f12; clear f12
     refine boolO e ?_; clear e
     cases a6
     ·
      have f14 := condF f13; clear f13
      replace H := H.nil (α := List Int)
      cases f14
      exact ⟨_, _, rfl, ⟨nilH, rfl, rfl⟩, (H.sel [0] rfl).close ⟨cloE, trivial⟩⟩
     ·
      have f15 := condT f13; clear f13
      obtain ⟨r1, f16, f17⟩ := bindS f15; clear f15
      refine heldJ H [] (.fst 0 (.fst 1 (.fst 2 (.fst 3 (.fst 5 (.fst 6 (.fst 9 (.fst 10 (.fst 4 (.fst 7 (.fst 11 (.alts (.alt 8 (.act 12 (.act 13 (.act 14 (.act 15 (.fst 16 .done))))) (.alt 12 (.alts (.alt 8 (.act 13 (.act 14 (.act 15 (.fst 16 .done)))) (.alt 13 (.act 8 (.act 14 (.act 15 (.fst 16 .done)))) .no))) .no)))))))))))))) mixed [] trivial (by kernel_rfl) (fun (q1 : List (List Int) × Hd) => [(6, (q1.2).v)]) (fun (q1 : List (List Int) × Hd) w' => q1.1 = r1 ∧ Cx w0 fp0 S0 w' [E (List (List Int)) q1.1 q1.2]) ?_ ?_
      ·
       clear H; intro w4 H
       have hX : Ext w4 w4 := Upd.refl _ _
       have H0 := H
       obtain ⟨a7, e, f18⟩ := bindS f16; clear f16
       obtain ⟨p0, m0, c0, c1, c2, c3⟩ := (H.rs (α := List Int) 4 rfl).at1 e; clear e
       refine idxE c0 c1 c2 ?_; clear c0 c1 c2
       obtain ⟨a8, e, f19⟩ := bindS f18; clear f18
       obtain ⟨p1, m1, c4, c5, c6, c7⟩ := (H.rs (α := List Int) 3 rfl).at1 e; clear e
       refine idxE c4 c5 c6 ?_; clear c4 c5 c6
       refine anyH (fun _ => fld gok rfl rfl rfl rfl ⟨rfl, rfl⟩) ?_
       refine load1X c3 ?_; clear c3
       refine load1X c7 ?_; clear c7
       refine load1X (H.bx 0 rfl (j := 1) rfl) ?_
       refine both ?_ ?_
       ·
        replace H := H.sc (α := Int) a8
        replace H := H.sc (α := Int) a7
        refine litN (α := Int) (us := [(.int .i64 a7), (.int .i64 a8)]) (xs := [a7, a8]) (gs := [(), ()]) gok rfl rfl rfl ⟨rfl, rfl, trivial⟩ rfl rfl H ?_; clear H; intro h0 w5 hx H
        replace hX := hX.trans0 hx; clear hx
        refine hold hX ?_
        obtain ⟨y0, e, f20⟩ := bindS f19; clear f19
        have i0 := e; clear e
        refine callFx (spec_fdNeg_c p_ e__1 y0 i0) H trivial ?_; clear H i0
        rintro _ _ w7 ⟨rfl, rfl⟩ hx H
        replace hX := hX.trans0 hx; clear hx
        refine hold hX ?_
        replace H := H.sc (α := Int) y0
        replace H := H.sc (α := Int) 1
        refine litN (α := Int) (us := [(.int .i64 1), (.int .i64 y0)]) (xs := [1, y0]) (gs := [(), ()]) gok rfl rfl rfl ⟨rfl, rfl, trivial⟩ rfl rfl H ?_; clear H; intro h1 w8 hx H
        replace hX := hX.trans0 hx; clear hx
        refine hold hX ?_
        obtain ⟨y1, e, f21⟩ := bindS f20; clear f20
        have i1 := e; clear e
        refine callFx (spec_dnRow_c p_ n_ [a7, a8] h0 [1, y0] h1 y1 i1) H ⟨Vw.own 1 rfl, Vw.own 0 rfl, trivial⟩ ?_; clear H i1
        rintro _ _ w9 ⟨h2, rfl, rfl⟩ hx H
        replace hX := hX.trans0 hx; clear hx
        refine hold hX ?_
        refine lit1 (α := List Int) (g := h2) gok rfl rfl rfl rfl rfl H ?_; clear H; intro h3 w10 hx H
        replace hX := hX.trans0 hx; clear hx
        refine hold hX ?_
        exact ⟨([y1], h3), ⟨rfl, trivial⟩, Option.some.inj f21, H.sel [0] rfl⟩
       ·
        refine both ?_ ?_
        ·
         obtain ⟨a9, o0, f22⟩ := bindS f19; clear f19
         obtain ⟨a10, o1, f23⟩ := bindS f22; clear f22
         have e := o0; clear o0
         have i2 := e; clear e
         refine callFx (spec_fdNeg_c p_ e__1 a9 i2) H trivial ?_; clear H i2
         rintro _ _ w11 ⟨rfl, rfl⟩ hx H
         replace hX := hX.trans0 hx; clear hx
         refine hold hX ?_
         refine both ?_ ?_
         ·
          replace H := H.sc (α := Int) a8
          replace H := H.sc (α := Int) a7
          refine litN (α := Int) (us := [(.int .i64 a7), (.int .i64 a8)]) (xs := [a7, a8]) (gs := [(), ()]) gok rfl rfl rfl ⟨rfl, rfl, trivial⟩ rfl rfl H ?_; clear H; intro h4 w12 hx H
          replace hX := hX.trans0 hx; clear hx
          refine hold hX ?_
          replace H := H.sc (α := Int) a9
          replace H := H.sc (α := Int) 1
          refine litN (α := Int) (us := [(.int .i64 1), (.int .i64 a9)]) (xs := [1, a9]) (gs := [(), ()]) gok rfl rfl rfl ⟨rfl, rfl, trivial⟩ rfl rfl H ?_; clear H; intro h5 w13 hx H
          replace hX := hX.trans0 hx; clear hx
          refine hold hX ?_
          have e := o1; clear o1
          have i3 := e; clear e
          refine callFx (spec_dnRow_c p_ n_ [a7, a8] h4 [1, a9] h5 a10 i3) H ⟨Vw.own 1 rfl, Vw.own 0 rfl, trivial⟩ ?_; clear H i3
          rintro _ _ w14 ⟨h6, rfl, rfl⟩ hx H
          replace hX := hX.trans0 hx; clear hx
          refine hold hX ?_
          refine lit1 (α := List Int) (g := h6) gok rfl rfl rfl rfl rfl H ?_; clear H; intro h7 w15 hx H
          replace hX := hX.trans0 hx; clear hx
          refine hold hX ?_
          exact ⟨([a10], h7), ⟨rfl, trivial⟩, Option.some.inj f23, H.sel [0] rfl⟩
         ·
          refine both ?_ ?_
          ·
           replace H := H.sc (α := Int) a9
           replace H := H.sc (α := Int) 1
           refine litN (α := Int) (us := [(.int .i64 1), (.int .i64 a9)]) (xs := [1, a9]) (gs := [(), ()]) gok rfl rfl rfl ⟨rfl, rfl, trivial⟩ rfl rfl H ?_; clear H; intro h8 w16 hx H
           replace hX := hX.trans0 hx; clear hx
           refine hold hX ?_
           replace H := H.sc (α := Int) a8
           replace H := H.sc (α := Int) a7
           refine litN (α := Int) (us := [(.int .i64 a7), (.int .i64 a8)]) (xs := [a7, a8]) (gs := [(), ()]) gok rfl rfl rfl ⟨rfl, rfl, trivial⟩ rfl rfl H ?_; clear H; intro h9 w17 hx H
           replace hX := hX.trans0 hx; clear hx
           refine hold hX ?_
           have e := o1; clear o1
           have i3 := e; clear e
           refine callFx (spec_dnRow_c p_ n_ [a7, a8] h9 [1, a9] h8 a10 i3) H ⟨Vw.own 0 rfl, Vw.own 1 rfl, trivial⟩ ?_; clear H i3
           rintro _ _ w18 ⟨h10, rfl, rfl⟩ hx H
           replace hX := hX.trans0 hx; clear hx
           refine hold hX ?_
           refine lit1 (α := List Int) (g := h10) gok rfl rfl rfl rfl rfl H ?_; clear H; intro h11 w19 hx H
           replace hX := hX.trans0 hx; clear hx
           refine hold hX ?_
           exact ⟨([a10], h11), ⟨rfl, trivial⟩, Option.some.inj f23, H.sel [0] rfl⟩
          ·
           exact trivial
        ·
         exact trivial
      ·
       clear f16 H
       rintro T1 ⟨s1, g1⟩ w20 ⟨hr, (H : Cx w0 fp0 S0 w20 [E (List (List Int)) s1 g1])⟩
       subst hr
       cases f17
       exact ⟨_, _, rfl, ⟨g1, rfl, rfl⟩, (H.sel [0] rfl).close ⟨cloE, trivial⟩⟩
    ·
     have f24 := condT f11; clear f11
     obtain ⟨a11, e, f25⟩ := bindS f24; clear f24
     obtain ⟨p2, m2, c8, c9, c10, c11⟩ := (H.rs (α := List Int) 4 rfl).at1 e; clear e
     refine idxE c8 c9 c10 ?_; clear c8 c9 c10
     refine load1 c11 ?_; clear c11
     refine lit1S (α := Int) gok rfl rfl rfl rfl H ?_; clear H; intro h12 w21 hx H
     clear hx
     refine lit1S (α := Int) gok rfl rfl rfl rfl H ?_; clear H; intro h13 w22 hx H
     clear hx
     obtain ⟨y2, e, f26⟩ := bindS f25; clear f25
     have i4 := e; clear e
     refine callF (spec_dnRow_c p_ n_ [a11] h12 [1] h13 y2 i4) (Γi := []) H ⟨Vw.own 1 rfl, Vw.own 0 rfl, trivial⟩ ?_; clear H i4
     rintro _ _ w23 ⟨h14, rfl, rfl⟩ H
     refine lit1 (α := List Int) (g := h14) gok rfl rfl rfl rfl rfl H ?_; clear H; intro h15 w24 hx H
     clear hx
     cases f26
     exact ⟨_, _, rfl, ⟨h15, rfl, rfl⟩, (H.sel [0] rfl).close ⟨cloE, trivial⟩⟩
   ·
    have f27 := condT f9; clear f9
    obtain ⟨r2, f28, f29⟩ := bindS f27; clear f27
    refine heldJ H [] (.fst 0 (.fst 1 (.fst 2 (.fst 3 (.fst 5 (.fst 6 (.fst 8 (.fst 9 (.fst 12 (.fst 13 (.fst 14 (.fst 15 (.fst 4 (.fst 7 (.fst 10 (.alts (.alt 11 (.act 16 (.act 17 (.act 18 (.fst 19 .done)))) (.alt 16 (.act 11 (.act 17 (.act 18 (.fst 19 .done)))) .no)))))))))))))))))) mixed [] trivial (by kernel_rfl) (fun (q2 : List (List Int) × Hd) => [(6, (q2.2).v)]) (fun (q2 : List (List Int) × Hd) w' => q2.1 = r2 ∧ Cx w0 fp0 S0 w' [E (List (List Int)) q2.1 q2.2]) ?_ ?_
    ·
     clear H; intro w25 H
     have hX : Ext w25 w25 := Upd.refl _ _
     have H0 := H
     obtain ⟨a12, e, f30⟩ := bindS f28; clear f28
     obtain ⟨p3, m3, c12, c13, c14, c15⟩ := (H.rs (α := List Int) 4 rfl).at1 e; clear e
     refine idxE c12 c13 c14 ?_; clear c12 c13 c14
     obtain ⟨a13, e, f31⟩ := bindS f30; clear f30
     obtain ⟨p4, m4, c16, c17, c18, c19⟩ := (H.rs (α := List Int) 3 rfl).at1 e; clear e
     refine idxE c16 c17 c18 ?_; clear c16 c17 c18
     obtain ⟨a14, e, f32⟩ := bindS f31; clear f31
     obtain ⟨p5, m5, c20, c21, c22, c23⟩ := (H.rs (α := List Int) 3 rfl).at1 e; clear e
     refine idxE c20 c21 c22 ?_; clear c20 c21 c22
     obtain ⟨a15, e, f33⟩ := bindS f32; clear f32
     refine arO e ?_; clear e
     obtain ⟨a16, e, f34⟩ := bindS f33; clear f33
     refine arO e ?_; clear e
     refine load1X c15 ?_; clear c15
     refine load1X c19 ?_; clear c19
     refine load1X c23 ?_; clear c23
     refine both ?_ ?_
     ·
      replace H := H.sc (α := Int) a14
      replace H := H.sc (α := Int) a13
      replace H := H.sc (α := Int) a12
      refine litN (α := Int) (us := [(.int .i64 a12), (.int .i64 a13), (.int .i64 a14)]) (xs := [a12, a13, a14]) (gs := [(), (), ()]) gok rfl rfl rfl ⟨rfl, rfl, rfl, trivial⟩ rfl rfl H ?_; clear H; intro h16 w26 hx H
      replace hX := hX.trans0 hx; clear hx
      refine hold hX ?_
      replace H := H.sc (α := Int) a16
      replace H := H.sc (α := Int) a15
      replace H := H.sc (α := Int) 1
      refine litN (α := Int) (us := [(.int .i64 1), (.int .i64 a15), (.int .i64 a16)]) (xs := [1, a15, a16]) (gs := [(), (), ()]) gok rfl rfl rfl ⟨rfl, rfl, rfl, trivial⟩ rfl rfl H ?_; clear H; intro h17 w27 hx H
      replace hX := hX.trans0 hx; clear hx
      refine hold hX ?_
      obtain ⟨y3, e, f35⟩ := bindS f34; clear f34
      have i5 := e; clear e
      refine callFx (spec_dnRow_c p_ n_ [a12, a13, a14] h16 [1, a15, a16] h17 y3 i5) H ⟨Vw.own 1 rfl, Vw.own 0 rfl, trivial⟩ ?_; clear H i5
      rintro _ _ w28 ⟨h18, rfl, rfl⟩ hx H
      replace hX := hX.trans0 hx; clear hx
      refine hold hX ?_
      refine lit1 (α := List Int) (g := h18) gok rfl rfl rfl rfl rfl H ?_; clear H; intro h19 w29 hx H
      replace hX := hX.trans0 hx; clear hx
      refine hold hX ?_
      exact ⟨([y3], h19), ⟨rfl, trivial⟩, Option.some.inj f35, H.sel [0] rfl⟩
     ·
      refine both ?_ ?_
      ·
       obtain ⟨a17, o2, f36⟩ := bindS f34; clear f34
       replace H := H.sc (α := Int) a16
       replace H := H.sc (α := Int) a15
       replace H := H.sc (α := Int) 1
       refine litN (α := Int) (us := [(.int .i64 1), (.int .i64 a15), (.int .i64 a16)]) (xs := [1, a15, a16]) (gs := [(), (), ()]) gok rfl rfl rfl ⟨rfl, rfl, rfl, trivial⟩ rfl rfl H ?_; clear H; intro h20 w30 hx H
       replace hX := hX.trans0 hx; clear hx
       refine hold hX ?_
       replace H := H.sc (α := Int) a14
       replace H := H.sc (α := Int) a13
       replace H := H.sc (α := Int) a12
       refine litN (α := Int) (us := [(.int .i64 a12), (.int .i64 a13), (.int .i64 a14)]) (xs := [a12, a13, a14]) (gs := [(), (), ()]) gok rfl rfl rfl ⟨rfl, rfl, rfl, trivial⟩ rfl rfl H ?_; clear H; intro h21 w31 hx H
       replace hX := hX.trans0 hx; clear hx
       refine hold hX ?_
       have e := o2; clear o2
       have i6 := e; clear e
       refine callFx (spec_dnRow_c p_ n_ [a12, a13, a14] h21 [1, a15, a16] h20 a17 i6) H ⟨Vw.own 0 rfl, Vw.own 1 rfl, trivial⟩ ?_; clear H i6
       rintro _ _ w33 ⟨h22, rfl, rfl⟩ hx H
       replace hX := hX.trans0 hx; clear hx
       refine hold hX ?_
       refine lit1 (α := List Int) (g := h22) gok rfl rfl rfl rfl rfl H ?_; clear H; intro h23 w34 hx H
       replace hX := hX.trans0 hx; clear hx
       refine hold hX ?_
       exact ⟨([a17], h23), ⟨rfl, trivial⟩, Option.some.inj f36, H.sel [0] rfl⟩
      ·
       exact trivial
    ·
     clear f28 H
     rintro T2 ⟨s2, g2⟩ w35 ⟨hr, (H : Cx w0 fp0 S0 w35 [E (List (List Int)) s2 g2])⟩
     subst hr
     cases f29
     exact ⟨_, _, rfl, ⟨g2, rfl, rfl⟩, (H.sel [0] rfl).close ⟨cloE, trivial⟩⟩
  ·
   have f37 := condT f7; clear f7
   obtain ⟨r3, f38, f39⟩ := bindS f37; clear f37
   refine heldJ H [] (.fst 0 (.fst 1 (.fst 2 (.fst 3 (.fst 5 (.fst 6 (.fst 9 (.fst 10 (.fst 13 (.fst 14 (.fst 15 (.fst 16 (.fst 18 (.fst 19 (.fst 22 (.fst 23 (.fst 4 (.fst 7 (.fst 17 (.fst 20 (.alts (.alt 8 (.alts (.alt 11 (.alts (.alt 12 (.alts (.alt 21 (.act 24 (.act 25 (.act 26 (.fst 27 .done)))) (.alt 24 (.act 21 (.act 25 (.act 26 (.fst 27 .done)))) .no))) (.alt 21 (.alts (.alt 12 (.act 24 (.act 25 (.act 26 (.fst 27 .done)))) (.alt 24 (.act 12 (.act 25 (.act 26 (.fst 27 .done)))) .no))) (.alt 24 (.alts (.alt 12 (.act 21 (.act 25 (.act 26 (.fst 27 .done)))) (.alt 21 (.act 12 (.act 25 (.act 26 (.fst 27 .done)))) .no))) .no)))) (.alt 21 (.alts (.alt 11 (.alts (.alt 12 (.act 24 (.act 25 (.act 26 (.fst 27 .done)))) (.alt 24 (.act 12 (.act 25 (.act 26 (.fst 27 .done)))) .no))) (.alt 24 (.act 11 (.act 12 (.act 25 (.act 26 (.fst 27 .done))))) .no))) (.alt 24 (.alts (.alt 11 (.alts (.alt 12 (.act 21 (.act 25 (.act 26 (.fst 27 .done)))) (.alt 21 (.act 12 (.act 25 (.act 26 (.fst 27 .done)))) .no))) (.alt 21 (.act 11 (.act 12 (.act 25 (.act 26 (.fst 27 .done))))) .no))) .no)))) (.alt 11 (.alts (.alt 8 (.alts (.alt 12 (.alts (.alt 21 (.act 24 (.act 25 (.act 26 (.fst 27 .done)))) (.alt 24 (.act 21 (.act 25 (.act 26 (.fst 27 .done)))) .no))) (.alt 21 (.alts (.alt 12 (.act 24 (.act 25 (.act 26 (.fst 27 .done)))) (.alt 24 (.act 12 (.act 25 (.act 26 (.fst 27 .done)))) .no))) (.alt 24 (.alts (.alt 12 (.act 21 (.act 25 (.act 26 (.fst 27 .done)))) (.alt 21 (.act 12 (.act 25 (.act 26 (.fst 27 .done)))) .no))) .no)))) (.alt 21 (.alts (.alt 8 (.alts (.alt 12 (.act 24 (.act 25 (.act 26 (.fst 27 .done)))) (.alt 24 (.act 12 (.act 25 (.act 26 (.fst 27 .done)))) .no))) (.alt 24 (.act 8 (.act 12 (.act 25 (.act 26 (.fst 27 .done))))) .no))) (.alt 24 (.alts (.alt 8 (.alts (.alt 12 (.act 21 (.act 25 (.act 26 (.fst 27 .done)))) (.alt 21 (.act 12 (.act 25 (.act 26 (.fst 27 .done)))) .no))) (.alt 21 (.act 8 (.act 12 (.act 25 (.act 26 (.fst 27 .done))))) .no))) .no)))) (.alt 21 (.alts (.alt 8 (.alts (.alt 11 (.alts (.alt 12 (.act 24 (.act 25 (.act 26 (.fst 27 .done)))) (.alt 24 (.act 12 (.act 25 (.act 26 (.fst 27 .done)))) .no))) (.alt 24 (.act 11 (.act 12 (.act 25 (.act 26 (.fst 27 .done))))) .no))) (.alt 11 (.alts (.alt 8 (.alts (.alt 12 (.act 24 (.act 25 (.act 26 (.fst 27 .done)))) (.alt 24 (.act 12 (.act 25 (.act 26 (.fst 27 .done)))) .no))) (.alt 24 (.act 8 (.act 12 (.act 25 (.act 26 (.fst 27 .done))))) .no))) (.alt 24 (.alts (.alt 8 (.act 11 (.act 12 (.act 25 (.act 26 (.fst 27 .done))))) (.alt 11 (.act 8 (.act 12 (.act 25 (.act 26 (.fst 27 .done))))) .no))) .no)))) (.alt 24 (.alts (.alt 8 (.alts (.alt 11 (.alts (.alt 12 (.act 21 (.act 25 (.act 26 (.fst 27 .done)))) (.alt 21 (.act 12 (.act 25 (.act 26 (.fst 27 .done)))) .no))) (.alt 21 (.act 11 (.act 12 (.act 25 (.act 26 (.fst 27 .done))))) .no))) (.alt 11 (.alts (.alt 8 (.alts (.alt 12 (.act 21 (.act 25 (.act 26 (.fst 27 .done)))) (.alt 21 (.act 12 (.act 25 (.act 26 (.fst 27 .done)))) .no))) (.alt 21 (.act 8 (.act 12 (.act 25 (.act 26 (.fst 27 .done))))) .no))) (.alt 21 (.alts (.alt 8 (.act 11 (.act 12 (.act 25 (.act 26 (.fst 27 .done))))) (.alt 11 (.act 8 (.act 12 (.act 25 (.act 26 (.fst 27 .done))))) .no))) .no)))) .no))))))))))))))))))))))))) mixed [] trivial (by kernel_rfl) (fun (q3 : List (List Int) × Hd) => [(6, (q3.2).v)]) (fun (q3 : List (List Int) × Hd) w' => q3.1 = r3 ∧ Cx w0 fp0 S0 w' [E (List (List Int)) q3.1 q3.2]) ?_ ?_
   ·
    clear H; intro w36 H
    have hX : Ext w36 w36 := Upd.refl _ _
    have H0 := H
    obtain ⟨a18, e, f40⟩ := bindS f38; clear f38
    obtain ⟨p6, m6, c24, c25, c26, c27⟩ := (H.rs (α := List Int) 4 rfl).at1 e; clear e
    refine idxE c24 c25 c26 ?_; clear c24 c25 c26
    obtain ⟨a19, e, f41⟩ := bindS f40; clear f40
    obtain ⟨p7, m7, c28, c29, c30, c31⟩ := (H.rs (α := List Int) 3 rfl).at1 e; clear e
    refine idxE c28 c29 c30 ?_; clear c28 c29 c30
    obtain ⟨a20, e, f42⟩ := bindS f41; clear f41
    refine arO e ?_; clear e
    obtain ⟨a21, e, f43⟩ := bindS f42; clear f42
    obtain ⟨p8, m8, c32, c33, c34, c35⟩ := (H.rs (α := List Int) 4 rfl).at1 e; clear e
    refine idxE c32 c33 c34 ?_; clear c32 c33 c34
    obtain ⟨a22, e, f44⟩ := bindS f43; clear f43
    obtain ⟨p9, m9, c36, c37, c38, c39⟩ := (H.rs (α := List Int) 3 rfl).at1 e; clear e
    refine idxE c36 c37 c38 ?_; clear c36 c37 c38
    obtain ⟨a23, e, f45⟩ := bindS f44; clear f44
    refine arO e ?_; clear e
    refine load1X c27 ?_; clear c27
    refine load1X c31 ?_; clear c31
    refine load1X c35 ?_; clear c35
    refine load1X c39 ?_; clear c39
    refine both ?_ ?_
    ·
     replace H := H.sc (α := Int) a19
     replace H := H.sc (α := Int) a18
     refine litN (α := Int) (us := [(.int .i64 a18), (.int .i64 a19)]) (xs := [a18, a19]) (gs := [(), ()]) gok rfl rfl rfl ⟨rfl, rfl, trivial⟩ rfl rfl H ?_; clear H; intro h24 w37 hx H
     replace hX := hX.trans0 hx; clear hx
     refine hold hX ?_
     refine both ?_ ?_
     ·
      replace H := H.sc (α := Int) a20
      replace H := H.sc (α := Int) 1
      refine litN (α := Int) (us := [(.int .i64 1), (.int .i64 a20)]) (xs := [1, a20]) (gs := [(), ()]) gok rfl rfl rfl ⟨rfl, rfl, trivial⟩ rfl rfl H ?_; clear H; intro h25 w38 hx H
      replace hX := hX.trans0 hx; clear hx
      refine hold hX ?_
      refine both ?_ ?_
      ·
       obtain ⟨y4, e, f46⟩ := bindS f45; clear f45
       have i7 := e; clear e
       refine callFx (spec_dnRow_c p_ n_ [a18, a19] h24 [1, a20] h25 y4 i7) H ⟨Vw.own 1 rfl, Vw.own 0 rfl, trivial⟩ ?_; clear H i7
       rintro _ _ w39 ⟨h26, rfl, rfl⟩ hx H
       replace hX := hX.trans0 hx; clear hx
       refine hold hX ?_
       refine both ?_ ?_
       ·
        replace H := H.sc (α := Int) a22
        replace H := H.sc (α := Int) a21
        refine litN (α := Int) (us := [(.int .i64 a21), (.int .i64 a22)]) (xs := [a21, a22]) (gs := [(), ()]) gok rfl rfl rfl ⟨rfl, rfl, trivial⟩ rfl rfl H ?_; clear H; intro h27 w40 hx H
        replace hX := hX.trans0 hx; clear hx
        refine hold hX ?_
        replace H := H.sc (α := Int) a23
        replace H := H.sc (α := Int) 1
        refine litN (α := Int) (us := [(.int .i64 1), (.int .i64 a23)]) (xs := [1, a23]) (gs := [(), ()]) gok rfl rfl rfl ⟨rfl, rfl, trivial⟩ rfl rfl H ?_; clear H; intro h28 w42 hx H
        replace hX := hX.trans0 hx; clear hx
        refine hold hX ?_
        obtain ⟨y5, e, f47⟩ := bindS f46; clear f46
        have i8 := e; clear e
        refine callFx (spec_dnRow_c p_ n_ [a21, a22] h27 [1, a23] h28 y5 i8) H ⟨Vw.own 1 rfl, Vw.own 0 rfl, trivial⟩ ?_; clear H i8
        rintro _ _ w43 ⟨h29, rfl, rfl⟩ hx H
        replace hX := hX.trans0 hx; clear hx
        refine hold hX ?_
        replace H := H.sel [3, 0, 1, 2, 4, 5, 6, 7, 8, 9, 10] rfl
        refine litN (α := List Int) (us := [(h26).v, (h29).v]) (xs := [y4, y5]) (gs := [h26, h29]) gok rfl rfl rfl ⟨rfl, rfl, trivial⟩ rfl rfl H ?_; clear H; intro h30 w44 hx H
        replace hX := hX.trans0 hx; clear hx
        refine hold hX ?_
        exact ⟨([y4, y5], h30), ⟨rfl, trivial⟩, Option.some.inj f47, H.sel [0] rfl⟩
       ·
        refine both ?_ ?_
        ·
         obtain ⟨a25, o3, f48⟩ := bindS f46; clear f46
         replace H := H.sc (α := Int) a23
         replace H := H.sc (α := Int) 1
         refine litN (α := Int) (us := [(.int .i64 1), (.int .i64 a23)]) (xs := [1, a23]) (gs := [(), ()]) gok rfl rfl rfl ⟨rfl, rfl, trivial⟩ rfl rfl H ?_; clear H; intro h31 w45 hx H
         replace hX := hX.trans0 hx; clear hx
         refine hold hX ?_
         replace H := H.sc (α := Int) a22
         replace H := H.sc (α := Int) a21
         refine litN (α := Int) (us := [(.int .i64 a21), (.int .i64 a22)]) (xs := [a21, a22]) (gs := [(), ()]) gok rfl rfl rfl ⟨rfl, rfl, trivial⟩ rfl rfl H ?_; clear H; intro h32 w46 hx H
         replace hX := hX.trans0 hx; clear hx
         refine hold hX ?_
         have e := o3; clear o3
         have i9 := e; clear e
         refine callFx (spec_dnRow_c p_ n_ [a21, a22] h32 [1, a23] h31 a25 i9) H ⟨Vw.own 0 rfl, Vw.own 1 rfl, trivial⟩ ?_; clear H i9
         rintro _ _ w47 ⟨h33, rfl, rfl⟩ hx H
         replace hX := hX.trans0 hx; clear hx
         refine hold hX ?_
         replace H := H.sel [3, 0, 1, 2, 4, 5, 6, 7, 8, 9, 10] rfl
         refine litN (α := List Int) (us := [(h26).v, (h33).v]) (xs := [y4, a25]) (gs := [h26, h33]) gok rfl rfl rfl ⟨rfl, rfl, trivial⟩ rfl rfl H ?_; clear H; intro h34 w48 hx H
         replace hX := hX.trans0 hx; clear hx
         refine hold hX ?_
         exact ⟨([y4, a25], h34), ⟨rfl, trivial⟩, Option.some.inj f48, H.sel [0] rfl⟩
        ·
         exact trivial
      ·
       refine both ?_ ?_
       ·
        obtain ⟨a26, o4, f49⟩ := bindS f45; clear f45
        obtain ⟨a27, o5, f50⟩ := bindS f49; clear f49
        replace H := H.sc (α := Int) a22
        replace H := H.sc (α := Int) a21
        refine litN (α := Int) (us := [(.int .i64 a21), (.int .i64 a22)]) (xs := [a21, a22]) (gs := [(), ()]) gok rfl rfl rfl ⟨rfl, rfl, trivial⟩ rfl rfl H ?_; clear H; intro h35 w49 hx H
        replace hX := hX.trans0 hx; clear hx
        refine hold hX ?_
        refine both ?_ ?_
        ·
         have e := o4; clear o4
         have i10 := e; clear e
         refine callFx (spec_dnRow_c p_ n_ [a18, a19] h24 [1, a20] h25 a26 i10) H ⟨Vw.own 2 rfl, Vw.own 1 rfl, trivial⟩ ?_; clear H i10
         rintro _ _ w50 ⟨h36, rfl, rfl⟩ hx H
         replace hX := hX.trans0 hx; clear hx
         refine hold hX ?_
         replace H := H.sc (α := Int) a23
         replace H := H.sc (α := Int) 1
         refine litN (α := Int) (us := [(.int .i64 1), (.int .i64 a23)]) (xs := [1, a23]) (gs := [(), ()]) gok rfl rfl rfl ⟨rfl, rfl, trivial⟩ rfl rfl H ?_; clear H; intro h37 w51 hx H
         replace hX := hX.trans0 hx; clear hx
         refine hold hX ?_
         have e := o5; clear o5
         have i11 := e; clear e
         refine callFx (spec_dnRow_c p_ n_ [a21, a22] h35 [1, a23] h37 a27 i11) H ⟨Vw.own 2 rfl, Vw.own 0 rfl, trivial⟩ ?_; clear H i11
         rintro _ _ w52 ⟨h38, rfl, rfl⟩ hx H
         replace hX := hX.trans0 hx; clear hx
         refine hold hX ?_
         replace H := H.sel [2, 0, 1, 3, 4, 5, 6, 7, 8, 9, 10] rfl
         refine litN (α := List Int) (us := [(h36).v, (h38).v]) (xs := [a26, a27]) (gs := [h36, h38]) gok rfl rfl rfl ⟨rfl, rfl, trivial⟩ rfl rfl H ?_; clear H; intro h39 w53 hx H
         replace hX := hX.trans0 hx; clear hx
         refine hold hX ?_
         exact ⟨([a26, a27], h39), ⟨rfl, trivial⟩, Option.some.inj f50, H.sel [0] rfl⟩
        ·
         refine both ?_ ?_
         ·
          replace H := H.sc (α := Int) a23
          replace H := H.sc (α := Int) 1
          refine litN (α := Int) (us := [(.int .i64 1), (.int .i64 a23)]) (xs := [1, a23]) (gs := [(), ()]) gok rfl rfl rfl ⟨rfl, rfl, trivial⟩ rfl rfl H ?_; clear H; intro h40 w54 hx H
          replace hX := hX.trans0 hx; clear hx
          refine hold hX ?_
          have e := o4; clear o4
          have i10 := e; clear e
          refine callFx (spec_dnRow_c p_ n_ [a18, a19] h24 [1, a20] h25 a26 i10) H ⟨Vw.own 3 rfl, Vw.own 2 rfl, trivial⟩ ?_; clear H i10
          rintro _ _ w55 ⟨h41, rfl, rfl⟩ hx H
          replace hX := hX.trans0 hx; clear hx
          refine hold hX ?_
          have e := o5; clear o5
          have i11 := e; clear e
          refine callFx (spec_dnRow_c p_ n_ [a21, a22] h35 [1, a23] h40 a27 i11) H ⟨Vw.own 2 rfl, Vw.own 1 rfl, trivial⟩ ?_; clear H i11
          rintro _ _ w56 ⟨h42, rfl, rfl⟩ hx H
          replace hX := hX.trans0 hx; clear hx
          refine hold hX ?_
          replace H := H.sel [1, 0, 2, 3, 4, 5, 6, 7, 8, 9, 10] rfl
          refine litN (α := List Int) (us := [(h41).v, (h42).v]) (xs := [a26, a27]) (gs := [h41, h42]) gok rfl rfl rfl ⟨rfl, rfl, trivial⟩ rfl rfl H ?_; clear H; intro h43 w57 hx H
          replace hX := hX.trans0 hx; clear hx
          refine hold hX ?_
          exact ⟨([a26, a27], h43), ⟨rfl, trivial⟩, Option.some.inj f50, H.sel [0] rfl⟩
         ·
          exact trivial
       ·
        refine both ?_ ?_
        ·
         obtain ⟨a28, o6, f51⟩ := bindS f45; clear f45
         obtain ⟨a29, o7, f52⟩ := bindS f51; clear f51
         replace H := H.sc (α := Int) a23
         replace H := H.sc (α := Int) 1
         refine litN (α := Int) (us := [(.int .i64 1), (.int .i64 a23)]) (xs := [1, a23]) (gs := [(), ()]) gok rfl rfl rfl ⟨rfl, rfl, trivial⟩ rfl rfl H ?_; clear H; intro h44 w58 hx H
         replace hX := hX.trans0 hx; clear hx
         refine hold hX ?_
         refine both ?_ ?_
         ·
          have e := o6; clear o6
          have i12 := e; clear e
          refine callFx (spec_dnRow_c p_ n_ [a18, a19] h24 [1, a20] h25 a28 i12) H ⟨Vw.own 2 rfl, Vw.own 1 rfl, trivial⟩ ?_; clear H i12
          rintro _ _ w59 ⟨h45, rfl, rfl⟩ hx H
          replace hX := hX.trans0 hx; clear hx
          refine hold hX ?_
          replace H := H.sc (α := Int) a22
          replace H := H.sc (α := Int) a21
          refine litN (α := Int) (us := [(.int .i64 a21), (.int .i64 a22)]) (xs := [a21, a22]) (gs := [(), ()]) gok rfl rfl rfl ⟨rfl, rfl, trivial⟩ rfl rfl H ?_; clear H; intro h46 w60 hx H
          replace hX := hX.trans0 hx; clear hx
          refine hold hX ?_
          have e := o7; clear o7
          have i13 := e; clear e
          refine callFx (spec_dnRow_c p_ n_ [a21, a22] h46 [1, a23] h44 a29 i13) H ⟨Vw.own 0 rfl, Vw.own 2 rfl, trivial⟩ ?_; clear H i13
          rintro _ _ w61 ⟨h47, rfl, rfl⟩ hx H
          replace hX := hX.trans0 hx; clear hx
          refine hold hX ?_
          replace H := H.sel [2, 0, 1, 3, 4, 5, 6, 7, 8, 9, 10] rfl
          refine litN (α := List Int) (us := [(h45).v, (h47).v]) (xs := [a28, a29]) (gs := [h45, h47]) gok rfl rfl rfl ⟨rfl, rfl, trivial⟩ rfl rfl H ?_; clear H; intro h48 w62 hx H
          replace hX := hX.trans0 hx; clear hx
          refine hold hX ?_
          exact ⟨([a28, a29], h48), ⟨rfl, trivial⟩, Option.some.inj f52, H.sel [0] rfl⟩
         ·
          refine both ?_ ?_
          ·
           replace H := H.sc (α := Int) a22
           replace H := H.sc (α := Int) a21
           refine litN (α := Int) (us := [(.int .i64 a21), (.int .i64 a22)]) (xs := [a21, a22]) (gs := [(), ()]) gok rfl rfl rfl ⟨rfl, rfl, trivial⟩ rfl rfl H ?_; clear H; intro h49 w63 hx H
           replace hX := hX.trans0 hx; clear hx
           refine hold hX ?_
           have e := o6; clear o6
           have i12 := e; clear e
           refine callFx (spec_dnRow_c p_ n_ [a18, a19] h24 [1, a20] h25 a28 i12) H ⟨Vw.own 3 rfl, Vw.own 2 rfl, trivial⟩ ?_; clear H i12
           rintro _ _ w64 ⟨h50, rfl, rfl⟩ hx H
           replace hX := hX.trans0 hx; clear hx
           refine hold hX ?_
           have e := o7; clear o7
           have i13 := e; clear e
           refine callFx (spec_dnRow_c p_ n_ [a21, a22] h49 [1, a23] h44 a29 i13) H ⟨Vw.own 1 rfl, Vw.own 2 rfl, trivial⟩ ?_; clear H i13
           rintro _ _ w65 ⟨h51, rfl, rfl⟩ hx H
           replace hX := hX.trans0 hx; clear hx
           refine hold hX ?_
           replace H := H.sel [1, 0, 2, 3, 4, 5, 6, 7, 8, 9, 10] rfl
           refine litN (α := List Int) (us := [(h50).v, (h51).v]) (xs := [a28, a29]) (gs := [h50, h51]) gok rfl rfl rfl ⟨rfl, rfl, trivial⟩ rfl rfl H ?_; clear H; intro h52 w66 hx H
           replace hX := hX.trans0 hx; clear hx
           refine hold hX ?_
           exact ⟨([a28, a29], h52), ⟨rfl, trivial⟩, Option.some.inj f52, H.sel [0] rfl⟩
          ·
           exact trivial
        ·
         exact trivial
     ·
      refine both ?_ ?_
      ·
       obtain ⟨a30, o8, f53⟩ := bindS f45; clear f45
       obtain ⟨a31, o9, f54⟩ := bindS f53; clear f53
       replace H := H.sc (α := Int) a22
       replace H := H.sc (α := Int) a21
       refine litN (α := Int) (us := [(.int .i64 a21), (.int .i64 a22)]) (xs := [a21, a22]) (gs := [(), ()]) gok rfl rfl rfl ⟨rfl, rfl, trivial⟩ rfl rfl H ?_; clear H; intro h53 w67 hx H
       replace hX := hX.trans0 hx; clear hx
       refine hold hX ?_
       refine both ?_ ?_
       ·
        replace H := H.sc (α := Int) a20
        replace H := H.sc (α := Int) 1
        refine litN (α := Int) (us := [(.int .i64 1), (.int .i64 a20)]) (xs := [1, a20]) (gs := [(), ()]) gok rfl rfl rfl ⟨rfl, rfl, trivial⟩ rfl rfl H ?_; clear H; intro h54 w68 hx H
        replace hX := hX.trans0 hx; clear hx
        refine hold hX ?_
        refine both ?_ ?_
        ·
         have e := o8; clear o8
         have i14 := e; clear e
         refine callFx (spec_dnRow_c p_ n_ [a18, a19] h24 [1, a20] h54 a30 i14) H ⟨Vw.own 2 rfl, Vw.own 0 rfl, trivial⟩ ?_; clear H i14
         rintro _ _ w69 ⟨h55, rfl, rfl⟩ hx H
         replace hX := hX.trans0 hx; clear hx
         refine hold hX ?_
         replace H := H.sc (α := Int) a23
         replace H := H.sc (α := Int) 1
         refine litN (α := Int) (us := [(.int .i64 1), (.int .i64 a23)]) (xs := [1, a23]) (gs := [(), ()]) gok rfl rfl rfl ⟨rfl, rfl, trivial⟩ rfl rfl H ?_; clear H; intro h56 w70 hx H
         replace hX := hX.trans0 hx; clear hx
         refine hold hX ?_
         have e := o9; clear o9
         have i15 := e; clear e
         refine callFx (spec_dnRow_c p_ n_ [a21, a22] h53 [1, a23] h56 a31 i15) H ⟨Vw.own 3 rfl, Vw.own 0 rfl, trivial⟩ ?_; clear H i15
         rintro _ _ w71 ⟨h57, rfl, rfl⟩ hx H
         replace hX := hX.trans0 hx; clear hx
         refine hold hX ?_
         replace H := H.sel [2, 0, 1, 3, 4, 5, 6, 7, 8, 9, 10] rfl
         refine litN (α := List Int) (us := [(h55).v, (h57).v]) (xs := [a30, a31]) (gs := [h55, h57]) gok rfl rfl rfl ⟨rfl, rfl, trivial⟩ rfl rfl H ?_; clear H; intro h58 w72 hx H
         replace hX := hX.trans0 hx; clear hx
         refine hold hX ?_
         exact ⟨([a30, a31], h58), ⟨rfl, trivial⟩, Option.some.inj f54, H.sel [0] rfl⟩
        ·
         refine both ?_ ?_
         ·
          replace H := H.sc (α := Int) a23
          replace H := H.sc (α := Int) 1
          refine litN (α := Int) (us := [(.int .i64 1), (.int .i64 a23)]) (xs := [1, a23]) (gs := [(), ()]) gok rfl rfl rfl ⟨rfl, rfl, trivial⟩ rfl rfl H ?_; clear H; intro h59 w73 hx H
          replace hX := hX.trans0 hx; clear hx
          refine hold hX ?_
          have e := o8; clear o8
          have i14 := e; clear e
          refine callFx (spec_dnRow_c p_ n_ [a18, a19] h24 [1, a20] h54 a30 i14) H ⟨Vw.own 3 rfl, Vw.own 1 rfl, trivial⟩ ?_; clear H i14
          rintro _ _ w74 ⟨h60, rfl, rfl⟩ hx H
          replace hX := hX.trans0 hx; clear hx
          refine hold hX ?_
          have e := o9; clear o9
          have i15 := e; clear e
          refine callFx (spec_dnRow_c p_ n_ [a21, a22] h53 [1, a23] h59 a31 i15) H ⟨Vw.own 3 rfl, Vw.own 1 rfl, trivial⟩ ?_; clear H i15
          rintro _ _ w75 ⟨h61, rfl, rfl⟩ hx H
          replace hX := hX.trans0 hx; clear hx
          refine hold hX ?_
          replace H := H.sel [1, 0, 2, 3, 4, 5, 6, 7, 8, 9, 10] rfl
          refine litN (α := List Int) (us := [(h60).v, (h61).v]) (xs := [a30, a31]) (gs := [h60, h61]) gok rfl rfl rfl ⟨rfl, rfl, trivial⟩ rfl rfl H ?_; clear H; intro h62 w76 hx H
          replace hX := hX.trans0 hx; clear hx
          refine hold hX ?_
          exact ⟨([a30, a31], h62), ⟨rfl, trivial⟩, Option.some.inj f54, H.sel [0] rfl⟩
         ·
          exact trivial
       ·
        refine both ?_ ?_
        ·
         replace H := H.sc (α := Int) a23
         replace H := H.sc (α := Int) 1
         refine litN (α := Int) (us := [(.int .i64 1), (.int .i64 a23)]) (xs := [1, a23]) (gs := [(), ()]) gok rfl rfl rfl ⟨rfl, rfl, trivial⟩ rfl rfl H ?_; clear H; intro h63 w77 hx H
         replace hX := hX.trans0 hx; clear hx
         refine hold hX ?_
         replace H := H.sc (α := Int) a20
         replace H := H.sc (α := Int) 1
         refine litN (α := Int) (us := [(.int .i64 1), (.int .i64 a20)]) (xs := [1, a20]) (gs := [(), ()]) gok rfl rfl rfl ⟨rfl, rfl, trivial⟩ rfl rfl H ?_; clear H; intro h64 w78 hx H
         replace hX := hX.trans0 hx; clear hx
         refine hold hX ?_
         have e := o8; clear o8
         have i14 := e; clear e
         refine callFx (spec_dnRow_c p_ n_ [a18, a19] h24 [1, a20] h64 a30 i14) H ⟨Vw.own 3 rfl, Vw.own 0 rfl, trivial⟩ ?_; clear H i14
         rintro _ _ w79 ⟨h65, rfl, rfl⟩ hx H
         replace hX := hX.trans0 hx; clear hx
         refine hold hX ?_
         have e := o9; clear o9
         have i15 := e; clear e
         refine callFx (spec_dnRow_c p_ n_ [a21, a22] h53 [1, a23] h63 a31 i15) H ⟨Vw.own 3 rfl, Vw.own 2 rfl, trivial⟩ ?_; clear H i15
         rintro _ _ w80 ⟨h66, rfl, rfl⟩ hx H
         replace hX := hX.trans0 hx; clear hx
         refine hold hX ?_
         replace H := H.sel [1, 0, 2, 3, 4, 5, 6, 7, 8, 9, 10] rfl
         refine litN (α := List Int) (us := [(h65).v, (h66).v]) (xs := [a30, a31]) (gs := [h65, h66]) gok rfl rfl rfl ⟨rfl, rfl, trivial⟩ rfl rfl H ?_; clear H; intro h67 w81 hx H
         replace hX := hX.trans0 hx; clear hx
         refine hold hX ?_
         exact ⟨([a30, a31], h67), ⟨rfl, trivial⟩, Option.some.inj f54, H.sel [0] rfl⟩
        ·
         exact trivial
      ·
       refine both ?_ ?_
       ·
        obtain ⟨a32, o10, f55⟩ := bindS f45; clear f45
        obtain ⟨a34, o11, f56⟩ := bindS f55; clear f55
        replace H := H.sc (α := Int) a23
        replace H := H.sc (α := Int) 1
        refine litN (α := Int) (us := [(.int .i64 1), (.int .i64 a23)]) (xs := [1, a23]) (gs := [(), ()]) gok rfl rfl rfl ⟨rfl, rfl, trivial⟩ rfl rfl H ?_; clear H; intro h68 w82 hx H
        replace hX := hX.trans0 hx; clear hx
        refine hold hX ?_
        refine both ?_ ?_
        ·
         replace H := H.sc (α := Int) a20
         replace H := H.sc (α := Int) 1
         refine litN (α := Int) (us := [(.int .i64 1), (.int .i64 a20)]) (xs := [1, a20]) (gs := [(), ()]) gok rfl rfl rfl ⟨rfl, rfl, trivial⟩ rfl rfl H ?_; clear H; intro h69 w83 hx H
         replace hX := hX.trans0 hx; clear hx
         refine hold hX ?_
         refine both ?_ ?_
         ·
          have e := o10; clear o10
          have i16 := e; clear e
          refine callFx (spec_dnRow_c p_ n_ [a18, a19] h24 [1, a20] h69 a32 i16) H ⟨Vw.own 2 rfl, Vw.own 0 rfl, trivial⟩ ?_; clear H i16
          rintro _ _ w84 ⟨h70, rfl, rfl⟩ hx H
          replace hX := hX.trans0 hx; clear hx
          refine hold hX ?_
          replace H := H.sc (α := Int) a22
          replace H := H.sc (α := Int) a21
          refine litN (α := Int) (us := [(.int .i64 a21), (.int .i64 a22)]) (xs := [a21, a22]) (gs := [(), ()]) gok rfl rfl rfl ⟨rfl, rfl, trivial⟩ rfl rfl H ?_; clear H; intro h71 w85 hx H
          replace hX := hX.trans0 hx; clear hx
          refine hold hX ?_
          have e := o11; clear o11
          have i17 := e; clear e
          refine callFx (spec_dnRow_c p_ n_ [a21, a22] h71 [1, a23] h68 a34 i17) H ⟨Vw.own 0 rfl, Vw.own 3 rfl, trivial⟩ ?_; clear H i17
          rintro _ _ w86 ⟨h72, rfl, rfl⟩ hx H
          replace hX := hX.trans0 hx; clear hx
          refine hold hX ?_
          replace H := H.sel [2, 0, 1, 3, 4, 5, 6, 7, 8, 9, 10] rfl
          refine litN (α := List Int) (us := [(h70).v, (h72).v]) (xs := [a32, a34]) (gs := [h70, h72]) gok rfl rfl rfl ⟨rfl, rfl, trivial⟩ rfl rfl H ?_; clear H; intro h73 w87 hx H
          replace hX := hX.trans0 hx; clear hx
          refine hold hX ?_
          exact ⟨([a32, a34], h73), ⟨rfl, trivial⟩, Option.some.inj f56, H.sel [0] rfl⟩
         ·
          refine both ?_ ?_
          ·
           replace H := H.sc (α := Int) a22
           replace H := H.sc (α := Int) a21
           refine litN (α := Int) (us := [(.int .i64 a21), (.int .i64 a22)]) (xs := [a21, a22]) (gs := [(), ()]) gok rfl rfl rfl ⟨rfl, rfl, trivial⟩ rfl rfl H ?_; clear H; intro h74 w88 hx H
           replace hX := hX.trans0 hx; clear hx
           refine hold hX ?_
           have e := o10; clear o10
           have i16 := e; clear e
           refine callFx (spec_dnRow_c p_ n_ [a18, a19] h24 [1, a20] h69 a32 i16) H ⟨Vw.own 3 rfl, Vw.own 1 rfl, trivial⟩ ?_; clear H i16
           rintro _ _ w89 ⟨h75, rfl, rfl⟩ hx H
           replace hX := hX.trans0 hx; clear hx
           refine hold hX ?_
           have e := o11; clear o11
           have i17 := e; clear e
           refine callFx (spec_dnRow_c p_ n_ [a21, a22] h74 [1, a23] h68 a34 i17) H ⟨Vw.own 1 rfl, Vw.own 3 rfl, trivial⟩ ?_; clear H i17
           rintro _ _ w90 ⟨h76, rfl, rfl⟩ hx H
           replace hX := hX.trans0 hx; clear hx
           refine hold hX ?_
           replace H := H.sel [1, 0, 2, 3, 4, 5, 6, 7, 8, 9, 10] rfl
           refine litN (α := List Int) (us := [(h75).v, (h76).v]) (xs := [a32, a34]) (gs := [h75, h76]) gok rfl rfl rfl ⟨rfl, rfl, trivial⟩ rfl rfl H ?_; clear H; intro h77 w91 hx H
           replace hX := hX.trans0 hx; clear hx
           refine hold hX ?_
           exact ⟨([a32, a34], h77), ⟨rfl, trivial⟩, Option.some.inj f56, H.sel [0] rfl⟩
          ·
           exact trivial
        ·
         refine both ?_ ?_
         ·
          replace H := H.sc (α := Int) a22
          replace H := H.sc (α := Int) a21
          refine litN (α := Int) (us := [(.int .i64 a21), (.int .i64 a22)]) (xs := [a21, a22]) (gs := [(), ()]) gok rfl rfl rfl ⟨rfl, rfl, trivial⟩ rfl rfl H ?_; clear H; intro h78 w92 hx H
          replace hX := hX.trans0 hx; clear hx
          refine hold hX ?_
          replace H := H.sc (α := Int) a20
          replace H := H.sc (α := Int) 1
          refine litN (α := Int) (us := [(.int .i64 1), (.int .i64 a20)]) (xs := [1, a20]) (gs := [(), ()]) gok rfl rfl rfl ⟨rfl, rfl, trivial⟩ rfl rfl H ?_; clear H; intro h79 w93 hx H
          replace hX := hX.trans0 hx; clear hx
          refine hold hX ?_
          have e := o10; clear o10
          have i16 := e; clear e
          refine callFx (spec_dnRow_c p_ n_ [a18, a19] h24 [1, a20] h79 a32 i16) H ⟨Vw.own 3 rfl, Vw.own 0 rfl, trivial⟩ ?_; clear H i16
          rintro _ _ w94 ⟨h80, rfl, rfl⟩ hx H
          replace hX := hX.trans0 hx; clear hx
          refine hold hX ?_
          have e := o11; clear o11
          have i17 := e; clear e
          refine callFx (spec_dnRow_c p_ n_ [a21, a22] h78 [1, a23] h68 a34 i17) H ⟨Vw.own 2 rfl, Vw.own 3 rfl, trivial⟩ ?_; clear H i17
          rintro _ _ w95 ⟨h81, rfl, rfl⟩ hx H
          replace hX := hX.trans0 hx; clear hx
          refine hold hX ?_
          replace H := H.sel [1, 0, 2, 3, 4, 5, 6, 7, 8, 9, 10] rfl
          refine litN (α := List Int) (us := [(h80).v, (h81).v]) (xs := [a32, a34]) (gs := [h80, h81]) gok rfl rfl rfl ⟨rfl, rfl, trivial⟩ rfl rfl H ?_; clear H; intro h82 w96 hx H
          replace hX := hX.trans0 hx; clear hx
          refine hold hX ?_
          exact ⟨([a32, a34], h82), ⟨rfl, trivial⟩, Option.some.inj f56, H.sel [0] rfl⟩
         ·
          exact trivial
       ·
        exact trivial
    ·
     refine both ?_ ?_
     ·
      obtain ⟨a36, o12, f57⟩ := bindS f45; clear f45
      obtain ⟨a37, o13, f58⟩ := bindS f57; clear f57
      replace H := H.sc (α := Int) a20
      replace H := H.sc (α := Int) 1
      refine litN (α := Int) (us := [(.int .i64 1), (.int .i64 a20)]) (xs := [1, a20]) (gs := [(), ()]) gok rfl rfl rfl ⟨rfl, rfl, trivial⟩ rfl rfl H ?_; clear H; intro h83 w97 hx H
      replace hX := hX.trans0 hx; clear hx
      refine hold hX ?_
      refine both ?_ ?_
      ·
       replace H := H.sc (α := Int) a19
       replace H := H.sc (α := Int) a18
       refine litN (α := Int) (us := [(.int .i64 a18), (.int .i64 a19)]) (xs := [a18, a19]) (gs := [(), ()]) gok rfl rfl rfl ⟨rfl, rfl, trivial⟩ rfl rfl H ?_; clear H; intro h84 w98 hx H
       replace hX := hX.trans0 hx; clear hx
       refine hold hX ?_
       refine both ?_ ?_
       ·
        have e := o12; clear o12
        have i18 := e; clear e
        refine callFx (spec_dnRow_c p_ n_ [a18, a19] h84 [1, a20] h83 a36 i18) H ⟨Vw.own 0 rfl, Vw.own 1 rfl, trivial⟩ ?_; clear H i18
        rintro _ _ w99 ⟨h85, rfl, rfl⟩ hx H
        replace hX := hX.trans0 hx; clear hx
        refine hold hX ?_
        refine both ?_ ?_
        ·
         replace H := H.sc (α := Int) a22
         replace H := H.sc (α := Int) a21
         refine litN (α := Int) (us := [(.int .i64 a21), (.int .i64 a22)]) (xs := [a21, a22]) (gs := [(), ()]) gok rfl rfl rfl ⟨rfl, rfl, trivial⟩ rfl rfl H ?_; clear H; intro h86 w100 hx H
         replace hX := hX.trans0 hx; clear hx
         refine hold hX ?_
         replace H := H.sc (α := Int) a23
         replace H := H.sc (α := Int) 1
         refine litN (α := Int) (us := [(.int .i64 1), (.int .i64 a23)]) (xs := [1, a23]) (gs := [(), ()]) gok rfl rfl rfl ⟨rfl, rfl, trivial⟩ rfl rfl H ?_; clear H; intro h87 w101 hx H
         replace hX := hX.trans0 hx; clear hx
         refine hold hX ?_
         have e := o13; clear o13
         have i19 := e; clear e
         refine callFx (spec_dnRow_c p_ n_ [a21, a22] h86 [1, a23] h87 a37 i19) H ⟨Vw.own 1 rfl, Vw.own 0 rfl, trivial⟩ ?_; clear H i19
         rintro _ _ w102 ⟨h88, rfl, rfl⟩ hx H
         replace hX := hX.trans0 hx; clear hx
         refine hold hX ?_
         replace H := H.sel [3, 0, 1, 2, 4, 5, 6, 7, 8, 9, 10] rfl
         refine litN (α := List Int) (us := [(h85).v, (h88).v]) (xs := [a36, a37]) (gs := [h85, h88]) gok rfl rfl rfl ⟨rfl, rfl, trivial⟩ rfl rfl H ?_; clear H; intro h89 w103 hx H
         replace hX := hX.trans0 hx; clear hx
         refine hold hX ?_
         exact ⟨([a36, a37], h89), ⟨rfl, trivial⟩, Option.some.inj f58, H.sel [0] rfl⟩
        ·
         refine both ?_ ?_
         ·
          replace H := H.sc (α := Int) a23
          replace H := H.sc (α := Int) 1
          refine litN (α := Int) (us := [(.int .i64 1), (.int .i64 a23)]) (xs := [1, a23]) (gs := [(), ()]) gok rfl rfl rfl ⟨rfl, rfl, trivial⟩ rfl rfl H ?_; clear H; intro h90 w104 hx H
          replace hX := hX.trans0 hx; clear hx
          refine hold hX ?_
          replace H := H.sc (α := Int) a22
          replace H := H.sc (α := Int) a21
          refine litN (α := Int) (us := [(.int .i64 a21), (.int .i64 a22)]) (xs := [a21, a22]) (gs := [(), ()]) gok rfl rfl rfl ⟨rfl, rfl, trivial⟩ rfl rfl H ?_; clear H; intro h91 w105 hx H
          replace hX := hX.trans0 hx; clear hx
          refine hold hX ?_
          have e := o13; clear o13
          have i19 := e; clear e
          refine callFx (spec_dnRow_c p_ n_ [a21, a22] h91 [1, a23] h90 a37 i19) H ⟨Vw.own 0 rfl, Vw.own 1 rfl, trivial⟩ ?_; clear H i19
          rintro _ _ w106 ⟨h92, rfl, rfl⟩ hx H
          replace hX := hX.trans0 hx; clear hx
          refine hold hX ?_
          replace H := H.sel [3, 0, 1, 2, 4, 5, 6, 7, 8, 9, 10] rfl
          refine litN (α := List Int) (us := [(h85).v, (h92).v]) (xs := [a36, a37]) (gs := [h85, h92]) gok rfl rfl rfl ⟨rfl, rfl, trivial⟩ rfl rfl H ?_; clear H; intro h93 w107 hx H
          replace hX := hX.trans0 hx; clear hx
          refine hold hX ?_
          exact ⟨([a36, a37], h93), ⟨rfl, trivial⟩, Option.some.inj f58, H.sel [0] rfl⟩
         ·
          exact trivial
       ·
        refine both ?_ ?_
        ·
         replace H := H.sc (α := Int) a22
         replace H := H.sc (α := Int) a21
         refine litN (α := Int) (us := [(.int .i64 a21), (.int .i64 a22)]) (xs := [a21, a22]) (gs := [(), ()]) gok rfl rfl rfl ⟨rfl, rfl, trivial⟩ rfl rfl H ?_; clear H; intro h94 w108 hx H
         replace hX := hX.trans0 hx; clear hx
         refine hold hX ?_
         refine both ?_ ?_
         ·
          have e := o12; clear o12
          have i18 := e; clear e
          refine callFx (spec_dnRow_c p_ n_ [a18, a19] h84 [1, a20] h83 a36 i18) H ⟨Vw.own 1 rfl, Vw.own 2 rfl, trivial⟩ ?_; clear H i18
          rintro _ _ w109 ⟨h95, rfl, rfl⟩ hx H
          replace hX := hX.trans0 hx; clear hx
          refine hold hX ?_
          replace H := H.sc (α := Int) a23
          replace H := H.sc (α := Int) 1
          refine litN (α := Int) (us := [(.int .i64 1), (.int .i64 a23)]) (xs := [1, a23]) (gs := [(), ()]) gok rfl rfl rfl ⟨rfl, rfl, trivial⟩ rfl rfl H ?_; clear H; intro h96 w110 hx H
          replace hX := hX.trans0 hx; clear hx
          refine hold hX ?_
          have e := o13; clear o13
          have i19 := e; clear e
          refine callFx (spec_dnRow_c p_ n_ [a21, a22] h94 [1, a23] h96 a37 i19) H ⟨Vw.own 2 rfl, Vw.own 0 rfl, trivial⟩ ?_; clear H i19
          rintro _ _ w111 ⟨h97, rfl, rfl⟩ hx H
          replace hX := hX.trans0 hx; clear hx
          refine hold hX ?_
          replace H := H.sel [2, 0, 1, 3, 4, 5, 6, 7, 8, 9, 10] rfl
          refine litN (α := List Int) (us := [(h95).v, (h97).v]) (xs := [a36, a37]) (gs := [h95, h97]) gok rfl rfl rfl ⟨rfl, rfl, trivial⟩ rfl rfl H ?_; clear H; intro h98 w112 hx H
          replace hX := hX.trans0 hx; clear hx
          refine hold hX ?_
          exact ⟨([a36, a37], h98), ⟨rfl, trivial⟩, Option.some.inj f58, H.sel [0] rfl⟩
         ·
          refine both ?_ ?_
          ·
           replace H := H.sc (α := Int) a23
           replace H := H.sc (α := Int) 1
           refine litN (α := Int) (us := [(.int .i64 1), (.int .i64 a23)]) (xs := [1, a23]) (gs := [(), ()]) gok rfl rfl rfl ⟨rfl, rfl, trivial⟩ rfl rfl H ?_; clear H; intro h99 w113 hx H
           replace hX := hX.trans0 hx; clear hx
           refine hold hX ?_
           have e := o12; clear o12
           have i18 := e; clear e
           refine callFx (spec_dnRow_c p_ n_ [a18, a19] h84 [1, a20] h83 a36 i18) H ⟨Vw.own 2 rfl, Vw.own 3 rfl, trivial⟩ ?_; clear H i18
           rintro _ _ w114 ⟨h100, rfl, rfl⟩ hx H
           replace hX := hX.trans0 hx; clear hx
           refine hold hX ?_
           have e := o13; clear o13
           have i19 := e; clear e
           refine callFx (spec_dnRow_c p_ n_ [a21, a22] h94 [1, a23] h99 a37 i19) H ⟨Vw.own 2 rfl, Vw.own 1 rfl, trivial⟩ ?_; clear H i19
           rintro _ _ w115 ⟨h101, rfl, rfl⟩ hx H
           replace hX := hX.trans0 hx; clear hx
           refine hold hX ?_
           replace H := H.sel [1, 0, 2, 3, 4, 5, 6, 7, 8, 9, 10] rfl
           refine litN (α := List Int) (us := [(h100).v, (h101).v]) (xs := [a36, a37]) (gs := [h100, h101]) gok rfl rfl rfl ⟨rfl, rfl, trivial⟩ rfl rfl H ?_; clear H; intro h102 w116 hx H
           replace hX := hX.trans0 hx; clear hx
           refine hold hX ?_
           exact ⟨([a36, a37], h102), ⟨rfl, trivial⟩, Option.some.inj f58, H.sel [0] rfl⟩
          ·
           exact trivial
        ·
         refine both ?_ ?_
         ·
          replace H := H.sc (α := Int) a23
          replace H := H.sc (α := Int) 1
          refine litN (α := Int) (us := [(.int .i64 1), (.int .i64 a23)]) (xs := [1, a23]) (gs := [(), ()]) gok rfl rfl rfl ⟨rfl, rfl, trivial⟩ rfl rfl H ?_; clear H; intro h103 w117 hx H
          replace hX := hX.trans0 hx; clear hx
          refine hold hX ?_
          refine both ?_ ?_
          ·
           have e := o12; clear o12
           have i18 := e; clear e
           refine callFx (spec_dnRow_c p_ n_ [a18, a19] h84 [1, a20] h83 a36 i18) H ⟨Vw.own 1 rfl, Vw.own 2 rfl, trivial⟩ ?_; clear H i18
           rintro _ _ w118 ⟨h104, rfl, rfl⟩ hx H
           replace hX := hX.trans0 hx; clear hx
           refine hold hX ?_
           replace H := H.sc (α := Int) a22
           replace H := H.sc (α := Int) a21
           refine litN (α := Int) (us := [(.int .i64 a21), (.int .i64 a22)]) (xs := [a21, a22]) (gs := [(), ()]) gok rfl rfl rfl ⟨rfl, rfl, trivial⟩ rfl rfl H ?_; clear H; intro h105 w119 hx H
           replace hX := hX.trans0 hx; clear hx
           refine hold hX ?_
           have e := o13; clear o13
           have i19 := e; clear e
           refine callFx (spec_dnRow_c p_ n_ [a21, a22] h105 [1, a23] h103 a37 i19) H ⟨Vw.own 0 rfl, Vw.own 2 rfl, trivial⟩ ?_; clear H i19
           rintro _ _ w120 ⟨h106, rfl, rfl⟩ hx H
           replace hX := hX.trans0 hx; clear hx
           refine hold hX ?_
           replace H := H.sel [2, 0, 1, 3, 4, 5, 6, 7, 8, 9, 10] rfl
           refine litN (α := List Int) (us := [(h104).v, (h106).v]) (xs := [a36, a37]) (gs := [h104, h106]) gok rfl rfl rfl ⟨rfl, rfl, trivial⟩ rfl rfl H ?_; clear H; intro h107 w121 hx H
           replace hX := hX.trans0 hx; clear hx
           refine hold hX ?_
           exact ⟨([a36, a37], h107), ⟨rfl, trivial⟩, Option.some.inj f58, H.sel [0] rfl⟩
          ·
           refine both ?_ ?_
           ·
            replace H := H.sc (α := Int) a22
            replace H := H.sc (α := Int) a21
            refine litN (α := Int) (us := [(.int .i64 a21), (.int .i64 a22)]) (xs := [a21, a22]) (gs := [(), ()]) gok rfl rfl rfl ⟨rfl, rfl, trivial⟩ rfl rfl H ?_; clear H; intro h108 w122 hx H
            replace hX := hX.trans0 hx; clear hx
            refine hold hX ?_
            have e := o12; clear o12
            have i18 := e; clear e
            refine callFx (spec_dnRow_c p_ n_ [a18, a19] h84 [1, a20] h83 a36 i18) H ⟨Vw.own 2 rfl, Vw.own 3 rfl, trivial⟩ ?_; clear H i18
            rintro _ _ w123 ⟨h109, rfl, rfl⟩ hx H
            replace hX := hX.trans0 hx; clear hx
            refine hold hX ?_
            have e := o13; clear o13
            have i19 := e; clear e
            refine callFx (spec_dnRow_c p_ n_ [a21, a22] h108 [1, a23] h103 a37 i19) H ⟨Vw.own 1 rfl, Vw.own 2 rfl, trivial⟩ ?_; clear H i19
            rintro _ _ w124 ⟨h110, rfl, rfl⟩ hx H
            replace hX := hX.trans0 hx; clear hx
            refine hold hX ?_
            replace H := H.sel [1, 0, 2, 3, 4, 5, 6, 7, 8, 9, 10] rfl
            refine litN (α := List Int) (us := [(h109).v, (h110).v]) (xs := [a36, a37]) (gs := [h109, h110]) gok rfl rfl rfl ⟨rfl, rfl, trivial⟩ rfl rfl H ?_; clear H; intro h111 w125 hx H
            replace hX := hX.trans0 hx; clear hx
            refine hold hX ?_
            exact ⟨([a36, a37], h111), ⟨rfl, trivial⟩, Option.some.inj f58, H.sel [0] rfl⟩
           ·
            exact trivial
         ·
          exact trivial
      ·
       refine both ?_ ?_
       ·
        replace H := H.sc (α := Int) a22
        replace H := H.sc (α := Int) a21
        refine litN (α := Int) (us := [(.int .i64 a21), (.int .i64 a22)]) (xs := [a21, a22]) (gs := [(), ()]) gok rfl rfl rfl ⟨rfl, rfl, trivial⟩ rfl rfl H ?_; clear H; intro h112 w126 hx H
        replace hX := hX.trans0 hx; clear hx
        refine hold hX ?_
        refine both ?_ ?_
        ·
         replace H := H.sc (α := Int) a19
         replace H := H.sc (α := Int) a18
         refine litN (α := Int) (us := [(.int .i64 a18), (.int .i64 a19)]) (xs := [a18, a19]) (gs := [(), ()]) gok rfl rfl rfl ⟨rfl, rfl, trivial⟩ rfl rfl H ?_; clear H; intro h113 w127 hx H
         replace hX := hX.trans0 hx; clear hx
         refine hold hX ?_
         refine both ?_ ?_
         ·
          have e := o12; clear o12
          have i18 := e; clear e
          refine callFx (spec_dnRow_c p_ n_ [a18, a19] h113 [1, a20] h83 a36 i18) H ⟨Vw.own 0 rfl, Vw.own 2 rfl, trivial⟩ ?_; clear H i18
          rintro _ _ w128 ⟨h114, rfl, rfl⟩ hx H
          replace hX := hX.trans0 hx; clear hx
          refine hold hX ?_
          replace H := H.sc (α := Int) a23
          replace H := H.sc (α := Int) 1
          refine litN (α := Int) (us := [(.int .i64 1), (.int .i64 a23)]) (xs := [1, a23]) (gs := [(), ()]) gok rfl rfl rfl ⟨rfl, rfl, trivial⟩ rfl rfl H ?_; clear H; intro h115 w129 hx H
          replace hX := hX.trans0 hx; clear hx
          refine hold hX ?_
          have e := o13; clear o13
          have i19 := e; clear e
          refine callFx (spec_dnRow_c p_ n_ [a21, a22] h112 [1, a23] h115 a37 i19) H ⟨Vw.own 3 rfl, Vw.own 0 rfl, trivial⟩ ?_; clear H i19
          rintro _ _ w130 ⟨h116, rfl, rfl⟩ hx H
          replace hX := hX.trans0 hx; clear hx
          refine hold hX ?_
          replace H := H.sel [2, 0, 1, 3, 4, 5, 6, 7, 8, 9, 10] rfl
          refine litN (α := List Int) (us := [(h114).v, (h116).v]) (xs := [a36, a37]) (gs := [h114, h116]) gok rfl rfl rfl ⟨rfl, rfl, trivial⟩ rfl rfl H ?_; clear H; intro h117 w131 hx H
          replace hX := hX.trans0 hx; clear hx
          refine hold hX ?_
          exact ⟨([a36, a37], h117), ⟨rfl, trivial⟩, Option.some.inj f58, H.sel [0] rfl⟩
         ·
          refine both ?_ ?_
          ·
           replace H := H.sc (α := Int) a23
           replace H := H.sc (α := Int) 1
           refine litN (α := Int) (us := [(.int .i64 1), (.int .i64 a23)]) (xs := [1, a23]) (gs := [(), ()]) gok rfl rfl rfl ⟨rfl, rfl, trivial⟩ rfl rfl H ?_; clear H; intro h118 w132 hx H
           replace hX := hX.trans0 hx; clear hx
           refine hold hX ?_
           have e := o12; clear o12
           have i18 := e; clear e
           refine callFx (spec_dnRow_c p_ n_ [a18, a19] h113 [1, a20] h83 a36 i18) H ⟨Vw.own 1 rfl, Vw.own 3 rfl, trivial⟩ ?_; clear H i18
           rintro _ _ w133 ⟨h119, rfl, rfl⟩ hx H
           replace hX := hX.trans0 hx; clear hx
           refine hold hX ?_
           have e := o13; clear o13
           have i19 := e; clear e
           refine callFx (spec_dnRow_c p_ n_ [a21, a22] h112 [1, a23] h118 a37 i19) H ⟨Vw.own 3 rfl, Vw.own 1 rfl, trivial⟩ ?_; clear H i19
           rintro _ _ w134 ⟨h120, rfl, rfl⟩ hx H
           replace hX := hX.trans0 hx; clear hx
           refine hold hX ?_
           replace H := H.sel [1, 0, 2, 3, 4, 5, 6, 7, 8, 9, 10] rfl
           refine litN (α := List Int) (us := [(h119).v, (h120).v]) (xs := [a36, a37]) (gs := [h119, h120]) gok rfl rfl rfl ⟨rfl, rfl, trivial⟩ rfl rfl H ?_; clear H; intro h121 w135 hx H
           replace hX := hX.trans0 hx; clear hx
           refine hold hX ?_
           exact ⟨([a36, a37], h121), ⟨rfl, trivial⟩, Option.some.inj f58, H.sel [0] rfl⟩
          ·
           exact trivial
        ·
         refine both ?_ ?_
         ·
          replace H := H.sc (α := Int) a23
          replace H := H.sc (α := Int) 1
          refine litN (α := Int) (us := [(.int .i64 1), (.int .i64 a23)]) (xs := [1, a23]) (gs := [(), ()]) gok rfl rfl rfl ⟨rfl, rfl, trivial⟩ rfl rfl H ?_; clear H; intro h122 w136 hx H
          replace hX := hX.trans0 hx; clear hx
          refine hold hX ?_
          replace H := H.sc (α := Int) a19
          replace H := H.sc (α := Int) a18
          refine litN (α := Int) (us := [(.int .i64 a18), (.int .i64 a19)]) (xs := [a18, a19]) (gs := [(), ()]) gok rfl rfl rfl ⟨rfl, rfl, trivial⟩ rfl rfl H ?_; clear H; intro h123 w137 hx H
          replace hX := hX.trans0 hx; clear hx
          refine hold hX ?_
          have e := o12; clear o12
          have i18 := e; clear e
          refine callFx (spec_dnRow_c p_ n_ [a18, a19] h123 [1, a20] h83 a36 i18) H ⟨Vw.own 0 rfl, Vw.own 3 rfl, trivial⟩ ?_; clear H i18
          rintro _ _ w138 ⟨h124, rfl, rfl⟩ hx H
          replace hX := hX.trans0 hx; clear hx
          refine hold hX ?_
          have e := o13; clear o13
          have i19 := e; clear e
          refine callFx (spec_dnRow_c p_ n_ [a21, a22] h112 [1, a23] h122 a37 i19) H ⟨Vw.own 3 rfl, Vw.own 2 rfl, trivial⟩ ?_; clear H i19
          rintro _ _ w139 ⟨h125, rfl, rfl⟩ hx H
          replace hX := hX.trans0 hx; clear hx
          refine hold hX ?_
          replace H := H.sel [1, 0, 2, 3, 4, 5, 6, 7, 8, 9, 10] rfl
          refine litN (α := List Int) (us := [(h124).v, (h125).v]) (xs := [a36, a37]) (gs := [h124, h125]) gok rfl rfl rfl ⟨rfl, rfl, trivial⟩ rfl rfl H ?_; clear H; intro h126 w140 hx H
          replace hX := hX.trans0 hx; clear hx
          refine hold hX ?_
          exact ⟨([a36, a37], h126), ⟨rfl, trivial⟩, Option.some.inj f58, H.sel [0] rfl⟩
         ·
          exact trivial
       ·
        refine both ?_ ?_
        ·
         replace H := H.sc (α := Int) a23
         replace H := H.sc (α := Int) 1
         refine litN (α := Int) (us := [(.int .i64 1), (.int .i64 a23)]) (xs := [1, a23]) (gs := [(), ()]) gok rfl rfl rfl ⟨rfl, rfl, trivial⟩ rfl rfl H ?_; clear H; intro h127 w141 hx H
         replace hX := hX.trans0 hx; clear hx
         refine hold hX ?_
         refine both ?_ ?_
         ·
          replace H := H.sc (α := Int) a19
          replace H := H.sc (α := Int) a18
          refine litN (α := Int) (us := [(.int .i64 a18), (.int .i64 a19)]) (xs := [a18, a19]) (gs := [(), ()]) gok rfl rfl rfl ⟨rfl, rfl, trivial⟩ rfl rfl H ?_; clear H; intro h128 w142 hx H
          replace hX := hX.trans0 hx; clear hx
          refine hold hX ?_
          refine both ?_ ?_
          ·
           have e := o12; clear o12
           have i18 := e; clear e
           refine callFx (spec_dnRow_c p_ n_ [a18, a19] h128 [1, a20] h83 a36 i18) H ⟨Vw.own 0 rfl, Vw.own 2 rfl, trivial⟩ ?_; clear H i18
           rintro _ _ w143 ⟨h129, rfl, rfl⟩ hx H
           replace hX := hX.trans0 hx; clear hx
           refine hold hX ?_
           replace H := H.sc (α := Int) a22
           replace H := H.sc (α := Int) a21
           refine litN (α := Int) (us := [(.int .i64 a21), (.int .i64 a22)]) (xs := [a21, a22]) (gs := [(), ()]) gok rfl rfl rfl ⟨rfl, rfl, trivial⟩ rfl rfl H ?_; clear H; intro h130 w144 hx H
           replace hX := hX.trans0 hx; clear hx
           refine hold hX ?_
           have e := o13; clear o13
           have i19 := e; clear e
           refine callFx (spec_dnRow_c p_ n_ [a21, a22] h130 [1, a23] h127 a37 i19) H ⟨Vw.own 0 rfl, Vw.own 3 rfl, trivial⟩ ?_; clear H i19
           rintro _ _ w145 ⟨h131, rfl, rfl⟩ hx H
           replace hX := hX.trans0 hx; clear hx
           refine hold hX ?_
           replace H := H.sel [2, 0, 1, 3, 4, 5, 6, 7, 8, 9, 10] rfl
           refine litN (α := List Int) (us := [(h129).v, (h131).v]) (xs := [a36, a37]) (gs := [h129, h131]) gok rfl rfl rfl ⟨rfl, rfl, trivial⟩ rfl rfl H ?_; clear H; intro h132 w147 hx H
           replace hX := hX.trans0 hx; clear hx
           refine hold hX ?_
           exact ⟨([a36, a37], h132), ⟨rfl, trivial⟩, Option.some.inj f58, H.sel [0] rfl⟩
          ·
           refine both ?_ ?_
           ·
            replace H := H.sc (α := Int) a22
            replace H := H.sc (α := Int) a21
            refine litN (α := Int) (us := [(.int .i64 a21), (.int .i64 a22)]) (xs := [a21, a22]) (gs := [(), ()]) gok rfl rfl rfl ⟨rfl, rfl, trivial⟩ rfl rfl H ?_; clear H; intro h133 w148 hx H
            replace hX := hX.trans0 hx; clear hx
            refine hold hX ?_
            have e := o12; clear o12
            have i18 := e; clear e
            refine callFx (spec_dnRow_c p_ n_ [a18, a19] h128 [1, a20] h83 a36 i18) H ⟨Vw.own 1 rfl, Vw.own 3 rfl, trivial⟩ ?_; clear H i18
            rintro _ _ w149 ⟨h134, rfl, rfl⟩ hx H
            replace hX := hX.trans0 hx; clear hx
            refine hold hX ?_
            have e := o13; clear o13
            have i19 := e; clear e
            refine callFx (spec_dnRow_c p_ n_ [a21, a22] h133 [1, a23] h127 a37 i19) H ⟨Vw.own 1 rfl, Vw.own 3 rfl, trivial⟩ ?_; clear H i19
            rintro _ _ w150 ⟨h135, rfl, rfl⟩ hx H
            replace hX := hX.trans0 hx; clear hx
            refine hold hX ?_
            replace H := H.sel [1, 0, 2, 3, 4, 5, 6, 7, 8, 9, 10] rfl
            refine litN (α := List Int) (us := [(h134).v, (h135).v]) (xs := [a36, a37]) (gs := [h134, h135]) gok rfl rfl rfl ⟨rfl, rfl, trivial⟩ rfl rfl H ?_; clear H; intro h136 w151 hx H
            replace hX := hX.trans0 hx; clear hx
            refine hold hX ?_
            exact ⟨([a36, a37], h136), ⟨rfl, trivial⟩, Option.some.inj f58, H.sel [0] rfl⟩
           ·
            exact trivial
         ·
          refine both ?_ ?_
          ·
           replace H := H.sc (α := Int) a22
           replace H := H.sc (α := Int) a21
           refine litN (α := Int) (us := [(.int .i64 a21), (.int .i64 a22)]) (xs := [a21, a22]) (gs := [(), ()]) gok rfl rfl rfl ⟨rfl, rfl, trivial⟩ rfl rfl H ?_; clear H; intro h137 w152 hx H
           replace hX := hX.trans0 hx; clear hx
           refine hold hX ?_
           replace H := H.sc (α := Int) a19
           replace H := H.sc (α := Int) a18
           refine litN (α := Int) (us := [(.int .i64 a18), (.int .i64 a19)]) (xs := [a18, a19]) (gs := [(), ()]) gok rfl rfl rfl ⟨rfl, rfl, trivial⟩ rfl rfl H ?_; clear H; intro h138 w153 hx H
           replace hX := hX.trans0 hx; clear hx
           refine hold hX ?_
           have e := o12; clear o12
           have i18 := e; clear e
           refine callFx (spec_dnRow_c p_ n_ [a18, a19] h138 [1, a20] h83 a36 i18) H ⟨Vw.own 0 rfl, Vw.own 3 rfl, trivial⟩ ?_; clear H i18
           rintro _ _ w154 ⟨h139, rfl, rfl⟩ hx H
           replace hX := hX.trans0 hx; clear hx
           refine hold hX ?_
           have e := o13; clear o13
           have i19 := e; clear e
           refine callFx (spec_dnRow_c p_ n_ [a21, a22] h137 [1, a23] h127 a37 i19) H ⟨Vw.own 2 rfl, Vw.own 3 rfl, trivial⟩ ?_; clear H i19
           rintro _ _ w155 ⟨h140, rfl, rfl⟩ hx H
           replace hX := hX.trans0 hx; clear hx
           refine hold hX ?_
           replace H := H.sel [1, 0, 2, 3, 4, 5, 6, 7, 8, 9, 10] rfl
           refine litN (α := List Int) (us := [(h139).v, (h140).v]) (xs := [a36, a37]) (gs := [h139, h140]) gok rfl rfl rfl ⟨rfl, rfl, trivial⟩ rfl rfl H ?_; clear H; intro h141 w156 hx H
           replace hX := hX.trans0 hx; clear hx
           refine hold hX ?_
           exact ⟨([a36, a37], h141), ⟨rfl, trivial⟩, Option.some.inj f58, H.sel [0] rfl⟩
          ·
           exact trivial
        ·
         exact trivial
     ·
      refine both ?_ ?_
      ·
       obtain ⟨a38, o14, f59⟩ := bindS f45; clear f45
       obtain ⟨a39, o15, f60⟩ := bindS f59; clear f59
       replace H := H.sc (α := Int) a22
       replace H := H.sc (α := Int) a21
       refine litN (α := Int) (us := [(.int .i64 a21), (.int .i64 a22)]) (xs := [a21, a22]) (gs := [(), ()]) gok rfl rfl rfl ⟨rfl, rfl, trivial⟩ rfl rfl H ?_; clear H; intro h142 w157 hx H
       replace hX := hX.trans0 hx; clear hx
       refine hold hX ?_
       refine both ?_ ?_
       ·
        replace H := H.sc (α := Int) a19
        replace H := H.sc (α := Int) a18
        refine litN (α := Int) (us := [(.int .i64 a18), (.int .i64 a19)]) (xs := [a18, a19]) (gs := [(), ()]) gok rfl rfl rfl ⟨rfl, rfl, trivial⟩ rfl rfl H ?_; clear H; intro h143 w158 hx H
        replace hX := hX.trans0 hx; clear hx
        refine hold hX ?_
        refine both ?_ ?_
        ·
         replace H := H.sc (α := Int) a20
         replace H := H.sc (α := Int) 1
         refine litN (α := Int) (us := [(.int .i64 1), (.int .i64 a20)]) (xs := [1, a20]) (gs := [(), ()]) gok rfl rfl rfl ⟨rfl, rfl, trivial⟩ rfl rfl H ?_; clear H; intro h144 w159 hx H
         replace hX := hX.trans0 hx; clear hx
         refine hold hX ?_
         refine both ?_ ?_
         ·
          have e := o14; clear o14
          have i20 := e; clear e
          refine callFx (spec_dnRow_c p_ n_ [a18, a19] h143 [1, a20] h144 a38 i20) H ⟨Vw.own 1 rfl, Vw.own 0 rfl, trivial⟩ ?_; clear H i20
          rintro _ _ w160 ⟨h145, rfl, rfl⟩ hx H
          replace hX := hX.trans0 hx; clear hx
          refine hold hX ?_
          replace H := H.sc (α := Int) a23
          replace H := H.sc (α := Int) 1
          refine litN (α := Int) (us := [(.int .i64 1), (.int .i64 a23)]) (xs := [1, a23]) (gs := [(), ()]) gok rfl rfl rfl ⟨rfl, rfl, trivial⟩ rfl rfl H ?_; clear H; intro h146 w161 hx H
          replace hX := hX.trans0 hx; clear hx
          refine hold hX ?_
          have e := o15; clear o15
          have i21 := e; clear e
          refine callFx (spec_dnRow_c p_ n_ [a21, a22] h142 [1, a23] h146 a39 i21) H ⟨Vw.own 4 rfl, Vw.own 0 rfl, trivial⟩ ?_; clear H i21
          rintro _ _ w162 ⟨h147, rfl, rfl⟩ hx H
          replace hX := hX.trans0 hx; clear hx
          refine hold hX ?_
          replace H := H.sel [2, 0, 1, 3, 4, 5, 6, 7, 8, 9, 10] rfl
          refine litN (α := List Int) (us := [(h145).v, (h147).v]) (xs := [a38, a39]) (gs := [h145, h147]) gok rfl rfl rfl ⟨rfl, rfl, trivial⟩ rfl rfl H ?_; clear H; intro h148 w163 hx H
          replace hX := hX.trans0 hx; clear hx
          refine hold hX ?_
          exact ⟨([a38, a39], h148), ⟨rfl, trivial⟩, Option.some.inj f60, H.sel [0] rfl⟩
         ·
          refine both ?_ ?_
          ·
           replace H := H.sc (α := Int) a23
           replace H := H.sc (α := Int) 1
           refine litN (α := Int) (us := [(.int .i64 1), (.int .i64 a23)]) (xs := [1, a23]) (gs := [(), ()]) gok rfl rfl rfl ⟨rfl, rfl, trivial⟩ rfl rfl H ?_; clear H; intro h149 w164 hx H
           replace hX := hX.trans0 hx; clear hx
           refine hold hX ?_
           have e := o14; clear o14
           have i20 := e; clear e
           refine callFx (spec_dnRow_c p_ n_ [a18, a19] h143 [1, a20] h144 a38 i20) H ⟨Vw.own 2 rfl, Vw.own 1 rfl, trivial⟩ ?_; clear H i20
           rintro _ _ w165 ⟨h150, rfl, rfl⟩ hx H
           replace hX := hX.trans0 hx; clear hx
           refine hold hX ?_
           have e := o15; clear o15
           have i21 := e; clear e
           refine callFx (spec_dnRow_c p_ n_ [a21, a22] h142 [1, a23] h149 a39 i21) H ⟨Vw.own 4 rfl, Vw.own 1 rfl, trivial⟩ ?_; clear H i21
           rintro _ _ w166 ⟨h151, rfl, rfl⟩ hx H
           replace hX := hX.trans0 hx; clear hx
           refine hold hX ?_
           replace H := H.sel [1, 0, 2, 3, 4, 5, 6, 7, 8, 9, 10] rfl
           refine litN (α := List Int) (us := [(h150).v, (h151).v]) (xs := [a38, a39]) (gs := [h150, h151]) gok rfl rfl rfl ⟨rfl, rfl, trivial⟩ rfl rfl H ?_; clear H; intro h152 w167 hx H
           replace hX := hX.trans0 hx; clear hx
           refine hold hX ?_
           exact ⟨([a38, a39], h152), ⟨rfl, trivial⟩, Option.some.inj f60, H.sel [0] rfl⟩
          ·
           exact trivial
        ·
         refine both ?_ ?_
         ·
          replace H := H.sc (α := Int) a23
          replace H := H.sc (α := Int) 1
          refine litN (α := Int) (us := [(.int .i64 1), (.int .i64 a23)]) (xs := [1, a23]) (gs := [(), ()]) gok rfl rfl rfl ⟨rfl, rfl, trivial⟩ rfl rfl H ?_; clear H; intro h153 w168 hx H
          replace hX := hX.trans0 hx; clear hx
          refine hold hX ?_
          replace H := H.sc (α := Int) a20
          replace H := H.sc (α := Int) 1
          refine litN (α := Int) (us := [(.int .i64 1), (.int .i64 a20)]) (xs := [1, a20]) (gs := [(), ()]) gok rfl rfl rfl ⟨rfl, rfl, trivial⟩ rfl rfl H ?_; clear H; intro h154 w169 hx H
          replace hX := hX.trans0 hx; clear hx
          refine hold hX ?_
          have e := o14; clear o14
          have i20 := e; clear e
          refine callFx (spec_dnRow_c p_ n_ [a18, a19] h143 [1, a20] h154 a38 i20) H ⟨Vw.own 2 rfl, Vw.own 0 rfl, trivial⟩ ?_; clear H i20
          rintro _ _ w170 ⟨h155, rfl, rfl⟩ hx H
          replace hX := hX.trans0 hx; clear hx
          refine hold hX ?_
          have e := o15; clear o15
          have i21 := e; clear e
          refine callFx (spec_dnRow_c p_ n_ [a21, a22] h142 [1, a23] h153 a39 i21) H ⟨Vw.own 4 rfl, Vw.own 2 rfl, trivial⟩ ?_; clear H i21
          rintro _ _ w171 ⟨h156, rfl, rfl⟩ hx H
          replace hX := hX.trans0 hx; clear hx
          refine hold hX ?_
          replace H := H.sel [1, 0, 2, 3, 4, 5, 6, 7, 8, 9, 10] rfl
          refine litN (α := List Int) (us := [(h155).v, (h156).v]) (xs := [a38, a39]) (gs := [h155, h156]) gok rfl rfl rfl ⟨rfl, rfl, trivial⟩ rfl rfl H ?_; clear H; intro h157 w172 hx H
          replace hX := hX.trans0 hx; clear hx
          refine hold hX ?_
          exact ⟨([a38, a39], h157), ⟨rfl, trivial⟩, Option.some.inj f60, H.sel [0] rfl⟩
         ·
          exact trivial
       ·
        refine both ?_ ?_
        ·
         replace H := H.sc (α := Int) a20
         replace H := H.sc (α := Int) 1
         refine litN (α := Int) (us := [(.int .i64 1), (.int .i64 a20)]) (xs := [1, a20]) (gs := [(), ()]) gok rfl rfl rfl ⟨rfl, rfl, trivial⟩ rfl rfl H ?_; clear H; intro h158 w173 hx H
         replace hX := hX.trans0 hx; clear hx
         refine hold hX ?_
         refine both ?_ ?_
         ·
          replace H := H.sc (α := Int) a19
          replace H := H.sc (α := Int) a18
          refine litN (α := Int) (us := [(.int .i64 a18), (.int .i64 a19)]) (xs := [a18, a19]) (gs := [(), ()]) gok rfl rfl rfl ⟨rfl, rfl, trivial⟩ rfl rfl H ?_; clear H; intro h159 w174 hx H
          replace hX := hX.trans0 hx; clear hx
          refine hold hX ?_
          refine both ?_ ?_
          ·
           have e := o14; clear o14
           have i20 := e; clear e
           refine callFx (spec_dnRow_c p_ n_ [a18, a19] h159 [1, a20] h158 a38 i20) H ⟨Vw.own 0 rfl, Vw.own 1 rfl, trivial⟩ ?_; clear H i20
           rintro _ _ w175 ⟨h160, rfl, rfl⟩ hx H
           replace hX := hX.trans0 hx; clear hx
           refine hold hX ?_
           replace H := H.sc (α := Int) a23
           replace H := H.sc (α := Int) 1
           refine litN (α := Int) (us := [(.int .i64 1), (.int .i64 a23)]) (xs := [1, a23]) (gs := [(), ()]) gok rfl rfl rfl ⟨rfl, rfl, trivial⟩ rfl rfl H ?_; clear H; intro h161 w176 hx H
           replace hX := hX.trans0 hx; clear hx
           refine hold hX ?_
           have e := o15; clear o15
           have i21 := e; clear e
           refine callFx (spec_dnRow_c p_ n_ [a21, a22] h142 [1, a23] h161 a39 i21) H ⟨Vw.own 4 rfl, Vw.own 0 rfl, trivial⟩ ?_; clear H i21
           rintro _ _ w177 ⟨h162, rfl, rfl⟩ hx H
           replace hX := hX.trans0 hx; clear hx
           refine hold hX ?_
           replace H := H.sel [2, 0, 1, 3, 4, 5, 6, 7, 8, 9, 10] rfl
           refine litN (α := List Int) (us := [(h160).v, (h162).v]) (xs := [a38, a39]) (gs := [h160, h162]) gok rfl rfl rfl ⟨rfl, rfl, trivial⟩ rfl rfl H ?_; clear H; intro h163 w178 hx H
           replace hX := hX.trans0 hx; clear hx
           refine hold hX ?_
           exact ⟨([a38, a39], h163), ⟨rfl, trivial⟩, Option.some.inj f60, H.sel [0] rfl⟩
          ·
           refine both ?_ ?_
           ·
            replace H := H.sc (α := Int) a23
            replace H := H.sc (α := Int) 1
            refine litN (α := Int) (us := [(.int .i64 1), (.int .i64 a23)]) (xs := [1, a23]) (gs := [(), ()]) gok rfl rfl rfl ⟨rfl, rfl, trivial⟩ rfl rfl H ?_; clear H; intro h164 w179 hx H
            replace hX := hX.trans0 hx; clear hx
            refine hold hX ?_
            have e := o14; clear o14
            have i20 := e; clear e
            refine callFx (spec_dnRow_c p_ n_ [a18, a19] h159 [1, a20] h158 a38 i20) H ⟨Vw.own 1 rfl, Vw.own 2 rfl, trivial⟩ ?_; clear H i20
            rintro _ _ w181 ⟨h165, rfl, rfl⟩ hx H
            replace hX := hX.trans0 hx; clear hx
            refine hold hX ?_
            have e := o15; clear o15
            have i21 := e; clear e
            refine callFx (spec_dnRow_c p_ n_ [a21, a22] h142 [1, a23] h164 a39 i21) H ⟨Vw.own 4 rfl, Vw.own 1 rfl, trivial⟩ ?_; clear H i21
            rintro _ _ w182 ⟨h166, rfl, rfl⟩ hx H
            replace hX := hX.trans0 hx; clear hx
            refine hold hX ?_
            replace H := H.sel [1, 0, 2, 3, 4, 5, 6, 7, 8, 9, 10] rfl
            refine litN (α := List Int) (us := [(h165).v, (h166).v]) (xs := [a38, a39]) (gs := [h165, h166]) gok rfl rfl rfl ⟨rfl, rfl, trivial⟩ rfl rfl H ?_; clear H; intro h167 w183 hx H
            replace hX := hX.trans0 hx; clear hx
            refine hold hX ?_
            exact ⟨([a38, a39], h167), ⟨rfl, trivial⟩, Option.some.inj f60, H.sel [0] rfl⟩
           ·
            exact trivial
         ·
          refine both ?_ ?_
          ·
           replace H := H.sc (α := Int) a23
           replace H := H.sc (α := Int) 1
           refine litN (α := Int) (us := [(.int .i64 1), (.int .i64 a23)]) (xs := [1, a23]) (gs := [(), ()]) gok rfl rfl rfl ⟨rfl, rfl, trivial⟩ rfl rfl H ?_; clear H; intro h168 w184 hx H
           replace hX := hX.trans0 hx; clear hx
           refine hold hX ?_
           replace H := H.sc (α := Int) a19
           replace H := H.sc (α := Int) a18
           refine litN (α := Int) (us := [(.int .i64 a18), (.int .i64 a19)]) (xs := [a18, a19]) (gs := [(), ()]) gok rfl rfl rfl ⟨rfl, rfl, trivial⟩ rfl rfl H ?_; clear H; intro h169 w187 hx H
           replace hX := hX.trans0 hx; clear hx
           refine hold hX ?_
           have e := o14; clear o14
           have i20 := e; clear e
           refine callFx (spec_dnRow_c p_ n_ [a18, a19] h169 [1, a20] h158 a38 i20) H ⟨Vw.own 0 rfl, Vw.own 2 rfl, trivial⟩ ?_; clear H i20
           rintro _ _ w188 ⟨h170, rfl, rfl⟩ hx H
           replace hX := hX.trans0 hx; clear hx
           refine hold hX ?_
           have e := o15; clear o15
           have i21 := e; clear e
           refine callFx (spec_dnRow_c p_ n_ [a21, a22] h142 [1, a23] h168 a39 i21) H ⟨Vw.own 4 rfl, Vw.own 2 rfl, trivial⟩ ?_; clear H i21
           rintro _ _ w189 ⟨h171, rfl, rfl⟩ hx H
           replace hX := hX.trans0 hx; clear hx
           refine hold hX ?_
           replace H := H.sel [1, 0, 2, 3, 4, 5, 6, 7, 8, 9, 10] rfl
           refine litN (α := List Int) (us := [(h170).v, (h171).v]) (xs := [a38, a39]) (gs := [h170, h171]) gok rfl rfl rfl ⟨rfl, rfl, trivial⟩ rfl rfl H ?_; clear H; intro h172 w190 hx H
           replace hX := hX.trans0 hx; clear hx
           refine hold hX ?_
           exact ⟨([a38, a39], h172), ⟨rfl, trivial⟩, Option.some.inj f60, H.sel [0] rfl⟩
          ·
           exact trivial
        ·
         refine both ?_ ?_
         ·
          replace H := H.sc (α := Int) a23
          replace H := H.sc (α := Int) 1
          refine litN (α := Int) (us := [(.int .i64 1), (.int .i64 a23)]) (xs := [1, a23]) (gs := [(), ()]) gok rfl rfl rfl ⟨rfl, rfl, trivial⟩ rfl rfl H ?_; clear H; intro h173 w192 hx H
          replace hX := hX.trans0 hx; clear hx
          refine hold hX ?_
          refine both ?_ ?_
          ·
           replace H := H.sc (α := Int) a19
           replace H := H.sc (α := Int) a18
           refine litN (α := Int) (us := [(.int .i64 a18), (.int .i64 a19)]) (xs := [a18, a19]) (gs := [(), ()]) gok rfl rfl rfl ⟨rfl, rfl, trivial⟩ rfl rfl H ?_; clear H; intro h174 w193 hx H
           replace hX := hX.trans0 hx; clear hx
           refine hold hX ?_
           replace H := H.sc (α := Int) a20
           replace H := H.sc (α := Int) 1
           refine litN (α := Int) (us := [(.int .i64 1), (.int .i64 a20)]) (xs := [1, a20]) (gs := [(), ()]) gok rfl rfl rfl ⟨rfl, rfl, trivial⟩ rfl rfl H ?_; clear H; intro h175 w195 hx H
           replace hX := hX.trans0 hx; clear hx
           refine hold hX ?_
           have e := o14; clear o14
           have i20 := e; clear e
           refine callFx (spec_dnRow_c p_ n_ [a18, a19] h174 [1, a20] h175 a38 i20) H ⟨Vw.own 1 rfl, Vw.own 0 rfl, trivial⟩ ?_; clear H i20
           rintro _ _ w196 ⟨h176, rfl, rfl⟩ hx H
           replace hX := hX.trans0 hx; clear hx
           refine hold hX ?_
           have e := o15; clear o15
           have i21 := e; clear e
           refine callFx (spec_dnRow_c p_ n_ [a21, a22] h142 [1, a23] h173 a39 i21) H ⟨Vw.own 4 rfl, Vw.own 3 rfl, trivial⟩ ?_; clear H i21
           rintro _ _ w197 ⟨h177, rfl, rfl⟩ hx H
           replace hX := hX.trans0 hx; clear hx
           refine hold hX ?_
           replace H := H.sel [1, 0, 2, 3, 4, 5, 6, 7, 8, 9, 10] rfl
           refine litN (α := List Int) (us := [(h176).v, (h177).v]) (xs := [a38, a39]) (gs := [h176, h177]) gok rfl rfl rfl ⟨rfl, rfl, trivial⟩ rfl rfl H ?_; clear H; intro h178 w198 hx H
           replace hX := hX.trans0 hx; clear hx
           refine hold hX ?_
           exact ⟨([a38, a39], h178), ⟨rfl, trivial⟩, Option.some.inj f60, H.sel [0] rfl⟩
          ·
           refine both ?_ ?_
           ·
            replace H := H.sc (α := Int) a20
            replace H := H.sc (α := Int) 1
            refine litN (α := Int) (us := [(.int .i64 1), (.int .i64 a20)]) (xs := [1, a20]) (gs := [(), ()]) gok rfl rfl rfl ⟨rfl, rfl, trivial⟩ rfl rfl H ?_; clear H; intro h179 w199 hx H
            replace hX := hX.trans0 hx; clear hx
            refine hold hX ?_
            replace H := H.sc (α := Int) a19
            replace H := H.sc (α := Int) a18
            refine litN (α := Int) (us := [(.int .i64 a18), (.int .i64 a19)]) (xs := [a18, a19]) (gs := [(), ()]) gok rfl rfl rfl ⟨rfl, rfl, trivial⟩ rfl rfl H ?_; clear H; intro h180 w200 hx H
            replace hX := hX.trans0 hx; clear hx
            refine hold hX ?_
            have e := o14; clear o14
            have i20 := e; clear e
            refine callFx (spec_dnRow_c p_ n_ [a18, a19] h180 [1, a20] h179 a38 i20) H ⟨Vw.own 0 rfl, Vw.own 1 rfl, trivial⟩ ?_; clear H i20
            rintro _ _ w201 ⟨h182, rfl, rfl⟩ hx H
            replace hX := hX.trans0 hx; clear hx
            refine hold hX ?_
            have e := o15; clear o15
            have i21 := e; clear e
            refine callFx (spec_dnRow_c p_ n_ [a21, a22] h142 [1, a23] h173 a39 i21) H ⟨Vw.own 4 rfl, Vw.own 3 rfl, trivial⟩ ?_; clear H i21
            rintro _ _ w202 ⟨h183, rfl, rfl⟩ hx H
            replace hX := hX.trans0 hx; clear hx
            refine hold hX ?_
            replace H := H.sel [1, 0, 2, 3, 4, 5, 6, 7, 8, 9, 10] rfl
            refine litN (α := List Int) (us := [(h182).v, (h183).v]) (xs := [a38, a39]) (gs := [h182, h183]) gok rfl rfl rfl ⟨rfl, rfl, trivial⟩ rfl rfl H ?_; clear H; intro h184 w205 hx H
            replace hX := hX.trans0 hx; clear hx
            refine hold hX ?_
            exact ⟨([a38, a39], h184), ⟨rfl, trivial⟩, Option.some.inj f60, H.sel [0] rfl⟩
           ·
            exact trivial
         ·
          exact trivial
      ·
       refine both ?_ ?_
       ·
        obtain ⟨a40, o16, f61⟩ := bindS f45; clear f45
        obtain ⟨a41, o17, f62⟩ := bindS f61; clear f61
        replace H := H.sc (α := Int) a23
        replace H := H.sc (α := Int) 1
        refine litN (α := Int) (us := [(.int .i64 1), (.int .i64 a23)]) (xs := [1, a23]) (gs := [(), ()]) gok rfl rfl rfl ⟨rfl, rfl, trivial⟩ rfl rfl H ?_; clear H; intro h185 w206 hx H
        replace hX := hX.trans0 hx; clear hx
        refine hold hX ?_
        refine both ?_ ?_
        ·
         replace H := H.sc (α := Int) a19
         replace H := H.sc (α := Int) a18
         refine litN (α := Int) (us := [(.int .i64 a18), (.int .i64 a19)]) (xs := [a18, a19]) (gs := [(), ()]) gok rfl rfl rfl ⟨rfl, rfl, trivial⟩ rfl rfl H ?_; clear H; intro h186 w208 hx H
         replace hX := hX.trans0 hx; clear hx
         refine hold hX ?_
         refine both ?_ ?_
         ·
          replace H := H.sc (α := Int) a20
          replace H := H.sc (α := Int) 1
          refine litN (α := Int) (us := [(.int .i64 1), (.int .i64 a20)]) (xs := [1, a20]) (gs := [(), ()]) gok rfl rfl rfl ⟨rfl, rfl, trivial⟩ rfl rfl H ?_; clear H; intro h188 w209 hx H
          replace hX := hX.trans0 hx; clear hx
          refine hold hX ?_
          refine both ?_ ?_
          ·
           have e := o16; clear o16
           have i22 := e; clear e
           refine callFx (spec_dnRow_c p_ n_ [a18, a19] h186 [1, a20] h188 a40 i22) H ⟨Vw.own 1 rfl, Vw.own 0 rfl, trivial⟩ ?_; clear H i22
           rintro _ _ w211 ⟨h189, rfl, rfl⟩ hx H
           replace hX := hX.trans0 hx; clear hx
           refine hold hX ?_
           replace H := H.sc (α := Int) a22
           replace H := H.sc (α := Int) a21
           refine litN (α := Int) (us := [(.int .i64 a21), (.int .i64 a22)]) (xs := [a21, a22]) (gs := [(), ()]) gok rfl rfl rfl ⟨rfl, rfl, trivial⟩ rfl rfl H ?_; clear H; intro h190 w212 hx H
           replace hX := hX.trans0 hx; clear hx
           refine hold hX ?_
           have e := o17; clear o17
           have i23 := e; clear e
           refine callFx (spec_dnRow_c p_ n_ [a21, a22] h190 [1, a23] h185 a41 i23) H ⟨Vw.own 0 rfl, Vw.own 4 rfl, trivial⟩ ?_; clear H i23
           rintro _ _ w214 ⟨h191, rfl, rfl⟩ hx H
           replace hX := hX.trans0 hx; clear hx
           refine hold hX ?_
           replace H := H.sel [2, 0, 1, 3, 4, 5, 6, 7, 8, 9, 10] rfl
           refine litN (α := List Int) (us := [(h189).v, (h191).v]) (xs := [a40, a41]) (gs := [h189, h191]) gok rfl rfl rfl ⟨rfl, rfl, trivial⟩ rfl rfl H ?_; clear H; intro h193 w215 hx H
           replace hX := hX.trans0 hx; clear hx
           refine hold hX ?_
           exact ⟨([a40, a41], h193), ⟨rfl, trivial⟩, Option.some.inj f62, H.sel [0] rfl⟩
          ·
           refine both ?_ ?_
           ·
            replace H := H.sc (α := Int) a22
            replace H := H.sc (α := Int) a21
            refine litN (α := Int) (us := [(.int .i64 a21), (.int .i64 a22)]) (xs := [a21, a22]) (gs := [(), ()]) gok rfl rfl rfl ⟨rfl, rfl, trivial⟩ rfl rfl H ?_; clear H; intro h194 w217 hx H
            replace hX := hX.trans0 hx; clear hx
            refine hold hX ?_
            have e := o16; clear o16
            have i22 := e; clear e
            refine callFx (spec_dnRow_c p_ n_ [a18, a19] h186 [1, a20] h188 a40 i22) H ⟨Vw.own 2 rfl, Vw.own 1 rfl, trivial⟩ ?_; clear H i22
            rintro _ _ w218 ⟨h196, rfl, rfl⟩ hx H
            replace hX := hX.trans0 hx; clear hx
            refine hold hX ?_
            have e := o17; clear o17
            have i23 := e; clear e
            refine callFx (spec_dnRow_c p_ n_ [a21, a22] h194 [1, a23] h185 a41 i23) H ⟨Vw.own 1 rfl, Vw.own 4 rfl, trivial⟩ ?_; clear H i23
            rintro _ _ w220 ⟨h197, rfl, rfl⟩ hx H
            replace hX := hX.trans0 hx; clear hx
            refine hold hX ?_
            replace H := H.sel [1, 0, 2, 3, 4, 5, 6, 7, 8, 9, 10] rfl
            refine litN (α := List Int) (us := [(h196).v, (h197).v]) (xs := [a40, a41]) (gs := [h196, h197]) gok rfl rfl rfl ⟨rfl, rfl, trivial⟩ rfl rfl H ?_; clear H; intro h198 w221 hx H
            replace hX := hX.trans0 hx; clear hx
            refine hold hX ?_
            exact ⟨([a40, a41], h198), ⟨rfl, trivial⟩, Option.some.inj f62, H.sel [0] rfl⟩
           ·
            exact trivial
         ·
          refine both ?_ ?_
          ·
           replace H := H.sc (α := Int) a22
           replace H := H.sc (α := Int) a21
           refine litN (α := Int) (us := [(.int .i64 a21), (.int .i64 a22)]) (xs := [a21, a22]) (gs := [(), ()]) gok rfl rfl rfl ⟨rfl, rfl, trivial⟩ rfl rfl H ?_; clear H; intro h199 w223 hx H
           replace hX := hX.trans0 hx; clear hx
           refine hold hX ?_
           replace H := H.sc (α := Int) a20
           replace H := H.sc (α := Int) 1
           refine litN (α := Int) (us := [(.int .i64 1), (.int .i64 a20)]) (xs := [1, a20]) (gs := [(), ()]) gok rfl rfl rfl ⟨rfl, rfl, trivial⟩ rfl rfl H ?_; clear H; intro h200 w224 hx H
           replace hX := hX.trans0 hx; clear hx
           refine hold hX ?_
           have e := o16; clear o16
           have i22 := e; clear e
           refine callFx (spec_dnRow_c p_ n_ [a18, a19] h186 [1, a20] h200 a40 i22) H ⟨Vw.own 2 rfl, Vw.own 0 rfl, trivial⟩ ?_; clear H i22
           rintro _ _ w226 ⟨h201, rfl, rfl⟩ hx H
           replace hX := hX.trans0 hx; clear hx
           refine hold hX ?_
           have e := o17; clear o17
           have i23 := e; clear e
           refine callFx (spec_dnRow_c p_ n_ [a21, a22] h199 [1, a23] h185 a41 i23) H ⟨Vw.own 2 rfl, Vw.own 4 rfl, trivial⟩ ?_; clear H i23
           rintro _ _ w227 ⟨h202, rfl, rfl⟩ hx H
           replace hX := hX.trans0 hx; clear hx
           refine hold hX ?_
           replace H := H.sel [1, 0, 2, 3, 4, 5, 6, 7, 8, 9, 10] rfl
           refine litN (α := List Int) (us := [(h201).v, (h202).v]) (xs := [a40, a41]) (gs := [h201, h202]) gok rfl rfl rfl ⟨rfl, rfl, trivial⟩ rfl rfl H ?_; clear H; intro h203 w229 hx H
           replace hX := hX.trans0 hx; clear hx
           refine hold hX ?_
           exact ⟨([a40, a41], h203), ⟨rfl, trivial⟩, Option.some.inj f62, H.sel [0] rfl⟩
          ·
           exact trivial
        ·
         refine both ?_ ?_
         ·
          replace H := H.sc (α := Int) a20
          replace H := H.sc (α := Int) 1
          refine litN (α := Int) (us := [(.int .i64 1), (.int .i64 a20)]) (xs := [1, a20]) (gs := [(), ()]) gok rfl rfl rfl ⟨rfl, rfl, trivial⟩ rfl rfl H ?_; clear H; intro h204 w230 hx H
          replace hX := hX.trans0 hx; clear hx
          refine hold hX ?_
          refine both ?_ ?_
          ·
           replace H := H.sc (α := Int) a19
           replace H := H.sc (α := Int) a18
           refine litN (α := Int) (us := [(.int .i64 a18), (.int .i64 a19)]) (xs := [a18, a19]) (gs := [(), ()]) gok rfl rfl rfl ⟨rfl, rfl, trivial⟩ rfl rfl H ?_; clear H; intro h206 w231 hx H
           replace hX := hX.trans0 hx; clear hx
           refine hold hX ?_
           refine both ?_ ?_
           ·
            have e := o16; clear o16
            have i22 := e; clear e
            refine callFx (spec_dnRow_c p_ n_ [a18, a19] h206 [1, a20] h204 a40 i22) H ⟨Vw.own 0 rfl, Vw.own 1 rfl, trivial⟩ ?_; clear H i22
            rintro _ _ w232 ⟨h207, rfl, rfl⟩ hx H
            replace hX := hX.trans0 hx; clear hx
            refine hold hX ?_
            replace H := H.sc (α := Int) a22
            replace H := H.sc (α := Int) a21
            refine litN (α := Int) (us := [(.int .i64 a21), (.int .i64 a22)]) (xs := [a21, a22]) (gs := [(), ()]) gok rfl rfl rfl ⟨rfl, rfl, trivial⟩ rfl rfl H ?_; clear H; intro h209 w233 hx H
            replace hX := hX.trans0 hx; clear hx
            refine hold hX ?_
            have e := o17; clear o17
            have i23 := e; clear e
            refine callFx (spec_dnRow_c p_ n_ [a21, a22] h209 [1, a23] h185 a41 i23) H ⟨Vw.own 0 rfl, Vw.own 4 rfl, trivial⟩ ?_; clear H i23
            rintro _ _ w234 ⟨h210, rfl, rfl⟩ hx H
            replace hX := hX.trans0 hx; clear hx
            refine hold hX ?_
            replace H := H.sel [2, 0, 1, 3, 4, 5, 6, 7, 8, 9, 10] rfl
            refine litN (α := List Int) (us := [(h207).v, (h210).v]) (xs := [a40, a41]) (gs := [h207, h210]) gok rfl rfl rfl ⟨rfl, rfl, trivial⟩ rfl rfl H ?_; clear H; intro h212 w235 hx H
            replace hX := hX.trans0 hx; clear hx
            refine hold hX ?_
            exact ⟨([a40, a41], h212), ⟨rfl, trivial⟩, Option.some.inj f62, H.sel [0] rfl⟩
           ·
            refine both ?_ ?_
            ·
             replace H := H.sc (α := Int) a22
             replace H := H.sc (α := Int) a21
             refine litN (α := Int) (us := [(.int .i64 a21), (.int .i64 a22)]) (xs := [a21, a22]) (gs := [(), ()]) gok rfl rfl rfl ⟨rfl, rfl, trivial⟩ rfl rfl H ?_; clear H; intro h213 w236 hx H
             replace hX := hX.trans0 hx; clear hx
             refine hold hX ?_
             have e := o16; clear o16
             have i22 := e; clear e
             refine callFx (spec_dnRow_c p_ n_ [a18, a19] h206 [1, a20] h204 a40 i22) H ⟨Vw.own 1 rfl, Vw.own 2 rfl, trivial⟩ ?_; clear H i22
             rintro _ _ w237 ⟨h215, rfl, rfl⟩ hx H
             replace hX := hX.trans0 hx; clear hx
             refine hold hX ?_
             have e := o17; clear o17
             have i23 := e; clear e
             refine callFx (spec_dnRow_c p_ n_ [a21, a22] h213 [1, a23] h185 a41 i23) H ⟨Vw.own 1 rfl, Vw.own 4 rfl, trivial⟩ ?_; clear H i23
             rintro _ _ w238 ⟨h216, rfl, rfl⟩ hx H
             replace hX := hX.trans0 hx; clear hx
             refine hold hX ?_
             replace H := H.sel [1, 0, 2, 3, 4, 5, 6, 7, 8, 9, 10] rfl
             refine litN (α := List Int) (us := [(h215).v, (h216).v]) (xs := [a40, a41]) (gs := [h215, h216]) gok rfl rfl rfl ⟨rfl, rfl, trivial⟩ rfl rfl H ?_; clear H; intro h218 w240 hx H
             replace hX := hX.trans0 hx; clear hx
             refine hold hX ?_
             exact ⟨([a40, a41], h218), ⟨rfl, trivial⟩, Option.some.inj f62, H.sel [0] rfl⟩
            ·
             exact trivial
          ·
           refine both ?_ ?_
           ·
            replace H := H.sc (α := Int) a22
            replace H := H.sc (α := Int) a21
            refine litN (α := Int) (us := [(.int .i64 a21), (.int .i64 a22)]) (xs := [a21, a22]) (gs := [(), ()]) gok rfl rfl rfl ⟨rfl, rfl, trivial⟩ rfl rfl H ?_; clear H; intro h219 w241 hx H
            replace hX := hX.trans0 hx; clear hx
            refine hold hX ?_
            replace H := H.sc (α := Int) a19
            replace H := H.sc (α := Int) a18
            refine litN (α := Int) (us := [(.int .i64 a18), (.int .i64 a19)]) (xs := [a18, a19]) (gs := [(), ()]) gok rfl rfl rfl ⟨rfl, rfl, trivial⟩ rfl rfl H ?_; clear H; intro h221 w243 hx H
            replace hX := hX.trans0 hx; clear hx
            refine hold hX ?_
            have e := o16; clear o16
            have i22 := e; clear e
            refine callFx (spec_dnRow_c p_ n_ [a18, a19] h221 [1, a20] h204 a40 i22) H ⟨Vw.own 0 rfl, Vw.own 2 rfl, trivial⟩ ?_; clear H i22
            rintro _ _ w244 ⟨h222, rfl, rfl⟩ hx H
            replace hX := hX.trans0 hx; clear hx
            refine hold hX ?_
            have e := o17; clear o17
            have i23 := e; clear e
            refine callFx (spec_dnRow_c p_ n_ [a21, a22] h219 [1, a23] h185 a41 i23) H ⟨Vw.own 2 rfl, Vw.own 4 rfl, trivial⟩ ?_; clear H i23
            rintro _ _ w245 ⟨h224, rfl, rfl⟩ hx H
            replace hX := hX.trans0 hx; clear hx
            refine hold hX ?_
            replace H := H.sel [1, 0, 2, 3, 4, 5, 6, 7, 8, 9, 10] rfl
            refine litN (α := List Int) (us := [(h222).v, (h224).v]) (xs := [a40, a41]) (gs := [h222, h224]) gok rfl rfl rfl ⟨rfl, rfl, trivial⟩ rfl rfl H ?_; clear H; intro h225 w246 hx H
            replace hX := hX.trans0 hx; clear hx
            refine hold hX ?_
            exact ⟨([a40, a41], h225), ⟨rfl, trivial⟩, Option.some.inj f62, H.sel [0] rfl⟩
           ·
            exact trivial
         ·
          refine both ?_ ?_
          ·
           replace H := H.sc (α := Int) a22
           replace H := H.sc (α := Int) a21
           refine litN (α := Int) (us := [(.int .i64 a21), (.int .i64 a22)]) (xs := [a21, a22]) (gs := [(), ()]) gok rfl rfl rfl ⟨rfl, rfl, trivial⟩ rfl rfl H ?_; clear H; intro h227 w248 hx H
           replace hX := hX.trans0 hx; clear hx
           refine hold hX ?_
           refine both ?_ ?_
           ·
            replace H := H.sc (α := Int) a19
            replace H := H.sc (α := Int) a18
            refine litN (α := Int) (us := [(.int .i64 a18), (.int .i64 a19)]) (xs := [a18, a19]) (gs := [(), ()]) gok rfl rfl rfl ⟨rfl, rfl, trivial⟩ rfl rfl H ?_; clear H; intro h228 w249 hx H
            replace hX := hX.trans0 hx; clear hx
            refine hold hX ?_
            replace H := H.sc (α := Int) a20
            replace H := H.sc (α := Int) 1
            refine litN (α := Int) (us := [(.int .i64 1), (.int .i64 a20)]) (xs := [1, a20]) (gs := [(), ()]) gok rfl rfl rfl ⟨rfl, rfl, trivial⟩ rfl rfl H ?_; clear H; intro h229 w251 hx H
            replace hX := hX.trans0 hx; clear hx
            refine hold hX ?_
            have e := o16; clear o16
            have i22 := e; clear e
            refine callFx (spec_dnRow_c p_ n_ [a18, a19] h228 [1, a20] h229 a40 i22) H ⟨Vw.own 1 rfl, Vw.own 0 rfl, trivial⟩ ?_; clear H i22
            rintro _ _ w252 ⟨h230, rfl, rfl⟩ hx H
            replace hX := hX.trans0 hx; clear hx
            refine hold hX ?_
            have e := o17; clear o17
            have i23 := e; clear e
            refine callFx (spec_dnRow_c p_ n_ [a21, a22] h227 [1, a23] h185 a41 i23) H ⟨Vw.own 3 rfl, Vw.own 4 rfl, trivial⟩ ?_; clear H i23
            rintro _ _ w253 ⟨h231, rfl, rfl⟩ hx H
            replace hX := hX.trans0 hx; clear hx
            refine hold hX ?_
            replace H := H.sel [1, 0, 2, 3, 4, 5, 6, 7, 8, 9, 10] rfl
            refine litN (α := List Int) (us := [(h230).v, (h231).v]) (xs := [a40, a41]) (gs := [h230, h231]) gok rfl rfl rfl ⟨rfl, rfl, trivial⟩ rfl rfl H ?_; clear H; intro h232 w254 hx H
            replace hX := hX.trans0 hx; clear hx
            refine hold hX ?_
            exact ⟨([a40, a41], h232), ⟨rfl, trivial⟩, Option.some.inj f62, H.sel [0] rfl⟩
           ·
            refine both ?_ ?_
            ·
             replace H := H.sc (α := Int) a20
             replace H := H.sc (α := Int) 1
             refine litN (α := Int) (us := [(.int .i64 1), (.int .i64 a20)]) (xs := [1, a20]) (gs := [(), ()]) gok rfl rfl rfl ⟨rfl, rfl, trivial⟩ rfl rfl H ?_; clear H; intro h233 w255 hx H
             replace hX := hX.trans0 hx; clear hx
             refine hold hX ?_
             replace H := H.sc (α := Int) a19
             replace H := H.sc (α := Int) a18
             refine litN (α := Int) (us := [(.int .i64 a18), (.int .i64 a19)]) (xs := [a18, a19]) (gs := [(), ()]) gok rfl rfl rfl ⟨rfl, rfl, trivial⟩ rfl rfl H ?_; clear H; intro h234 w256 hx H
             replace hX := hX.trans0 hx; clear hx
             refine hold hX ?_
             have e := o16; clear o16
             have i22 := e; clear e
             refine callFx (spec_dnRow_c p_ n_ [a18, a19] h234 [1, a20] h233 a40 i22) H ⟨Vw.own 0 rfl, Vw.own 1 rfl, trivial⟩ ?_; clear H i22
             rintro _ _ w257 ⟨h235, rfl, rfl⟩ hx H
             replace hX := hX.trans0 hx; clear hx
             refine hold hX ?_
             have e := o17; clear o17
             have i23 := e; clear e
             refine callFx (spec_dnRow_c p_ n_ [a21, a22] h227 [1, a23] h185 a41 i23) H ⟨Vw.own 3 rfl, Vw.own 4 rfl, trivial⟩ ?_; clear H i23
             rintro _ _ w258 ⟨h236, rfl, rfl⟩ hx H
             replace hX := hX.trans0 hx; clear hx
             refine hold hX ?_
             replace H := H.sel [1, 0, 2, 3, 4, 5, 6, 7, 8, 9, 10] rfl
             refine litN (α := List Int) (us := [(h235).v, (h236).v]) (xs := [a40, a41]) (gs := [h235, h236]) gok rfl rfl rfl ⟨rfl, rfl, trivial⟩ rfl rfl H ?_; clear H; intro h237 w259 hx H
             replace hX := hX.trans0 hx; clear hx
             refine hold hX ?_
             exact ⟨([a40, a41], h237), ⟨rfl, trivial⟩, Option.some.inj f62, H.sel [0] rfl⟩
            ·
             exact trivial
          ·
           exact trivial
       ·
        exact trivial
   ·
    clear f38 H
    rintro T3 ⟨s3, g3⟩ w260 ⟨hr, (H : Cx w0 fp0 S0 w260 [E (List (List Int)) s3 g3])⟩
    subst hr
    cases f39
    exact ⟨_, _, rfl, ⟨g3, rfl, rfl⟩, (H.sel [0] rfl).close ⟨cloE, trivial⟩⟩
end Go.Proofs.YtalmpcgbghnhpaaGreatDoor
