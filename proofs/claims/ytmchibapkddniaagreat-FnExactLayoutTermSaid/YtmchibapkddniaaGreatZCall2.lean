/-
 Contracts, printed by a program (wip/y/gen.py): each function of Go computes its partial function. Condition of each: its partial function yields a value.
-/
import Derived.Test.YtmchibapkddniaaGreatZCall
namespace Go.Proofs.YtmchibapkddniaaGreat
open Go Go.Proofs.YtmchibapkddniaaGreat.RW
set_option maxRecDepth 100000
set_option maxHeartbeats 1000000
set_option linter.unusedVariables false

theorem spec_hgEdge_c (e__0 : Int) (e__1 : Int) (e__2 : List Int) (e__2h : Hd) (e__3 : List Int) (e__3h : Hd) (wires_ : Int) (y : Bool) (hF : F_spec_hgEdge (e__0, e__1, e__2, e__3) wires_ = some y) :
  ConF Tryz.prog 111 #[(.agg #[(.int .i64 e__0), (.int .i64 e__1), (e__2h).v, (e__3h).v]), (.int .i64 wires_)] [Es (List Int) e__2 e__2h, Es (List Int) e__3 e__3h] [] (fun v Γ' => v = (.bool y) ∧ Γ' = []) := by
 intro w0 S0 fp0 hI hS
 have H : Cx w0 fp0 S0 w0 [Es (List Int) e__2 e__2h, Es (List Int) e__3 e__3h] := Cx.start hI hS
 clear hI hS
 refine enterC (args := [_, _]) gok Tryz.func111 rfl _ rfl rfl rfl ?_
 refine box_ H ?_; clear H; intro b4 w3 hx H
 clear hx
 refine sq ?_
 obtain ⟨r0, f0, f1⟩ := bindS hF; clear hF
 refine cut (fun (q0 : Bool) => [(1, (.int .i64 wires_)), (2, (.pointer (some ⟨b4, 0, none⟩))), (19, (.bool q0))]) (fun (q0 : Bool) w' => q0 = r0 ∧ Cx w0 fp0 S0 w' [Bx b4 [(.int .i64 e__0), (.int .i64 e__1), (e__2h).v, (e__3h).v], Es (List Int) e__2 e__2h, Es (List Int) e__3 e__3h]) ?_ ?_
 ·
  refine fld gok rfl rfl rfl rfl ?_
  refine load1 (H.bx 0 rfl (j := 0) rfl) ?_
  obtain ⟨y0, e, f2⟩ := bindS f0; clear f0
  have i0 := e; clear e
  refine callF (spec_l1In_c e__0 3 14 y0 i0) (Γi := []) H trivial ?_; clear H i0
  rintro _ _ w1 ⟨rfl, rfl⟩ H
  obtain ⟨a0, e, f3⟩ := bindS f2; clear f2
  refine boolO e ?_; clear e
  cases a0
  ·
   have f4 := condF f3; clear f3
   refine fld gok rfl rfl rfl rfl ?_
   refine load1 (H.bx 0 rfl (j := 0) rfl) ?_
   refine fld gok rfl rfl rfl rfl ?_
   refine load1 (H.bx 0 rfl (j := 1) rfl) ?_
   refine build_ (cs := #[(.int .i64 e__0), (.int .i64 e__1), (.string .empty)]) gok rfl rfl rfl ?_
   obtain ⟨y1, e, f5⟩ := bindS f4; clear f4
   have i1 := e; clear e
   refine callF (spec_tmLeaf_c e__0 e__1 .empty y1 i1) (Γi := []) H trivial ?_; clear H i1
   rintro _ _ w2 ⟨rfl, rfl⟩ H
   obtain ⟨a1, e, f6⟩ := bindS f5; clear f5
   refine boolO e ?_; clear e
   exact ⟨a1, ⟨rfl, rfl, rfl, trivial⟩, Option.some.inj f6, H.sel [0, 1, 2] rfl⟩
  ·
   have f7 := condT f3; clear f3
   exact ⟨true, ⟨rfl, rfl, rfl, trivial⟩, Option.some.inj f7, H.sel [0, 1, 2] rfl⟩
 ·
  clear f0 H
  rintro T0 s0 w4 ⟨hr, (H : Cx w0 fp0 S0 w4 [Bx b4 [(.int .i64 e__0), (.int .i64 e__1), (e__2h).v, (e__3h).v], Es (List Int) e__2 e__2h, Es (List Int) e__3 e__3h])⟩
  subst hr
  cases s0
  ·
   have f8 := condF f1; clear f1
   refine fld gok rfl rfl rfl rfl ?_
   refine load1 (H.bx 0 rfl (j := 0) rfl) ?_
   obtain ⟨y2, e, f9⟩ := bindS f8; clear f8
   obtain ⟨y2_0, y2_1⟩ := y2
   have i2 := e; clear e
   refine callF (spec_tmKind_c e__0 y2_0 y2_1 i2) (Γi := []) H trivial ?_; clear H i2
   rintro _ _ w5 ⟨rfl, rfl⟩ H
   obtain ⟨r1, f10, f11⟩ := bindS f9; clear f9
   refine cut (fun (q1 : Bool) => [(4, (.bool q1))]) (fun (q1 : Bool) w' => q1 = r1 ∧ Cx w0 fp0 S0 w' []) ?_ ?_
   ·
    refine fld gok rfl rfl rfl rfl ?_
    refine load1 (H.bx 0 rfl (j := 2) rfl) ?_
    refine lenE (H.rs (α := List Int) 1 rfl).len ?_
    obtain ⟨a2, e, f12⟩ := bindS f10; clear f10
    refine boolO e ?_; clear e
    cases a2
    ·
     have f13 := condF f12; clear f12
     exact ⟨false, ⟨rfl, trivial⟩, Option.some.inj f13, H.sel [] rfl⟩
    ·
     have f14 := condT f12; clear f12
     refine fld gok rfl rfl rfl rfl ?_
     refine load1 (H.bx 0 rfl (j := 3) rfl) ?_
     refine lenE (H.rs (α := List Int) 2 rfl).len ?_
     obtain ⟨a3, e, f15⟩ := bindS f14; clear f14
     refine boolO e ?_; clear e
     cases a3
     ·
      have f16 := condF f15; clear f15
      exact ⟨false, ⟨rfl, trivial⟩, Option.some.inj f16, H.sel [] rfl⟩
     ·
      have f17 := condT f15; clear f15
      refine fld gok rfl rfl rfl rfl ?_
      refine load1 (H.bx 0 rfl (j := 2) rfl) ?_
      obtain ⟨a4, e, f18⟩ := bindS f17; clear f17
      refine arO e ?_; clear e
      obtain ⟨y3, e, f19⟩ := bindS f18; clear f18
      have i3 := e; clear e
      refine callF (spec_l1All_c e__2 e__2h 0 a4 y3 i3) (Γi := []) H ⟨Vw.sh 1 rfl, trivial⟩ ?_; clear H i3
      rintro _ _ w6 ⟨rfl, rfl⟩ H
      cases y3
      ·
       have f20 := condF f19; clear f19
       exact ⟨false, ⟨rfl, trivial⟩, Option.some.inj f20, H.sel [] rfl⟩
      ·
       have f21 := condT f19; clear f19
       refine fld gok rfl rfl rfl rfl ?_
       refine load1 (H.bx 0 rfl (j := 3) rfl) ?_
       obtain ⟨a5, e, f22⟩ := bindS f21; clear f21
       refine arO e ?_; clear e
       obtain ⟨y4, e, f23⟩ := bindS f22; clear f22
       have i4 := e; clear e
       refine callF (spec_l1All_c e__3 e__3h 0 a5 y4 i4) (Γi := []) H ⟨Vw.sh 2 rfl, trivial⟩ ?_; clear H i4
       rintro _ _ w7 ⟨rfl, rfl⟩ H
       exact ⟨y4, ⟨rfl, trivial⟩, Option.some.inj f23, H.sel [] rfl⟩
   ·
    clear f10 H
    rintro T1 s1 w8 ⟨hr, (H : Cx w0 fp0 S0 w8 [])⟩
    subst hr
    cases f11
    exact ⟨_, _, rfl, ⟨rfl, rfl⟩, (H.sel [] rfl).close trivial⟩
  ·
   have f24 := condT f1; clear f1
   cases f24
   exact ⟨_, _, rfl, ⟨rfl, rfl⟩, (H.sel [] rfl).close trivial⟩

theorem spec_hgValid_c (g__0 : Int) (g__1 : List (Int × Int × List Int × List Int)) (g__1h : Hd) (g__2 : List Int) (g__2h : Hd) (g__3 : List Int) (g__3h : Hd) (y : Bool) (hF : F_spec_hgValid (g__0, g__1, g__2, g__3) = some y) :
  ConF Tryz.prog 83 #[(.agg #[(.int .i64 g__0), (g__1h).v, (g__2h).v, (g__3h).v])] [Es (List (Int × Int × List Int × List Int)) g__1 g__1h, Es (List Int) g__2 g__2h, Es (List Int) g__3 g__3h] [] (fun v Γ' => v = (.bool y) ∧ Γ' = []) := by
 intro w0 S0 fp0 hI hS
 have H : Cx w0 fp0 S0 w0 [Es (List (Int × Int × List Int × List Int)) g__1 g__1h, Es (List Int) g__2 g__2h, Es (List Int) g__3 g__3h] := Cx.start hI hS
 clear hI hS
 refine enterC (args := [_]) gok Tryz.func83 rfl _ rfl rfl rfl ?_
 refine box_ H ?_; clear H; intro b5 w4 hx H
 clear hx
 refine sq ?_
 obtain ⟨r0, f0, f1⟩ := bindS hF; clear hF
 refine cut (fun (q0 : Bool) => [(1, (.pointer (some ⟨b5, 0, none⟩))), (47, (.bool q0))]) (fun (q0 : Bool) w' => q0 = r0 ∧ Cx w0 fp0 S0 w' [Bx b5 [(.int .i64 g__0), (g__1h).v, (g__2h).v, (g__3h).v], Es (List (Int × Int × List Int × List Int)) g__1 g__1h, Es (List Int) g__2 g__2h, Es (List Int) g__3 g__3h]) ?_ ?_
 ·
  refine fld gok rfl rfl rfl rfl ?_
  refine load1 (H.bx 0 rfl (j := 0) rfl) ?_
  obtain ⟨y0, e, f2⟩ := bindS f0; clear f0
  have i0 := e; clear e
  refine callF (spec_l1In_c g__0 0 100 y0 i0) (Γi := []) H trivial ?_; clear H i0
  rintro _ _ w1 ⟨rfl, rfl⟩ H
  obtain ⟨a0, e, f3⟩ := bindS f2; clear f2
  refine boolO e ?_; clear e
  cases a0
  ·
   have f4 := condF f3; clear f3
   refine fld gok rfl rfl rfl rfl ?_
   refine load1 (H.bx 0 rfl (j := 1) rfl) ?_
   refine lenE (H.rs (α := List (Int × Int × List Int × List Int)) 1 rfl).len ?_
   obtain ⟨a1, e, f5⟩ := bindS f4; clear f4
   refine boolO e ?_; clear e
   cases a1
   ·
    have f6 := condF f5; clear f5
    refine fld gok rfl rfl rfl rfl ?_
    refine load1 (H.bx 0 rfl (j := 2) rfl) ?_
    refine lenE (H.rs (α := List Int) 2 rfl).len ?_
    obtain ⟨a2, e, f7⟩ := bindS f6; clear f6
    refine boolO e ?_; clear e
    cases a2
    ·
     have f8 := condF f7; clear f7
     refine fld gok rfl rfl rfl rfl ?_
     refine load1 (H.bx 0 rfl (j := 3) rfl) ?_
     refine lenE (H.rs (α := List Int) 3 rfl).len ?_
     obtain ⟨a3, e, f9⟩ := bindS f8; clear f8
     refine boolO e ?_; clear e
     cases a3
     ·
      have f10 := condF f9; clear f9
      refine fld gok rfl rfl rfl rfl ?_
      refine load1 (H.bx 0 rfl (j := 2) rfl) ?_
      refine fld gok rfl rfl rfl rfl ?_
      refine load1 (H.bx 0 rfl (j := 0) rfl) ?_
      obtain ⟨a4, e, f11⟩ := bindS f10; clear f10
      refine arO e ?_; clear e
      obtain ⟨y1, e, f12⟩ := bindS f11; clear f11
      have i1 := e; clear e
      refine callF (spec_l1All_c g__2 g__2h 0 a4 y1 i1) (Γi := []) H ⟨Vw.sh 2 rfl, trivial⟩ ?_; clear H i1
      rintro _ _ w2 ⟨rfl, rfl⟩ H
      obtain ⟨a5, e, f13⟩ := bindS f12; clear f12
      refine boolO e ?_; clear e
      cases a5
      ·
       have f14 := condF f13; clear f13
       refine fld gok rfl rfl rfl rfl ?_
       refine load1 (H.bx 0 rfl (j := 3) rfl) ?_
       refine fld gok rfl rfl rfl rfl ?_
       refine load1 (H.bx 0 rfl (j := 0) rfl) ?_
       obtain ⟨a6, e, f15⟩ := bindS f14; clear f14
       refine arO e ?_; clear e
       obtain ⟨y2, e, f16⟩ := bindS f15; clear f15
       have i2 := e; clear e
       refine callF (spec_l1All_c g__3 g__3h 0 a6 y2 i2) (Γi := []) H ⟨Vw.sh 3 rfl, trivial⟩ ?_; clear H i2
       rintro _ _ w3 ⟨rfl, rfl⟩ H
       obtain ⟨a7, e, f17⟩ := bindS f16; clear f16
       refine boolO e ?_; clear e
       exact ⟨a7, ⟨rfl, rfl, trivial⟩, Option.some.inj f17, H.sel [0, 1, 2, 3] rfl⟩
      ·
       have f18 := condT f13; clear f13
       exact ⟨true, ⟨rfl, rfl, trivial⟩, Option.some.inj f18, H.sel [0, 1, 2, 3] rfl⟩
     ·
      have f19 := condT f9; clear f9
      exact ⟨true, ⟨rfl, rfl, trivial⟩, Option.some.inj f19, H.sel [0, 1, 2, 3] rfl⟩
    ·
     have f20 := condT f7; clear f7
     exact ⟨true, ⟨rfl, rfl, trivial⟩, Option.some.inj f20, H.sel [0, 1, 2, 3] rfl⟩
   ·
    have f21 := condT f5; clear f5
    exact ⟨true, ⟨rfl, rfl, trivial⟩, Option.some.inj f21, H.sel [0, 1, 2, 3] rfl⟩
  ·
   have f22 := condT f3; clear f3
   exact ⟨true, ⟨rfl, rfl, trivial⟩, Option.some.inj f22, H.sel [0, 1, 2, 3] rfl⟩
 ·
  clear f0 H
  rintro T0 s0 w5 ⟨hr, (H : Cx w0 fp0 S0 w5 [Bx b5 [(.int .i64 g__0), (g__1h).v, (g__2h).v, (g__3h).v], Es (List (Int × Int × List Int × List Int)) g__1 g__1h, Es (List Int) g__2 g__2h, Es (List Int) g__3 g__3h])⟩
  subst hr
  cases s0
  ·
   have f23 := condF f1; clear f1
   refine sq ?_
   refine fld gok rfl rfl rfl rfl ?_
   refine load1 (H.bx 0 rfl (j := 1) rfl) ?_
   refine lenE (H.rs (α := List (Int × Int × List Int × List Int)) 1 rfl).len ?_
   have x0 := (H.rs (α := List (Int × Int × List Int × List Int)) 1 rfl).max
   obtain ⟨r1, e, f24⟩ := bindS f23; clear f23
   refine loopO _ g__1.length (fun (k0 : Nat) (_ : Unit) (_ : Unit) => [(1, (.pointer (some ⟨b5, 0, none⟩))), (49, (g__1h).v), (50, (.int .i64 ((g__1.length : Nat) : Int))), (51, (.int .i64 ((k0 : Nat) : Int)))]) (fun _ (_ : Unit) (_ : Unit) w' => Cx w0 fp0 S0 w' [Bx b5 [(.int .i64 g__0), (g__1h).v, (g__2h).v, (g__3h).v], Es (List (Int × Int × List Int × List Int)) g__1 g__1h, Es (List Int) g__2 g__2h, Es (List Int) g__3 g__3h]) () () e ⟨rfl, rfl, rfl, rfl, trivial⟩ (H.sel [0, 1, 2, 3] rfl) ?_ ?_
   ·
    clear H e
    rintro T1 k0 _ _ w6 o0 hk (H : Cx w0 fp0 S0 w6 [Bx b5 [(.int .i64 g__0), (g__1h).v, (g__2h).v, (g__3h).v], Es (List (Int × Int × List Int × List Int)) g__1 g__1h, Es (List Int) g__2 g__2h, Es (List Int) g__3 g__3h]) hrt f25
    refine boolE (z := true) (ltLen hk) ?_
    refine sq ?_
    refine sq ?_
    obtain ⟨a8, e, f26⟩ := bindS f25; clear f25
    have HH := H; clear H; obtain ⟨p0, m0, g0, c0, c1, c2, c3, H⟩ := HH.el (α := Int × Int × List Int × List Int) 1 rfl e; clear HH
    clear e
    obtain ⟨a8_0, a8_1, a8_2, a8_3⟩ := a8
    obtain ⟨_, _, h0, h1⟩ := g0
    replace H := H.part (β := List Int) a8_2 (h0 : Hd) 0 rfl (fun S h => (And.left (And.right (And.right h))))
    replace H := H.part (β := List Int) a8_3 (h1 : Hd) 1 rfl (fun S h => (And.right (And.right (And.right h))))
    replace H := H.sel [0, 1, 3, 4, 5, 6] rfl
    refine idxE c0 c1 c2 ?_; clear c0 c1 c2
    refine loadN [(.int .i64 a8_0), (.int .i64 a8_1), (h0).v, (h1).v] rfl c3 ?_; clear c3
    refine alloc_ gok rfl H ?_; clear H; intro b0 w7 hx H
    clear hx
    refine stA gok [(.int .i64 a8_0), (.int .i64 a8_1), (h0).v, (h1).v] rfl H rfl rfl rfl ?_; clear H; intro w8 H
    refine loadN [(.int .i64 a8_0), (.int .i64 a8_1), (h0).v, (h1).v] rfl (fun j u hj => H.bx 0 rfl hj) ?_
    refine fld gok rfl rfl rfl rfl ?_
    refine load1 (H.bx 3 rfl (j := 0) rfl) ?_
    obtain ⟨y3, e, f27⟩ := bindS f26; clear f26
    have i3 := e; clear e
    refine callF (spec_hgEdge_c a8_0 a8_1 a8_2 h0 a8_3 h1 g__0 y3 i3) (Γi := []) H ⟨Vw.sh 2 rfl, Vw.sh 1 rfl, trivial⟩ ?_; clear H i3
    rintro _ _ w9 ⟨rfl, rfl⟩ H
    obtain ⟨a9, e, f28⟩ := bindS f27; clear f27
    refine boolO e ?_; clear e
    cases a9
    ·
     have f29 := condF f28; clear f28
     refine arK hk x0 ?_
     have hs := Option.some.inj f29; subst hs; clear f29
     exact ⟨(), (), rfl, ⟨rfl, rfl, rfl, rfl, trivial⟩, H.sel [3, 4, 5, 6] rfl⟩
    ·
     have f30 := condT f28; clear f28
     have hs := Option.some.inj f30; subst hs; clear f30
     have hr := hrt _ rfl; subst hr
     have f31 : some _ = some _ := f24
     cases f31
     exact ⟨_, _, rfl, ⟨rfl, rfl⟩, (H.sel [] rfl).close trivial⟩
   ·
    clear H e
    rintro T2 _ _ w10 hr (H : Cx w0 fp0 S0 w10 [Bx b5 [(.int .i64 g__0), (g__1h).v, (g__2h).v, (g__3h).v], Es (List (Int × Int × List Int × List Int)) g__1 g__1h, Es (List Int) g__2 g__2h, Es (List Int) g__3 g__3h])
    subst hr
    refine boolE (z := false) geLen ?_
    refine sq ?_
    refine loadN [(.int .i64 g__0), (g__1h).v, (g__2h).v, (g__3h).v] rfl (fun j u hj => H.bx 0 rfl hj) ?_
    obtain ⟨y4, e, f32⟩ := bindS f24; clear f24
    obtain ⟨y4_0, y4_1⟩ := y4
    have i4 := e; clear e
    refine callF (spec_hgCounts_c g__0 g__1 g__1h g__2 g__2h g__3 g__3h y4_0 y4_1 i4) (Γi := []) H ⟨Vw.sh 1 rfl, Vw.sh 2 rfl, Vw.sh 3 rfl, trivial⟩ ?_; clear H i4
    rintro _ _ w11 ⟨h2, h3, rfl, rfl⟩ H
    refine sq ?_
    refine lenE (H.ro (α := List Int) 0 rfl).len ?_
    have x1 := (H.ro (α := List Int) 0 rfl).max
    obtain ⟨r2, e, f33⟩ := bindS f32; clear f32
    refine loopO _ y4_0.length (fun (k1 : Nat) (_ : Unit) (_ : Unit) => [(5, (h2).v), (6, (h3).v), (67, (.int .i64 ((y4_0.length : Nat) : Int))), (68, (.int .i64 ((k1 : Nat) : Int)))]) (fun _ (_ : Unit) (_ : Unit) w' => Cx w0 fp0 S0 w' [E (List Int) y4_0 h2, E (List Int) y4_1 h3]) () () e ⟨rfl, rfl, rfl, rfl, trivial⟩ (H.sel [0, 1] rfl) ?_ ?_
    ·
     clear H e
     rintro T3 k1 _ _ w12 o1 hk (H : Cx w0 fp0 S0 w12 [E (List Int) y4_0 h2, E (List Int) y4_1 h3]) hrt f34
     refine boolE (z := true) (ltLen hk) ?_
     refine sq ?_
     refine sq ?_
     refine heldX H [] (.fst 0 (.fst 1 (.fst 2 (.fst 4 (.fst 5 (.fst 6 (.fst 3 (.fst 7 (.fst 8 (.fst 9 .done)))))))))) mixed [] trivial (by kernel_rfl) ?_
     clear H; intro w13 H
     have hX : Ext w13 w13 := Upd.refl _ _
     have H0 := H
     obtain ⟨a10, e, f35⟩ := bindS f34; clear f34
     obtain ⟨p1, m1, c4, c5, c6, c7⟩ := (H.ro (α := List Int) 0 rfl).at1 e; clear e
     refine idxE c4 c5 c6 ?_; clear c4 c5 c6
     obtain ⟨a11, e, f36⟩ := bindS f35; clear f35
     obtain ⟨p2, m2, c8, c9, c10, c11⟩ := (H.ro (α := List Int) 1 rfl).at1 e; clear e
     refine idxE c8 c9 c10 ?_; clear c8 c9 c10
     refine load1X c7 ?_; clear c7
     refine load1X c11 ?_; clear c11
     obtain ⟨a12, e, f37⟩ := bindS f36; clear f36
     refine arO e ?_; clear e
     obtain ⟨a13, e, f38⟩ := bindS f37; clear f37
     refine boolO e ?_; clear e
     cases a13
     ·
      have f39 := condF f38; clear f38
      refine arK hk x1 ?_
      have hs := Option.some.inj f39; subst hs; clear f39
      exact ⟨(), (), rfl, ⟨rfl, rfl, rfl, rfl, trivial⟩, H.sel [0, 1] rfl⟩
     ·
      have f40 := condT f38; clear f38
      have hs := Option.some.inj f40; subst hs; clear f40
      have hr := hrt _ rfl; subst hr
      have f41 : some _ = some _ := f33
      cases f41
      exact ⟨_, _, rfl, ⟨rfl, rfl⟩, (H.sel [] rfl).close trivial⟩
    ·
     clear H e
     rintro T4 _ _ w14 hr (H : Cx w0 fp0 S0 w14 [E (List Int) y4_0 h2, E (List Int) y4_1 h3])
     subst hr
     refine boolE (z := false) geLen ?_
     refine sq ?_
     cases f33
     exact ⟨_, _, rfl, ⟨rfl, rfl⟩, (H.sel [] rfl).close trivial⟩
  ·
   have f42 := condT f1; clear f1
   cases f42
   exact ⟨_, _, rfl, ⟨rfl, rfl⟩, (H.sel [] rfl).close trivial⟩

theorem spec_hgIf_c (g__0 : Int) (g__1 : List (Int × Int × List Int × List Int)) (g__1h : Hd) (g__2 : List Int) (g__2h : Hd) (g__3 : List Int) (g__3h : Hd) (y0_0 : Int) (y0_1 : List (Int × Int × List Int × List Int)) (y0_2 : List Int) (y0_3 : List Int) (y1 : Bool) (hF : F_spec_hgIf (g__0, g__1, g__2, g__3) = some ((y0_0, y0_1, y0_2, y0_3), y1)) :
  ConS Tryz.prog 54 #[(.agg #[(.int .i64 g__0), (g__1h).v, (g__2h).v, (g__3h).v])] [Es (List (Int × Int × List Int × List Int)) g__1 g__1h, Es (List Int) g__2 g__2h, Es (List Int) g__3 g__3h] [] (fun v Γ' => ∃ z0 z1 z2 : Hd, v = (.tuple #[(.agg #[(.int .i64 y0_0), (z0).v, (z1).v, (z2).v]), (.bool y1)]) ∧ Γ' = [Es (List (Int × Int × List Int × List Int)) y0_1 z0, Es (List Int) y0_2 z1, Es (List Int) y0_3 z2]) := by
 intro w0 S0 fp0 hI hS
 have H : Cx w0 fp0 S0 w0 [Es (List (Int × Int × List Int × List Int)) g__1 g__1h, Es (List Int) g__2 g__2h, Es (List Int) g__3 g__3h] := Cx.start hI hS
 clear hI hS
 refine enterC (args := [_]) gok Tryz.func54 rfl _ rfl rfl rfl ?_
 refine box_ H ?_; clear H; intro b5 w4 hx H
 clear hx
 refine alloc_ gok rfl H ?_; clear H; intro b8 w7 hx H
 clear hx
 refine sq ?_
 refine loadN [(.int .i64 g__0), (g__1h).v, (g__2h).v, (g__3h).v] rfl (fun j u hj => H.bx 1 rfl hj) ?_
 obtain ⟨y0, e, f0⟩ := bindS hF; clear hF
 have i0 := e; clear e
 refine callF (spec_hgValid_c g__0 g__1 g__1h g__2 g__2h g__3 g__3h y0 i0) (Γi := []) H ⟨Vw.sh 2 rfl, Vw.sh 3 rfl, Vw.sh 4 rfl, trivial⟩ ?_; clear H i0
 rintro _ _ w1 ⟨rfl, rfl⟩ H
 obtain ⟨a0, e, f1⟩ := bindS f0; clear f0
 refine boolO e ?_; clear e
 cases a0
 ·
  have f2 := condF f1; clear f1
  refine loadN [(.int .i64 g__0), (g__1h).v, (g__2h).v, (g__3h).v] rfl (fun j u hj => H.bx 1 rfl hj) ?_
  refine stA gok [(.int .i64 g__0), (g__1h).v, (g__2h).v, (g__3h).v] rfl H rfl rfl rfl ?_; clear H; intro w2 H
  refine loadN [(.int .i64 g__0), (g__1h).v, (g__2h).v, (g__3h).v] rfl (fun j u hj => H.bx 0 rfl hj) ?_
  cases f2
  exact ⟨_, _, rfl, ⟨g__1h, g__2h, g__3h, rfl, rfl⟩, (H.sel [2, 3, 4] rfl)⟩
 ·
  have f3 := condT f1; clear f1
  refine build_ (cs := #[(.int .i64 0), (.slice none 0 0), (.slice none 0 0), (.slice none 0 0)]) gok rfl rfl rfl ?_
  refine stA gok [(.int .i64 0), (.slice none 0 0), (.slice none 0 0), (.slice none 0 0)] rfl H rfl rfl rfl ?_; clear H; intro w3 H
  refine loadN [(.int .i64 0), (.slice none 0 0), (.slice none 0 0), (.slice none 0 0)] rfl (fun j u hj => H.bx 0 rfl hj) ?_
  replace H := H.nil (α := Int × Int × List Int × List Int)
  replace H := H.frz
  replace H := H.nil (α := Int)
  replace H := H.frz
  replace H := H.nil (α := Int)
  replace H := H.frz
  cases f3
  exact ⟨_, _, rfl, ⟨nilH, nilH, nilH, rfl, rfl⟩, (H.sel [2, 1, 0] rfl)⟩

theorem spec_hgPar_c (a__0 : Int) (a__1 : List (Int × Int × List Int × List Int)) (a__1h : Hd) (a__2 : List Int) (a__2h : Hd) (a__3 : List Int) (a__3h : Hd) (b__0 : Int) (b__1 : List (Int × Int × List Int × List Int)) (b__1h : Hd) (b__2 : List Int) (b__2h : Hd) (b__3 : List Int) (b__3h : Hd) (y_0 : Int) (y_1 : List (Int × Int × List Int × List Int)) (y_2 : List Int) (y_3 : List Int) (hF : F_spec_hgPar (a__0, a__1, a__2, a__3) (b__0, b__1, b__2, b__3) = some (y_0, y_1, y_2, y_3)) :
  ConF Tryz.prog 56 #[(.agg #[(.int .i64 a__0), (a__1h).v, (a__2h).v, (a__3h).v]), (.agg #[(.int .i64 b__0), (b__1h).v, (b__2h).v, (b__3h).v])] [Es (List (Int × Int × List Int × List Int)) a__1 a__1h, Es (List Int) a__2 a__2h, Es (List Int) a__3 a__3h, Es (List (Int × Int × List Int × List Int)) b__1 b__1h, Es (List Int) b__2 b__2h, Es (List Int) b__3 b__3h] [] (fun v Γ' => ∃ z0 z1 z2 : Hd, v = (.agg #[(.int .i64 y_0), (z0).v, (z1).v, (z2).v]) ∧ Γ' = [E (List (Int × Int × List Int × List Int)) y_1 z0, E (List Int) y_2 z1, E (List Int) y_3 z2]) := by
 intro w0 S0 fp0 hI hS
 have H : Cx w0 fp0 S0 w0 [Es (List (Int × Int × List Int × List Int)) a__1 a__1h, Es (List Int) a__2 a__2h, Es (List Int) a__3 a__3h, Es (List (Int × Int × List Int × List Int)) b__1 b__1h, Es (List Int) b__2 b__2h, Es (List Int) b__3 b__3h] := Cx.start hI hS
 clear hI hS
 refine enterC (args := [_, _]) gok Tryz.func56 rfl _ rfl rfl rfl ?_
 refine box_ H ?_; clear H; intro b8 w7 hx H
 clear hx
 refine box_ H ?_; clear H; intro b0 w1 hx H
 clear hx
 refine alloc_ gok rfl H ?_; clear H; intro b1 w2 hx H
 clear hx
 refine loadN [(.int .i64 a__0), (a__1h).v, (a__2h).v, (a__3h).v] rfl (fun j u hj => H.bx 2 rfl hj) ?_
 refine loadN [(.int .i64 b__0), (b__1h).v, (b__2h).v, (b__3h).v] rfl (fun j u hj => H.bx 1 rfl hj) ?_
 obtain ⟨y0, e, f0⟩ := bindS hF; clear hF
 obtain ⟨y0_0, y0_1, y0_2, y0_3⟩ := y0
 have i0 := e; clear e
 refine callF (spec_hgBeside_c a__0 a__1 a__1h a__2 a__2h a__3 a__3h b__0 b__1 b__1h b__2 b__2h b__3 b__3h y0_0 y0_1 y0_2 y0_3 i0) (Γi := []) H ⟨Vw.sh 3 rfl, Vw.sh 4 rfl, Vw.sh 5 rfl, Vw.sh 6 rfl, Vw.sh 7 rfl, Vw.sh 8 rfl, trivial⟩ ?_; clear H i0
 rintro _ _ w3 ⟨h0, h1, h2, rfl, rfl⟩ H
 replace H := H.sel [3, 0, 1, 2, 4, 5, 6, 7, 8, 9, 10, 11] rfl
 refine stA gok [(.int .i64 y0_0), (h0).v, (h1).v, (h2).v] rfl H rfl rfl rfl ?_; clear H; intro w4 H
 refine loadN [(.int .i64 y0_0), (h0).v, (h1).v, (h2).v] rfl (fun j u hj => H.bx 0 rfl hj) ?_
 cases f0
 exact ⟨_, _, rfl, ⟨h0, h1, h2, rfl, rfl⟩, (H.sel [1, 2, 3] rfl).close ⟨cloE, cloE, cloE, trivial⟩⟩

theorem spec_hgMade_cn : ∀ (fuel : Nat) (t__0 : List (Int × Int × ByteArray)) (t__0h : Hd) (y0_0 : Int) (y0_1 : List (Int × Int × List Int × List Int)) (y0_2 : List Int) (y0_3 : List Int) (y1 : Bool) (hF : F_spec_hgMade_n fuel t__0 = some ((y0_0, y0_1, y0_2, y0_3), y1)),
  ConS Tryz.prog 23 #[(.agg #[(t__0h).v])] [Es (List (Int × Int × ByteArray)) t__0 t__0h] [] (fun v Γ' => ∃ z0 z1 z2 : Hd, v = (.tuple #[(.agg #[(.int .i64 y0_0), (z0).v, (z1).v, (z2).v]), (.bool y1)]) ∧ Γ' = [Es (List (Int × Int × List Int × List Int)) y0_1 z0, Es (List Int) y0_2 z1, Es (List Int) y0_3 z2]) := by
 intro fuel
 induction fuel with
 | zero => intro t__0 t__0h y0_0 y0_1 y0_2 y0_3 y1 hF; cases hF
 | succ fuel ih =>
 intro t__0 t__0h y0_0 y0_1 y0_2 y0_3 y1 hF
 intro w0 S0 fp0 hI hS
 have H : Cx w0 fp0 S0 w0 [Es (List (Int × Int × ByteArray)) t__0 t__0h] := Cx.start hI hS
 clear hI hS
 refine enterC (args := [_]) gok Tryz.func23 rfl _ rfl rfl rfl ?_
 refine box_ H ?_; clear H; intro b3 w2 hx H
 clear hx
 refine alloc_ gok rfl H ?_; clear H; intro b6 w5 hx H
 clear hx
 refine loadN [(t__0h).v] rfl (fun j u hj => H.bx 1 rfl hj) ?_
 obtain ⟨y8, e, hF9⟩ := bindS hF; clear hF
 have ey8 := e; clear e
 refine callF (spec_tmTop_c t__0 t__0h y8 ey8) (Γi := []) H ⟨Vw.sh 2 rfl, trivial⟩ ?_; clear H ey8
 rintro _ _ w1 ⟨rfl, rfl⟩ H
 refine sq ?_
 obtain ⟨a0, e, f0⟩ := bindS hF9; clear hF9
 refine boolO e ?_; clear e
 cases a0
 ·
  have f1 := condF f0; clear f0
  refine loadN [(t__0h).v] rfl (fun j u hj => H.bx 1 rfl hj) ?_
  obtain ⟨y0, e, f2⟩ := bindS f1; clear f1
  obtain ⟨y0_0_0, y0_1_0⟩ := y0
  have i0 := e; clear e
  refine callF (spec_tmParts_c t__0 t__0h y0_0_0 y0_1_0 i0) (Γi := []) H ⟨Vw.sh 2 rfl, trivial⟩ ?_; clear H i0
  rintro _ _ w3 ⟨h0, h1, rfl, rfl⟩ H
  refine alloc_ gok rfl H ?_; clear H; intro b0 w4 hx H
  clear hx
  refine alloc_ gok rfl H ?_; clear H; intro b1 w6 hx H
  clear hx
  replace H := H.sel [1, 0, 2, 3, 4, 5, 6] rfl
  refine stA gok [(h0).v] rfl H rfl rfl rfl ?_; clear H; intro w7 H
  replace H := H.sel [1, 0, 2, 3, 4, 5, 6] rfl
  refine stA gok [(h1).v] rfl H rfl rfl rfl ?_; clear H; intro w8 H
  refine loadN [(h0).v] rfl (fun j u hj => H.bx 1 rfl hj) ?_
  obtain ⟨y2, e, f3⟩ := bindS f2; clear f2
  obtain ⟨⟨y2_0_0, y2_0_1, y2_0_2, y2_0_3⟩, y2_1⟩ := y2
  have i1 := e; clear e
  replace H := H.sel [2, 0, 1, 3, 4, 5, 6] rfl
  replace H := H.frz
  refine callS (ih y0_0_0 h0 y2_0_0 y2_0_1 y2_0_2 y2_0_3 y2_1 i1) (Γi := []) H [0] rfl (persC persS persN) ?_; clear H i1
  rintro _ _ w9 ⟨h2, h3, h4, rfl, rfl⟩ H
  refine alloc_ gok rfl H ?_; clear H; intro b2 w11 hx H
  clear hx
  refine stA gok [(.int .i64 y2_0_0), (h2).v, (h3).v, (h4).v] rfl H rfl rfl rfl ?_; clear H; intro w12 H
  refine loadN [(h1).v] rfl (fun j u hj => H.bx 5 rfl hj) ?_
  obtain ⟨y3, e, f4⟩ := bindS f3; clear f3
  obtain ⟨⟨y3_0_0, y3_0_1, y3_0_2, y3_0_3⟩, y3_1⟩ := y3
  have i2 := e; clear e
  replace H := H.sel [7, 0, 1, 2, 3, 4, 5, 6, 8, 9, 10] rfl
  replace H := H.frz
  refine callS (ih y0_1_0 h1 y3_0_0 y3_0_1 y3_0_2 y3_0_3 y3_1 i2) (Γi := []) H [0] rfl (persC persS persN) ?_; clear H i2
  rintro _ _ w13 ⟨h5, h6, h7, rfl, rfl⟩ H
  refine alloc_ gok rfl H ?_; clear H; intro b4 w14 hx H
  clear hx
  refine stA gok [(.int .i64 y3_0_0), (h5).v, (h6).v, (h7).v] rfl H rfl rfl rfl ?_; clear H; intro w15 H
  refine sq ?_
  obtain ⟨r0, f5, f6⟩ := bindS f4; clear f4
  refine cut (fun (q0 : Bool) => [(2, (.pointer (some ⟨b6, 0, none⟩))), (4, (.int .i64 y8)), (7, (.pointer (some ⟨b2, 0, none⟩))), (9, (.pointer (some ⟨b4, 0, none⟩))), (40, (.bool q0))]) (fun (q0 : Bool) w' => q0 = r0 ∧ Cx w0 fp0 S0 w' [Bx b6 [(.int .i64 0), (.slice none 0 0), (.slice none 0 0), (.slice none 0 0)], Bx b2 [(.int .i64 y2_0_0), (h2).v, (h3).v, (h4).v], Es (List (Int × Int × List Int × List Int)) y2_0_1 h2, Es (List Int) y2_0_2 h3, Es (List Int) y2_0_3 h4, Bx b4 [(.int .i64 y3_0_0), (h5).v, (h6).v, (h7).v], Es (List (Int × Int × List Int × List Int)) y3_0_1 h5, Es (List Int) y3_0_2 h6, Es (List Int) y3_0_3 h7]) ?_ ?_
  ·
   obtain ⟨a1, e, f7⟩ := bindS f5; clear f5
   refine boolO e ?_; clear e
   cases a1
   ·
    have f8 := condF f7; clear f7
    obtain ⟨a2, e, f9⟩ := bindS f8; clear f8
    refine boolO e ?_; clear e
    exact ⟨a2, ⟨rfl, rfl, rfl, rfl, rfl, trivial⟩, Option.some.inj f9, H.sel [12, 5, 6, 7, 8, 0, 1, 2, 3] rfl⟩
   ·
    have f10 := condT f7; clear f7
    exact ⟨true, ⟨rfl, rfl, rfl, rfl, rfl, trivial⟩, Option.some.inj f10, H.sel [12, 5, 6, 7, 8, 0, 1, 2, 3] rfl⟩
  ·
   clear f5 H
   rintro T0 s0 w17 ⟨hr, (H : Cx w0 fp0 S0 w17 [Bx b6 [(.int .i64 0), (.slice none 0 0), (.slice none 0 0), (.slice none 0 0)], Bx b2 [(.int .i64 y2_0_0), (h2).v, (h3).v, (h4).v], Es (List (Int × Int × List Int × List Int)) y2_0_1 h2, Es (List Int) y2_0_2 h3, Es (List Int) y2_0_3 h4, Bx b4 [(.int .i64 y3_0_0), (h5).v, (h6).v, (h7).v], Es (List (Int × Int × List Int × List Int)) y3_0_1 h5, Es (List Int) y3_0_2 h6, Es (List Int) y3_0_3 h7])⟩
   subst hr
   cases s0
   ·
    have f11 := condF f6; clear f6
    refine sq ?_
    obtain ⟨a3, e, f12⟩ := bindS f11; clear f11
    refine boolO e ?_; clear e
    cases a3
    ·
     have f13 := condF f12; clear f12
     refine loadN [(.int .i64 y2_0_0), (h2).v, (h3).v, (h4).v] rfl (fun j u hj => H.bx 1 rfl hj) ?_
     refine loadN [(.int .i64 y3_0_0), (h5).v, (h6).v, (h7).v] rfl (fun j u hj => H.bx 5 rfl hj) ?_
     obtain ⟨y4, e, f14⟩ := bindS f13; clear f13
     obtain ⟨y4_0, y4_1, y4_2, y4_3⟩ := y4
     have i3 := e; clear e
     refine callF (spec_hgPar_c y2_0_0 y2_0_1 h2 y2_0_2 h3 y2_0_3 h4 y3_0_0 y3_0_1 h5 y3_0_2 h6 y3_0_3 h7 y4_0 y4_1 y4_2 y4_3 i3) (Γi := []) H ⟨Vw.sh 2 rfl, Vw.sh 3 rfl, Vw.sh 4 rfl, Vw.sh 6 rfl, Vw.sh 7 rfl, Vw.sh 8 rfl, trivial⟩ ?_; clear H i3
     rintro _ _ w18 ⟨h8, h9, h10, rfl, rfl⟩ H
     obtain ⟨y5, e, f15⟩ := bindS f14; clear f14
     obtain ⟨⟨y5_0_0, y5_0_1, y5_0_2, y5_0_3⟩, y5_1⟩ := y5
     have i4 := e; clear e
     replace H := H.frz
     replace H := H.sel [1, 0, 2, 3, 4, 5, 6, 7, 8, 9, 10, 11] rfl
     replace H := H.frz
     replace H := H.sel [2, 0, 1, 3, 4, 5, 6, 7, 8, 9, 10, 11] rfl
     replace H := H.frz
     refine callS (spec_hgIf_c y4_0 y4_1 h8 y4_2 h9 y4_3 h10 y5_0_0 y5_0_1 y5_0_2 y5_0_3 y5_1 i4) (Γi := []) H [2, 1, 0] rfl (persC persS (persC persS (persC persS persN))) ?_; clear H i4
     rintro _ _ w19 ⟨h11, h12, h13, rfl, rfl⟩ H
     replace H := H.sel [6, 0, 1, 2, 3, 4, 5, 7, 8, 9, 10, 11, 12, 13, 14] rfl
     refine stA gok [(.int .i64 y5_0_0), (h11).v, (h12).v, (h13).v] rfl H rfl rfl rfl ?_; clear H; intro w20 H
     refine loadN [(.int .i64 y5_0_0), (h11).v, (h12).v, (h13).v] rfl (fun j u hj => H.bx 0 rfl hj) ?_
     cases f15
     exact ⟨_, _, rfl, ⟨h11, h12, h13, rfl, rfl⟩, (H.sel [1, 2, 3] rfl)⟩
    ·
     have f16 := condT f12; clear f12
     refine loadN [(.int .i64 y2_0_0), (h2).v, (h3).v, (h4).v] rfl (fun j u hj => H.bx 1 rfl hj) ?_
     refine loadN [(.int .i64 y3_0_0), (h5).v, (h6).v, (h7).v] rfl (fun j u hj => H.bx 5 rfl hj) ?_
     obtain ⟨y6, e, f17⟩ := bindS f16; clear f16
     obtain ⟨y6_0, y6_1, y6_2, y6_3⟩ := y6
     have i5 := e; clear e
     refine callF (spec_hgSeq_c y2_0_0 y2_0_1 h2 y2_0_2 h3 y2_0_3 h4 y3_0_0 y3_0_1 h5 y3_0_2 h6 y3_0_3 h7 y6_0 y6_1 y6_2 y6_3 i5) (Γi := []) H ⟨Vw.sh 2 rfl, Vw.sh 3 rfl, Vw.sh 4 rfl, Vw.sh 6 rfl, Vw.sh 7 rfl, Vw.sh 8 rfl, trivial⟩ ?_; clear H i5
     rintro _ _ w22 ⟨h14, h15, h16, rfl, rfl⟩ H
     obtain ⟨y7, e, f18⟩ := bindS f17; clear f17
     obtain ⟨⟨y7_0_0, y7_0_1, y7_0_2, y7_0_3⟩, y7_1⟩ := y7
     have i6 := e; clear e
     replace H := H.frz
     replace H := H.sel [1, 0, 2, 3, 4, 5, 6, 7, 8, 9, 10, 11] rfl
     replace H := H.frz
     replace H := H.sel [2, 0, 1, 3, 4, 5, 6, 7, 8, 9, 10, 11] rfl
     replace H := H.frz
     refine callS (spec_hgIf_c y6_0 y6_1 h14 y6_2 h15 y6_3 h16 y7_0_0 y7_0_1 y7_0_2 y7_0_3 y7_1 i6) (Γi := []) H [2, 1, 0] rfl (persC persS (persC persS (persC persS persN))) ?_; clear H i6
     rintro _ _ w23 ⟨h18, h20, h21, rfl, rfl⟩ H
     replace H := H.sel [6, 0, 1, 2, 3, 4, 5, 7, 8, 9, 10, 11, 12, 13, 14] rfl
     refine stA gok [(.int .i64 y7_0_0), (h18).v, (h20).v, (h21).v] rfl H rfl rfl rfl ?_; clear H; intro w25 H
     refine loadN [(.int .i64 y7_0_0), (h18).v, (h20).v, (h21).v] rfl (fun j u hj => H.bx 0 rfl hj) ?_
     cases f18
     exact ⟨_, _, rfl, ⟨h18, h20, h21, rfl, rfl⟩, (H.sel [1, 2, 3] rfl)⟩
   ·
    have f19 := condT f6; clear f6
    refine build_ (cs := #[(.int .i64 0), (.slice none 0 0), (.slice none 0 0), (.slice none 0 0)]) gok rfl rfl rfl ?_
    refine stA gok [(.int .i64 0), (.slice none 0 0), (.slice none 0 0), (.slice none 0 0)] rfl H rfl rfl rfl ?_; clear H; intro w26 H
    refine loadN [(.int .i64 0), (.slice none 0 0), (.slice none 0 0), (.slice none 0 0)] rfl (fun j u hj => H.bx 0 rfl hj) ?_
    replace H := H.nil (α := Int × Int × List Int × List Int)
    replace H := H.frz
    replace H := H.nil (α := Int)
    replace H := H.frz
    replace H := H.nil (α := Int)
    replace H := H.frz
    cases f19
    exact ⟨_, _, rfl, ⟨nilH, nilH, nilH, rfl, rfl⟩, (H.sel [2, 1, 0] rfl)⟩
 ·
  have f20 := condT f0; clear f0
  refine fld gok rfl rfl rfl rfl ?_
  refine load1 (H.bx 1 rfl (j := 0) rfl) ?_
  obtain ⟨a4, e, f21⟩ := bindS f20; clear f20
  have HH := H; clear H; obtain ⟨p0, m0, g0, c0, c1, c2, c3, H⟩ := HH.el (α := Int × Int × ByteArray) 2 rfl e; clear HH
  clear e
  obtain ⟨a4_0, a4_1, a4_2⟩ := a4
  obtain ⟨_, _, _⟩ := g0
  replace H := H.sel [1, 2, 3] rfl
  refine idxE c0 c1 c2 ?_; clear c0 c1 c2
  refine loadN [(.int .i64 a4_0), (.int .i64 a4_1), (.string a4_2)] rfl c3 ?_; clear c3
  obtain ⟨y9, e, f22⟩ := bindS f21; clear f21
  obtain ⟨y9_0, y9_1, y9_2, y9_3⟩ := y9
  have i7 := e; clear e
  refine callF (spec_hgLeaf_c a4_0 a4_1 a4_2 y9_0 y9_1 y9_2 y9_3 i7) (Γi := []) H trivial ?_; clear H i7
  rintro _ _ w29 ⟨h22, h23, h24, rfl, rfl⟩ H
  replace H := H.sel [3, 0, 1, 2, 4, 5] rfl
  refine stA gok [(.int .i64 y9_0), (h22).v, (h23).v, (h24).v] rfl H rfl rfl rfl ?_; clear H; intro w30 H
  refine loadN [(.int .i64 y9_0), (h22).v, (h23).v, (h24).v] rfl (fun j u hj => H.bx 0 rfl hj) ?_
  replace H := H.sel [1, 0, 2, 3, 4, 5] rfl
  replace H := H.frz
  replace H := H.sel [2, 0, 1, 3, 4, 5] rfl
  replace H := H.frz
  replace H := H.sel [3, 0, 1, 2, 4, 5] rfl
  replace H := H.frz
  cases f22
  exact ⟨_, _, rfl, ⟨h22, h23, h24, rfl, rfl⟩, (H.sel [2, 1, 0] rfl)⟩
theorem spec_hgMade_c (t__0 : List (Int × Int × ByteArray)) (t__0h : Hd) (y0_0 : Int) (y0_1 : List (Int × Int × List Int × List Int)) (y0_2 : List Int) (y0_3 : List Int) (y1 : Bool) (hF : F_spec_hgMade t__0 = some ((y0_0, y0_1, y0_2, y0_3), y1)) :
  ConS Tryz.prog 23 #[(.agg #[(t__0h).v])] [Es (List (Int × Int × ByteArray)) t__0 t__0h] [] (fun v Γ' => ∃ z0 z1 z2 : Hd, v = (.tuple #[(.agg #[(.int .i64 y0_0), (z0).v, (z1).v, (z2).v]), (.bool y1)]) ∧ Γ' = [Es (List (Int × Int × List Int × List Int)) y0_1 z0, Es (List Int) y0_2 z1, Es (List Int) y0_3 z2]) := spec_hgMade_cn _ t__0 t__0h y0_0 y0_1 y0_2 y0_3 y1 hF

theorem spec_GraphOf_c (t__0 : List (Int × Int × ByteArray)) (t__0h : Hd) (y0_0 : Int) (y0_1 : List (Int × Int × List Int × List Int)) (y0_2 : List Int) (y0_3 : List Int) (y1 : Bool) (hF : F_spec_GraphOf t__0 = some ((y0_0, y0_1, y0_2, y0_3), y1)) :
  ConS Tryz.prog 12 #[(.agg #[(t__0h).v])] [Es (List (Int × Int × ByteArray)) t__0 t__0h] [] (fun v Γ' => ∃ z0 z1 z2 : Hd, v = (.tuple #[(.agg #[(.int .i64 y0_0), (z0).v, (z1).v, (z2).v]), (.bool y1)]) ∧ Γ' = [Es (List (Int × Int × List Int × List Int)) y0_1 z0, Es (List Int) y0_2 z1, Es (List Int) y0_3 z2]) := by
 intro w0 S0 fp0 hI hS
 have H : Cx w0 fp0 S0 w0 [Es (List (Int × Int × ByteArray)) t__0 t__0h] := Cx.start hI hS
 clear hI hS
 refine enterC (args := [_]) gok Tryz.func12 rfl _ rfl rfl rfl ?_
 refine box_ H ?_; clear H; intro b3 w2 hx H
 clear hx
 refine alloc_ gok rfl H ?_; clear H; intro b6 w5 hx H
 clear hx
 refine sq ?_
 refine loadN [(t__0h).v] rfl (fun j u hj => H.bx 1 rfl hj) ?_
 obtain ⟨y8, e, hF9⟩ := bindS hF; clear hF
 have ey8 := e; clear e
 refine callF (spec_tmValid_c t__0 t__0h y8 ey8) (Γi := []) H ⟨Vw.sh 2 rfl, trivial⟩ ?_; clear H ey8
 rintro _ _ w1 ⟨rfl, rfl⟩ H
 obtain ⟨a0, e, f0⟩ := bindS hF9; clear hF9
 refine boolO e ?_; clear e
 cases a0
 ·
  have f1 := condF f0; clear f0
  refine loadN [(t__0h).v] rfl (fun j u hj => H.bx 1 rfl hj) ?_
  obtain ⟨y0, e, f2⟩ := bindS f1; clear f1
  obtain ⟨⟨y0_0_0, y0_0_1, y0_0_2, y0_0_3⟩, y0_1⟩ := y0
  have i0 := e; clear e
  refine callS (spec_hgMade_c t__0 t__0h y0_0_0 y0_0_1 y0_0_2 y0_0_3 y0_1 i0) (Γi := []) H [2] rfl (persC persS persN) ?_; clear H i0
  rintro _ _ w3 ⟨h0, h1, h2, rfl, rfl⟩ H
  replace H := H.sel [3, 0, 1, 2, 4, 5] rfl
  refine stA gok [(.int .i64 y0_0_0), (h0).v, (h1).v, (h2).v] rfl H rfl rfl rfl ?_; clear H; intro w4 H
  refine loadN [(.int .i64 y0_0_0), (h0).v, (h1).v, (h2).v] rfl (fun j u hj => H.bx 0 rfl hj) ?_
  cases f2
  exact ⟨_, _, rfl, ⟨h0, h1, h2, rfl, rfl⟩, (H.sel [1, 2, 3] rfl)⟩
 ·
  have f3 := condT f0; clear f0
  refine build_ (cs := #[(.int .i64 0), (.slice none 0 0), (.slice none 0 0), (.slice none 0 0)]) gok rfl rfl rfl ?_
  refine stA gok [(.int .i64 0), (.slice none 0 0), (.slice none 0 0), (.slice none 0 0)] rfl H rfl rfl rfl ?_; clear H; intro w6 H
  refine loadN [(.int .i64 0), (.slice none 0 0), (.slice none 0 0), (.slice none 0 0)] rfl (fun j u hj => H.bx 0 rfl hj) ?_
  replace H := H.nil (α := Int × Int × List Int × List Int)
  replace H := H.frz
  replace H := H.nil (α := Int)
  replace H := H.frz
  replace H := H.nil (α := Int)
  replace H := H.frz
  cases f3
  exact ⟨_, _, rfl, ⟨nilH, nilH, nilH, rfl, rfl⟩, (H.sel [2, 1, 0] rfl)⟩

theorem spec_l1Has_c (l_ : List Int) (l_h : Hd) (n_ : Int) (y : Bool) (hF : F_spec_l1Has l_ n_ = some y) :
  ConF Tryz.prog 89 #[(l_h).v, (.int .i64 n_)] [Es (List Int) l_ l_h] [] (fun v Γ' => v = (.bool y) ∧ Γ' = []) := by
 intro w0 S0 fp0 hI hS
 have H : Cx w0 fp0 S0 w0 [Es (List Int) l_ l_h] := Cx.start hI hS
 clear hI hS
 refine enterC (args := [_, _]) gok Tryz.func89 rfl _ rfl rfl rfl ?_
 refine sq ?_
 refine lenE (H.rs (α := List Int) 0 rfl).len ?_
 have x0 := (H.rs (α := List Int) 0 rfl).max
 obtain ⟨r0, e, f0⟩ := bindS hF; clear hF
 refine loopO _ l_.length (fun (k2 : Nat) (_ : Unit) (_ : Unit) => [(1, (.int .i64 n_)), (7, (l_h).v), (8, (.int .i64 ((l_.length : Nat) : Int))), (9, (.int .i64 ((k2 : Nat) : Int)))]) (fun _ (_ : Unit) (_ : Unit) w' => Cx w0 fp0 S0 w' [Es (List Int) l_ l_h]) () () e ⟨rfl, rfl, rfl, rfl, trivial⟩ (H.sel [0] rfl) ?_ ?_
 ·
  clear H e
  rintro T0 k2 _ _ w1 o0 hk (H : Cx w0 fp0 S0 w1 [Es (List Int) l_ l_h]) hrt f1
  refine boolE (z := true) (ltLen hk) ?_
  refine sq ?_
  refine sq ?_
  obtain ⟨a0, e, f2⟩ := bindS f1; clear f1
  obtain ⟨p0, m0, c0, c1, c2, c3⟩ := (H.rs (α := List Int) 0 rfl).at1 e; clear e
  refine idxE c0 c1 c2 ?_; clear c0 c1 c2
  refine load1 c3 ?_; clear c3
  obtain ⟨a1, e, f3⟩ := bindS f2; clear f2
  refine boolO e ?_; clear e
  cases a1
  ·
   have f4 := condF f3; clear f3
   refine arK hk x0 ?_
   have hs := Option.some.inj f4; subst hs; clear f4
   exact ⟨(), (), rfl, ⟨rfl, rfl, rfl, rfl, trivial⟩, H.sel [0] rfl⟩
  ·
   have f5 := condT f3; clear f3
   have hs := Option.some.inj f5; subst hs; clear f5
   have hr := hrt _ rfl; subst hr
   have f6 : some _ = some _ := f0
   cases f6
   exact ⟨_, _, rfl, ⟨rfl, rfl⟩, (H.sel [] rfl).close trivial⟩
 ·
  clear H e
  rintro T1 _ _ w2 hr (H : Cx w0 fp0 S0 w2 [Es (List Int) l_ l_h])
  subst hr
  refine boolE (z := false) geLen ?_
  refine sq ?_
  cases f0
  exact ⟨_, _, rfl, ⟨rfl, rfl⟩, (H.sel [] rfl).close trivial⟩

theorem spec_hgMeets_c (a_ : List Int) (a_h : Hd) (b_ : List Int) (b_h : Hd) (y : Bool) (hF : F_spec_hgMeets a_ b_ = some y) :
  ConF Tryz.prog 66 #[(a_h).v, (b_h).v] [Es (List Int) a_ a_h, Es (List Int) b_ b_h] [] (fun v Γ' => v = (.bool y) ∧ Γ' = []) := by
 intro w0 S0 fp0 hI hS
 have H : Cx w0 fp0 S0 w0 [Es (List Int) a_ a_h, Es (List Int) b_ b_h] := Cx.start hI hS
 clear hI hS
 refine enterC (args := [_, _]) gok Tryz.func66 rfl _ rfl rfl rfl ?_
 refine sq ?_
 refine lenE (H.rs (α := List Int) 0 rfl).len ?_
 have x0 := (H.rs (α := List Int) 0 rfl).max
 obtain ⟨r0, e, f0⟩ := bindS hF; clear hF
 refine loopO _ a_.length (fun (k3 : Nat) (_ : Unit) (_ : Unit) => [(1, (b_h).v), (7, (a_h).v), (8, (.int .i64 ((a_.length : Nat) : Int))), (9, (.int .i64 ((k3 : Nat) : Int)))]) (fun _ (_ : Unit) (_ : Unit) w' => Cx w0 fp0 S0 w' [Es (List Int) b_ b_h, Es (List Int) a_ a_h]) () () e ⟨rfl, rfl, rfl, rfl, trivial⟩ (H.sel [1, 0] rfl) ?_ ?_
 ·
  clear H e
  rintro T0 k3 _ _ w1 o0 hk (H : Cx w0 fp0 S0 w1 [Es (List Int) b_ b_h, Es (List Int) a_ a_h]) hrt f1
  refine boolE (z := true) (ltLen hk) ?_
  refine sq ?_
  refine sq ?_
  obtain ⟨a0, e, f2⟩ := bindS f1; clear f1
  obtain ⟨p0, m0, c0, c1, c2, c3⟩ := (H.rs (α := List Int) 1 rfl).at1 e; clear e
  refine idxE c0 c1 c2 ?_; clear c0 c1 c2
  refine load1 c3 ?_; clear c3
  obtain ⟨y0, e, f3⟩ := bindS f2; clear f2
  have i0 := e; clear e
  refine callF (spec_l1Has_c b_ b_h a0 y0 i0) (Γi := []) H ⟨Vw.sh 0 rfl, trivial⟩ ?_; clear H i0
  rintro _ _ w2 ⟨rfl, rfl⟩ H
  cases y0
  ·
   have f4 := condF f3; clear f3
   refine arK hk x0 ?_
   have hs := Option.some.inj f4; subst hs; clear f4
   exact ⟨(), (), rfl, ⟨rfl, rfl, rfl, rfl, trivial⟩, H.sel [0, 1] rfl⟩
  ·
   have f5 := condT f3; clear f3
   have hs := Option.some.inj f5; subst hs; clear f5
   have hr := hrt _ rfl; subst hr
   have f6 : some _ = some _ := f0
   cases f6
   exact ⟨_, _, rfl, ⟨rfl, rfl⟩, (H.sel [] rfl).close trivial⟩
 ·
  clear H e
  rintro T1 _ _ w3 hr (H : Cx w0 fp0 S0 w3 [Es (List Int) b_ b_h, Es (List Int) a_ a_h])
  subst hr
  refine boolE (z := false) geLen ?_
  refine sq ?_
  cases f0
  exact ⟨_, _, rfl, ⟨rfl, rfl⟩, (H.sel [] rfl).close trivial⟩

theorem spec_hgOrder_c (g__0 : Int) (g__1 : List (Int × Int × List Int × List Int)) (g__1h : Hd) (g__2 : List Int) (g__2h : Hd) (g__3 : List Int) (g__3h : Hd) (y : List Int) (hF : F_spec_hgOrder (g__0, g__1, g__2, g__3) = some y) :
  ConF Tryz.prog 27 #[(.agg #[(.int .i64 g__0), (g__1h).v, (g__2h).v, (g__3h).v])] [Es (List (Int × Int × List Int × List Int)) g__1 g__1h, Es (List Int) g__2 g__2h, Es (List Int) g__3 g__3h] [] (fun v Γ' => ∃ z0 : Hd, v = (z0).v ∧ Γ' = [E (List Int) y z0]) := by
 intro w0 S0 fp0 hI hS
 have H : Cx w0 fp0 S0 w0 [Es (List (Int × Int × List Int × List Int)) g__1 g__1h, Es (List Int) g__2 g__2h, Es (List Int) g__3 g__3h] := Cx.start hI hS
 clear hI hS
 refine enterC (args := [_]) gok Tryz.func27 rfl _ rfl rfl rfl ?_
 refine box_ H ?_; clear H; intro b5 w4 hx H
 clear hx
 refine fld gok rfl rfl rfl rfl ?_
 refine load1 (H.bx 0 rfl (j := 1) rfl) ?_
 refine lenE (H.rs (α := List (Int × Int × List Int × List Int)) 1 rfl).len ?_
 obtain ⟨a7, e, hF8⟩ := bindS hF; clear hF
 refine make_ (α := Bool) gok rfl rfl rfl rfl (makeCO_of e) H ?_; clear e H; intro h0 w9 hx H
 clear hx
 replace H := H.nil (α := Int)
 refine loopW _ (fun (s0 : List Bool × List Int) (g0 : Hd) => [(1, (.pointer (some ⟨b5, 0, none⟩))), (3, (g0).v), (4, (h0).v)]) (fun (s0 : List Bool × List Int) (g0 : Hd) w' => Cx w0 fp0 S0 w' [Bx b5 [(.int .i64 g__0), (g__1h).v, (g__2h).v, (g__3h).v], Es (List (Int × Int × List Int × List Int)) g__1 g__1h, Es (List Int) g__2 g__2h, Es (List Int) g__3 g__3h, E (List Int) s0.2 g0, E (List Bool) s0.1 h0]) (a7, []) nilH hF8 ⟨rfl, rfl, rfl, trivial⟩ (H.sel [2, 3, 4, 5, 0, 1] rfl) ?_
 ·
  clear H
  rintro T0 ⟨s0_0, s0_1⟩ g0 w1 o0 (H : Cx w0 fp0 S0 w1 [Bx b5 [(.int .i64 g__0), (g__1h).v, (g__2h).v, (g__3h).v], Es (List (Int × Int × List Int × List Int)) g__1 g__1h, Es (List Int) g__2 g__2h, Es (List Int) g__3 g__3h, E (List Int) s0_1 g0, E (List Bool) s0_0 h0]) hrt f0
  refine sq ?_
  refine fld gok rfl rfl rfl rfl ?_
  refine load1 (H.bx 0 rfl (j := 1) rfl) ?_
  refine lenE (H.rs (α := List (Int × Int × List Int × List Int)) 1 rfl).len ?_
  have x0 := (H.rs (α := List (Int × Int × List Int × List Int)) 1 rfl).max
  obtain ⟨r0, e, f1⟩ := bindS f0; clear f0
  refine loopS _ g__1.length (fun (k0 : Nat) (s1 : Int) (_ : Unit) => [(1, (.pointer (some ⟨b5, 0, none⟩))), (3, (g0).v), (4, (h0).v), (5, (.int .i64 s1)), (15, (.int .i64 ((g__1.length : Nat) : Int))), (16, (.int .i64 ((k0 : Nat) : Int)))]) (fun _ (s1 : Int) (_ : Unit) w' => Cx w0 fp0 S0 w' [Bx b5 [(.int .i64 g__0), (g__1h).v, (g__2h).v, (g__3h).v], Es (List (Int × Int × List Int × List Int)) g__1 g__1h, Es (List Int) g__2 g__2h, Es (List Int) g__3 g__3h, E (List Int) s0_1 g0, E (List Bool) s0_0 h0]) (-1) () e ⟨rfl, rfl, rfl, rfl, rfl, rfl, trivial⟩ (H.sel [0, 1, 2, 3, 4, 5] rfl) ?_ ?_
  ·
   clear H e
   rintro T1 k0 s1 _ w2 o1 hk (H : Cx w0 fp0 S0 w2 [Bx b5 [(.int .i64 g__0), (g__1h).v, (g__2h).v, (g__3h).v], Es (List (Int × Int × List Int × List Int)) g__1 g__1h, Es (List Int) g__2 g__2h, Es (List Int) g__3 g__3h, E (List Int) s0_1 g0, E (List Bool) s0_0 h0]) f2
   refine boolE (z := true) (ltLen hk) ?_
   refine sq ?_
   obtain ⟨r1, f3, f4⟩ := bindS f2; clear f2
   refine cut (fun (q0 : Int) => [(1, (.pointer (some ⟨b5, 0, none⟩))), (3, (g0).v), (4, (h0).v), (5, (.int .i64 q0)), (15, (.int .i64 ((g__1.length : Nat) : Int))), (16, (.int .i64 ((k0 : Nat) : Int)))]) (fun (q0 : Int) w' => q0 = r1 ∧ Cx w0 fp0 S0 w' [Bx b5 [(.int .i64 g__0), (g__1h).v, (g__2h).v, (g__3h).v], Es (List (Int × Int × List Int × List Int)) g__1 g__1h, Es (List Int) g__2 g__2h, Es (List Int) g__3 g__3h, E (List Int) s0_1 g0, E (List Bool) s0_0 h0]) ?_ ?_
   ·
    refine sq ?_
    obtain ⟨r2, f5, f6⟩ := bindS f3; clear f3
    refine cut (fun (q1 : Bool) => [(1, (.pointer (some ⟨b5, 0, none⟩))), (3, (g0).v), (4, (h0).v), (5, (.int .i64 s1)), (6, (.int .i64 ((k0 : Nat) : Int))), (15, (.int .i64 ((g__1.length : Nat) : Int))), (16, (.int .i64 ((k0 : Nat) : Int))), (26, (.bool q1))]) (fun (q1 : Bool) w' => q1 = r2 ∧ Cx w0 fp0 S0 w' [Bx b5 [(.int .i64 g__0), (g__1h).v, (g__2h).v, (g__3h).v], Es (List (Int × Int × List Int × List Int)) g__1 g__1h, Es (List Int) g__2 g__2h, Es (List Int) g__3 g__3h, E (List Int) s0_1 g0, E (List Bool) s0_0 h0]) ?_ ?_
    ·
     obtain ⟨a0, e, f7⟩ := bindS f5; clear f5
     obtain ⟨p0, m0, c0, c1, c2, c3⟩ := (H.ro (α := List Bool) 5 rfl).at1 e; clear e
     refine idxE c0 c1 c2 ?_; clear c0 c1 c2
     refine load1 c3 ?_; clear c3
     cases a0
     ·
      have f8 := condF f7; clear f7
      obtain ⟨a1, e, f9⟩ := bindS f8; clear f8
      refine boolO e ?_; clear e
      exact ⟨a1, ⟨rfl, rfl, rfl, rfl, rfl, rfl, rfl, rfl, trivial⟩, Option.some.inj f9, H.sel [0, 1, 2, 3, 4, 5] rfl⟩
     ·
      have f10 := condT f7; clear f7
      exact ⟨true, ⟨rfl, rfl, rfl, rfl, rfl, rfl, rfl, rfl, trivial⟩, Option.some.inj f10, H.sel [0, 1, 2, 3, 4, 5] rfl⟩
    ·
     clear f5 H
     rintro T2 s2 w3 ⟨hr, (H : Cx w0 fp0 S0 w3 [Bx b5 [(.int .i64 g__0), (g__1h).v, (g__2h).v, (g__3h).v], Es (List (Int × Int × List Int × List Int)) g__1 g__1h, Es (List Int) g__2 g__2h, Es (List Int) g__3 g__3h, E (List Int) s0_1 g0, E (List Bool) s0_0 h0])⟩
     subst hr
     cases s2
     ·
      have f11 := condF f6; clear f6
      refine sq ?_
      refine fld gok rfl rfl rfl rfl ?_
      refine load1 (H.bx 0 rfl (j := 1) rfl) ?_
      refine lenE (H.rs (α := List (Int × Int × List Int × List Int)) 1 rfl).len ?_
      have x1 := (H.rs (α := List (Int × Int × List Int × List Int)) 1 rfl).max
      obtain ⟨r3, e, f12⟩ := bindS f11; clear f11
      refine loopS _ g__1.length (fun (k1 : Nat) (s3 : Bool) (_ : Unit) => [(1, (.pointer (some ⟨b5, 0, none⟩))), (3, (g0).v), (4, (h0).v), (5, (.int .i64 s1)), (6, (.int .i64 ((k0 : Nat) : Int))), (7, (.bool s3)), (15, (.int .i64 ((g__1.length : Nat) : Int))), (16, (.int .i64 ((k0 : Nat) : Int))), (29, (.int .i64 ((g__1.length : Nat) : Int))), (30, (.int .i64 ((k1 : Nat) : Int)))]) (fun _ (s3 : Bool) (_ : Unit) w' => Cx w0 fp0 S0 w' [Bx b5 [(.int .i64 g__0), (g__1h).v, (g__2h).v, (g__3h).v], Es (List (Int × Int × List Int × List Int)) g__1 g__1h, Es (List Int) g__2 g__2h, Es (List Int) g__3 g__3h, E (List Int) s0_1 g0, E (List Bool) s0_0 h0]) true () e ⟨rfl, rfl, rfl, rfl, rfl, rfl, rfl, rfl, rfl, rfl, trivial⟩ (H.sel [0, 1, 2, 3, 4, 5] rfl) ?_ ?_
      ·
       clear H e
       rintro T3 k1 s3 _ w5 o2 hk (H : Cx w0 fp0 S0 w5 [Bx b5 [(.int .i64 g__0), (g__1h).v, (g__2h).v, (g__3h).v], Es (List (Int × Int × List Int × List Int)) g__1 g__1h, Es (List Int) g__2 g__2h, Es (List Int) g__3 g__3h, E (List Int) s0_1 g0, E (List Bool) s0_0 h0]) f13
       refine boolE (z := true) (ltLen hk) ?_
       refine sq ?_
       refine sq ?_
       refine heldX H [] (.fst 0 (.fst 1 (.fst 2 (.fst 3 (.fst 4 (.fst 5 (.fst 6 (.fst 7 (.fst 9 (.fst 13 (.fst 15 (.fst 8 (.fst 10 (.fst 11 (.fst 12 (.fst 14 (.fst 16 (.fst 17 (.fst 18 (.act 19 (.fst 20 (.fst 21 (.fst 22 (.fst 23 .done)))))))))))))))))))))))) mixed [] trivial (by kernel_rfl) ?_
       clear H; intro w6 H
       have hX : Ext w6 w6 := Upd.refl _ _
       have H0 := H
       cases s3
       ·
        have f14 := condF f13; clear f13
        refine arK hk x1 ?_
        have hs := Option.some.inj f14; subst hs; clear f14
        exact ⟨(), ⟨rfl, rfl, rfl, rfl, rfl, rfl, rfl, rfl, rfl, rfl, trivial⟩, H.sel [0, 1, 2, 3, 4, 5] rfl⟩
       ·
        have f15 := condT f13; clear f13
        obtain ⟨a2, e, f16⟩ := bindS f15; clear f15
        obtain ⟨p1, m1, c4, c5, c6, c7⟩ := (H.ro (α := List Bool) 5 rfl).at1 e; clear e
        refine idxE c4 c5 c6 ?_; clear c4 c5 c6
        refine load1X c7 ?_; clear c7
        cases a2
        ·
         have f17 := condF f16; clear f16
         refine anyH (fun _ => fld gok rfl rfl rfl rfl ⟨rfl, rfl⟩) ?_
         refine anyH (fun _ => fld gok rfl rfl rfl rfl ⟨rfl, rfl⟩) ?_
         refine load1X (H.bx 0 rfl (j := 1) rfl) ?_
         obtain ⟨a3, e, f18⟩ := bindS f17; clear f17
         have HH := H; clear H; obtain ⟨p2, m2, g1, c8, c9, c10, c11, H⟩ := HH.el (α := Int × Int × List Int × List Int) 1 rfl e; clear HH
         clear e
         obtain ⟨a3_0, a3_1, a3_2, a3_3⟩ := a3
         obtain ⟨_, _, h1, h2⟩ := g1
         replace H := H.part (β := List Int) a3_2 (h1 : Hd) 0 rfl (fun S h => (And.left (And.right (And.right h))))
         replace H := H.part (β := List Int) a3_3 (h2 : Hd) 1 rfl (fun S h => (And.right (And.right (And.right h))))
         replace H := H.sel [0, 1, 3, 4, 5, 6, 7, 8] rfl
         refine idxE c8 c9 c10 ?_; clear c8 c9 c10
         refine anyH (fun _ => fld gok rfl rfl rfl rfl ⟨rfl, rfl⟩) ?_
         refine load1X (c11 3 _ rfl) ?_
         refine load1X (H.bx 2 rfl (j := 1) rfl) ?_
         obtain ⟨a4, e, f19⟩ := bindS f18; clear f18
         have HH := H; clear H; obtain ⟨p3, m3, g2, c12, c13, c14, c15, H⟩ := HH.el (α := Int × Int × List Int × List Int) 3 rfl e; clear HH
         clear e
         obtain ⟨a4_0, a4_1, a4_2, a4_3⟩ := a4
         obtain ⟨_, _, h3, h4⟩ := g2
         replace H := H.part (β := List Int) a4_2 (h3 : Hd) 0 rfl (fun S h => (And.left (And.right (And.right h))))
         replace H := H.part (β := List Int) a4_3 (h4 : Hd) 1 rfl (fun S h => (And.right (And.right (And.right h))))
         replace H := H.sel [0, 1, 3, 4, 5, 6, 7, 8, 9, 10] rfl
         refine idxE c12 c13 c14 ?_; clear c12 c13 c14
         refine anyH (fun _ => fld gok rfl rfl rfl rfl ⟨rfl, rfl⟩) ?_
         refine load1X (c15 2 _ rfl) ?_
         obtain ⟨y0, e, f20⟩ := bindS f19; clear f19
         have i0 := e; clear e
         refine callFx (spec_hgMeets_c a3_3 h2 a4_2 h3 y0 i0) H ⟨Vw.sh 2 rfl, Vw.sh 1 rfl, trivial⟩ ?_; clear H i0
         rintro _ _ w7 ⟨rfl, rfl⟩ hx H
         replace hX := hX.trans0 hx; clear hx
         refine hold hX ?_
         obtain ⟨a5, e, f21⟩ := bindS f20; clear f20
         refine boolO e ?_; clear e
         refine arK hk x1 ?_
         have hs := Option.some.inj f21; subst hs; clear f21
         exact ⟨(), ⟨rfl, rfl, rfl, rfl, rfl, rfl, rfl, rfl, rfl, rfl, trivial⟩, H.sel [4, 5, 6, 7, 8, 9] rfl⟩
        ·
         have f22 := condT f16; clear f16
         refine arK hk x1 ?_
         have hs := Option.some.inj f22; subst hs; clear f22
         exact ⟨(), ⟨rfl, rfl, rfl, rfl, rfl, rfl, rfl, rfl, rfl, rfl, trivial⟩, H.sel [0, 1, 2, 3, 4, 5] rfl⟩
      ·
       clear H e
       rintro T4 _ w8 (H : Cx w0 fp0 S0 w8 [Bx b5 [(.int .i64 g__0), (g__1h).v, (g__2h).v, (g__3h).v], Es (List (Int × Int × List Int × List Int)) g__1 g__1h, Es (List Int) g__2 g__2h, Es (List Int) g__3 g__3h, E (List Int) s0_1 g0, E (List Bool) s0_0 h0])
       refine boolE (z := false) geLen ?_
       refine sq ?_
       cases r3
       ·
        have f23 := condF f12; clear f12
        exact ⟨s1, ⟨rfl, rfl, rfl, rfl, rfl, rfl, trivial⟩, Option.some.inj f23, H.sel [0, 1, 2, 3, 4, 5] rfl⟩
       ·
        have f24 := condT f12; clear f12
        exact ⟨((k0 : Nat) : Int), ⟨rfl, rfl, rfl, rfl, rfl, rfl, trivial⟩, Option.some.inj f24, H.sel [0, 1, 2, 3, 4, 5] rfl⟩
     ·
      have f25 := condT f6; clear f6
      exact ⟨s1, ⟨rfl, rfl, rfl, rfl, rfl, rfl, trivial⟩, Option.some.inj f25, H.sel [0, 1, 2, 3, 4, 5] rfl⟩
   ·
    clear f3 H
    rintro T5 s4 w10 ⟨hr, (H : Cx w0 fp0 S0 w10 [Bx b5 [(.int .i64 g__0), (g__1h).v, (g__2h).v, (g__3h).v], Es (List (Int × Int × List Int × List Int)) g__1 g__1h, Es (List Int) g__2 g__2h, Es (List Int) g__3 g__3h, E (List Int) s0_1 g0, E (List Bool) s0_0 h0])⟩
    subst hr
    refine arK hk x0 ?_
    have hs := Option.some.inj f4; subst hs; clear f4
    exact ⟨(), ⟨rfl, rfl, rfl, rfl, rfl, rfl, trivial⟩, H.sel [0, 1, 2, 3, 4, 5] rfl⟩
  ·
   clear H e
   rintro T6 _ w11 (H : Cx w0 fp0 S0 w11 [Bx b5 [(.int .i64 g__0), (g__1h).v, (g__2h).v, (g__3h).v], Es (List (Int × Int × List Int × List Int)) g__1 g__1h, Es (List Int) g__2 g__2h, Es (List Int) g__3 g__3h, E (List Int) s0_1 g0, E (List Bool) s0_0 h0])
   refine boolE (z := false) geLen ?_
   refine sq ?_
   refine sq ?_
   obtain ⟨a6, e, f26⟩ := bindS f1; clear f1
   refine boolO e ?_; clear e
   cases a6
   ·
    have f27 := condF f26; clear f26
    obtain ⟨a8, e, f28⟩ := bindS f27; clear f27
    have i1 := e; clear e
    obtain ⟨p4, m4, c16, c17, c18⟩ := (H.ro (α := List Bool) 5 rfl).setp i1
    refine idxE c16 c17 c18 ?_
    replace H := H.sel [5, 0, 1, 2, 3, 4] rfl
    refine setS (α := Bool) H c16 c17 i1 ?_; clear H c16 c17 c18 i1; intro w12 H
    refine lit1S (α := Int) gok rfl rfl rfl rfl H ?_; clear H; intro h5 w13 hx H
    clear hx
    obtain ⟨a9, e, f29⟩ := bindS f28; clear f28
    replace H := H.sel [6, 0, 1, 2, 3, 4, 5] rfl
    refine append_ (α := Int) gok rfl rfl rfl rfl H e ?_; clear e H; intro h6 w14 H
    have hs := Option.some.inj f29; subst hs; clear f29
    exact ⟨(a8, a9), h6, rfl, ⟨rfl, rfl, rfl, trivial⟩, H.sel [2, 3, 4, 5, 0, 1] rfl⟩
   ·
    have f30 := condT f26; clear f26
    have hs := Option.some.inj f30; subst hs; clear f30
    have f31 : some _ = some _ := congrArg some (hrt _ rfl).symm
    cases f31
    exact ⟨_, _, rfl, ⟨g0, rfl, rfl⟩, (H.sel [4] rfl).close ⟨cloE, trivial⟩⟩

theorem spec_hgAcyclic_c (g__0 : Int) (g__1 : List (Int × Int × List Int × List Int)) (g__1h : Hd) (g__2 : List Int) (g__2h : Hd) (g__3 : List Int) (g__3h : Hd) (y : Bool) (hF : F_spec_hgAcyclic (g__0, g__1, g__2, g__3) = some y) :
  ConF Tryz.prog 86 #[(.agg #[(.int .i64 g__0), (g__1h).v, (g__2h).v, (g__3h).v])] [Es (List (Int × Int × List Int × List Int)) g__1 g__1h, Es (List Int) g__2 g__2h, Es (List Int) g__3 g__3h] [] (fun v Γ' => v = (.bool y) ∧ Γ' = []) := by
 intro w0 S0 fp0 hI hS
 have H : Cx w0 fp0 S0 w0 [Es (List (Int × Int × List Int × List Int)) g__1 g__1h, Es (List Int) g__2 g__2h, Es (List Int) g__3 g__3h] := Cx.start hI hS
 clear hI hS
 refine enterC (args := [_]) gok Tryz.func86 rfl _ rfl rfl rfl ?_
 refine box_ H ?_; clear H; intro b5 w4 hx H
 clear hx
 refine heldX H [] (.fst 3 (.fst 0 (.fst 4 (.fst 5 (.act 1 (.fst 2 (.fst 6 (.fst 7 .done)))))))) mixed [] trivial (by kernel_rfl) ?_
 clear H; intro w7 H
 have hX : Ext w7 w7 := Upd.refl _ _
 have H0 := H
 refine anyH (fun _ => fld gok rfl rfl rfl rfl ⟨rfl, rfl⟩) ?_
 refine loadNX [(.int .i64 g__0), (g__1h).v, (g__2h).v, (g__3h).v] rfl (fun j u hj => H.bx 0 rfl hj) ?_
 refine load1X (H.bx 0 rfl (j := 1) rfl) ?_
 refine lenE (H.rs (α := List (Int × Int × List Int × List Int)) 1 rfl).len ?_
 obtain ⟨y8, e, hF9⟩ := bindS hF; clear hF
 have ey8 := e; clear e
 refine callFx (spec_hgOrder_c g__0 g__1 g__1h g__2 g__2h g__3 g__3h y8 ey8) H ⟨Vw.sh 1 rfl, Vw.sh 2 rfl, Vw.sh 3 rfl, trivial⟩ ?_; clear H ey8
 rintro _ _ w1 ⟨h0, rfl, rfl⟩ hx H
 replace hX := hX.trans0 hx; clear hx
 refine hold hX ?_
 refine lenE (H.ro (α := List Int) 0 rfl).len ?_
 obtain ⟨a0, e, f0⟩ := bindS hF9; clear hF9
 refine boolO e ?_; clear e
 cases f0
 exact ⟨_, _, rfl, ⟨rfl, rfl⟩, (H.sel [] rfl).close trivial⟩

theorem spec_rbGood_c (g__0 : Int) (g__1 : List (Int × Int × List Int × List Int)) (g__1h : Hd) (g__2 : List Int) (g__2h : Hd) (g__3 : List Int) (g__3h : Hd) (y : Bool) (hF : F_spec_rbGood (g__0, g__1, g__2, g__3) = some y) :
  ConF Tryz.prog 57 #[(.agg #[(.int .i64 g__0), (g__1h).v, (g__2h).v, (g__3h).v])] [Es (List (Int × Int × List Int × List Int)) g__1 g__1h, Es (List Int) g__2 g__2h, Es (List Int) g__3 g__3h] [] (fun v Γ' => v = (.bool y) ∧ Γ' = []) := by
 intro w0 S0 fp0 hI hS
 have H : Cx w0 fp0 S0 w0 [Es (List (Int × Int × List Int × List Int)) g__1 g__1h, Es (List Int) g__2 g__2h, Es (List Int) g__3 g__3h] := Cx.start hI hS
 clear hI hS
 refine enterC (args := [_]) gok Tryz.func57 rfl _ rfl rfl rfl ?_
 refine box_ H ?_; clear H; intro b5 w4 hx H
 clear hx
 obtain ⟨r0, f0, f1⟩ := bindS hF; clear hF
 refine cut (fun (q0 : Bool) => [(2, (.bool q0))]) (fun (q0 : Bool) w' => q0 = r0 ∧ Cx w0 fp0 S0 w' []) ?_ ?_
 ·
  refine loadN [(.int .i64 g__0), (g__1h).v, (g__2h).v, (g__3h).v] rfl (fun j u hj => H.bx 0 rfl hj) ?_
  obtain ⟨y0, e, f2⟩ := bindS f0; clear f0
  have i0 := e; clear e
  refine callF (spec_hgValid_c g__0 g__1 g__1h g__2 g__2h g__3 g__3h y0 i0) (Γi := []) H ⟨Vw.sh 1 rfl, Vw.sh 2 rfl, Vw.sh 3 rfl, trivial⟩ ?_; clear H i0
  rintro _ _ w1 ⟨rfl, rfl⟩ H
  cases y0
  ·
   have f3 := condF f2; clear f2
   exact ⟨false, ⟨rfl, trivial⟩, Option.some.inj f3, H.sel [] rfl⟩
  ·
   have f4 := condT f2; clear f2
   refine loadN [(.int .i64 g__0), (g__1h).v, (g__2h).v, (g__3h).v] rfl (fun j u hj => H.bx 0 rfl hj) ?_
   obtain ⟨y1, e, f5⟩ := bindS f4; clear f4
   have i1 := e; clear e
   refine callF (spec_hgAcyclic_c g__0 g__1 g__1h g__2 g__2h g__3 g__3h y1 i1) (Γi := []) H ⟨Vw.sh 1 rfl, Vw.sh 2 rfl, Vw.sh 3 rfl, trivial⟩ ?_; clear H i1
   rintro _ _ w2 ⟨rfl, rfl⟩ H
   exact ⟨y1, ⟨rfl, trivial⟩, Option.some.inj f5, H.sel [] rfl⟩
 ·
  clear f0 H
  rintro T0 s0 w3 ⟨hr, (H : Cx w0 fp0 S0 w3 [])⟩
  subst hr
  cases f1
  exact ⟨_, _, rfl, ⟨rfl, rfl⟩, (H.sel [] rfl).close trivial⟩

theorem spec_hgMono_c (g__0 : Int) (g__1 : List (Int × Int × List Int × List Int)) (g__1h : Hd) (g__2 : List Int) (g__2h : Hd) (g__3 : List Int) (g__3h : Hd) (y : Bool) (hF : F_spec_hgMono (g__0, g__1, g__2, g__3) = some y) :
  ConF Tryz.prog 58 #[(.agg #[(.int .i64 g__0), (g__1h).v, (g__2h).v, (g__3h).v])] [Es (List (Int × Int × List Int × List Int)) g__1 g__1h, Es (List Int) g__2 g__2h, Es (List Int) g__3 g__3h] [] (fun v Γ' => v = (.bool y) ∧ Γ' = []) := by
 intro w0 S0 fp0 hI hS
 have H : Cx w0 fp0 S0 w0 [Es (List (Int × Int × List Int × List Int)) g__1 g__1h, Es (List Int) g__2 g__2h, Es (List Int) g__3 g__3h] := Cx.start hI hS
 clear hI hS
 refine enterC (args := [_]) gok Tryz.func58 rfl _ rfl rfl rfl ?_
 refine box_ H ?_; clear H; intro b5 w4 hx H
 clear hx
 refine loadN [(.int .i64 g__0), (g__1h).v, (g__2h).v, (g__3h).v] rfl (fun j u hj => H.bx 0 rfl hj) ?_
 obtain ⟨y7, e, hF8⟩ := bindS hF; clear hF
 obtain ⟨y7_0, y7_1⟩ := y7
 have ey7 := e; clear e
 refine callF (spec_hgCounts_c g__0 g__1 g__1h g__2 g__2h g__3 g__3h y7_0 y7_1 ey7) (Γi := []) H ⟨Vw.sh 1 rfl, Vw.sh 2 rfl, Vw.sh 3 rfl, trivial⟩ ?_; clear H ey7
 rintro _ _ w9 ⟨h0, h1, rfl, rfl⟩ H
 obtain ⟨r0, f0, f1⟩ := bindS hF8; clear hF8
 refine cut (fun (q0 : Bool) => [(2, (.bool q0))]) (fun (q0 : Bool) w' => q0 = r0 ∧ Cx w0 fp0 S0 w' []) ?_ ?_
 ·
  obtain ⟨y0, e, f2⟩ := bindS f0; clear f0
  have i0 := e; clear e
  refine callF (spec_l1All_c y7_0 h0 1 1 y0 i0) (Γi := []) H ⟨Vw.own 0 rfl, trivial⟩ ?_; clear H i0
  rintro _ _ w1 ⟨rfl, rfl⟩ H
  cases y0
  ·
   have f3 := condF f2; clear f2
   exact ⟨false, ⟨rfl, trivial⟩, Option.some.inj f3, H.sel [] rfl⟩
  ·
   have f4 := condT f2; clear f2
   obtain ⟨y1, e, f5⟩ := bindS f4; clear f4
   have i1 := e; clear e
   refine callF (spec_l1All_c y7_1 h1 1 1 y1 i1) (Γi := []) H ⟨Vw.own 1 rfl, trivial⟩ ?_; clear H i1
   rintro _ _ w2 ⟨rfl, rfl⟩ H
   exact ⟨y1, ⟨rfl, trivial⟩, Option.some.inj f5, H.sel [] rfl⟩
 ·
  clear f0 H
  rintro T0 s0 w3 ⟨hr, (H : Cx w0 fp0 S0 w3 [])⟩
  subst hr
  cases f1
  exact ⟨_, _, rfl, ⟨rfl, rfl⟩, (H.sel [] rfl).close trivial⟩

theorem spec_rbPlain_c (g__0 : Int) (g__1 : List (Int × Int × List Int × List Int)) (g__1h : Hd) (g__2 : List Int) (g__2h : Hd) (g__3 : List Int) (g__3h : Hd) (y : Bool) (hF : F_spec_rbPlain (g__0, g__1, g__2, g__3) = some y) :
  ConF Tryz.prog 24 #[(.agg #[(.int .i64 g__0), (g__1h).v, (g__2h).v, (g__3h).v])] [Es (List (Int × Int × List Int × List Int)) g__1 g__1h, Es (List Int) g__2 g__2h, Es (List Int) g__3 g__3h] [] (fun v Γ' => v = (.bool y) ∧ Γ' = []) := by
 intro w0 S0 fp0 hI hS
 have H : Cx w0 fp0 S0 w0 [Es (List (Int × Int × List Int × List Int)) g__1 g__1h, Es (List Int) g__2 g__2h, Es (List Int) g__3 g__3h] := Cx.start hI hS
 clear hI hS
 refine enterC (args := [_]) gok Tryz.func24 rfl _ rfl rfl rfl ?_
 refine box_ H ?_; clear H; intro b5 w4 hx H
 clear hx
 obtain ⟨r0, f0, f1⟩ := bindS hF; clear hF
 refine cut (fun (q0 : Bool) => [(2, (.bool q0))]) (fun (q0 : Bool) w' => q0 = r0 ∧ Cx w0 fp0 S0 w' []) ?_ ?_
 ·
  refine loadN [(.int .i64 g__0), (g__1h).v, (g__2h).v, (g__3h).v] rfl (fun j u hj => H.bx 0 rfl hj) ?_
  obtain ⟨y0, e, f2⟩ := bindS f0; clear f0
  have i0 := e; clear e
  refine callF (spec_rbGood_c g__0 g__1 g__1h g__2 g__2h g__3 g__3h y0 i0) (Γi := []) H ⟨Vw.sh 1 rfl, Vw.sh 2 rfl, Vw.sh 3 rfl, trivial⟩ ?_; clear H i0
  rintro _ _ w1 ⟨rfl, rfl⟩ H
  cases y0
  ·
   have f3 := condF f2; clear f2
   exact ⟨false, ⟨rfl, trivial⟩, Option.some.inj f3, H.sel [] rfl⟩
  ·
   have f4 := condT f2; clear f2
   refine loadN [(.int .i64 g__0), (g__1h).v, (g__2h).v, (g__3h).v] rfl (fun j u hj => H.bx 0 rfl hj) ?_
   obtain ⟨y1, e, f5⟩ := bindS f4; clear f4
   have i1 := e; clear e
   refine callF (spec_hgMono_c g__0 g__1 g__1h g__2 g__2h g__3 g__3h y1 i1) (Γi := []) H ⟨Vw.sh 1 rfl, Vw.sh 2 rfl, Vw.sh 3 rfl, trivial⟩ ?_; clear H i1
   rintro _ _ w2 ⟨rfl, rfl⟩ H
   exact ⟨y1, ⟨rfl, trivial⟩, Option.some.inj f5, H.sel [] rfl⟩
 ·
  clear f0 H
  rintro T0 s0 w3 ⟨hr, (H : Cx w0 fp0 S0 w3 [])⟩
  subst hr
  cases f1
  exact ⟨_, _, rfl, ⟨rfl, rfl⟩, (H.sel [] rfl).close trivial⟩

theorem spec_rbRest_c (l_ : List Int) (l_h : Hd) (without_ : List Int) (without_h : Hd) (y : List Int) (hF : F_spec_rbRest l_ without_ = some y) :
  ConF Tryz.prog 60 #[(l_h).v, (without_h).v] [Es (List Int) l_ l_h, Es (List Int) without_ without_h] [] (fun v Γ' => ∃ z0 : Hd, v = (z0).v ∧ Γ' = [E (List Int) y z0]) := by
 intro w0 S0 fp0 hI hS
 have H : Cx w0 fp0 S0 w0 [Es (List Int) l_ l_h, Es (List Int) without_ without_h] := Cx.start hI hS
 clear hI hS
 refine enterC (args := [_, _]) gok Tryz.func60 rfl _ rfl rfl rfl ?_
 refine sq ?_
 refine lenE (H.rs (α := List Int) 0 rfl).len ?_
 have x0 := (H.rs (α := List Int) 0 rfl).max
 obtain ⟨r0, e, f0⟩ := bindS hF; clear hF
 replace H := H.nil (α := Int)
 refine loopS _ l_.length (fun (k3 : Nat) (s0 : List Int) (g0 : Hd) => [(1, (without_h).v), (5, (g0).v), (8, (l_h).v), (9, (.int .i64 ((l_.length : Nat) : Int))), (10, (.int .i64 ((k3 : Nat) : Int)))]) (fun _ (s0 : List Int) (g0 : Hd) w' => Cx w0 fp0 S0 w' [Es (List Int) without_ without_h, E (List Int) s0 g0, Es (List Int) l_ l_h]) [] nilH e ⟨rfl, rfl, rfl, rfl, rfl, trivial⟩ (H.sel [2, 0, 1] rfl) ?_ ?_
 ·
  clear H e
  rintro T0 k3 s0 g0 w1 o0 hk (H : Cx w0 fp0 S0 w1 [Es (List Int) without_ without_h, E (List Int) s0 g0, Es (List Int) l_ l_h]) f1
  refine boolE (z := true) (ltLen hk) ?_
  refine sq ?_
  refine sq ?_
  obtain ⟨a0, e, f2⟩ := bindS f1; clear f1
  obtain ⟨p0, m0, c0, c1, c2, c3⟩ := (H.rs (α := List Int) 2 rfl).at1 e; clear e
  refine idxE c0 c1 c2 ?_; clear c0 c1 c2
  refine load1 c3 ?_; clear c3
  obtain ⟨y0, e, f3⟩ := bindS f2; clear f2
  have i0 := e; clear e
  refine callF (spec_l1Has_c without_ without_h a0 y0 i0) (Γi := []) H ⟨Vw.sh 0 rfl, trivial⟩ ?_; clear H i0
  rintro _ _ w2 ⟨rfl, rfl⟩ H
  obtain ⟨a1, e, f4⟩ := bindS f3; clear f3
  refine boolO e ?_; clear e
  cases a1
  ·
   have f5 := condF f4; clear f4
   refine arK hk x0 ?_
   have hs := Option.some.inj f5; subst hs; clear f5
   exact ⟨g0, ⟨rfl, rfl, rfl, rfl, rfl, trivial⟩, H.sel [0, 1, 2] rfl⟩
  ·
   have f6 := condT f4; clear f4
   refine lit1S (α := Int) gok rfl rfl rfl rfl H ?_; clear H; intro h0 w3 hx H
   clear hx
   obtain ⟨a2, e, f7⟩ := bindS f6; clear f6
   replace H := H.sel [2, 0, 1, 3] rfl
   refine append_ (α := Int) gok rfl rfl rfl rfl H e ?_; clear e H; intro h1 w4 H
   refine arK hk x0 ?_
   have hs := Option.some.inj f7; subst hs; clear f7
   exact ⟨h1, ⟨rfl, rfl, rfl, rfl, rfl, trivial⟩, H.sel [1, 0, 2] rfl⟩
 ·
  clear H e
  rintro T1 g1 w5 (H : Cx w0 fp0 S0 w5 [Es (List Int) without_ without_h, E (List Int) r0 g1, Es (List Int) l_ l_h])
  refine boolE (z := false) geLen ?_
  refine sq ?_
  cases f0
  exact ⟨_, _, rfl, ⟨g1, rfl, rfl⟩, (H.sel [1] rfl).close ⟨cloE, trivial⟩⟩

theorem spec_l1Same_c (a_ : List Int) (a_h : Hd) (b_ : List Int) (b_h : Hd) (y : Bool) (hF : F_spec_l1Same a_ b_ = some y) :
  ConF Tryz.prog 90 #[(a_h).v, (b_h).v] [Es (List Int) a_ a_h, Es (List Int) b_ b_h] [] (fun v Γ' => v = (.bool y) ∧ Γ' = []) := by
 intro w0 S0 fp0 hI hS
 have H : Cx w0 fp0 S0 w0 [Es (List Int) a_ a_h, Es (List Int) b_ b_h] := Cx.start hI hS
 clear hI hS
 refine enterC (args := [_, _]) gok Tryz.func90 rfl _ rfl rfl rfl ?_
 refine sq ?_
 refine lenE (H.rs (α := List Int) 0 rfl).len ?_
 refine lenE (H.rs (α := List Int) 1 rfl).len ?_
 obtain ⟨a3, e, hF4⟩ := bindS hF; clear hF
 refine boolO e ?_; clear e
 cases a3
 ·
  have hF5 := condF hF4; clear hF4
  refine sq ?_
  refine lenE (H.rs (α := List Int) 0 rfl).len ?_
  have x0 := (H.rs (α := List Int) 0 rfl).max
  obtain ⟨r0, e, f0⟩ := bindS hF5; clear hF5
  refine loopO _ a_.length (fun (k6 : Nat) (_ : Unit) (_ : Unit) => [(0, (a_h).v), (1, (b_h).v), (12, (.int .i64 ((a_.length : Nat) : Int))), (13, (.int .i64 ((k6 : Nat) : Int)))]) (fun _ (_ : Unit) (_ : Unit) w' => Cx w0 fp0 S0 w' [Es (List Int) a_ a_h, Es (List Int) b_ b_h]) () () e ⟨rfl, rfl, rfl, rfl, trivial⟩ (H.sel [0, 1] rfl) ?_ ?_
  ·
   clear H e
   rintro T0 k6 _ _ w1 o0 hk (H : Cx w0 fp0 S0 w1 [Es (List Int) a_ a_h, Es (List Int) b_ b_h]) hrt f1
   refine boolE (z := true) (ltLen hk) ?_
   refine sq ?_
   refine sq ?_
   refine heldX H [] (.fst 0 (.fst 1 (.fst 2 (.fst 4 (.fst 5 (.fst 6 (.fst 3 (.fst 7 (.fst 8 .done))))))))) mixed [] trivial (by kernel_rfl) ?_
   clear H; intro w2 H
   have hX : Ext w2 w2 := Upd.refl _ _
   have H0 := H
   obtain ⟨a0, e, f2⟩ := bindS f1; clear f1
   obtain ⟨p0, m0, c0, c1, c2, c3⟩ := (H.rs (α := List Int) 0 rfl).at1 e; clear e
   refine idxE c0 c1 c2 ?_; clear c0 c1 c2
   obtain ⟨a1, e, f3⟩ := bindS f2; clear f2
   obtain ⟨p1, m1, c4, c5, c6, c7⟩ := (H.rs (α := List Int) 1 rfl).at1 e; clear e
   refine idxE c4 c5 c6 ?_; clear c4 c5 c6
   refine load1X c3 ?_; clear c3
   refine load1X c7 ?_; clear c7
   obtain ⟨a2, e, f4⟩ := bindS f3; clear f3
   refine boolO e ?_; clear e
   cases a2
   ·
    have f5 := condF f4; clear f4
    refine arK hk x0 ?_
    have hs := Option.some.inj f5; subst hs; clear f5
    exact ⟨(), (), rfl, ⟨rfl, rfl, rfl, rfl, trivial⟩, H.sel [0, 1] rfl⟩
   ·
    have f6 := condT f4; clear f4
    have hs := Option.some.inj f6; subst hs; clear f6
    have hr := hrt _ rfl; subst hr
    have f7 : some _ = some _ := f0
    cases f7
    exact ⟨_, _, rfl, ⟨rfl, rfl⟩, (H.sel [] rfl).close trivial⟩
  ·
   clear H e
   rintro T1 _ _ w3 hr (H : Cx w0 fp0 S0 w3 [Es (List Int) a_ a_h, Es (List Int) b_ b_h])
   subst hr
   refine boolE (z := false) geLen ?_
   refine sq ?_
   cases f0
   exact ⟨_, _, rfl, ⟨rfl, rfl⟩, (H.sel [] rfl).close trivial⟩
 ·
  have f8 := condT hF4; clear hF4
  cases f8
  exact ⟨_, _, rfl, ⟨rfl, rfl⟩, (H.sel [] rfl).close trivial⟩

theorem spec_tmOne_c (kind_ : Int) (value_ : Int) (y_0 : List (Int × Int × ByteArray)) (hF : F_spec_tmOne kind_ value_ = some y_0) :
  ConF Tryz.prog 63 #[(.int .i64 kind_), (.int .i64 value_)] [] [] (fun v Γ' => ∃ z0 : Hd, v = (.agg #[(z0).v]) ∧ Γ' = [E (List (Int × Int × ByteArray)) y_0 z0]) := by
 intro w0 S0 fp0 hI hS
 have H : Cx w0 fp0 S0 w0 [] := Cx.start hI hS
 clear hI hS
 refine enterC (args := [_, _]) gok Tryz.func63 rfl _ rfl rfl rfl ?_
 refine alloc_ gok rfl H ?_; clear H; intro b2 w1 hx H
 clear hx
 refine build_ (cs := #[(.int .i64 kind_), (.int .i64 value_), (.string .empty)]) gok rfl rfl rfl ?_
 replace H := H.sc (α := ByteArray) .empty
 replace H := H.sc (α := Int) value_
 replace H := H.join (α := Int) (β := ByteArray)
 replace H := H.sc (α := Int) kind_
 replace H := H.join (α := Int) (β := Int × ByteArray)
 refine lit1 (α := Int × Int × ByteArray) (g := ((), (), ())) gok rfl rfl rfl rfl rfl H ?_; clear H; intro h5 w4 hx H
 clear hx
 refine build_ (cs := #[(h5).v]) gok rfl rfl rfl ?_
 replace H := H.sel [1, 0] rfl
 refine stA gok [(h5).v] rfl H rfl rfl rfl ?_; clear H; intro w2 H
 refine loadN [(h5).v] rfl (fun j u hj => H.bx 0 rfl hj) ?_
 cases hF
 exact ⟨_, _, rfl, ⟨h5, rfl, rfl⟩, (H.sel [1] rfl).close ⟨cloE, trivial⟩⟩

theorem spec_tmId_c (n_ : Int) (y_0 : List (Int × Int × ByteArray)) (hF : F_spec_tmId n_ = some y_0) :
  ConF Tryz.prog 64 #[(.int .i64 n_)] [] [] (fun v Γ' => ∃ z0 : Hd, v = (.agg #[(z0).v]) ∧ Γ' = [E (List (Int × Int × ByteArray)) y_0 z0]) := by
 intro w0 S0 fp0 hI hS
 have H : Cx w0 fp0 S0 w0 [] := Cx.start hI hS
 clear hI hS
 refine enterC (args := [_]) gok Tryz.func64 rfl _ rfl rfl rfl ?_
 refine alloc_ gok rfl H ?_; clear H; intro b2 w1 hx H
 clear hx
 obtain ⟨y4, e, hF5⟩ := bindS hF; clear hF
 obtain ⟨y4_0, rfl⟩ : ∃ z, z = y4 := ⟨_, rfl⟩
 have ey4 := e; clear e
 refine callF (spec_tmOne_c 1 n_ y4_0 ey4) (Γi := []) H trivial ?_; clear H ey4
 rintro _ _ w6 ⟨h7, rfl, rfl⟩ H
 replace H := H.sel [1, 0] rfl
 refine stA gok [(h7).v] rfl H rfl rfl rfl ?_; clear H; intro w9 H
 refine loadN [(h7).v] rfl (fun j u hj => H.bx 0 rfl hj) ?_
 cases hF5
 exact ⟨_, _, rfl, ⟨h7, rfl, rfl⟩, (H.sel [1] rfl).close ⟨cloE, trivial⟩⟩

theorem spec_tmJoin_c (a__0 : List (Int × Int × ByteArray)) (a__0h : Hd) (b__0 : List (Int × Int × ByteArray)) (b__0h : Hd) (kind_ : Int) (y_0 : List (Int × Int × ByteArray)) (hF : F_spec_tmJoin a__0 b__0 kind_ = some y_0) :
  ConF Tryz.prog 93 #[(.agg #[(a__0h).v]), (.agg #[(b__0h).v]), (.int .i64 kind_)] [Es (List (Int × Int × ByteArray)) a__0 a__0h, Es (List (Int × Int × ByteArray)) b__0 b__0h] [] (fun v Γ' => ∃ z0 : Hd, v = (.agg #[(z0).v]) ∧ Γ' = [E (List (Int × Int × ByteArray)) y_0 z0]) := by
 intro w0 S0 fp0 hI hS
 have H : Cx w0 fp0 S0 w0 [Es (List (Int × Int × ByteArray)) a__0 a__0h, Es (List (Int × Int × ByteArray)) b__0 b__0h] := Cx.start hI hS
 clear hI hS
 refine enterC (args := [_, _, _]) gok Tryz.func93 rfl _ rfl rfl rfl ?_
 refine box_ H ?_; clear H; intro b4 w3 hx H
 clear hx
 refine box_ H ?_; clear H; intro b7 w6 hx H
 clear hx
 refine alloc_ gok rfl H ?_; clear H; intro b0 w9 hx H
 clear hx
 refine lit0 (α := Int × Int × ByteArray) gok rfl rfl H ?_; clear H; intro h0 w1 hx H
 clear hx
 refine fld gok rfl rfl rfl rfl ?_
 refine load1 (H.bx 3 rfl (j := 0) rfl) ?_
 obtain ⟨a0, e, f0⟩ := bindS hF; clear hF
 replace H := H.frzE (α := Int × Int × ByteArray)
 refine appendSh (α := Int × Int × ByteArray) gok rfl rfl rfl rfl rfl H 3 rfl e ?_; clear e H; intro h1 w2 H
 replace H := H.unSh
 refine fld gok rfl rfl rfl rfl ?_
 refine load1 (H.bx 2 rfl (j := 0) rfl) ?_
 obtain ⟨a1, e, f1⟩ := bindS f0; clear f0
 replace H := H.frzE (α := Int × Int × ByteArray)
 refine appendSh (α := Int × Int × ByteArray) gok rfl rfl rfl rfl rfl H 4 rfl e ?_; clear e H; intro h2 w4 H
 replace H := H.unSh
 refine build_ (cs := #[(.int .i64 kind_), (.int .i64 0), (.string .empty)]) gok rfl rfl rfl ?_
 replace H := H.sc (α := ByteArray) .empty
 replace H := H.sc (α := Int) 0
 replace H := H.join (α := Int) (β := ByteArray)
 replace H := H.sc (α := Int) kind_
 replace H := H.join (α := Int) (β := Int × ByteArray)
 refine lit1 (α := Int × Int × ByteArray) (g := ((), (), ())) gok rfl rfl rfl rfl rfl H ?_; clear H; intro h3 w5 hx H
 clear hx
 obtain ⟨a2, e, f2⟩ := bindS f1; clear f1
 replace H := H.sel [1, 0, 2, 3, 4, 5, 6] rfl
 refine append_ (α := Int × Int × ByteArray) gok rfl rfl rfl rfl H e ?_; clear e H; intro h4 w7 H
 refine build_ (cs := #[(h4).v]) gok rfl rfl rfl ?_
 replace H := H.sel [1, 0, 2, 3, 4, 5] rfl
 refine stA gok [(h4).v] rfl H rfl rfl rfl ?_; clear H; intro w8 H
 refine loadN [(h4).v] rfl (fun j u hj => H.bx 0 rfl hj) ?_
 cases f2
 exact ⟨_, _, rfl, ⟨h4, rfl, rfl⟩, (H.sel [1] rfl).close ⟨cloE, trivial⟩⟩

theorem spec_tmPar_c (a__0 : List (Int × Int × ByteArray)) (a__0h : Hd) (b__0 : List (Int × Int × ByteArray)) (b__0h : Hd) (y_0 : List (Int × Int × ByteArray)) (hF : F_spec_tmPar a__0 b__0 = some y_0) :
  ConF Tryz.prog 92 #[(.agg #[(a__0h).v]), (.agg #[(b__0h).v])] [Es (List (Int × Int × ByteArray)) a__0 a__0h, Es (List (Int × Int × ByteArray)) b__0 b__0h] [] (fun v Γ' => ∃ z0 : Hd, v = (.agg #[(z0).v]) ∧ Γ' = [E (List (Int × Int × ByteArray)) y_0 z0]) := by
 intro w0 S0 fp0 hI hS
 have H : Cx w0 fp0 S0 w0 [Es (List (Int × Int × ByteArray)) a__0 a__0h, Es (List (Int × Int × ByteArray)) b__0 b__0h] := Cx.start hI hS
 clear hI hS
 refine enterC (args := [_, _]) gok Tryz.func92 rfl _ rfl rfl rfl ?_
 refine box_ H ?_; clear H; intro b4 w3 hx H
 clear hx
 refine box_ H ?_; clear H; intro b7 w6 hx H
 clear hx
 refine alloc_ gok rfl H ?_; clear H; intro b0 w9 hx H
 clear hx
 refine loadN [(a__0h).v] rfl (fun j u hj => H.bx 2 rfl hj) ?_
 refine loadN [(b__0h).v] rfl (fun j u hj => H.bx 1 rfl hj) ?_
 obtain ⟨y0, e, f0⟩ := bindS hF; clear hF
 obtain ⟨y0_0, rfl⟩ : ∃ z, z = y0 := ⟨_, rfl⟩
 have i0 := e; clear e
 refine callF (spec_tmJoin_c a__0 a__0h b__0 b__0h 16 y0_0 i0) (Γi := []) H ⟨Vw.sh 3 rfl, Vw.sh 4 rfl, trivial⟩ ?_; clear H i0
 rintro _ _ w1 ⟨h0, rfl, rfl⟩ H
 replace H := H.sel [1, 0, 2, 3, 4, 5] rfl
 refine stA gok [(h0).v] rfl H rfl rfl rfl ?_; clear H; intro w2 H
 refine loadN [(h0).v] rfl (fun j u hj => H.bx 0 rfl hj) ?_
 cases f0
 exact ⟨_, _, rfl, ⟨h0, rfl, rfl⟩, (H.sel [1] rfl).close ⟨cloE, trivial⟩⟩

theorem spec_tmLayer_c (front_ : Int) (t__0 : List (Int × Int × ByteArray)) (t__0h : Hd) (behind_ : Int) (y_0 : List (Int × Int × ByteArray)) (hF : F_spec_tmLayer front_ t__0 behind_ = some y_0) :
  ConF Tryz.prog 62 #[(.int .i64 front_), (.agg #[(t__0h).v]), (.int .i64 behind_)] [] [E (List (Int × Int × ByteArray)) t__0 t__0h] (fun v Γ' => ∃ z0 : Hd, v = (.agg #[(z0).v]) ∧ Γ' = [E (List (Int × Int × ByteArray)) y_0 z0]) := by
 intro w0 S0 fp0 hI hS
 have H : Cx w0 fp0 S0 w0 [E (List (Int × Int × ByteArray)) t__0 t__0h] := Cx.start hI hS
 clear hI hS
 refine enterC (args := [_, _, _]) gok Tryz.func62 rfl _ rfl rfl rfl ?_
 refine box_ H ?_; clear H; intro b3 w2 hx H
 clear hx
 refine alloc_ gok rfl H ?_; clear H; intro b6 w5 hx H
 clear hx
 obtain ⟨r0, f0, f1⟩ := bindS hF; clear hF
 refine cut (fun (q0 : (List (Int × Int × ByteArray)) × Hd) => [(2, (.int .i64 behind_)), (4, (.pointer (some ⟨b3, 0, none⟩))), (6, (.pointer (some ⟨b6, 0, none⟩)))]) (fun (q0 : (List (Int × Int × ByteArray)) × Hd) w' => q0.1 = r0 ∧ Cx w0 fp0 S0 w' [Bx b3 [(q0.2).v], E (List (Int × Int × ByteArray)) q0.1 q0.2, Bx b6 [(.slice none 0 0)]]) ?_ ?_
 ·
  obtain ⟨a0, e, f2⟩ := bindS f0; clear f0
  refine boolO e ?_; clear e
  cases a0
  ·
   have f3 := condF f2; clear f2
   exact ⟨(t__0, t__0h), ⟨rfl, rfl, rfl, trivial⟩, Option.some.inj f3, H.sel [1, 2, 0] rfl⟩
  ·
   have f4 := condT f2; clear f2
   refine heldX H [4] (.fst 0 (.fst 2 (.act 1 (.act 3 (.act 4 .done))))) mixed [] trivial (by kernel_rfl) ?_
   clear H; intro w1 H
   have hX : Ext w1 w1 := Upd.refl _ _
   have H0 := H
   refine loadNX [(t__0h).v] rfl (fun j u hj => H.bx 1 rfl hj) ?_
   obtain ⟨y0, e, f5⟩ := bindS f4; clear f4
   obtain ⟨y0_0, rfl⟩ : ∃ z, z = y0 := ⟨_, rfl⟩
   have i0 := e; clear e
   refine callFx (spec_tmId_c front_ y0_0 i0) H trivial ?_; clear H i0
   rintro _ _ w3 ⟨h0, rfl, rfl⟩ hx H
   replace hX := hX.trans0 hx; clear hx
   refine hold hX ?_
   obtain ⟨y1, e, f6⟩ := bindS f5; clear f5
   obtain ⟨y1_0, rfl⟩ : ∃ z, z = y1 := ⟨_, rfl⟩
   have i1 := e; clear e
   refine callFx (spec_tmPar_c y0_0 h0 t__0 t__0h y1_0 i1) H ⟨Vw.own 0 rfl, Vw.own 3 rfl, trivial⟩ ?_; clear H i1
   rintro _ _ w4 ⟨h1, rfl, rfl⟩ hx H
   replace hX := hX.trans0 hx; clear hx
   refine hold hX ?_
   replace H := H.sel [3, 0, 1, 2, 4] rfl
   refine stA gok [(h1).v] rfl H rfl rfl rfl ?_; clear H; intro w6 H
   refine hold trivial ?_
   exact ⟨(y1_0, h1), ⟨rfl, rfl, rfl, trivial⟩, Option.some.inj f6, H.sel [0, 1, 3] rfl⟩
 ·
  clear f0 H
  rintro T0 ⟨s0, g0⟩ w7 ⟨hr, (H : Cx w0 fp0 S0 w7 [Bx b3 [(g0).v], E (List (Int × Int × ByteArray)) s0 g0, Bx b6 [(.slice none 0 0)]])⟩
  subst hr
  obtain ⟨r1, f7, f8⟩ := bindS f1; clear f1
  refine cut (fun (q1 : (List (Int × Int × ByteArray)) × Hd) => [(4, (.pointer (some ⟨b3, 0, none⟩))), (6, (.pointer (some ⟨b6, 0, none⟩)))]) (fun (q1 : (List (Int × Int × ByteArray)) × Hd) w' => q1.1 = r1 ∧ Cx w0 fp0 S0 w' [Bx b3 [(q1.2).v], E (List (Int × Int × ByteArray)) q1.1 q1.2, Bx b6 [(.slice none 0 0)]]) ?_ ?_
  ·
   obtain ⟨a1, e, f9⟩ := bindS f7; clear f7
   refine boolO e ?_; clear e
   cases a1
   ·
    have f10 := condF f9; clear f9
    exact ⟨(s0, g0), ⟨rfl, rfl, trivial⟩, Option.some.inj f10, H.sel [0, 1, 2] rfl⟩
   ·
    have f11 := condT f9; clear f9
    refine heldX H [4] (.fst 1 (.fst 0 (.act 2 (.act 3 (.act 4 .done))))) mixed [] trivial (by kernel_rfl) ?_
    clear H; intro w8 H
    have hX : Ext w8 w8 := Upd.refl _ _
    have H0 := H
    refine loadNX [(g0).v] rfl (fun j u hj => H.bx 0 rfl hj) ?_
    obtain ⟨y2, e, f12⟩ := bindS f11; clear f11
    obtain ⟨y2_0, rfl⟩ : ∃ z, z = y2 := ⟨_, rfl⟩
    have i2 := e; clear e
    refine callFx (spec_tmId_c behind_ y2_0 i2) H trivial ?_; clear H i2
    rintro _ _ w9 ⟨h2, rfl, rfl⟩ hx H
    replace hX := hX.trans0 hx; clear hx
    refine hold hX ?_
    obtain ⟨y3, e, f13⟩ := bindS f12; clear f12
    obtain ⟨y3_0, rfl⟩ : ∃ z, z = y3 := ⟨_, rfl⟩
    have i3 := e; clear e
    refine callFx (spec_tmPar_c s0 g0 y2_0 h2 y3_0 i3) H ⟨Vw.own 2 rfl, Vw.own 0 rfl, trivial⟩ ?_; clear H i3
    rintro _ _ w10 ⟨h3, rfl, rfl⟩ hx H
    replace hX := hX.trans0 hx; clear hx
    refine hold hX ?_
    replace H := H.sel [2, 0, 1, 3, 4] rfl
    refine stA gok [(h3).v] rfl H rfl rfl rfl ?_; clear H; intro w11 H
    refine hold trivial ?_
    exact ⟨(y3_0, h3), ⟨rfl, rfl, trivial⟩, Option.some.inj f13, H.sel [0, 1, 4] rfl⟩
  ·
   clear f7 H
   rintro T1 ⟨s1, g1⟩ w12 ⟨hr, (H : Cx w0 fp0 S0 w12 [Bx b3 [(g1).v], E (List (Int × Int × ByteArray)) s1 g1, Bx b6 [(.slice none 0 0)]])⟩
   subst hr
   refine loadN [(g1).v] rfl (fun j u hj => H.bx 0 rfl hj) ?_
   replace H := H.sel [2, 0, 1] rfl
   refine stA gok [(g1).v] rfl H rfl rfl rfl ?_; clear H; intro w13 H
   refine loadN [(g1).v] rfl (fun j u hj => H.bx 0 rfl hj) ?_
   cases f8
   exact ⟨_, _, rfl, ⟨g1, rfl, rfl⟩, (H.sel [2] rfl).close ⟨cloE, trivial⟩⟩

theorem spec_tmSeq_c (a__0 : List (Int × Int × ByteArray)) (a__0h : Hd) (b__0 : List (Int × Int × ByteArray)) (b__0h : Hd) (y_0 : List (Int × Int × ByteArray)) (hF : F_spec_tmSeq a__0 b__0 = some y_0) :
  ConF Tryz.prog 115 #[(.agg #[(a__0h).v]), (.agg #[(b__0h).v])] [Es (List (Int × Int × ByteArray)) a__0 a__0h, Es (List (Int × Int × ByteArray)) b__0 b__0h] [] (fun v Γ' => ∃ z0 : Hd, v = (.agg #[(z0).v]) ∧ Γ' = [E (List (Int × Int × ByteArray)) y_0 z0]) := by
 intro w0 S0 fp0 hI hS
 have H : Cx w0 fp0 S0 w0 [Es (List (Int × Int × ByteArray)) a__0 a__0h, Es (List (Int × Int × ByteArray)) b__0 b__0h] := Cx.start hI hS
 clear hI hS
 refine enterC (args := [_, _]) gok Tryz.func115 rfl _ rfl rfl rfl ?_
 refine box_ H ?_; clear H; intro b4 w3 hx H
 clear hx
 refine box_ H ?_; clear H; intro b7 w6 hx H
 clear hx
 refine alloc_ gok rfl H ?_; clear H; intro b0 w9 hx H
 clear hx
 refine loadN [(a__0h).v] rfl (fun j u hj => H.bx 2 rfl hj) ?_
 refine loadN [(b__0h).v] rfl (fun j u hj => H.bx 1 rfl hj) ?_
 obtain ⟨y0, e, f0⟩ := bindS hF; clear hF
 obtain ⟨y0_0, rfl⟩ : ∃ z, z = y0 := ⟨_, rfl⟩
 have i0 := e; clear e
 refine callF (spec_tmJoin_c a__0 a__0h b__0 b__0h 15 y0_0 i0) (Γi := []) H ⟨Vw.sh 3 rfl, Vw.sh 4 rfl, trivial⟩ ?_; clear H i0
 rintro _ _ w1 ⟨h0, rfl, rfl⟩ H
 replace H := H.sel [1, 0, 2, 3, 4, 5] rfl
 refine stA gok [(h0).v] rfl H rfl rfl rfl ?_; clear H; intro w2 H
 refine loadN [(h0).v] rfl (fun j u hj => H.bx 0 rfl hj) ?_
 cases f0
 exact ⟨_, _, rfl, ⟨h0, rfl, rfl⟩, (H.sel [1] rfl).close ⟨cloE, trivial⟩⟩

theorem spec_tmPerm_c (perm_ : List Int) (perm_h : Hd) (y_0 : List (Int × Int × ByteArray)) (hF : F_spec_tmPerm perm_ = some y_0) :
  ConF Tryz.prog 91 #[(perm_h).v] [Es (List Int) perm_ perm_h] [] (fun v Γ' => ∃ z0 : Hd, v = (.agg #[(z0).v]) ∧ Γ' = [E (List (Int × Int × ByteArray)) y_0 z0]) := by
 intro w0 S0 fp0 hI hS
 have H : Cx w0 fp0 S0 w0 [Es (List Int) perm_ perm_h] := Cx.start hI hS
 clear hI hS
 refine enterC (args := [_]) gok Tryz.func91 rfl _ rfl rfl rfl ?_
 refine alloc_ gok rfl H ?_; clear H; intro b3 w2 hx H
 clear hx
 obtain ⟨y5, e, hF6⟩ := bindS hF; clear hF
 have ey5 := e; clear e
 refine callF (spec_l1Own_c perm_ perm_h y5 ey5) (Γi := []) H ⟨Vw.sh 1 rfl, trivial⟩ ?_; clear H ey5
 rintro _ _ w7 ⟨h8, rfl, rfl⟩ H
 refine lenE (H.ro (α := List Int) 0 rfl).len ?_
 obtain ⟨y0, e, f0⟩ := bindS hF6; clear hF6
 obtain ⟨y0_0, rfl⟩ : ∃ z, z = y0 := ⟨_, rfl⟩
 have i0 := e; clear e
 refine callF (spec_tmId_c ((y5.length : Nat) : Int) y0_0 i0) (Γi := []) H trivial ?_; clear H i0
 rintro _ _ w1 ⟨h0, rfl, rfl⟩ H
 refine alloc_ gok rfl H ?_; clear H; intro b0 w3 hx H
 clear hx
 refine stA gok [(h0).v] rfl H rfl rfl rfl ?_; clear H; intro w4 H
 refine loopW _ (fun (s0 : (List (Int × Int × ByteArray)) × List Int × Int) (g0 : Hd) => [(2, (.pointer (some ⟨b3, 0, none⟩))), (3, (h8).v), (4, (.int .i64 ((y5.length : Nat) : Int))), (5, (.pointer (some ⟨b0, 0, none⟩))), (6, (.int .i64 s0.2.2))]) (fun (s0 : (List (Int × Int × ByteArray)) × List Int × Int) (g0 : Hd) w' => Cx w0 fp0 S0 w' [Bx b3 [(.slice none 0 0)], E (List Int) s0.2.1 h8, Bx b0 [(g0).v], E (List (Int × Int × ByteArray)) s0.1 g0]) (y0_0, y5, 0) h0 f0 ⟨rfl, rfl, rfl, rfl, rfl, trivial⟩ (H.sel [3, 2, 0, 1] rfl) ?_
 ·
  clear H
  rintro T0 ⟨s0_0, s0_1, s0_2⟩ g0 w5 o0 (H : Cx w0 fp0 S0 w5 [Bx b3 [(.slice none 0 0)], E (List Int) s0_1 h8, Bx b0 [(g0).v], E (List (Int × Int × ByteArray)) s0_0 g0]) hrt f1
  refine sq ?_
  obtain ⟨r0, f2, f3⟩ := bindS f1; clear f1
  refine cut (fun (q0 : Int) => [(2, (.pointer (some ⟨b3, 0, none⟩))), (3, (h8).v), (4, (.int .i64 ((y5.length : Nat) : Int))), (5, (.pointer (some ⟨b0, 0, none⟩))), (6, (.int .i64 s0_2)), (7, (.int .i64 q0))]) (fun (q0 : Int) w' => q0 = r0 ∧ Cx w0 fp0 S0 w' [Bx b3 [(.slice none 0 0)], E (List Int) s0_1 h8, Bx b0 [(g0).v], E (List (Int × Int × ByteArray)) s0_0 g0]) ?_ ?_
  ·
   refine loopW _ (fun (s1 : Int) (_ : Unit) => [(2, (.pointer (some ⟨b3, 0, none⟩))), (3, (h8).v), (4, (.int .i64 ((y5.length : Nat) : Int))), (5, (.pointer (some ⟨b0, 0, none⟩))), (6, (.int .i64 s0_2)), (7, (.int .i64 s1))]) (fun (s1 : Int) (_ : Unit) w' => Cx w0 fp0 S0 w' [Bx b3 [(.slice none 0 0)], E (List Int) s0_1 h8, Bx b0 [(g0).v], E (List (Int × Int × ByteArray)) s0_0 g0]) 0 () f2 ⟨rfl, rfl, rfl, rfl, rfl, rfl, trivial⟩ (H.sel [0, 1, 2, 3] rfl) ?_
   ·
    clear H
    rintro T1 s1 _ w6 o1 (H : Cx w0 fp0 S0 w6 [Bx b3 [(.slice none 0 0)], E (List Int) s0_1 h8, Bx b0 [(g0).v], E (List (Int × Int × ByteArray)) s0_0 g0]) hrt f4
    refine sq ?_
    obtain ⟨r1, f5, f6⟩ := bindS f4; clear f4
    refine cut (fun (q1 : Bool) => [(2, (.pointer (some ⟨b3, 0, none⟩))), (3, (h8).v), (4, (.int .i64 ((y5.length : Nat) : Int))), (5, (.pointer (some ⟨b0, 0, none⟩))), (6, (.int .i64 s0_2)), (7, (.int .i64 s1)), (33, (.bool q1))]) (fun (q1 : Bool) w' => q1 = r1 ∧ Cx w0 fp0 S0 w' [Bx b3 [(.slice none 0 0)], E (List Int) s0_1 h8, Bx b0 [(g0).v], E (List (Int × Int × ByteArray)) s0_0 g0]) ?_ ?_
    ·
     refine heldX H [] (.fst 0 (.fst 1 (.fst 2 (.fst 3 (.fst 4 (.fst 5 (.fst 6 (.fst 7 (.fst 9 (.fst 10 (.fst 11 (.fst 12 (.fst 8 (.fst 13 (.fst 14 (.fst 15 .done)))))))))))))))) mixed [] trivial (by kernel_rfl) ?_
     clear H; intro w8 H
     have hX : Ext w8 w8 := Upd.refl _ _
     have H0 := H
     obtain ⟨a0, e, f7⟩ := bindS f5; clear f5
     refine arO e ?_; clear e
     obtain ⟨a1, e, f8⟩ := bindS f7; clear f7
     refine boolO e ?_; clear e
     cases a1
     ·
      have f9 := condF f8; clear f8
      exact ⟨false, ⟨rfl, rfl, rfl, rfl, rfl, rfl, rfl, trivial⟩, Option.some.inj f9, H.sel [0, 1, 2, 3] rfl⟩
     ·
      have f10 := condT f8; clear f8
      obtain ⟨a2, e, f11⟩ := bindS f10; clear f10
      obtain ⟨p0, m0, c0, c1, c2, c3⟩ := (H.ro (α := List Int) 1 rfl).at1 e; clear e
      refine idxE c0 c1 c2 ?_; clear c0 c1 c2
      obtain ⟨a3, e, f12⟩ := bindS f11; clear f11
      refine arO e ?_; clear e
      obtain ⟨a4, e, f13⟩ := bindS f12; clear f12
      obtain ⟨p1, m1, c4, c5, c6, c7⟩ := (H.ro (α := List Int) 1 rfl).at1 e; clear e
      refine idxE c4 c5 c6 ?_; clear c4 c5 c6
      refine load1X c3 ?_; clear c3
      refine load1X c7 ?_; clear c7
      obtain ⟨a5, e, f14⟩ := bindS f13; clear f13
      refine boolO e ?_; clear e
      exact ⟨a5, ⟨rfl, rfl, rfl, rfl, rfl, rfl, rfl, trivial⟩, Option.some.inj f14, H.sel [0, 1, 2, 3] rfl⟩
    ·
     clear f5 H
     rintro T2 s2 w9 ⟨hr, (H : Cx w0 fp0 S0 w9 [Bx b3 [(.slice none 0 0)], E (List Int) s0_1 h8, Bx b0 [(g0).v], E (List (Int × Int × ByteArray)) s0_0 g0])⟩
     subst hr
     cases s2
     ·
      have f15 := condF f6; clear f6
      have hs := Option.some.inj f15; subst hs; clear f15
      have f16 : some _ = some _ := congrArg some (hrt _ rfl).symm
      exact ⟨s1, ⟨rfl, rfl, rfl, rfl, rfl, rfl, trivial⟩, Option.some.inj f16, H.sel [0, 1, 2, 3] rfl⟩
     ·
      have f17 := condT f6; clear f6
      obtain ⟨a6, e, f18⟩ := bindS f17; clear f17
      refine arO e ?_; clear e
      have hs := Option.some.inj f18; subst hs; clear f18
      exact ⟨a6, (), rfl, ⟨rfl, rfl, rfl, rfl, rfl, rfl, trivial⟩, H.sel [0, 1, 2, 3] rfl⟩
  ·
   clear f2 H
   rintro T3 s3 w10 ⟨hr, (H : Cx w0 fp0 S0 w10 [Bx b3 [(.slice none 0 0)], E (List Int) s0_1 h8, Bx b0 [(g0).v], E (List (Int × Int × ByteArray)) s0_0 g0])⟩
   subst hr
   refine sq ?_
   obtain ⟨a7, e, f19⟩ := bindS f3; clear f3
   refine arO e ?_; clear e
   obtain ⟨a8, e, f20⟩ := bindS f19; clear f19
   refine boolO e ?_; clear e
   cases a8
   ·
    have f21 := condF f20; clear f20
    obtain ⟨a9, e, f22⟩ := bindS f21; clear f21
    obtain ⟨p2, m2, c8, c9, c10, c11⟩ := (H.ro (α := List Int) 1 rfl).at1 e; clear e
    refine idxE c8 c9 c10 ?_; clear c8 c9 c10
    refine load1 c11 ?_; clear c11
    obtain ⟨a10, e, f23⟩ := bindS f22; clear f22
    refine arO e ?_; clear e
    obtain ⟨a11, e, f24⟩ := bindS f23; clear f23
    obtain ⟨p3, m3, c12, c13, c14, c15⟩ := (H.ro (α := List Int) 1 rfl).at1 e; clear e
    refine idxE c12 c13 c14 ?_; clear c12 c13 c14
    refine load1 c15 ?_; clear c15
    obtain ⟨a12, e, f25⟩ := bindS f24; clear f24
    have i1 := e; clear e
    obtain ⟨p4, m4, c16, c17, c18⟩ := (H.ro (α := List Int) 1 rfl).setp i1
    refine idxE c16 c17 c18 ?_
    replace H := H.sel [1, 0, 2, 3] rfl
    refine setS (α := Int) H c16 c17 i1 ?_; clear H c16 c17 c18 i1; intro w11 H
    obtain ⟨a13, e, f26⟩ := bindS f25; clear f25
    refine arO e ?_; clear e
    obtain ⟨a14, e, f27⟩ := bindS f26; clear f26
    have i2 := e; clear e
    obtain ⟨p5, m5, c19, c20, c21⟩ := (H.ro (α := List Int) 0 rfl).setp i2
    refine idxE c19 c20 c21 ?_
    refine setS (α := Int) H c19 c20 i2 ?_; clear H c19 c20 c21 i2; intro w13 H
    obtain ⟨y1, e, f28⟩ := bindS f27; clear f27
    obtain ⟨y1_0, rfl⟩ : ∃ z, z = y1 := ⟨_, rfl⟩
    have i3 := e; clear e
    refine callF (spec_tmOne_c 2 0 y1_0 i3) (Γi := []) H trivial ?_; clear H i3
    rintro _ _ w14 ⟨h1, rfl, rfl⟩ H
    obtain ⟨a15, e, f29⟩ := bindS f28; clear f28
    refine arO e ?_; clear e
    obtain ⟨a16, e, f30⟩ := bindS f29; clear f29
    refine arO e ?_; clear e
    obtain ⟨y2, e, f31⟩ := bindS f30; clear f30
    obtain ⟨y2_0, rfl⟩ : ∃ z, z = y2 := ⟨_, rfl⟩
    have i4 := e; clear e
    refine callF (spec_tmLayer_c s3 y1_0 h1 a16 y2_0 i4) (Γi := [E (List (Int × Int × ByteArray)) y1_0 h1]) H trivial ?_; clear H i4
    rintro _ _ w16 ⟨h2, rfl, rfl⟩ H
    refine alloc_ gok rfl H ?_; clear H; intro b1 w17 hx H
    clear hx
    refine stA gok [(h2).v] rfl H rfl rfl rfl ?_; clear H; intro w19 H
    obtain ⟨a17, e, f32⟩ := bindS f31; clear f31
    refine boolO e ?_; clear e
    cases a17
    ·
     have f33 := condF f32; clear f32
     refine loadN [(g0).v] rfl (fun j u hj => H.bx 4 rfl hj) ?_
     refine loadN [(h2).v] rfl (fun j u hj => H.bx 0 rfl hj) ?_
     obtain ⟨y3, e, f34⟩ := bindS f33; clear f33
     obtain ⟨y3_0, rfl⟩ : ∃ z, z = y3 := ⟨_, rfl⟩
     have i5 := e; clear e
     refine callF (spec_tmSeq_c s0_0 g0 y2_0 h2 y3_0 i5) (Γi := []) H ⟨Vw.own 5 rfl, Vw.own 1 rfl, trivial⟩ ?_; clear H i5
     rintro _ _ w20 ⟨h3, rfl, rfl⟩ H
     replace H := H.sel [5, 0, 1, 2, 3, 4, 6] rfl
     refine stA gok [(h3).v] rfl H rfl rfl rfl ?_; clear H; intro w21 H
     obtain ⟨a18, e, f35⟩ := bindS f34; clear f34
     refine arO e ?_; clear e
     have hs := Option.some.inj f35; subst hs; clear f35
     exact ⟨(y3_0, a14, a18), h3, rfl, ⟨rfl, rfl, rfl, rfl, rfl, trivial⟩, H.sel [5, 4, 0, 1] rfl⟩
    ·
     have f36 := condT f32; clear f32
     refine loadN [(h2).v] rfl (fun j u hj => H.bx 0 rfl hj) ?_
     replace H := H.sel [4, 0, 1, 2, 3, 5] rfl
     refine stA gok [(h2).v] rfl H rfl rfl rfl ?_; clear H; intro w22 H
     obtain ⟨a19, e, f37⟩ := bindS f36; clear f36
     refine arO e ?_; clear e
     have hs := Option.some.inj f37; subst hs; clear f37
     exact ⟨(y2_0, a14, a19), h2, rfl, ⟨rfl, rfl, rfl, rfl, rfl, trivial⟩, H.sel [4, 3, 0, 2] rfl⟩
   ·
    have f38 := condT f20; clear f20
    refine loadN [(g0).v] rfl (fun j u hj => H.bx 2 rfl hj) ?_
    refine stA gok [(g0).v] rfl H rfl rfl rfl ?_; clear H; intro w23 H
    have hs := Option.some.inj f38; subst hs; clear f38
    have f39 : some _ = some _ := congrArg some (hrt _ rfl).symm
    refine loadN [(g0).v] rfl (fun j u hj => H.bx 0 rfl hj) ?_
    cases f39
    exact ⟨_, _, rfl, ⟨g0, rfl, rfl⟩, (H.sel [3] rfl).close ⟨cloE, trivial⟩⟩

theorem spec_rbMove_c (from_ : List Int) (from_h : Hd) (to_ : List Int) (to_h : Hd) (y : List (List (Int × Int × ByteArray))) (hF : F_spec_rbMove from_ to_ = some y) :
  ConF Tryz.prog 61 #[(from_h).v, (to_h).v] [Es (List Int) from_ from_h, Es (List Int) to_ to_h] [] (fun v Γ' => ∃ z0 : Hd, v = (z0).v ∧ Γ' = [E (List (List (Int × Int × ByteArray))) y z0]) := by
 intro w0 S0 fp0 hI hS
 have H : Cx w0 fp0 S0 w0 [Es (List Int) from_ from_h, Es (List Int) to_ to_h] := Cx.start hI hS
 clear hI hS
 refine enterC (args := [_, _]) gok Tryz.func61 rfl _ rfl rfl rfl ?_
 refine sq ?_
 obtain ⟨y3, e, hF4⟩ := bindS hF; clear hF
 have ey3 := e; clear e
 refine callF (spec_l1Same_c from_ from_h to_ to_h y3 ey3) (Γi := []) H ⟨Vw.sh 0 rfl, Vw.sh 1 rfl, trivial⟩ ?_; clear H ey3
 rintro _ _ w5 ⟨rfl, rfl⟩ H
 cases y3
 ·
  have hF6 := condF hF4; clear hF4
  refine sq ?_
  refine lenE (H.rs (α := List Int) 0 rfl).len ?_
  have x0 := (H.rs (α := List Int) 0 rfl).max
  obtain ⟨r0, e, f0⟩ := bindS hF6; clear hF6
  replace H := H.nil (α := Int)
  refine loopS _ from_.length (fun (k7 : Nat) (s0 : List Int) (g0 : Hd) => [(1, (to_h).v), (5, (g0).v), (12, (from_h).v), (13, (.int .i64 ((from_.length : Nat) : Int))), (14, (.int .i64 ((k7 : Nat) : Int)))]) (fun _ (s0 : List Int) (g0 : Hd) w' => Cx w0 fp0 S0 w' [Es (List Int) to_ to_h, E (List Int) s0 g0, Es (List Int) from_ from_h]) [] nilH e ⟨rfl, rfl, rfl, rfl, rfl, trivial⟩ (H.sel [2, 0, 1] rfl) ?_ ?_
  ·
   clear H e
   rintro T0 k7 s0 g0 w1 o0 hk (H : Cx w0 fp0 S0 w1 [Es (List Int) to_ to_h, E (List Int) s0 g0, Es (List Int) from_ from_h]) f1
   refine boolE (z := true) (ltLen hk) ?_
   refine sq ?_
   refine sq ?_
   obtain ⟨a0, e, f2⟩ := bindS f1; clear f1
   obtain ⟨p0, m0, c0, c1, c2, c3⟩ := (H.rs (α := List Int) 2 rfl).at1 e; clear e
   refine idxE c0 c1 c2 ?_; clear c0 c1 c2
   refine load1 c3 ?_; clear c3
   obtain ⟨r1, f3, f4⟩ := bindS f2; clear f2
   refine cut (fun (q0 : Int) => [(1, (to_h).v), (5, (g0).v), (8, (.int .i64 q0)), (12, (from_h).v), (13, (.int .i64 ((from_.length : Nat) : Int))), (14, (.int .i64 ((k7 : Nat) : Int)))]) (fun (q0 : Int) w' => q0 = r1 ∧ Cx w0 fp0 S0 w' [Es (List Int) to_ to_h, E (List Int) s0 g0, Es (List Int) from_ from_h]) ?_ ?_
   ·
    refine loopW _ (fun (s1 : Int) (_ : Unit) => [(1, (to_h).v), (5, (g0).v), (7, (.int .i64 a0)), (8, (.int .i64 s1)), (12, (from_h).v), (13, (.int .i64 ((from_.length : Nat) : Int))), (14, (.int .i64 ((k7 : Nat) : Int)))]) (fun (s1 : Int) (_ : Unit) w' => Cx w0 fp0 S0 w' [Es (List Int) to_ to_h, E (List Int) s0 g0, Es (List Int) from_ from_h]) 0 () f3 ⟨rfl, rfl, rfl, rfl, rfl, rfl, rfl, trivial⟩ (H.sel [0, 1, 2] rfl) ?_
    ·
     clear H
     rintro T1 s1 _ w2 o1 (H : Cx w0 fp0 S0 w2 [Es (List Int) to_ to_h, E (List Int) s0 g0, Es (List Int) from_ from_h]) hrt f5
     refine sq ?_
     obtain ⟨a1, e, f6⟩ := bindS f5; clear f5
     obtain ⟨p1, m1, c4, c5, c6, c7⟩ := (H.rs (α := List Int) 0 rfl).at1 e; clear e
     refine idxE c4 c5 c6 ?_; clear c4 c5 c6
     refine load1 c7 ?_; clear c7
     obtain ⟨a2, e, f7⟩ := bindS f6; clear f6
     refine boolO e ?_; clear e
     cases a2
     ·
      have f8 := condF f7; clear f7
      have hs := Option.some.inj f8; subst hs; clear f8
      have f9 : some _ = some _ := congrArg some (hrt _ rfl).symm
      exact ⟨s1, ⟨rfl, rfl, rfl, rfl, rfl, rfl, trivial⟩, Option.some.inj f9, H.sel [0, 1, 2] rfl⟩
     ·
      have f10 := condT f7; clear f7
      obtain ⟨a3, e, f11⟩ := bindS f10; clear f10
      refine arO e ?_; clear e
      have hs := Option.some.inj f11; subst hs; clear f11
      exact ⟨a3, (), rfl, ⟨rfl, rfl, rfl, rfl, rfl, rfl, rfl, trivial⟩, H.sel [0, 1, 2] rfl⟩
   ·
    clear f3 H
    rintro T2 s2 w3 ⟨hr, (H : Cx w0 fp0 S0 w3 [Es (List Int) to_ to_h, E (List Int) s0 g0, Es (List Int) from_ from_h])⟩
    subst hr
    refine lit1S (α := Int) gok rfl rfl rfl rfl H ?_; clear H; intro h0 w4 hx H
    clear hx
    obtain ⟨a4, e, f12⟩ := bindS f4; clear f4
    replace H := H.sel [2, 0, 1, 3] rfl
    refine append_ (α := Int) gok rfl rfl rfl rfl H e ?_; clear e H; intro h1 w6 H
    refine arK hk x0 ?_
    have hs := Option.some.inj f12; subst hs; clear f12
    exact ⟨h1, ⟨rfl, rfl, rfl, rfl, rfl, trivial⟩, H.sel [1, 0, 2] rfl⟩
  ·
   clear H e
   rintro T3 g1 w7 (H : Cx w0 fp0 S0 w7 [Es (List Int) to_ to_h, E (List Int) r0 g1, Es (List Int) from_ from_h])
   refine boolE (z := false) geLen ?_
   refine sq ?_
   obtain ⟨y0, e, f13⟩ := bindS f0; clear f0
   obtain ⟨y0_0, rfl⟩ : ∃ z, z = y0 := ⟨_, rfl⟩
   have i0 := e; clear e
   refine callF (spec_tmPerm_c r0 g1 y0_0 i0) (Γi := []) H ⟨Vw.own 1 rfl, trivial⟩ ?_; clear H i0
   rintro _ _ w8 ⟨h2, rfl, rfl⟩ H
   refine lit1 (α := List (Int × Int × ByteArray)) (g := h2) gok rfl rfl rfl rfl rfl H ?_; clear H; intro h3 w9 hx H
   clear hx
   cases f13
   exact ⟨_, _, rfl, ⟨h3, rfl, rfl⟩, (H.sel [0] rfl).close ⟨cloE, trivial⟩⟩
 ·
  have f14 := condT hF4; clear hF4
  replace H := H.nil (α := List (Int × Int × ByteArray))
  cases f14
  exact ⟨_, _, rfl, ⟨nilH, rfl, rfl⟩, (H.sel [0] rfl).close ⟨cloE, trivial⟩⟩

theorem spec_tmChain_c (l_ : List (List (Int × Int × ByteArray))) (l_h : Hd) (kind_ : Int) (y_0 : List (Int × Int × ByteArray)) (hF : F_spec_tmChain l_ kind_ = some y_0) :
  ConS Tryz.prog 65 #[(l_h).v, (.int .i64 kind_)] [Es (List (List (Int × Int × ByteArray))) l_ l_h] [] (fun v Γ' => ∃ z0 : Hd, v = (.agg #[(z0).v]) ∧ Γ' = [Es (List (Int × Int × ByteArray)) y_0 z0]) := by
 intro w0 S0 fp0 hI hS
 have H : Cx w0 fp0 S0 w0 [Es (List (List (Int × Int × ByteArray))) l_ l_h] := Cx.start hI hS
 clear hI hS
 refine enterC (args := [_, _]) gok Tryz.func65 rfl _ rfl rfl rfl ?_
 refine alloc_ gok rfl H ?_; clear H; intro b3 w2 hx H
 clear hx
 obtain ⟨a0, e, f0⟩ := bindS hF; clear hF
 have HH := H; clear H; obtain ⟨p9, m0, g0, c5, c6, c7, c8, H⟩ := HH.el (α := (List (Int × Int × ByteArray))) 1 rfl e; clear HH
 clear e
 obtain ⟨a0_0, rfl⟩ : ∃ z, z = a0 := ⟨_, rfl⟩
 obtain ⟨h0, rfl⟩ : ∃ z, z = g0 := ⟨_, rfl⟩
 replace H := H.part (β := List (Int × Int × ByteArray)) a0_0 (h0 : Hd) 0 rfl (fun S h => h)
 replace H := H.sel [0, 2, 3] rfl
 refine idxE c5 c6 c7 ?_; clear c5 c6 c7
 refine loadN [(h0).v] rfl c8 ?_; clear c8
 refine alloc_ gok rfl H ?_; clear H; intro b0 w1 hx H
 clear hx
 refine stA gok [(h0).v] rfl H rfl rfl rfl ?_; clear H; intro w3 H
 refine sq ?_
 obtain ⟨a1, e, f1⟩ := bindS f0; clear f0
 refine slS (α := List (Int × Int × ByteArray)) (hi := none) gok rfl rfl H 3 rfl e rfl (congrArg (fun n : Nat => some (n : Int)) (H.rs (α := List (List (Int × Int × ByteArray))) 3 rfl).len) ?_; clear e H; intro h1 H
 refine lenE (H.rs (α := List (List (Int × Int × ByteArray))) 0 rfl).len ?_
 have x0 := (H.rs (α := List (List (Int × Int × ByteArray))) 0 rfl).max
 obtain ⟨r0, e, f2⟩ := bindS f1; clear f1
 refine loopS _ a1.length (fun (k0 : Nat) (s0 : List (Int × Int × ByteArray)) (g1 : Hd) => [(1, (.int .i64 kind_)), (4, (.pointer (some ⟨b3, 0, none⟩))), (5, (.pointer (some ⟨b0, 0, none⟩))), (12, (h1).v), (13, (.int .i64 ((a1.length : Nat) : Int))), (14, (.int .i64 ((k0 : Nat) : Int)))]) (fun _ (s0 : List (Int × Int × ByteArray)) (g1 : Hd) w' => Cx w0 fp0 S0 w' [Bx b3 [(.slice none 0 0)], Bx b0 [(g1).v], Es (List (Int × Int × ByteArray)) s0 g1, Es (List (List (Int × Int × ByteArray))) a1 h1]) a0_0 h0 e ⟨rfl, rfl, rfl, rfl, rfl, rfl, trivial⟩ (H.sel [3, 1, 2, 0] rfl) ?_ ?_
 ·
  clear H e
  rintro T0 k0 s0 g1 w4 o0 hk (H : Cx w0 fp0 S0 w4 [Bx b3 [(.slice none 0 0)], Bx b0 [(g1).v], Es (List (Int × Int × ByteArray)) s0 g1, Es (List (List (Int × Int × ByteArray))) a1 h1]) f3
  refine boolE (z := true) (ltLen hk) ?_
  refine sq ?_
  refine sq ?_
  obtain ⟨a2, e, f4⟩ := bindS f3; clear f3
  have HH := H; clear H; obtain ⟨p0, m1, g2, c0, c1, c2, c3, H⟩ := HH.el (α := (List (Int × Int × ByteArray))) 3 rfl e; clear HH
  clear e
  obtain ⟨a2_0, rfl⟩ : ∃ z, z = a2 := ⟨_, rfl⟩
  obtain ⟨h2, rfl⟩ : ∃ z, z = g2 := ⟨_, rfl⟩
  replace H := H.part (β := List (Int × Int × ByteArray)) a2_0 (h2 : Hd) 0 rfl (fun S h => h)
  replace H := H.sel [0, 2, 3, 4, 5] rfl
  refine idxE c0 c1 c2 ?_; clear c0 c1 c2
  refine loadN [(h2).v] rfl c3 ?_; clear c3
  refine alloc_ gok rfl H ?_; clear H; intro b1 w5 hx H
  clear hx
  refine stA gok [(h2).v] rfl H rfl rfl rfl ?_; clear H; intro w6 H
  refine loadN [(g1).v] rfl (fun j u hj => H.bx 3 rfl hj) ?_
  refine loadN [(h2).v] rfl (fun j u hj => H.bx 0 rfl hj) ?_
  obtain ⟨y0, e, f5⟩ := bindS f4; clear f4
  obtain ⟨y0_0, rfl⟩ : ∃ z, z = y0 := ⟨_, rfl⟩
  have i0 := e; clear e
  refine callF (spec_tmJoin_c s0 g1 a2_0 h2 kind_ y0_0 i0) (Γi := []) H ⟨Vw.sh 4 rfl, Vw.sh 1 rfl, trivial⟩ ?_; clear H i0
  rintro _ _ w7 ⟨h3, rfl, rfl⟩ H
  replace H := H.sel [4, 0, 1, 2, 3, 5, 6] rfl
  refine stA gok [(h3).v] rfl H rfl rfl rfl ?_; clear H; intro w8 H
  refine arK hk x0 ?_
  replace H := H.sel [1, 0, 2, 3, 4, 5, 6] rfl
  replace H := H.frz
  have hs := Option.some.inj f5; subst hs; clear f5
  exact ⟨h3, ⟨rfl, rfl, rfl, rfl, rfl, rfl, trivial⟩, H.sel [4, 1, 0, 6] rfl⟩
 ·
  clear H e
  rintro T1 g3 w9 (H : Cx w0 fp0 S0 w9 [Bx b3 [(.slice none 0 0)], Bx b0 [(g3).v], Es (List (Int × Int × ByteArray)) r0 g3, Es (List (List (Int × Int × ByteArray))) a1 h1])
  refine boolE (z := false) geLen ?_
  refine sq ?_
  refine loadN [(g3).v] rfl (fun j u hj => H.bx 1 rfl hj) ?_
  refine stA gok [(g3).v] rfl H rfl rfl rfl ?_; clear H; intro w10 H
  refine loadN [(g3).v] rfl (fun j u hj => H.bx 0 rfl hj) ?_
  cases f2
  exact ⟨_, _, rfl, ⟨g3, rfl, rfl⟩, (H.sel [2] rfl)⟩

theorem spec_rbTerm_c (g__0 : Int) (g__1 : List (Int × Int × List Int × List Int)) (g__1h : Hd) (g__2 : List Int) (g__2h : Hd) (g__3 : List Int) (g__3h : Hd) (order_ : List Int) (order_h : Hd) (y_0 : List (Int × Int × ByteArray)) (hF : F_spec_rbTerm (g__0, g__1, g__2, g__3) order_ = some y_0) :
  ConS Tryz.prog 26 #[(.agg #[(.int .i64 g__0), (g__1h).v, (g__2h).v, (g__3h).v]), (order_h).v] [Es (List (Int × Int × List Int × List Int)) g__1 g__1h, Es (List Int) g__2 g__2h, Es (List Int) g__3 g__3h, Es (List Int) order_ order_h] [] (fun v Γ' => ∃ z0 : Hd, v = (.agg #[(z0).v]) ∧ Γ' = [Es (List (Int × Int × ByteArray)) y_0 z0]) := by
 intro w0 S0 fp0 hI hS
 have H : Cx w0 fp0 S0 w0 [Es (List (Int × Int × List Int × List Int)) g__1 g__1h, Es (List Int) g__2 g__2h, Es (List Int) g__3 g__3h, Es (List Int) order_ order_h] := Cx.start hI hS
 clear hI hS
 refine enterC (args := [_, _]) gok Tryz.func26 rfl _ rfl rfl rfl ?_
 refine box_ H ?_; clear H; intro b6 w5 hx H
 clear hx
 refine alloc_ gok rfl H ?_; clear H; intro b9 w8 hx H
 clear hx
 refine fld gok rfl rfl rfl rfl ?_
 refine load1 (H.bx 1 rfl (j := 2) rfl) ?_
 obtain ⟨y0, e, f0⟩ := bindS hF; clear hF
 have i0 := e; clear e
 refine callF (spec_l1Own_c g__2 g__2h y0 i0) (Γi := []) H ⟨Vw.sh 3 rfl, trivial⟩ ?_; clear H i0
 rintro _ _ w1 ⟨h0, rfl, rfl⟩ H
 refine sq ?_
 refine lenE (H.rs (α := List Int) 6 rfl).len ?_
 have x0 := (H.rs (α := List Int) 6 rfl).max
 obtain ⟨r0, e, f1⟩ := bindS f0; clear f0
 replace H := H.nil (α := List (Int × Int × ByteArray))
 refine loopS _ order_.length (fun (k0 : Nat) (s0 : (List (List (Int × Int × ByteArray))) × List Int) (g0 : Hd × Hd) => [(2, (.pointer (some ⟨b6, 0, none⟩))), (4, (.pointer (some ⟨b9, 0, none⟩))), (5, (g0.1).v), (6, (g0.2).v), (14, (order_h).v), (15, (.int .i64 ((order_.length : Nat) : Int))), (16, (.int .i64 ((k0 : Nat) : Int)))]) (fun _ (s0 : (List (List (Int × Int × ByteArray))) × List Int) (g0 : Hd × Hd) w' => Cx w0 fp0 S0 w' [Bx b6 [(.int .i64 g__0), (g__1h).v, (g__2h).v, (g__3h).v], Es (List (Int × Int × List Int × List Int)) g__1 g__1h, Es (List Int) g__2 g__2h, Es (List Int) g__3 g__3h, Bx b9 [(.slice none 0 0)], E (List (List (Int × Int × ByteArray))) s0.1 g0.1, E (List Int) s0.2 g0.2, Es (List Int) order_ order_h]) ([], y0) (nilH, h0) e ⟨rfl, rfl, rfl, rfl, rfl, rfl, rfl, trivial⟩ (H.sel [3, 4, 5, 6, 2, 0, 1, 7] rfl) ?_ ?_
 ·
  clear H e
  rintro T0 k0 ⟨s0_0, s0_1⟩ ⟨g0_0, g0_1⟩ w2 o0 hk (H : Cx w0 fp0 S0 w2 [Bx b6 [(.int .i64 g__0), (g__1h).v, (g__2h).v, (g__3h).v], Es (List (Int × Int × List Int × List Int)) g__1 g__1h, Es (List Int) g__2 g__2h, Es (List Int) g__3 g__3h, Bx b9 [(.slice none 0 0)], E (List (List (Int × Int × ByteArray))) s0_0 g0_0, E (List Int) s0_1 g0_1, Es (List Int) order_ order_h]) f2
  refine boolE (z := true) (ltLen hk) ?_
  refine sq ?_
  refine sq ?_
  obtain ⟨a0, e, f3⟩ := bindS f2; clear f2
  obtain ⟨p0, m0, c0, c1, c2, c3⟩ := (H.rs (α := List Int) 7 rfl).at1 e; clear e
  refine idxE c0 c1 c2 ?_; clear c0 c1 c2
  refine load1 c3 ?_; clear c3
  refine fld gok rfl rfl rfl rfl ?_
  refine load1 (H.bx 0 rfl (j := 1) rfl) ?_
  obtain ⟨a1, e, f4⟩ := bindS f3; clear f3
  have HH := H; clear H; obtain ⟨p1, m1, g1, c4, c5, c6, c7, H⟩ := HH.el (α := Int × Int × List Int × List Int) 1 rfl e; clear HH
  clear e
  obtain ⟨a1_0, a1_1, a1_2, a1_3⟩ := a1
  obtain ⟨_, _, h1, h2⟩ := g1
  replace H := H.part (β := List Int) a1_2 (h1 : Hd) 0 rfl (fun S h => (And.left (And.right (And.right h))))
  replace H := H.part (β := List Int) a1_3 (h2 : Hd) 1 rfl (fun S h => (And.right (And.right (And.right h))))
  replace H := H.sel [0, 1, 3, 4, 5, 6, 7, 8, 9, 10] rfl
  refine idxE c4 c5 c6 ?_; clear c4 c5 c6
  refine loadN [(.int .i64 a1_0), (.int .i64 a1_1), (h1).v, (h2).v] rfl c7 ?_; clear c7
  refine alloc_ gok rfl H ?_; clear H; intro b0 w3 hx H
  clear hx
  refine stA gok [(.int .i64 a1_0), (.int .i64 a1_1), (h1).v, (h2).v] rfl H rfl rfl rfl ?_; clear H; intro w4 H
  refine fld gok rfl rfl rfl rfl ?_
  refine load1 (H.bx 0 rfl (j := 2) rfl) ?_
  obtain ⟨y1, e, f5⟩ := bindS f4; clear f4
  have i1 := e; clear e
  refine callF (spec_rbRest_c s0_1 g0_1 a1_2 h1 y1 i1) (Γi := []) H ⟨Vw.own 9 rfl, Vw.sh 2 rfl, trivial⟩ ?_; clear H i1
  rintro _ _ w6 ⟨h3, rfl, rfl⟩ H
  refine fld gok rfl rfl rfl rfl ?_
  refine load1 (H.bx 1 rfl (j := 2) rfl) ?_
  obtain ⟨y2, e, f6⟩ := bindS f5; clear f5
  have i2 := e; clear e
  refine callF (spec_l1Own_c a1_2 h1 y2 i2) (Γi := []) H ⟨Vw.sh 3 rfl, trivial⟩ ?_; clear H i2
  rintro _ _ w7 ⟨h4, rfl, rfl⟩ H
  obtain ⟨a2, e, f7⟩ := bindS f6; clear f6
  refine appendS (α := Int) gok rfl rfl rfl rfl H (Vw.own 0 rfl) e ?_; clear e H; intro h5 w9 H
  obtain ⟨y3, e, f8⟩ := bindS f7; clear f7
  have i3 := e; clear e
  refine callF (spec_rbMove_c s0_1 g0_1 a2 h5 y3 i3) (Γi := []) H ⟨Vw.own 11 rfl, Vw.own 0 rfl, trivial⟩ ?_; clear H i3
  rintro _ _ w10 ⟨h6, rfl, rfl⟩ H
  obtain ⟨a3, e, f9⟩ := bindS f8; clear f8
  replace H := H.sel [11, 0, 1, 2, 3, 4, 5, 6, 7, 8, 9, 10, 12, 13] rfl
  refine append_ (α := List (Int × Int × ByteArray)) gok rfl rfl rfl rfl H e ?_; clear e H; intro h7 w11 H
  refine fld gok rfl rfl rfl rfl ?_
  refine load1 (H.bx 3 rfl (j := 0) rfl) ?_
  refine fld gok rfl rfl rfl rfl ?_
  refine load1 (H.bx 3 rfl (j := 1) rfl) ?_
  obtain ⟨y4, e, f10⟩ := bindS f9; clear f9
  obtain ⟨y4_0, rfl⟩ : ∃ z, z = y4 := ⟨_, rfl⟩
  have i4 := e; clear e
  refine callF (spec_tmOne_c a1_0 a1_1 y4_0 i4) (Γi := []) H trivial ?_; clear H i4
  rintro _ _ w12 ⟨h8, rfl, rfl⟩ H
  refine lenE (H.ro (α := List Int) 3 rfl).len ?_
  obtain ⟨y5, e, f11⟩ := bindS f10; clear f10
  obtain ⟨y5_0, rfl⟩ : ∃ z, z = y5 := ⟨_, rfl⟩
  have i5 := e; clear e
  refine callF (spec_tmLayer_c 0 y4_0 h8 ((y1.length : Nat) : Int) y5_0 i5) (Γi := [E (List (Int × Int × ByteArray)) y4_0 h8]) H trivial ?_; clear H i5
  rintro _ _ w14 ⟨h9, rfl, rfl⟩ H
  refine lit1 (α := List (Int × Int × ByteArray)) (g := h9) gok rfl rfl rfl rfl rfl H ?_; clear H; intro h10 w15 hx H
  clear hx
  obtain ⟨a4, e, f12⟩ := bindS f11; clear f11
  replace H := H.sel [1, 0, 2, 3, 4, 5, 6, 7, 8, 9, 10, 11, 12, 13] rfl
  refine append_ (α := List (Int × Int × ByteArray)) gok rfl rfl rfl rfl H e ?_; clear e H; intro h11 w16 H
  refine fld gok rfl rfl rfl rfl ?_
  refine load1 (H.bx 3 rfl (j := 3) rfl) ?_
  obtain ⟨y6, e, f13⟩ := bindS f12; clear f12
  have i6 := e; clear e
  refine callF (spec_l1Own_c a1_3 h2 y6 i6) (Γi := []) H ⟨Vw.sh 4 rfl, trivial⟩ ?_; clear H i6
  rintro _ _ w17 ⟨h12, rfl, rfl⟩ H
  obtain ⟨a5, e, f14⟩ := bindS f13; clear f13
  refine appendS (α := Int) gok rfl rfl rfl rfl H (Vw.own 2 rfl) e ?_; clear e H; intro h13 w18 H
  refine arK hk x0 ?_
  have hs := Option.some.inj f14; subst hs; clear f14
  exact ⟨(h11, h13), ⟨rfl, rfl, rfl, rfl, rfl, rfl, rfl, trivial⟩, H.sel [7, 8, 9, 10, 11, 1, 0, 13] rfl⟩
 ·
  clear H e
  obtain ⟨s1_0, s1_1⟩ := r0
  rintro T1 ⟨g2_0, g2_1⟩ w19 (H : Cx w0 fp0 S0 w19 [Bx b6 [(.int .i64 g__0), (g__1h).v, (g__2h).v, (g__3h).v], Es (List (Int × Int × List Int × List Int)) g__1 g__1h, Es (List Int) g__2 g__2h, Es (List Int) g__3 g__3h, Bx b9 [(.slice none 0 0)], E (List (List (Int × Int × ByteArray))) s1_0 g2_0, E (List Int) s1_1 g2_1, Es (List Int) order_ order_h])
  refine boolE (z := false) geLen ?_
  refine sq ?_
  refine fld gok rfl rfl rfl rfl ?_
  refine load1 (H.bx 0 rfl (j := 3) rfl) ?_
  obtain ⟨y7, e, f15⟩ := bindS f1; clear f1
  have i7 := e; clear e
  refine callF (spec_rbMove_c s1_1 g2_1 g__3 g__3h y7 i7) (Γi := []) H ⟨Vw.own 6 rfl, Vw.sh 3 rfl, trivial⟩ ?_; clear H i7
  rintro _ _ w20 ⟨h15, rfl, rfl⟩ H
  obtain ⟨a6, e, f16⟩ := bindS f15; clear f15
  replace H := H.sel [6, 0, 1, 2, 3, 4, 5, 7, 8] rfl
  refine append_ (α := List (Int × Int × ByteArray)) gok rfl rfl rfl rfl H e ?_; clear e H; intro h16 w21 H
  refine sq ?_
  refine lenE (H.ro (α := List (List (Int × Int × ByteArray))) 0 rfl).len ?_
  obtain ⟨a7, e, f17⟩ := bindS f16; clear f16
  refine boolO e ?_; clear e
  cases a7
  ·
   have f18 := condF f17; clear f17
   obtain ⟨y8, e, f19⟩ := bindS f18; clear f18
   obtain ⟨y8_0, rfl⟩ : ∃ z, z = y8 := ⟨_, rfl⟩
   have i8 := e; clear e
   replace H := H.frz
   refine callS (spec_tmChain_c a6 h16 15 y8_0 i8) (Γi := []) H [0] rfl (persC persS persN) ?_; clear H i8
   rintro _ _ w22 ⟨h17, rfl, rfl⟩ H
   replace H := H.sel [6, 0, 1, 2, 3, 4, 5, 7, 8] rfl
   refine stA gok [(h17).v] rfl H rfl rfl rfl ?_; clear H; intro w23 H
   refine loadN [(h17).v] rfl (fun j u hj => H.bx 0 rfl hj) ?_
   cases f19
   exact ⟨_, _, rfl, ⟨h17, rfl, rfl⟩, (H.sel [1] rfl)⟩
  ·
   have f20 := condT f17; clear f17
   refine fld gok rfl rfl rfl rfl ?_
   refine load1 (H.bx 1 rfl (j := 2) rfl) ?_
   refine lenE (H.rs (α := List Int) 3 rfl).len ?_
   obtain ⟨y9, e, f21⟩ := bindS f20; clear f20
   obtain ⟨y9_0, rfl⟩ : ∃ z, z = y9 := ⟨_, rfl⟩
   have i9 := e; clear e
   refine callF (spec_tmId_c ((g__2.length : Nat) : Int) y9_0 i9) (Γi := []) H trivial ?_; clear H i9
   rintro _ _ w24 ⟨h18, rfl, rfl⟩ H
   replace H := H.sel [6, 0, 1, 2, 3, 4, 5, 7, 8] rfl
   refine stA gok [(h18).v] rfl H rfl rfl rfl ?_; clear H; intro w25 H
   refine loadN [(h18).v] rfl (fun j u hj => H.bx 0 rfl hj) ?_
   replace H := H.sel [1, 0, 2, 3, 4, 5, 6, 7, 8] rfl
   replace H := H.frz
   cases f21
   exact ⟨_, _, rfl, ⟨h18, rfl, rfl⟩, (H.sel [0] rfl)⟩

theorem spec_tmIf_c (t__0 : List (Int × Int × ByteArray)) (t__0h : Hd) (y0_0 : List (Int × Int × ByteArray)) (y1 : Bool) (hF : F_spec_tmIf t__0 = some (y0_0, y1)) :
  ConS Tryz.prog 25 #[(.agg #[(t__0h).v])] [Es (List (Int × Int × ByteArray)) t__0 t__0h] [] (fun v Γ' => ∃ z0 : Hd, v = (.tuple #[(.agg #[(z0).v]), (.bool y1)]) ∧ Γ' = [Es (List (Int × Int × ByteArray)) y0_0 z0]) := by
 intro w0 S0 fp0 hI hS
 have H : Cx w0 fp0 S0 w0 [Es (List (Int × Int × ByteArray)) t__0 t__0h] := Cx.start hI hS
 clear hI hS
 refine enterC (args := [_]) gok Tryz.func25 rfl _ rfl rfl rfl ?_
 refine box_ H ?_; clear H; intro b3 w2 hx H
 clear hx
 refine alloc_ gok rfl H ?_; clear H; intro b6 w5 hx H
 clear hx
 refine sq ?_
 refine loadN [(t__0h).v] rfl (fun j u hj => H.bx 1 rfl hj) ?_
 obtain ⟨y8, e, hF9⟩ := bindS hF; clear hF
 obtain ⟨⟨y8_0_0, y8_0_1, y8_0_2⟩, y8_1⟩ := y8
 have ey8 := e; clear e
 refine callF (spec_tmScan_c t__0 t__0h y8_0_0 y8_0_1 y8_0_2 y8_1 ey8) (Γi := []) H ⟨Vw.sh 2 rfl, trivial⟩ ?_; clear H ey8
 rintro _ _ w1 ⟨h0, h1, h2, rfl, rfl⟩ H
 refine alloc_ gok rfl H ?_; clear H; intro b0 w3 hx H
 clear hx
 refine stA gok [(h0).v, (h1).v, (h2).v] rfl H rfl rfl rfl ?_; clear H; intro w4 H
 obtain ⟨a0, e, f0⟩ := bindS hF9; clear hF9
 refine boolO e ?_; clear e
 cases a0
 ·
  have f1 := condF f0; clear f0
  refine loadN [(t__0h).v] rfl (fun j u hj => H.bx 5 rfl hj) ?_
  replace H := H.sel [4, 0, 1, 2, 3, 5, 6] rfl
  refine stA gok [(t__0h).v] rfl H rfl rfl rfl ?_; clear H; intro w6 H
  refine loadN [(t__0h).v] rfl (fun j u hj => H.bx 0 rfl hj) ?_
  cases f1
  exact ⟨_, _, rfl, ⟨t__0h, rfl, rfl⟩, (H.sel [6] rfl)⟩
 ·
  have f2 := condT f0; clear f0
  refine build_ (cs := #[(.slice none 0 0)]) gok rfl rfl rfl ?_
  replace H := H.sel [4, 0, 1, 2, 3, 5, 6] rfl
  refine stA gok [(.slice none 0 0)] rfl H rfl rfl rfl ?_; clear H; intro w7 H
  refine loadN [(.slice none 0 0)] rfl (fun j u hj => H.bx 0 rfl hj) ?_
  replace H := H.nil (α := Int × Int × ByteArray)
  replace H := H.frz
  cases f2
  exact ⟨_, _, rfl, ⟨nilH, rfl, rfl⟩, (H.sel [0] rfl)⟩

theorem spec_TermOf_c (g__0 : Int) (g__1 : List (Int × Int × List Int × List Int)) (g__1h : Hd) (g__2 : List Int) (g__2h : Hd) (g__3 : List Int) (g__3h : Hd) (y0_0 : List (Int × Int × ByteArray)) (y1 : Bool) (hF : F_spec_TermOf (g__0, g__1, g__2, g__3) = some (y0_0, y1)) :
  ConS Tryz.prog 13 #[(.agg #[(.int .i64 g__0), (g__1h).v, (g__2h).v, (g__3h).v])] [Es (List (Int × Int × List Int × List Int)) g__1 g__1h, Es (List Int) g__2 g__2h, Es (List Int) g__3 g__3h] [] (fun v Γ' => ∃ z0 : Hd, v = (.tuple #[(.agg #[(z0).v]), (.bool y1)]) ∧ Γ' = [Es (List (Int × Int × ByteArray)) y0_0 z0]) := by
 intro w0 S0 fp0 hI hS
 have H : Cx w0 fp0 S0 w0 [Es (List (Int × Int × List Int × List Int)) g__1 g__1h, Es (List Int) g__2 g__2h, Es (List Int) g__3 g__3h] := Cx.start hI hS
 clear hI hS
 refine enterC (args := [_]) gok Tryz.func13 rfl _ rfl rfl rfl ?_
 refine box_ H ?_; clear H; intro b5 w4 hx H
 clear hx
 refine alloc_ gok rfl H ?_; clear H; intro b8 w7 hx H
 clear hx
 refine sq ?_
 refine loadN [(.int .i64 g__0), (g__1h).v, (g__2h).v, (g__3h).v] rfl (fun j u hj => H.bx 1 rfl hj) ?_
 obtain ⟨y0, e, f0⟩ := bindS hF; clear hF
 have i0 := e; clear e
 refine callF (spec_rbPlain_c g__0 g__1 g__1h g__2 g__2h g__3 g__3h y0 i0) (Γi := []) H ⟨Vw.sh 2 rfl, Vw.sh 3 rfl, Vw.sh 4 rfl, trivial⟩ ?_; clear H i0
 rintro _ _ w1 ⟨rfl, rfl⟩ H
 obtain ⟨a0, e, f1⟩ := bindS f0; clear f0
 refine boolO e ?_; clear e
 cases a0
 ·
  have f2 := condF f1; clear f1
  refine heldX H [7, 8] (.fst 0 (.fst 1 (.act 2 (.act 3 (.act 4 (.fst 5 (.fst 6 (.act 7 (.act 8 .done))))))))) mixed [] trivial (by kernel_rfl) ?_
  clear H; intro w2 H
  have hX : Ext w2 w2 := Upd.refl _ _
  have H0 := H
  refine loadNX [(.int .i64 g__0), (g__1h).v, (g__2h).v, (g__3h).v] rfl (fun j u hj => H.bx 1 rfl hj) ?_
  refine loadNX [(.int .i64 g__0), (g__1h).v, (g__2h).v, (g__3h).v] rfl (fun j u hj => H.bx 1 rfl hj) ?_
  obtain ⟨y2, e, f3⟩ := bindS f2; clear f2
  have i1 := e; clear e
  refine callFx (spec_hgOrder_c g__0 g__1 g__1h g__2 g__2h g__3 g__3h y2 i1) H ⟨Vw.sh 2 rfl, Vw.sh 3 rfl, Vw.sh 4 rfl, trivial⟩ ?_; clear H i1
  rintro _ _ w3 ⟨h0, rfl, rfl⟩ hx H
  replace hX := hX.trans0 hx; clear hx
  refine hold hX ?_
  obtain ⟨y3, e, f4⟩ := bindS f3; clear f3
  obtain ⟨y3_0, rfl⟩ : ∃ z, z = y3 := ⟨_, rfl⟩
  have i2 := e; clear e
  replace H := H.frz
  refine callSx (spec_rbTerm_c g__0 g__1 g__1h g__2 g__2h g__3 g__3h y2 h0 y3_0 i2) H [3, 4, 5, 0] rfl (persC persS (persC persS (persC persS (persC persS persN)))) ?_; clear H i2
  rintro _ _ w5 ⟨h1, rfl, rfl⟩ hx H
  replace hX := hX.trans0 hx; clear hx
  refine hold hX ?_
  obtain ⟨y4, e, f5⟩ := bindS f4; clear f4
  obtain ⟨y4_0_0, y4_1⟩ := y4
  have i3 := e; clear e
  refine callSx (spec_tmIf_c y3_0 h1 y4_0_0 y4_1 i3) H [0] rfl (persC persS persN) ?_; clear H i3
  rintro _ _ w6 ⟨h2, rfl, rfl⟩ hx H
  replace hX := hX.trans0 hx; clear hx
  refine hold hX ?_
  replace H := H.sel [3, 0, 1, 2, 4, 5, 6, 7] rfl
  refine stA gok [(h2).v] rfl H rfl rfl rfl ?_; clear H; intro w8 H
  refine hold trivial ?_
  refine hold trivial ?_
  refine loadN [(h2).v] rfl (fun j u hj => H.bx 0 rfl hj) ?_
  cases f5
  exact ⟨_, _, rfl, ⟨h2, rfl, rfl⟩, (H.sel [1] rfl)⟩
 ·
  have f6 := condT f1; clear f1
  refine build_ (cs := #[(.slice none 0 0)]) gok rfl rfl rfl ?_
  refine stA gok [(.slice none 0 0)] rfl H rfl rfl rfl ?_; clear H; intro w9 H
  refine loadN [(.slice none 0 0)] rfl (fun j u hj => H.bx 0 rfl hj) ?_
  replace H := H.nil (α := Int × Int × ByteArray)
  replace H := H.frz
  cases f6
  exact ⟨_, _, rfl, ⟨nilH, rfl, rfl⟩, (H.sel [0] rfl)⟩

theorem spec_LayoutTerm_c (t__0 : List (Int × Int × ByteArray)) (t__0h : Hd) (y0_0 : List (Int × Int × ByteArray)) (y1 : Bool) (hF : F_spec_LayoutTerm t__0 = some (y0_0, y1)) :
  ConS Tryz.prog 5 #[(.agg #[(t__0h).v])] [Es (List (Int × Int × ByteArray)) t__0 t__0h] [] (fun v Γ' => ∃ z0 : Hd, v = (.tuple #[(.agg #[(z0).v]), (.bool y1)]) ∧ Γ' = [Es (List (Int × Int × ByteArray)) y0_0 z0]) := by
 intro w0 S0 fp0 hI hS
 have H : Cx w0 fp0 S0 w0 [Es (List (Int × Int × ByteArray)) t__0 t__0h] := Cx.start hI hS
 clear hI hS
 refine enterC (args := [_]) gok Tryz.func5 rfl _ rfl rfl rfl ?_
 refine box_ H ?_; clear H; intro b3 w2 hx H
 clear hx
 refine alloc_ gok rfl H ?_; clear H; intro b6 w5 hx H
 clear hx
 refine loadN [(t__0h).v] rfl (fun j u hj => H.bx 1 rfl hj) ?_
 obtain ⟨y8, e, hF9⟩ := bindS hF; clear hF
 obtain ⟨⟨y8_0_0, y8_0_1, y8_0_2, y8_0_3⟩, y8_1⟩ := y8
 have ey8 := e; clear e
 refine callS (spec_GraphOf_c t__0 t__0h y8_0_0 y8_0_1 y8_0_2 y8_0_3 y8_1 ey8) (Γi := []) H [2] rfl (persC persS persN) ?_; clear H ey8
 rintro _ _ w1 ⟨h0, h1, h2, rfl, rfl⟩ H
 refine alloc_ gok rfl H ?_; clear H; intro b0 w3 hx H
 clear hx
 refine stA gok [(.int .i64 y8_0_0), (h0).v, (h1).v, (h2).v] rfl H rfl rfl rfl ?_; clear H; intro w4 H
 refine sq ?_
 obtain ⟨a0, e, f0⟩ := bindS hF9; clear hF9
 refine boolO e ?_; clear e
 cases a0
 ·
  have f1 := condF f0; clear f0
  refine loadN [(.int .i64 y8_0_0), (h0).v, (h1).v, (h2).v] rfl (fun j u hj => H.bx 0 rfl hj) ?_
  obtain ⟨y0, e, f2⟩ := bindS f1; clear f1
  obtain ⟨y0_0_0, y0_1⟩ := y0
  have i0 := e; clear e
  refine callS (spec_TermOf_c y8_0_0 y8_0_1 h0 y8_0_2 h1 y8_0_3 h2 y0_0_0 y0_1 i0) (Γi := []) H [1, 2, 3] rfl (persC persS (persC persS (persC persS persN))) ?_; clear H i0
  rintro _ _ w6 ⟨h3, rfl, rfl⟩ H
  replace H := H.sel [5, 0, 1, 2, 3, 4, 6, 7] rfl
  refine stA gok [(h3).v] rfl H rfl rfl rfl ?_; clear H; intro w7 H
  refine loadN [(h3).v] rfl (fun j u hj => H.bx 0 rfl hj) ?_
  cases f2
  exact ⟨_, _, rfl, ⟨h3, rfl, rfl⟩, (H.sel [1] rfl)⟩
 ·
  have f3 := condT f0; clear f0
  refine build_ (cs := #[(.slice none 0 0)]) gok rfl rfl rfl ?_
  replace H := H.sel [4, 0, 1, 2, 3, 5, 6] rfl
  refine stA gok [(.slice none 0 0)] rfl H rfl rfl rfl ?_; clear H; intro w8 H
  refine loadN [(.slice none 0 0)] rfl (fun j u hj => H.bx 0 rfl hj) ?_
  replace H := H.nil (α := Int × Int × ByteArray)
  replace H := H.frz
  cases f3
  exact ⟨_, _, rfl, ⟨nilH, rfl, rfl⟩, (H.sel [0] rfl)⟩

theorem impl_within_c (n_ : Int) (low_ : Int) (high_ : Int) (y : Bool) (hF : F_impl_within n_ low_ high_ = some y) :
  ConF Tryz.prog 102 #[(.int .i64 n_), (.int .i64 low_), (.int .i64 high_)] [] [] (fun v Γ' => v = (.bool y) ∧ Γ' = []) := by
 intro w0 S0 fp0 hI hS
 have H : Cx w0 fp0 S0 w0 [] := Cx.start hI hS
 clear hI hS
 refine enterC (args := [_, _, _]) gok Tryz.func102 rfl _ rfl rfl rfl ?_
 obtain ⟨r9, f0, f1⟩ := bindS hF; clear hF
 refine cut (fun (q0 : Bool) => [(6, (.bool q0))]) (fun (q0 : Bool) w' => q0 = r9 ∧ Cx w0 fp0 S0 w' []) ?_ ?_
 ·
  obtain ⟨a0, e, f2⟩ := bindS f0; clear f0
  refine boolO e ?_; clear e
  cases a0
  ·
   have f3 := condF f2; clear f2
   exact ⟨false, ⟨rfl, trivial⟩, Option.some.inj f3, H.sel [] rfl⟩
  ·
   have f4 := condT f2; clear f2
   obtain ⟨a1, e, f5⟩ := bindS f4; clear f4
   refine boolO e ?_; clear e
   exact ⟨a1, ⟨rfl, trivial⟩, Option.some.inj f5, H.sel [] rfl⟩
 ·
  clear f0 H
  rintro T0 s7 w1 ⟨hr, (H : Cx w0 fp0 S0 w1 [])⟩
  subst hr
  cases f1
  exact ⟨_, _, rfl, ⟨rfl, rfl⟩, (H.sel [] rfl).close trivial⟩

theorem impl_wires_fit_c (w__0 : Int) (w__1 : Int) (y : Bool) (hF : F_impl_wires_fit (w__0, w__1) = some y) :
  ConF Tryz.prog 127 #[(.agg #[(.int .i64 w__0), (.int .i64 w__1)])] [] [] (fun v Γ' => v = (.bool y) ∧ Γ' = []) := by
 intro w0 S0 fp0 hI hS
 have H : Cx w0 fp0 S0 w0 [] := Cx.start hI hS
 clear hI hS
 refine enterC (args := [_]) gok Tryz.func127 rfl _ rfl rfl rfl ?_
 refine box_ H ?_; clear H; intro b2 w1 hx H
 clear hx
 obtain ⟨r0, f0, f1⟩ := bindS hF; clear hF
 refine cut (fun (q0 : Bool) => [(2, (.bool q0))]) (fun (q0 : Bool) w' => q0 = r0 ∧ Cx w0 fp0 S0 w' []) ?_ ?_
 ·
  refine fld gok rfl rfl rfl rfl ?_
  refine load1 (H.bx 0 rfl (j := 0) rfl) ?_
  obtain ⟨a0, e, f2⟩ := bindS f0; clear f0
  refine boolO e ?_; clear e
  cases a0
  ·
   have f3 := condF f2; clear f2
   exact ⟨false, ⟨rfl, trivial⟩, Option.some.inj f3, H.sel [] rfl⟩
  ·
   have f4 := condT f2; clear f2
   refine fld gok rfl rfl rfl rfl ?_
   refine load1 (H.bx 0 rfl (j := 1) rfl) ?_
   obtain ⟨a1, e, f5⟩ := bindS f4; clear f4
   refine boolO e ?_; clear e
   exact ⟨a1, ⟨rfl, trivial⟩, Option.some.inj f5, H.sel [] rfl⟩
 ·
  clear f0 H
  rintro T0 s0 w2 ⟨hr, (H : Cx w0 fp0 S0 w2 [])⟩
  subst hr
  cases f1
  exact ⟨_, _, rfl, ⟨rfl, rfl⟩, (H.sel [] rfl).close trivial⟩

theorem impl_joinWires_c (kind_ : Int) (a__0 : Int) (a__1 : Int) (b__0 : Int) (b__1 : Int) (y0_0 : Int) (y0_1 : Int) (y1 : Bool) (hF : F_impl_joinWires kind_ (a__0, a__1) (b__0, b__1) = some ((y0_0, y0_1), y1)) :
  ConF Tryz.prog 116 #[(.int .i64 kind_), (.agg #[(.int .i64 a__0), (.int .i64 a__1)]), (.agg #[(.int .i64 b__0), (.int .i64 b__1)])] [] [] (fun v Γ' => v = (.tuple #[(.agg #[(.int .i64 y0_0), (.int .i64 y0_1)]), (.bool y1)]) ∧ Γ' = []) := by
 intro w0 S0 fp0 hI hS
 have H : Cx w0 fp0 S0 w0 [] := Cx.start hI hS
 clear hI hS
 refine enterC (args := [_, _, _]) gok Tryz.func116 rfl _ rfl rfl rfl ?_
 refine box_ H ?_; clear H; intro b2 w1 hx H
 clear hx
 refine box_ H ?_; clear H; intro b5 w4 hx H
 clear hx
 refine alloc_ gok rfl H ?_; clear H; intro b8 w7 hx H
 clear hx
 refine sq ?_
 obtain ⟨a0, e, f0⟩ := bindS hF; clear hF
 refine boolO e ?_; clear e
 cases a0
 ·
  have f1 := condF f0; clear f0
  refine fld gok rfl rfl rfl rfl ?_
  refine load1 (H.bx 2 rfl (j := 0) rfl) ?_
  refine fld gok rfl rfl rfl rfl ?_
  refine load1 (H.bx 1 rfl (j := 0) rfl) ?_
  obtain ⟨a1, e, f2⟩ := bindS f1; clear f1
  refine arO e ?_; clear e
  refine fld gok rfl rfl rfl rfl ?_
  refine load1 (H.bx 2 rfl (j := 1) rfl) ?_
  refine fld gok rfl rfl rfl rfl ?_
  refine load1 (H.bx 1 rfl (j := 1) rfl) ?_
  obtain ⟨a2, e, f3⟩ := bindS f2; clear f2
  refine arO e ?_; clear e
  refine build_ (cs := #[(.int .i64 a1), (.int .i64 a2)]) gok rfl rfl rfl ?_
  refine alloc_ gok rfl H ?_; clear H; intro b0 w2 hx H
  clear hx
  refine stA gok [(.int .i64 a1), (.int .i64 a2)] rfl H rfl rfl rfl ?_; clear H; intro w3 H
  refine heldX H [3, 4] (.fst 0 (.fst 1 (.act 2 (.act 3 (.act 4 .done))))) mixed [] trivial (by kernel_rfl) ?_
  clear H; intro w5 H
  have hX : Ext w5 w5 := Upd.refl _ _
  have H0 := H
  refine loadNX [(.int .i64 a1), (.int .i64 a2)] rfl (fun j u hj => H.bx 0 rfl hj) ?_
  refine loadNX [(.int .i64 a1), (.int .i64 a2)] rfl (fun j u hj => H.bx 0 rfl hj) ?_
  obtain ⟨y0, e, f4⟩ := bindS f3; clear f3
  have i0 := e; clear e
  refine callFx (impl_wires_fit_c a1 a2 y0 i0) H trivial ?_; clear H i0
  rintro _ _ w6 ⟨rfl, rfl⟩ hx H
  replace hX := hX.trans0 hx; clear hx
  refine hold hX ?_
  replace H := H.sel [1, 0, 2, 3] rfl
  refine stA gok [(.int .i64 a1), (.int .i64 a2)] rfl H rfl rfl rfl ?_; clear H; intro w8 H
  refine hold trivial ?_
  refine hold trivial ?_
  refine loadN [(.int .i64 a1), (.int .i64 a2)] rfl (fun j u hj => H.bx 0 rfl hj) ?_
  cases f4
  exact ⟨_, _, rfl, ⟨rfl, rfl⟩, (H.sel [] rfl).close trivial⟩
 ·
  have f5 := condT f0; clear f0
  refine heldX H [10, 11, 0, 1, 2, 3, 4, 5, 6, 7, 8, 9] (.pure 0 (.pure 1 (.pure 2 (.pure 3 (.pure 4 (.pure 5 (.pure 6 (.pure 7 (.pure 8 (.pure 9 (.act 10 (.act 11 .done)))))))))))) mixed [((Addr.add ⟨b2, 0, none⟩ 0), (.int .i64 a__0)), ((Addr.add ⟨b5, 0, none⟩ 1), (.int .i64 b__1)), ((Addr.add ⟨b2, 0, none⟩ 1), (.int .i64 a__1)), ((Addr.add ⟨b5, 0, none⟩ 0), (.int .i64 b__0))] ⟨H.bx 2 rfl (j := 0) rfl, H.bx 1 rfl (j := 1) rfl, H.bx 2 rfl (j := 1) rfl, H.bx 1 rfl (j := 0) rfl, trivial⟩ (by kernel_rfl) ?_
  clear H; intro w9 H
  have hX : Ext w9 w9 := Upd.refl _ _
  have H0 := H
  refine anyH (fun _ => fld gok rfl rfl rfl rfl ⟨rfl, rfl⟩) ?_
  refine load1W 0 rfl ?_
  refine anyH (fun _ => fld gok rfl rfl rfl rfl ⟨rfl, rfl⟩) ?_
  refine load1W 1 rfl ?_
  refine anyH (fun _ => build_ (cs := #[(.int .i64 a__0), (.int .i64 b__1)]) gok rfl rfl rfl ⟨rfl, rfl⟩) ?_
  refine anyH (fun _ => fld gok rfl rfl rfl rfl ⟨rfl, rfl⟩) ?_
  refine load1W 2 rfl ?_
  refine anyH (fun _ => fld gok rfl rfl rfl rfl ⟨rfl, rfl⟩) ?_
  refine load1W 3 rfl ?_
  obtain ⟨a3, e, f6⟩ := bindS f5; clear f5
  refine boolO e ?_; clear e
  refine stA gok [(.int .i64 a__0), (.int .i64 b__1)] rfl H rfl rfl rfl ?_; clear H; intro w10 H
  refine hold ⟨H.bx 2 rfl (j := 0) rfl, H.bx 1 rfl (j := 1) rfl, H.bx 2 rfl (j := 1) rfl, H.bx 1 rfl (j := 0) rfl, trivial⟩ ?_
  refine hold ⟨H.bx 2 rfl (j := 0) rfl, H.bx 1 rfl (j := 1) rfl, H.bx 2 rfl (j := 1) rfl, H.bx 1 rfl (j := 0) rfl, trivial⟩ ?_
  refine loadN [(.int .i64 a__0), (.int .i64 b__1)] rfl (fun j u hj => H.bx 0 rfl hj) ?_
  cases f6
  exact ⟨_, _, rfl, ⟨rfl, rfl⟩, (H.sel [] rfl).close trivial⟩

theorem impl_isGenerator_c (kind_ : Int) (y : Bool) (hF : F_impl_isGenerator kind_ = some y) :
  ConF Tryz.prog 117 #[(.int .i64 kind_)] [] [] (fun v Γ' => v = (.bool y) ∧ Γ' = []) := by
 intro w0 S0 fp0 hI hS
 have H : Cx w0 fp0 S0 w0 [] := Cx.start hI hS
 clear hI hS
 refine enterC (args := [_]) gok Tryz.func117 rfl _ rfl rfl rfl ?_
 obtain ⟨y1, e, hF2⟩ := bindS hF; clear hF
 have ey1 := e; clear e
 refine callF (impl_within_c kind_ 3 14 y1 ey1) (Γi := []) H trivial ?_; clear H ey1
 rintro _ _ w3 ⟨rfl, rfl⟩ H
 cases hF2
 exact ⟨_, _, rfl, ⟨rfl, rfl⟩, (H.sel [] rfl).close trivial⟩

theorem impl_generatorWires_c (kind_ : Int) (y_0 : Int) (y_1 : Int) (hF : F_impl_generatorWires kind_ = some (y_0, y_1)) :
  ConF Tryz.prog 101 #[(.int .i64 kind_)] [] [] (fun v Γ' => v = (.agg #[(.int .i64 y_0), (.int .i64 y_1)]) ∧ Γ' = []) := by
 intro w0 S0 fp0 hI hS
 have H : Cx w0 fp0 S0 w0 [] := Cx.start hI hS
 clear hI hS
 refine enterC (args := [_]) gok Tryz.func101 rfl _ rfl rfl rfl ?_
 refine alloc_ gok rfl H ?_; clear H; intro b2 w1 hx H
 clear hx
 refine build_ (cs := #[(.int .i64 1), (.int .i64 2)]) gok rfl rfl rfl ?_
 refine build_ (cs := #[(.int .i64 1), (.int .i64 0)]) gok rfl rfl rfl ?_
 refine build_ (cs := #[(.int .i64 2), (.int .i64 1)]) gok rfl rfl rfl ?_
 refine build_ (cs := #[(.int .i64 0), (.int .i64 1)]) gok rfl rfl rfl ?_
 refine build_ (cs := #[(.int .i64 1), (.int .i64 1)]) gok rfl rfl rfl ?_
 refine build_ (cs := #[(.int .i64 1), (.int .i64 1)]) gok rfl rfl rfl ?_
 refine buildAr (cs := #[(.int .i64 1), (.int .i64 2), (.int .i64 1), (.int .i64 0), (.int .i64 2), (.int .i64 1), (.int .i64 0), (.int .i64 1), (.int .i64 1), (.int .i64 1), (.int .i64 1), (.int .i64 1)]) gok rfl rfl rfl ?_
 refine alloc_ gok rfl H ?_; clear H; intro b5 w4 hx H
 clear hx
 refine stA gok [(.int .i64 1), (.int .i64 2), (.int .i64 1), (.int .i64 0), (.int .i64 2), (.int .i64 1), (.int .i64 0), (.int .i64 1), (.int .i64 1), (.int .i64 1), (.int .i64 1), (.int .i64 1)] rfl H rfl rfl rfl ?_; clear H; intro w7 H
 refine sq ?_
 obtain ⟨a8, e, hF9⟩ := bindS hF; clear hF
 refine boolO e ?_; clear e
 cases a8
 ·
  have f0 := condF hF9; clear hF9
  obtain ⟨a0, e, f1⟩ := bindS f0; clear f0
  refine arO e ?_; clear e
  obtain ⟨a1, e, f2⟩ := bindS f1; clear f1
  obtain ⟨p0, c0, c1, c2⟩ := H.bxV (s := 2) 0 rfl [(1, 2), (1, 0), (2, 1), (0, 1), (1, 1), (1, 1)] (fun x => [.int .i64 x.1, .int .i64 x.2]) rfl (fun _ => rfl) e; clear e
  obtain ⟨a1_0, a1_1⟩ := a1
  refine idxAr gok rfl rfl c0 c1 ?_; clear c0 c1
  refine loadN [(.int .i64 a1_0), (.int .i64 a1_1)] rfl c2 ?_; clear c2
  refine alloc_ gok rfl H ?_; clear H; intro b0 w2 hx H
  clear hx
  refine stA gok [(.int .i64 a1_0), (.int .i64 a1_1)] rfl H rfl rfl rfl ?_; clear H; intro w3 H
  refine fld gok rfl rfl rfl rfl ?_
  refine load1 (H.bx 0 rfl (j := 1) rfl) ?_
  refine fld gok rfl rfl rfl rfl ?_
  refine load1 (H.bx 0 rfl (j := 0) rfl) ?_
  refine build_ (cs := #[(.int .i64 a1_1), (.int .i64 a1_0)]) gok rfl rfl rfl ?_
  replace H := H.sel [2, 0, 1] rfl
  refine stA gok [(.int .i64 a1_1), (.int .i64 a1_0)] rfl H rfl rfl rfl ?_; clear H; intro w5 H
  refine loadN [(.int .i64 a1_1), (.int .i64 a1_0)] rfl (fun j u hj => H.bx 0 rfl hj) ?_
  cases f2
  exact ⟨_, _, rfl, ⟨rfl, rfl⟩, (H.sel [] rfl).close trivial⟩
 ·
  have f3 := condT hF9; clear hF9
  obtain ⟨a2, e, f4⟩ := bindS f3; clear f3
  refine arO e ?_; clear e
  obtain ⟨a3, e, f5⟩ := bindS f4; clear f4
  obtain ⟨p1, c3, c4, c5⟩ := H.bxV (s := 2) 0 rfl [(1, 2), (1, 0), (2, 1), (0, 1), (1, 1), (1, 1)] (fun x => [.int .i64 x.1, .int .i64 x.2]) rfl (fun _ => rfl) e; clear e
  obtain ⟨a3_0, a3_1⟩ := a3
  refine idxAr gok rfl rfl c3 c4 ?_; clear c3 c4
  refine loadN [(.int .i64 a3_0), (.int .i64 a3_1)] rfl c5 ?_; clear c5
  replace H := H.sel [1, 0] rfl
  refine stA gok [(.int .i64 a3_0), (.int .i64 a3_1)] rfl H rfl rfl rfl ?_; clear H; intro w6 H
  refine loadN [(.int .i64 a3_0), (.int .i64 a3_1)] rfl (fun j u hj => H.bx 0 rfl hj) ?_
  cases f5
  exact ⟨_, _, rfl, ⟨rfl, rfl⟩, (H.sel [] rfl).close trivial⟩

theorem impl_hasValue_c (kind_ : Int) (y : Bool) (hF : F_impl_hasValue kind_ = some y) :
  ConF Tryz.prog 128 #[(.int .i64 kind_)] [] [] (fun v Γ' => v = (.bool y) ∧ Γ' = []) := by
 intro w0 S0 fp0 hI hS
 have H : Cx w0 fp0 S0 w0 [] := Cx.start hI hS
 clear hI hS
 refine enterC (args := [_]) gok Tryz.func128 rfl _ rfl rfl rfl ?_
 obtain ⟨r9, f0, f1⟩ := bindS hF; clear hF
 refine cut (fun (q0 : Bool) => [(2, (.bool q0))]) (fun (q0 : Bool) w' => q0 = r9 ∧ Cx w0 fp0 S0 w' []) ?_ ?_
 ·
  obtain ⟨a0, e, f2⟩ := bindS f0; clear f0
  refine boolO e ?_; clear e
  cases a0
  ·
   have f3 := condF f2; clear f2
   obtain ⟨a1, e, f4⟩ := bindS f3; clear f3
   refine boolO e ?_; clear e
   exact ⟨a1, ⟨rfl, trivial⟩, Option.some.inj f4, H.sel [] rfl⟩
  ·
   have f5 := condT f2; clear f2
   exact ⟨true, ⟨rfl, trivial⟩, Option.some.inj f5, H.sel [] rfl⟩
 ·
  clear f0 H
  rintro T0 s7 w1 ⟨hr, (H : Cx w0 fp0 S0 w1 [])⟩
  subst hr
  cases f1
  exact ⟨_, _, rfl, ⟨rfl, rfl⟩, (H.sel [] rfl).close trivial⟩

theorem impl_isGeneratorValue_c (kind_ : Int) (value_ : Int) (y : Bool) (hF : F_impl_isGeneratorValue kind_ value_ = some y) :
  ConF Tryz.prog 118 #[(.int .i64 kind_), (.int .i64 value_)] [] [] (fun v Γ' => v = (.bool y) ∧ Γ' = []) := by
 intro w0 S0 fp0 hI hS
 have H : Cx w0 fp0 S0 w0 [] := Cx.start hI hS
 clear hI hS
 refine enterC (args := [_, _]) gok Tryz.func118 rfl _ rfl rfl rfl ?_
 refine sq ?_
 obtain ⟨y1, e, hF2⟩ := bindS hF; clear hF
 have ey1 := e; clear e
 refine callF (impl_hasValue_c kind_ y1 ey1) (Γi := []) H trivial ?_; clear H ey1
 rintro _ _ w3 ⟨rfl, rfl⟩ H
 cases y1
 ·
  have hF4 := condF hF2; clear hF2
  obtain ⟨a5, e, hF6⟩ := bindS hF4; clear hF4
  refine boolO e ?_; clear e
  cases hF6
  exact ⟨_, _, rfl, ⟨rfl, rfl⟩, (H.sel [] rfl).close trivial⟩
 ·
  have hF7 := condT hF2; clear hF2
  obtain ⟨y8, e, hF9⟩ := bindS hF7; clear hF7
  have ey8 := e; clear e
  refine callF (impl_within_c value_ 0 96 y8 ey8) (Γi := []) H trivial ?_; clear H ey8
  rintro _ _ w1 ⟨rfl, rfl⟩ H
  cases hF9
  exact ⟨_, _, rfl, ⟨rfl, rfl⟩, (H.sel [] rfl).close trivial⟩

theorem impl_leafWires_c (n__0 : Int) (n__1 : Int) (n__2 : ByteArray) (y0_0 : Int) (y0_1 : Int) (y1 : Bool) (hF : F_impl_leafWires (n__0, n__1, n__2) = some ((y0_0, y0_1), y1)) :
  ConF Tryz.prog 95 #[(.agg #[(.int .i64 n__0), (.int .i64 n__1), (.string n__2)])] [] [] (fun v Γ' => v = (.tuple #[(.agg #[(.int .i64 y0_0), (.int .i64 y0_1)]), (.bool y1)]) ∧ Γ' = []) := by
 intro w0 S0 fp0 hI hS
 have H : Cx w0 fp0 S0 w0 [] := Cx.start hI hS
 clear hI hS
 refine enterC (args := [_]) gok Tryz.func95 rfl _ rfl rfl rfl ?_
 refine box_ H ?_; clear H; intro b2 w1 hx H
 clear hx
 refine alloc_ gok rfl H ?_; clear H; intro b5 w4 hx H
 clear hx
 refine sq ?_
 refine fld gok rfl rfl rfl rfl ?_
 refine load1 (H.bx 1 rfl (j := 2) rfl) ?_
 obtain ⟨a7, e, hF8⟩ := bindS hF; clear hF
 refine neqZ e ?_; clear e
 cases a7
 ·
  have hF9 := condF hF8; clear hF8
  refine fld gok rfl rfl rfl rfl ?_
  refine load1 (H.bx 1 rfl (j := 0) rfl) ?_
  obtain ⟨a0, e, f0⟩ := bindS hF9; clear hF9
  refine boolO e ?_; clear e
  cases a0
  ·
   have f1 := condF f0; clear f0
   refine fld gok rfl rfl rfl rfl ?_
   refine load1 (H.bx 1 rfl (j := 0) rfl) ?_
   obtain ⟨a1, e, f2⟩ := bindS f1; clear f1
   refine boolO e ?_; clear e
   cases a1
   ·
    have f3 := condF f2; clear f2
    refine fld gok rfl rfl rfl rfl ?_
    refine load1 (H.bx 1 rfl (j := 0) rfl) ?_
    obtain ⟨y0, e, f4⟩ := bindS f3; clear f3
    have i0 := e; clear e
    refine callF (impl_isGenerator_c n__0 y0 i0) (Γi := []) H trivial ?_; clear H i0
    rintro _ _ w2 ⟨rfl, rfl⟩ H
    cases y0
    ·
     have f5 := condF f4; clear f4
     refine build_ (cs := #[(.int .i64 0), (.int .i64 0)]) gok rfl rfl rfl ?_
     refine stA gok [(.int .i64 0), (.int .i64 0)] rfl H rfl rfl rfl ?_; clear H; intro w3 H
     refine loadN [(.int .i64 0), (.int .i64 0)] rfl (fun j u hj => H.bx 0 rfl hj) ?_
     cases f5
     exact ⟨_, _, rfl, ⟨rfl, rfl⟩, (H.sel [] rfl).close trivial⟩
    ·
     have f6 := condT f4; clear f4
     refine heldX H [8, 9] (.fst 0 (.fst 3 (.fst 5 (.fst 1 (.fst 4 (.fst 6 (.act 2 (.act 7 (.act 8 (.act 9 .done)))))))))) mixed [] trivial (by kernel_rfl) ?_
     clear H; intro w5 H
     have hX : Ext w5 w5 := Upd.refl _ _
     have H0 := H
     refine anyH (fun _ => fld gok rfl rfl rfl rfl ⟨rfl, rfl⟩) ?_
     refine anyH (fun _ => fld gok rfl rfl rfl rfl ⟨rfl, rfl⟩) ?_
     refine anyH (fun _ => fld gok rfl rfl rfl rfl ⟨rfl, rfl⟩) ?_
     refine load1X (H.bx 1 rfl (j := 0) rfl) ?_
     refine load1X (H.bx 1 rfl (j := 0) rfl) ?_
     refine load1X (H.bx 1 rfl (j := 1) rfl) ?_
     obtain ⟨y2, e, f7⟩ := bindS f6; clear f6
     obtain ⟨y2_0, y2_1⟩ := y2
     have i1 := e; clear e
     refine callFx (impl_generatorWires_c n__0 y2_0 y2_1 i1) H trivial ?_; clear H i1
     rintro _ _ w6 ⟨rfl, rfl⟩ hx H
     replace hX := hX.trans0 hx; clear hx
     refine hold hX ?_
     obtain ⟨y3, e, f8⟩ := bindS f7; clear f7
     have i2 := e; clear e
     refine callFx (impl_isGeneratorValue_c n__0 n__1 y3 i2) H trivial ?_; clear H i2
     rintro _ _ w7 ⟨rfl, rfl⟩ hx H
     replace hX := hX.trans0 hx; clear hx
     refine hold hX ?_
     refine stA gok [(.int .i64 y2_0), (.int .i64 y2_1)] rfl H rfl rfl rfl ?_; clear H; intro w8 H
     refine hold trivial ?_
     refine hold trivial ?_
     refine loadN [(.int .i64 y2_0), (.int .i64 y2_1)] rfl (fun j u hj => H.bx 0 rfl hj) ?_
     cases f8
     exact ⟨_, _, rfl, ⟨rfl, rfl⟩, (H.sel [] rfl).close trivial⟩
   ·
    have f9 := condT f2; clear f2
    refine heldX H [4, 5, 0, 1, 2, 3] (.pure 0 (.pure 1 (.pure 2 (.pure 3 (.act 4 (.act 5 .done)))))) mixed [((Addr.add ⟨b2, 0, none⟩ 1), (.int .i64 n__1))] ⟨H.bx 1 rfl (j := 1) rfl, trivial⟩ (by kernel_rfl) ?_
    clear H; intro w9 H
    have hX : Ext w9 w9 := Upd.refl _ _
    have H0 := H
    refine anyH (fun _ => build_ (cs := #[(.int .i64 2), (.int .i64 2)]) gok rfl rfl rfl ⟨rfl, rfl⟩) ?_
    refine anyH (fun _ => fld gok rfl rfl rfl rfl ⟨rfl, rfl⟩) ?_
    refine load1W 0 rfl ?_
    obtain ⟨a2, e, f10⟩ := bindS f9; clear f9
    refine boolO e ?_; clear e
    refine stA gok [(.int .i64 2), (.int .i64 2)] rfl H rfl rfl rfl ?_; clear H; intro w10 H
    refine hold ⟨H.bx 1 rfl (j := 1) rfl, trivial⟩ ?_
    refine hold ⟨H.bx 1 rfl (j := 1) rfl, trivial⟩ ?_
    refine loadN [(.int .i64 2), (.int .i64 2)] rfl (fun j u hj => H.bx 0 rfl hj) ?_
    cases f10
    exact ⟨_, _, rfl, ⟨rfl, rfl⟩, (H.sel [] rfl).close trivial⟩
  ·
   have f11 := condT f0; clear f0
   refine heldX H [8, 9] (.fst 0 (.fst 2 (.fst 5 (.fst 1 (.fst 3 (.fst 4 (.fst 6 (.act 7 (.act 8 (.act 9 .done)))))))))) mixed [] trivial (by kernel_rfl) ?_
   clear H; intro w11 H
   have hX : Ext w11 w11 := Upd.refl _ _
   have H0 := H
   refine anyH (fun _ => fld gok rfl rfl rfl rfl ⟨rfl, rfl⟩) ?_
   refine anyH (fun _ => fld gok rfl rfl rfl rfl ⟨rfl, rfl⟩) ?_
   refine anyH (fun _ => fld gok rfl rfl rfl rfl ⟨rfl, rfl⟩) ?_
   refine load1X (H.bx 1 rfl (j := 1) rfl) ?_
   refine load1X (H.bx 1 rfl (j := 1) rfl) ?_
   refine anyH (fun _ => build_ (cs := #[(.int .i64 n__1), (.int .i64 n__1)]) gok rfl rfl rfl ⟨rfl, rfl⟩) ?_
   refine load1X (H.bx 1 rfl (j := 1) rfl) ?_
   obtain ⟨y4, e, f12⟩ := bindS f11; clear f11
   have i3 := e; clear e
   refine callFx (impl_within_c n__1 0 12 y4 i3) H trivial ?_; clear H i3
   rintro _ _ w12 ⟨rfl, rfl⟩ hx H
   replace hX := hX.trans0 hx; clear hx
   refine hold hX ?_
   refine stA gok [(.int .i64 n__1), (.int .i64 n__1)] rfl H rfl rfl rfl ?_; clear H; intro w13 H
   refine hold trivial ?_
   refine hold trivial ?_
   refine loadN [(.int .i64 n__1), (.int .i64 n__1)] rfl (fun j u hj => H.bx 0 rfl hj) ?_
   cases f12
   exact ⟨_, _, rfl, ⟨rfl, rfl⟩, (H.sel [] rfl).close trivial⟩
 ·
  have f13 := condT hF8; clear hF8
  refine build_ (cs := #[(.int .i64 0), (.int .i64 0)]) gok rfl rfl rfl ?_
  refine stA gok [(.int .i64 0), (.int .i64 0)] rfl H rfl rfl rfl ?_; clear H; intro w14 H
  refine loadN [(.int .i64 0), (.int .i64 0)] rfl (fun j u hj => H.bx 0 rfl hj) ?_
  cases f13
  exact ⟨_, _, rfl, ⟨rfl, rfl⟩, (H.sel [] rfl).close trivial⟩

theorem impl_typed_impl_leafWires_c (nodes_ : List (Int × Int × ByteArray)) (nodes_h : Hd) (y0_0 : Int) (y0_1 : Int) (y1 : Bool) (hF : F_impl_typed_impl_leafWires nodes_ = some ((y0_0, y0_1), y1)) :
  ConF Tryz.prog 94 #[(nodes_h).v, (.func (.func 95) #[] #[])] [Es (List (Int × Int × ByteArray)) nodes_ nodes_h] [] (fun v Γ' => v = (.tuple #[(.agg #[(.int .i64 y0_0), (.int .i64 y0_1)]), (.bool y1)]) ∧ Γ' = []) := by
 intro w0 S0 fp0 hI hS
 have H : Cx w0 fp0 S0 w0 [Es (List (Int × Int × ByteArray)) nodes_ nodes_h] := Cx.start hI hS
 clear hI hS
 refine enterC (args := [_, _]) gok Tryz.func94 rfl _ rfl rfl rfl ?_
 refine alloc_ gok rfl H ?_; clear H; intro b3 w2 hx H
 clear hx
 refine sq ?_
 refine lenE (H.rs (α := List (Int × Int × ByteArray)) 1 rfl).len ?_
 obtain ⟨y5, e, hF6⟩ := bindS hF; clear hF
 have ey5 := e; clear e
 refine callF (impl_within_c ((nodes_.length : Nat) : Int) 1 400 y5 ey5) (Γi := []) H trivial ?_; clear H ey5
 rintro _ _ w7 ⟨rfl, rfl⟩ H
 obtain ⟨a8, e, hF9⟩ := bindS hF6; clear hF6
 refine boolO e ?_; clear e
 cases a8
 ·
  have f0 := condF hF9; clear hF9
  refine lit0 (α := Int × Int) gok rfl rfl H ?_; clear H; intro h0 w1 hx H
  clear hx
  refine sq ?_
  refine lenE (H.rs (α := List (Int × Int × ByteArray)) 2 rfl).len ?_
  have x0 := (H.rs (α := List (Int × Int × ByteArray)) 2 rfl).max
  obtain ⟨r0, e, f1⟩ := bindS f0; clear f0
  refine loopO _ nodes_.length (fun (k0 : Nat) (s0 : List (Int × Int)) (g0 : Hd) => [(1, (.func (.func 95) #[] #[])), (4, (.pointer (some ⟨b3, 0, none⟩))), (6, (g0).v), (20, (nodes_h).v), (21, (.int .i64 ((nodes_.length : Nat) : Int))), (22, (.int .i64 ((k0 : Nat) : Int)))]) (fun _ (s0 : List (Int × Int)) (g0 : Hd) w' => Cx w0 fp0 S0 w' [Bx b3 [(.int .i64 0), (.int .i64 0)], E (List (Int × Int)) s0 g0, Es (List (Int × Int × ByteArray)) nodes_ nodes_h]) ([] : List (Int × Int)) h0 e ⟨rfl, rfl, rfl, rfl, rfl, rfl, trivial⟩ (H.sel [1, 0, 2] rfl) ?_ ?_
  ·
   clear H e
   rintro T0 k0 s0 g0 w3 o0 hk (H : Cx w0 fp0 S0 w3 [Bx b3 [(.int .i64 0), (.int .i64 0)], E (List (Int × Int)) s0 g0, Es (List (Int × Int × ByteArray)) nodes_ nodes_h]) hrt f2
   refine boolE (z := true) (ltLen hk) ?_
   refine sq ?_
   obtain ⟨r1, f3, f4⟩ := bindS f2; clear f2
   refine cut (fun (q0 : (List (Int × Int)) × Hd) => [(1, (.func (.func 95) #[] #[])), (4, (.pointer (some ⟨b3, 0, none⟩))), (6, (q0.2).v), (20, (nodes_h).v), (21, (.int .i64 ((nodes_.length : Nat) : Int))), (22, (.int .i64 ((k0 : Nat) : Int)))]) (fun (q0 : (List (Int × Int)) × Hd) w' => .inl q0.1 = r1 ∧ Cx w0 fp0 S0 w' [Bx b3 [(.int .i64 0), (.int .i64 0)], E (List (Int × Int)) q0.1 q0.2, Es (List (Int × Int × ByteArray)) nodes_ nodes_h]) ?_ ?_
   ·
    obtain ⟨a0, e, f5⟩ := bindS f3; clear f3
    have HH := H; clear H; obtain ⟨p0, m0, g1, c0, c1, c2, c3, H⟩ := HH.el (α := Int × Int × ByteArray) 2 rfl e; clear HH
    clear e
    obtain ⟨a0_0, a0_1, a0_2⟩ := a0
    obtain ⟨_, _, _⟩ := g1
    replace H := H.sel [1, 2, 3] rfl
    refine idxE c0 c1 c2 ?_; clear c0 c1 c2
    refine loadN [(.int .i64 a0_0), (.int .i64 a0_1), (.string a0_2)] rfl c3 ?_; clear c3
    refine alloc_ gok rfl H ?_; clear H; intro b0 w4 hx H
    clear hx
    refine stA gok [(.int .i64 a0_0), (.int .i64 a0_1), (.string a0_2)] rfl H rfl rfl rfl ?_; clear H; intro w5 H
    refine sq ?_
    obtain ⟨r2, f6, f7⟩ := bindS f5; clear f5
    refine cut (fun (q1 : Bool) => [(1, (.func (.func 95) #[] #[])), (4, (.pointer (some ⟨b3, 0, none⟩))), (6, (g0).v), (8, (.pointer (some ⟨b0, 0, none⟩))), (20, (nodes_h).v), (21, (.int .i64 ((nodes_.length : Nat) : Int))), (22, (.int .i64 ((k0 : Nat) : Int))), (33, (.bool q1))]) (fun (q1 : Bool) w' => q1 = r2 ∧ Cx w0 fp0 S0 w' [Bx b3 [(.int .i64 0), (.int .i64 0)], E (List (Int × Int)) s0 g0, Bx b0 [(.int .i64 a0_0), (.int .i64 a0_1), (.string a0_2)], Es (List (Int × Int × ByteArray)) nodes_ nodes_h]) ?_ ?_
    ·
     refine fld gok rfl rfl rfl rfl ?_
     refine load1 (H.bx 0 rfl (j := 0) rfl) ?_
     obtain ⟨a1, e, f8⟩ := bindS f6; clear f6
     refine boolO e ?_; clear e
     cases a1
     ·
      have f9 := condF f8; clear f8
      exact ⟨false, ⟨rfl, rfl, rfl, rfl, rfl, rfl, rfl, rfl, trivial⟩, Option.some.inj f9, H.sel [1, 2, 0, 3] rfl⟩
     ·
      have f10 := condT f8; clear f8
      refine fld gok rfl rfl rfl rfl ?_
      refine load1 (H.bx 0 rfl (j := 0) rfl) ?_
      obtain ⟨a2, e, f11⟩ := bindS f10; clear f10
      refine boolO e ?_; clear e
      exact ⟨a2, ⟨rfl, rfl, rfl, rfl, rfl, rfl, rfl, rfl, trivial⟩, Option.some.inj f11, H.sel [1, 2, 0, 3] rfl⟩
    ·
     clear f6 H
     rintro T1 s1 w6 ⟨hr, (H : Cx w0 fp0 S0 w6 [Bx b3 [(.int .i64 0), (.int .i64 0)], E (List (Int × Int)) s0 g0, Bx b0 [(.int .i64 a0_0), (.int .i64 a0_1), (.string a0_2)], Es (List (Int × Int × ByteArray)) nodes_ nodes_h])⟩
     subst hr
     cases s1
     ·
      have f12 := condF f7; clear f7
      refine sq ?_
      obtain ⟨r3, f13, f14⟩ := bindS f12; clear f12
      refine cut (fun (q2 : Bool) => [(1, (.func (.func 95) #[] #[])), (4, (.pointer (some ⟨b3, 0, none⟩))), (6, (g0).v), (8, (.pointer (some ⟨b0, 0, none⟩))), (20, (nodes_h).v), (21, (.int .i64 ((nodes_.length : Nat) : Int))), (22, (.int .i64 ((k0 : Nat) : Int))), (59, (.bool q2))]) (fun (q2 : Bool) w' => q2 = r3 ∧ Cx w0 fp0 S0 w' [Bx b3 [(.int .i64 0), (.int .i64 0)], E (List (Int × Int)) s0 g0, Bx b0 [(.int .i64 a0_0), (.int .i64 a0_1), (.string a0_2)], Es (List (Int × Int × ByteArray)) nodes_ nodes_h]) ?_ ?_
      ·
       refine fld gok rfl rfl rfl rfl ?_
       refine load1 (H.bx 2 rfl (j := 1) rfl) ?_
       obtain ⟨a3, e, f15⟩ := bindS f13; clear f13
       refine boolO e ?_; clear e
       cases a3
       ·
        have f16 := condF f15; clear f15
        refine fld gok rfl rfl rfl rfl ?_
        refine load1 (H.bx 2 rfl (j := 2) rfl) ?_
        obtain ⟨a4, e, f17⟩ := bindS f16; clear f16
        refine neqZ e ?_; clear e
        cases a4
        ·
         have f18 := condF f17; clear f17
         refine lenE (H.ro (α := List (Int × Int)) 1 rfl).len ?_
         obtain ⟨a5, e, f19⟩ := bindS f18; clear f18
         refine boolO e ?_; clear e
         exact ⟨a5, ⟨rfl, rfl, rfl, rfl, rfl, rfl, rfl, rfl, trivial⟩, Option.some.inj f19, H.sel [0, 1, 2, 3] rfl⟩
        ·
         have f20 := condT f17; clear f17
         exact ⟨true, ⟨rfl, rfl, rfl, rfl, rfl, rfl, rfl, rfl, trivial⟩, Option.some.inj f20, H.sel [0, 1, 2, 3] rfl⟩
       ·
        have f21 := condT f15; clear f15
        exact ⟨true, ⟨rfl, rfl, rfl, rfl, rfl, rfl, rfl, rfl, trivial⟩, Option.some.inj f21, H.sel [0, 1, 2, 3] rfl⟩
      ·
       clear f13 H
       rintro T2 s2 w8 ⟨hr, (H : Cx w0 fp0 S0 w8 [Bx b3 [(.int .i64 0), (.int .i64 0)], E (List (Int × Int)) s0 g0, Bx b0 [(.int .i64 a0_0), (.int .i64 a0_1), (.string a0_2)], Es (List (Int × Int × ByteArray)) nodes_ nodes_h])⟩
       subst hr
       cases s2
       ·
        have f22 := condF f14; clear f14
        refine lenE (H.ro (α := List (Int × Int)) 1 rfl).len ?_
        obtain ⟨a6, e, f23⟩ := bindS f22; clear f22
        refine arO e ?_; clear e
        obtain ⟨r4, f24, f25⟩ := bindS f23; clear f23
        refine heldJ H [] (.fst 0 (.fst 2 (.fst 3 (.fst 4 (.fst 5 (.fst 7 (.fst 8 (.fst 9 (.fst 1 (.fst 6 (.fst 10 (.alts (.alt 11 (.fst 12 (.fst 13 (.fst 14 (.act 15 (.act 16 (.fst 17 .done)))))) (.alt 15 (.act 11 (.fst 12 (.fst 13 (.fst 14 (.act 16 (.fst 17 .done)))))) .no)))))))))))))) mixed [] trivial (by kernel_rfl) (fun (q3 : (Int × Int × Bool) × Nat) => [(1, (.func (.func 95) #[] #[])), (4, (.pointer (some ⟨b3, 0, none⟩))), (6, (g0).v), (11, (.int .i64 a6)), (12, (.pointer (some ⟨q3.2, 0, none⟩))), (13, (.bool q3.1.2.2)), (20, (nodes_h).v), (21, (.int .i64 ((nodes_.length : Nat) : Int))), (22, (.int .i64 ((k0 : Nat) : Int)))]) (fun (q3 : (Int × Int × Bool) × Nat) w' => (q3.1.1, q3.1.2.1, q3.1.2.2) = r4 ∧ Cx w0 fp0 S0 w' [Bx b3 [(.int .i64 0), (.int .i64 0)], E (List (Int × Int)) s0 g0, Bx q3.2 [(.int .i64 q3.1.1), (.int .i64 q3.1.2.1)], Es (List (Int × Int × ByteArray)) nodes_ nodes_h]) ?_ ?_
        ·
         clear H; intro w9 H
         have hX : Ext w9 w9 := Upd.refl _ _
         have H0 := H
         refine anyH (fun _ => fld gok rfl rfl rfl rfl ⟨rfl, rfl⟩) ?_
         obtain ⟨a7, e, f26⟩ := bindS f24; clear f24
         refine arO e ?_; clear e
         obtain ⟨a9, e, f27⟩ := bindS f26; clear f26
         replace H := H.sel [1, 0, 2, 3] rfl
         replace H := H.toEH (α := Int × Int)
         have HH := H; clear H; obtain ⟨p1, m1, g2, c4, c5, c6, c7, H⟩ := HH.peek e; clear HH
         clear e
         obtain ⟨a9_0, a9_1⟩ := a9
         obtain ⟨_, _⟩ := g2
         refine idxE c4 c5 c6 ?_
         obtain ⟨a10, e, f28⟩ := bindS f27; clear f27
         have HH := H; clear H; obtain ⟨p2, m2, g3, c8, c9, c10, c11, H⟩ := HH.peek e; clear HH
         clear e
         obtain ⟨a10_0, a10_1⟩ := a10
         obtain ⟨_, _⟩ := g3
         refine idxE c8 c9 c10 ?_
         refine load1X (H.bx 2 rfl (j := 0) rfl) ?_
         refine loadNX [(.int .i64 a9_0), (.int .i64 a9_1)] rfl c7 ?_; clear c7
         refine loadNX [(.int .i64 a10_0), (.int .i64 a10_1)] rfl c11 ?_; clear c11
         refine both ?_ ?_
         ·
          obtain ⟨y0, e, f29⟩ := bindS f28; clear f28
          obtain ⟨⟨y0_0_0, y0_0_1⟩, y0_1⟩ := y0
          have i0 := e; clear e
          refine callFx (impl_joinWires_c a0_0 a9_0 a9_1 a10_0 a10_1 y0_0_0 y0_0_1 y0_1 i0) H trivial ?_; clear H i0
          rintro _ _ w10 ⟨rfl, rfl⟩ hx H
          replace hX := hX.trans0 hx; clear hx
          refine hold hX ?_
          refine allocX gok rfl H ?_; clear H; intro b1 w12 hx v0 H; replace v0 := Nat.le_trans hX.size v0
          replace hX := hX.trans0 hx; clear hx
          refine hold hX ?_
          refine stAX gok [(.int .i64 y0_0_0), (.int .i64 y0_0_1)] rfl H rfl rfl rfl ?_; clear H; intro w13 hu H
          replace hX := hX.fresh hu v0; clear hu
          refine hold hX ?_
          replace H := H.sel [1, 0, 2, 3, 4] rfl
          replace H := H.ofEH
          exact ⟨((y0_0_0, y0_0_1, y0_1), b1), ⟨rfl, rfl, rfl, rfl, rfl, rfl, rfl, rfl, rfl, trivial⟩, Option.some.inj f29, H.sel [2, 0, 1, 4] rfl⟩
         ·
          refine both ?_ ?_
          ·
           obtain ⟨a11, o1, f30⟩ := bindS f28; clear f28
           refine allocX gok rfl H ?_; clear H; intro b2 w14 hx v1 H; replace v1 := Nat.le_trans hX.size v1
           replace hX := hX.trans0 hx; clear hx
           refine hold hX ?_
           have e := o1; clear o1
           obtain ⟨⟨a11_0_0, a11_0_1⟩, a11_1⟩ := a11
           have i1 := e; clear e
           refine callFx (impl_joinWires_c a0_0 a9_0 a9_1 a10_0 a10_1 a11_0_0 a11_0_1 a11_1 i1) H trivial ?_; clear H i1
           rintro _ _ w15 ⟨rfl, rfl⟩ hx H
           replace hX := hX.trans0 hx; clear hx
           refine hold hX ?_
           refine stAX gok [(.int .i64 a11_0_0), (.int .i64 a11_0_1)] rfl H rfl rfl rfl ?_; clear H; intro w16 hu H
           replace hX := hX.fresh hu v1; clear hu
           refine hold hX ?_
           replace H := H.sel [1, 0, 2, 3, 4] rfl
           replace H := H.ofEH
           exact ⟨((a11_0_0, a11_0_1, a11_1), b2), ⟨rfl, rfl, rfl, rfl, rfl, rfl, rfl, rfl, rfl, trivial⟩, Option.some.inj f30, H.sel [2, 0, 1, 4] rfl⟩
          ·
           exact trivial
        ·
         clear f24 H
         rintro T3 ⟨⟨s3_0, s3_1, s3_2⟩, g4⟩ w17 ⟨hr, (H : Cx w0 fp0 S0 w17 [Bx b3 [(.int .i64 0), (.int .i64 0)], E (List (Int × Int)) s0 g0, Bx g4 [(.int .i64 s3_0), (.int .i64 s3_1)], Es (List (Int × Int × ByteArray)) nodes_ nodes_h])⟩
         subst hr
         refine sq ?_
         obtain ⟨a12, e, f31⟩ := bindS f25; clear f25
         refine boolO e ?_; clear e
         cases a12
         ·
          have f32 := condF f31; clear f31
          refine heldX H [6, 7] (.fst 0 (.fst 1 (.fst 2 (.fst 3 (.fst 4 (.act 5 (.act 6 (.act 7 .done)))))))) mixed [] trivial (by kernel_rfl) ?_
          clear H; intro w18 H
          have hX : Ext w18 w18 := Upd.refl _ _
          have H0 := H
          obtain ⟨a13, e, f33⟩ := bindS f32; clear f32
          refine arO e ?_; clear e
          obtain ⟨a14, e, f34⟩ := bindS f33; clear f33
          replace H := H.sel [1, 0, 2, 3] rfl
          refine slOX (α := Int × Int) gok rfl rfl H e rfl rfl ?_; clear e; intro h1 HH; clear H; have H := HH; clear HH
          refine loadNX [(.int .i64 s3_0), (.int .i64 s3_1)] rfl (fun j u hj => H.bx 2 rfl hj) ?_
          replace H := H.sc (α := Int) s3_1
          replace H := H.sc (α := Int) s3_0
          replace H := H.join (α := Int) (β := Int)
          refine lit1 (α := Int × Int) (g := ((), ())) gok rfl rfl rfl rfl rfl H ?_; clear H; intro h2 w19 hx H
          replace hX := hX.trans0 hx; clear hx
          refine hold hX ?_
          obtain ⟨a15, e, f35⟩ := bindS f34; clear f34
          replace H := H.sel [1, 0, 2, 3, 4] rfl
          refine append_ (α := Int × Int) gok rfl rfl rfl rfl H e ?_; clear e H; intro h3 w20 H
          refine hold trivial ?_
          refine hold trivial ?_
          exact ⟨(a15, h3), ⟨rfl, rfl, rfl, rfl, rfl, rfl, trivial⟩, Option.some.inj f35, H.sel [1, 0, 3] rfl⟩
         ·
          have f36 := condT f31; clear f31
          refine build_ (cs := #[(.int .i64 0), (.int .i64 0)]) gok rfl rfl rfl ?_
          refine stA gok [(.int .i64 0), (.int .i64 0)] rfl H rfl rfl rfl ?_; clear H; intro w21 H
          have hs := Option.some.inj f36; subst hs; clear f36
          have f37 : some _ = some _ := f4; clear f4
          have hs := Option.some.inj f37; subst hs; clear f37
          have hr := hrt _ rfl; subst hr
          have f38 : some _ = some _ := f1
          refine loadN [(.int .i64 0), (.int .i64 0)] rfl (fun j u hj => H.bx 0 rfl hj) ?_
          cases f38
          exact ⟨_, _, rfl, ⟨rfl, rfl⟩, (H.sel [] rfl).close trivial⟩
       ·
        have f39 := condT f14; clear f14
        refine build_ (cs := #[(.int .i64 0), (.int .i64 0)]) gok rfl rfl rfl ?_
        refine stA gok [(.int .i64 0), (.int .i64 0)] rfl H rfl rfl rfl ?_; clear H; intro w22 H
        have hs := Option.some.inj f39; subst hs; clear f39
        have f40 : some _ = some _ := f4; clear f4
        have hs := Option.some.inj f40; subst hs; clear f40
        have hr := hrt _ rfl; subst hr
        have f41 : some _ = some _ := f1
        refine loadN [(.int .i64 0), (.int .i64 0)] rfl (fun j u hj => H.bx 0 rfl hj) ?_
        cases f41
        exact ⟨_, _, rfl, ⟨rfl, rfl⟩, (H.sel [] rfl).close trivial⟩
     ·
      have f42 := condT f7; clear f7
      refine loadN [(.int .i64 a0_0), (.int .i64 a0_1), (.string a0_2)] rfl (fun j u hj => H.bx 2 rfl hj) ?_
      obtain ⟨y2, e, f43⟩ := bindS f42; clear f42
      obtain ⟨⟨y2_0_0, y2_0_1⟩, y2_1⟩ := y2
      have i2 := e; clear e
      refine callF (impl_leafWires_c a0_0 a0_1 a0_2 y2_0_0 y2_0_1 y2_1 i2) (Γi := []) H trivial ?_; clear H i2
      rintro _ _ w23 ⟨rfl, rfl⟩ H
      refine alloc_ gok rfl H ?_; clear H; intro b4 w24 hx H
      clear hx
      refine stA gok [(.int .i64 y2_0_0), (.int .i64 y2_0_1)] rfl H rfl rfl rfl ?_; clear H; intro w25 H
      refine sq ?_
      obtain ⟨a16, e, f44⟩ := bindS f43; clear f43
      refine boolO e ?_; clear e
      cases a16
      ·
       have f45 := condF f44; clear f44
       refine loadN [(.int .i64 y2_0_0), (.int .i64 y2_0_1)] rfl (fun j u hj => H.bx 0 rfl hj) ?_
       replace H := H.sc (α := Int) y2_0_1
       replace H := H.sc (α := Int) y2_0_0
       replace H := H.join (α := Int) (β := Int)
       refine lit1 (α := Int × Int) (g := ((), ())) gok rfl rfl rfl rfl rfl H ?_; clear H; intro h4 w26 hx H
       clear hx
       obtain ⟨a17, e, f46⟩ := bindS f45; clear f45
       replace H := H.sel [3, 0, 1, 2, 4, 5] rfl
       refine append_ (α := Int × Int) gok rfl rfl rfl rfl H e ?_; clear e H; intro h5 w27 H
       exact ⟨(a17, h5), ⟨rfl, rfl, rfl, rfl, rfl, rfl, trivial⟩, Option.some.inj f46, H.sel [2, 0, 4] rfl⟩
      ·
       have f47 := condT f44; clear f44
       refine build_ (cs := #[(.int .i64 0), (.int .i64 0)]) gok rfl rfl rfl ?_
       replace H := H.sel [1, 0, 2, 3, 4] rfl
       refine stA gok [(.int .i64 0), (.int .i64 0)] rfl H rfl rfl rfl ?_; clear H; intro w28 H
       have hs := Option.some.inj f47; subst hs; clear f47
       have f48 : some _ = some _ := f4; clear f4
       have hs := Option.some.inj f48; subst hs; clear f48
       have hr := hrt _ rfl; subst hr
       have f49 : some _ = some _ := f1
       refine loadN [(.int .i64 0), (.int .i64 0)] rfl (fun j u hj => H.bx 0 rfl hj) ?_
       cases f49
       exact ⟨_, _, rfl, ⟨rfl, rfl⟩, (H.sel [] rfl).close trivial⟩
   ·
    clear f3 H
    rintro T4 ⟨s4, g5⟩ w29 ⟨hr, (H : Cx w0 fp0 S0 w29 [Bx b3 [(.int .i64 0), (.int .i64 0)], E (List (Int × Int)) s4 g5, Es (List (Int × Int × ByteArray)) nodes_ nodes_h])⟩
    subst hr
    refine arK hk x0 ?_
    have hs := Option.some.inj f4; subst hs; clear f4
    exact ⟨s4, g5, rfl, ⟨rfl, rfl, rfl, rfl, rfl, rfl, trivial⟩, H.sel [0, 1, 2] rfl⟩
  ·
   clear H e
   rintro T5 s5 g6 w30 hr (H : Cx w0 fp0 S0 w30 [Bx b3 [(.int .i64 0), (.int .i64 0)], E (List (Int × Int)) s5 g6, Es (List (Int × Int × ByteArray)) nodes_ nodes_h])
   subst hr
   refine boolE (z := false) geLen ?_
   refine sq ?_
   obtain ⟨a18, e, f50⟩ := bindS f1; clear f1
   replace H := H.sel [1, 0, 2] rfl
   replace H := H.toEH (α := Int × Int)
   have HH := H; clear H; obtain ⟨p3, m3, g7, c12, c13, c14, c15, H⟩ := HH.peek e; clear HH
   clear e
   obtain ⟨a18_0, a18_1⟩ := a18
   obtain ⟨_, _⟩ := g7
   refine idxE c12 c13 c14 ?_
   refine loadN [(.int .i64 a18_0), (.int .i64 a18_1)] rfl c15 ?_; clear c15
   refine lenE (H.rohd (α := Int × Int) 0 rfl).len ?_
   obtain ⟨a19, e, f51⟩ := bindS f50; clear f50
   refine boolO e ?_; clear e
   replace H := H.sel [1, 0, 2] rfl
   refine stA gok [(.int .i64 a18_0), (.int .i64 a18_1)] rfl H rfl rfl rfl ?_; clear H; intro w31 H
   replace H := H.sel [1, 0, 2] rfl
   replace H := H.ofEH
   refine loadN [(.int .i64 a18_0), (.int .i64 a18_1)] rfl (fun j u hj => H.bx 1 rfl hj) ?_
   cases f51
   exact ⟨_, _, rfl, ⟨rfl, rfl⟩, (H.sel [] rfl).close trivial⟩
 ·
  have f52 := condT hF9; clear hF9
  refine build_ (cs := #[(.int .i64 0), (.int .i64 0)]) gok rfl rfl rfl ?_
  refine stA gok [(.int .i64 0), (.int .i64 0)] rfl H rfl rfl rfl ?_; clear H; intro w32 H
  refine loadN [(.int .i64 0), (.int .i64 0)] rfl (fun j u hj => H.bx 0 rfl hj) ?_
  cases f52
  exact ⟨_, _, rfl, ⟨rfl, rfl⟩, (H.sel [] rfl).close trivial⟩

theorem impl_Term_wires_c (t__0 : List (Int × Int × ByteArray)) (t__0h : Hd) (y0_0 : Int) (y0_1 : Int) (y1 : Bool) (hF : F_impl_Term_wires t__0 = some ((y0_0, y0_1), y1)) :
  ConF Tryz.prog 67 #[(.agg #[(t__0h).v])] [Es (List (Int × Int × ByteArray)) t__0 t__0h] [] (fun v Γ' => v = (.tuple #[(.agg #[(.int .i64 y0_0), (.int .i64 y0_1)]), (.bool y1)]) ∧ Γ' = []) := by
 intro w0 S0 fp0 hI hS
 have H : Cx w0 fp0 S0 w0 [Es (List (Int × Int × ByteArray)) t__0 t__0h] := Cx.start hI hS
 clear hI hS
 refine enterC (args := [_]) gok Tryz.func67 rfl _ rfl rfl rfl ?_
 refine box_ H ?_; clear H; intro b3 w2 hx H
 clear hx
 refine alloc_ gok rfl H ?_; clear H; intro b6 w5 hx H
 clear hx
 refine fld gok rfl rfl rfl rfl ?_
 refine load1 (H.bx 1 rfl (j := 0) rfl) ?_
 obtain ⟨y8, e, hF9⟩ := bindS hF; clear hF
 obtain ⟨⟨y8_0_0, y8_0_1⟩, y8_1⟩ := y8
 have ey8 := e; clear e
 refine callF (impl_typed_impl_leafWires_c t__0 t__0h y8_0_0 y8_0_1 y8_1 ey8) (Γi := []) H ⟨Vw.sh 2 rfl, trivial⟩ ?_; clear H ey8
 rintro _ _ w1 ⟨rfl, rfl⟩ H
 refine stA gok [(.int .i64 y8_0_0), (.int .i64 y8_0_1)] rfl H rfl rfl rfl ?_; clear H; intro w3 H
 refine loadN [(.int .i64 y8_0_0), (.int .i64 y8_0_1)] rfl (fun j u hj => H.bx 0 rfl hj) ?_
 cases hF9
 exact ⟨_, _, rfl, ⟨rfl, rfl⟩, (H.sel [] rfl).close trivial⟩

theorem impl_Term_isValid_c (t__0 : List (Int × Int × ByteArray)) (t__0h : Hd) (y : Bool) (hF : F_impl_Term_isValid t__0 = some y) :
  ConF Tryz.prog 29 #[(.agg #[(t__0h).v])] [Es (List (Int × Int × ByteArray)) t__0 t__0h] [] (fun v Γ' => v = (.bool y) ∧ Γ' = []) := by
 intro w0 S0 fp0 hI hS
 have H : Cx w0 fp0 S0 w0 [Es (List (Int × Int × ByteArray)) t__0 t__0h] := Cx.start hI hS
 clear hI hS
 refine enterC (args := [_]) gok Tryz.func29 rfl _ rfl rfl rfl ?_
 refine box_ H ?_; clear H; intro b3 w2 hx H
 clear hx
 refine loadN [(t__0h).v] rfl (fun j u hj => H.bx 0 rfl hj) ?_
 obtain ⟨y5, e, hF6⟩ := bindS hF; clear hF
 obtain ⟨⟨y5_0_0, y5_0_1⟩, y5_1⟩ := y5
 have ey5 := e; clear e
 refine callF (impl_Term_wires_c t__0 t__0h y5_0_0 y5_0_1 y5_1 ey5) (Γi := []) H ⟨Vw.sh 1 rfl, trivial⟩ ?_; clear H ey5
 rintro _ _ w7 ⟨rfl, rfl⟩ H
 refine alloc_ gok rfl H ?_; clear H; intro b9 w8 hx H
 clear hx
 refine stA gok [(.int .i64 y5_0_0), (.int .i64 y5_0_1)] rfl H rfl rfl rfl ?_; clear H; intro w1 H
 cases hF6
 exact ⟨_, _, rfl, ⟨rfl, rfl⟩, (H.sel [] rfl).close trivial⟩

theorem impl_zeros_c (n_ : Int) (y : List Int) (hF : F_impl_zeros n_ = some y) :
  ConF Tryz.prog 78 #[(.int .i64 n_)] [] [] (fun v Γ' => ∃ z0 : Hd, v = (z0).v ∧ Γ' = [E (List Int) y z0]) := by
 intro w0 S0 fp0 hI hS
 have H : Cx w0 fp0 S0 w0 [] := Cx.start hI hS
 clear hI hS
 refine enterC (args := [_]) gok Tryz.func78 rfl _ rfl rfl rfl ?_
 obtain ⟨a1, e, hF2⟩ := bindS hF; clear hF
 refine make_ (α := Int) gok rfl rfl rfl rfl (makeCO_of e) H ?_; clear e H; intro h4 w3 hx H
 clear hx
 cases hF2
 exact ⟨_, _, rfl, ⟨h4, rfl, rfl⟩, (H.sel [0] rfl).close ⟨cloE, trivial⟩⟩

theorem impl_upTo_c (n_ : Int) (y : List Int) (hF : F_impl_upTo n_ = some y) :
  ConF Tryz.prog 44 #[(.int .i64 n_)] [] [] (fun v Γ' => ∃ z0 : Hd, v = (z0).v ∧ Γ' = [E (List Int) y z0]) := by
 intro w0 S0 fp0 hI hS
 have H : Cx w0 fp0 S0 w0 [] := Cx.start hI hS
 clear hI hS
 refine enterC (args := [_]) gok Tryz.func44 rfl _ rfl rfl rfl ?_
 obtain ⟨y1, e, hF2⟩ := bindS hF; clear hF
 have ey1 := e; clear e
 refine callF (impl_zeros_c n_ y1 ey1) (Γi := []) H trivial ?_; clear H ey1
 rintro _ _ w3 ⟨h4, rfl, rfl⟩ H
 refine sq ?_
 refine lenE (H.ro (α := List Int) 0 rfl).len ?_
 have x0 := (H.ro (α := List Int) 0 rfl).max
 obtain ⟨r0, e, f0⟩ := bindS hF2; clear hF2
 refine loopS _ y1.length (fun (k6 : Nat) (s0 : List Int) (_ : Unit) => [(3, (h4).v), (8, (.int .i64 ((y1.length : Nat) : Int))), (9, (.int .i64 ((k6 : Nat) : Int)))]) (fun _ (s0 : List Int) (_ : Unit) w' => Cx w0 fp0 S0 w' [E (List Int) s0 h4]) y1 () e ⟨rfl, rfl, rfl, trivial⟩ (H.sel [0] rfl) ?_ ?_
 ·
  clear H e
  rintro T0 k6 s0 _ w1 o0 hk (H : Cx w0 fp0 S0 w1 [E (List Int) s0 h4]) f1
  refine boolE (z := true) (ltLen hk) ?_
  refine sq ?_
  refine sq ?_
  obtain ⟨a0, e, f2⟩ := bindS f1; clear f1
  have i0 := e; clear e
  obtain ⟨p0, m0, c0, c1, c2⟩ := (H.ro (α := List Int) 0 rfl).setp i0
  refine idxE c0 c1 c2 ?_
  refine setS (α := Int) H c0 c1 i0 ?_; clear H c0 c1 c2 i0; intro w2 H
  refine arK hk x0 ?_
  have hs := Option.some.inj f2; subst hs; clear f2
  exact ⟨(), ⟨rfl, rfl, rfl, trivial⟩, H.sel [0] rfl⟩
 ·
  clear H e
  rintro T1 _ w4 (H : Cx w0 fp0 S0 w4 [E (List Int) r0 h4])
  refine boolE (z := false) geLen ?_
  refine sq ?_
  cases f0
  exact ⟨_, _, rfl, ⟨h4, rfl, rfl⟩, (H.sel [0] rfl).close ⟨cloE, trivial⟩⟩

theorem impl_chosen_c (v_ : List Int) (v_h : Hd) (at_ : List Int) (at_h : Hd) (y : List Int) (hF : F_impl_chosen v_ at_ = some y) :
  ConF Tryz.prog 120 #[(v_h).v, (at_h).v] [Es (List Int) v_ v_h, Es (List Int) at_ at_h] [] (fun v Γ' => ∃ z0 : Hd, v = (z0).v ∧ Γ' = [E (List Int) y z0]) := by
 intro w0 S0 fp0 hI hS
 have H : Cx w0 fp0 S0 w0 [Es (List Int) v_ v_h, Es (List Int) at_ at_h] := Cx.start hI hS
 clear hI hS
 refine enterC (args := [_, _]) gok Tryz.func120 rfl _ rfl rfl rfl ?_
 refine lenE (H.rs (α := List Int) 1 rfl).len ?_
 obtain ⟨a3, e, hF4⟩ := bindS hF; clear hF
 refine make_ (α := Int) gok rfl rfl rfl rfl e H ?_; clear e H; intro h6 w5 hx H
 clear hx
 refine sq ?_
 refine lenE (H.rs (α := List Int) 2 rfl).len ?_
 have x0 := (H.rs (α := List Int) 2 rfl).max
 obtain ⟨r0, e, f0⟩ := bindS hF4; clear hF4
 refine loopS _ at_.length (fun (k8 : Nat) (s0 : List Int) (g0 : Hd) => [(0, (v_h).v), (5, (g0).v), (11, (at_h).v), (12, (.int .i64 ((at_.length : Nat) : Int))), (13, (.int .i64 ((k8 : Nat) : Int)))]) (fun _ (s0 : List Int) (g0 : Hd) w' => Cx w0 fp0 S0 w' [Es (List Int) v_ v_h, E (List Int) s0 g0, Es (List Int) at_ at_h]) a3 h6 e ⟨rfl, rfl, rfl, rfl, rfl, trivial⟩ (H.sel [1, 0, 2] rfl) ?_ ?_
 ·
  clear H e
  rintro T0 k8 s0 g0 w1 o0 hk (H : Cx w0 fp0 S0 w1 [Es (List Int) v_ v_h, E (List Int) s0 g0, Es (List Int) at_ at_h]) f1
  refine boolE (z := true) (ltLen hk) ?_
  refine sq ?_
  refine sq ?_
  obtain ⟨a0, e, f2⟩ := bindS f1; clear f1
  obtain ⟨p0, m0, c0, c1, c2, c3⟩ := (H.rs (α := List Int) 2 rfl).at1 e; clear e
  refine idxE c0 c1 c2 ?_; clear c0 c1 c2
  refine load1 c3 ?_; clear c3
  obtain ⟨a1, e, f3⟩ := bindS f2; clear f2
  obtain ⟨p1, m1, c4, c5, c6, c7⟩ := (H.rs (α := List Int) 0 rfl).at1 e; clear e
  refine idxE c4 c5 c6 ?_; clear c4 c5 c6
  refine load1 c7 ?_; clear c7
  refine lit1S (α := Int) gok rfl rfl rfl rfl H ?_; clear H; intro h0 w2 hx H
  clear hx
  obtain ⟨a2, e, f4⟩ := bindS f3; clear f3
  replace H := H.sel [2, 0, 1, 3] rfl
  refine append_ (α := Int) gok rfl rfl rfl rfl H e ?_; clear e H; intro h1 w3 H
  refine arK hk x0 ?_
  have hs := Option.some.inj f4; subst hs; clear f4
  exact ⟨h1, ⟨rfl, rfl, rfl, rfl, rfl, trivial⟩, H.sel [1, 0, 2] rfl⟩
 ·
  clear H e
  rintro T1 g1 w4 (H : Cx w0 fp0 S0 w4 [Es (List Int) v_ v_h, E (List Int) r0 g1, Es (List Int) at_ at_h])
  refine boolE (z := false) geLen ?_
  refine sq ?_
  cases f0
  exact ⟨_, _, rfl, ⟨g1, rfl, rfl⟩, (H.sel [1] rfl).close ⟨cloE, trivial⟩⟩

theorem impl_mapped_c (list_ : List Int) (list_h : Hd) (to_ : List Int) (to_h : Hd) (y : List Int) (hF : F_impl_mapped list_ to_ = some y) :
  ConF Tryz.prog 97 #[(list_h).v, (to_h).v] [Es (List Int) list_ list_h, Es (List Int) to_ to_h] [] (fun v Γ' => ∃ z0 : Hd, v = (z0).v ∧ Γ' = [E (List Int) y z0]) := by
 intro w0 S0 fp0 hI hS
 have H : Cx w0 fp0 S0 w0 [Es (List Int) list_ list_h, Es (List Int) to_ to_h] := Cx.start hI hS
 clear hI hS
 refine enterC (args := [_, _]) gok Tryz.func97 rfl _ rfl rfl rfl ?_
 obtain ⟨y3, e, hF4⟩ := bindS hF; clear hF
 have ey3 := e; clear e
 refine callF (impl_chosen_c to_ to_h list_ list_h y3 ey3) (Γi := []) H ⟨Vw.sh 1 rfl, Vw.sh 0 rfl, trivial⟩ ?_; clear H ey3
 rintro _ _ w5 ⟨h6, rfl, rfl⟩ H
 cases hF4
 exact ⟨_, _, rfl, ⟨h6, rfl, rfl⟩, (H.sel [0] rfl).close ⟨cloE, trivial⟩⟩
end Go.Proofs.YtmchibapkddniaaGreat
