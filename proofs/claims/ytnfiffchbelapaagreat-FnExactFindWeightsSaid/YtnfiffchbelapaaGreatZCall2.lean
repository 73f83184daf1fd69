/-
 Contracts, printed by a program (wip/y/gen.py): each function of Go computes its partial function. Condition of each: its partial function yields a value.
-/
import Derived.Test.YtnfiffchbelapaaGreatZCall
namespace Go.Proofs.YtnfiffchbelapaaGreat
open Go Go.Proofs.YtnfiffchbelapaaGreat.RW
set_option maxRecDepth 100000
set_option linter.unusedVariables false

theorem spec_hgGlued_c (g__0 : Int) (g__1 : List (Int × Int × List Int × List Int)) (g__1h : Hd) (g__2 : List Int) (g__2h : Hd) (g__3 : List Int) (g__3h : Hd) (a_ : List Int) (a_h : Hd) (b_ : List Int) (b_h : Hd) (y0_0 : Int) (y0_1 : List (Int × Int × List Int × List Int)) (y0_2 : List Int) (y0_3 : List Int) (y1 : List Int) (hF : F_spec_hgGlued (g__0, g__1, g__2, g__3) a_ b_ = some ((y0_0, y0_1, y0_2, y0_3), y1)) :
  ConF Tryz.prog 101 #[(.agg #[(.int .i64 g__0), (g__1h).v, (g__2h).v, (g__3h).v]), (a_h).v, (b_h).v] [Es (List (Int × Int × List Int × List Int)) g__1 g__1h, Es (List Int) g__2 g__2h, Es (List Int) g__3 g__3h, Es (List Int) a_ a_h, Es (List Int) b_ b_h] [] (fun v Γ' => ∃ z0 z1 z2 z3 : Hd, v = (.tuple #[(.agg #[(.int .i64 y0_0), (z0).v, (z1).v, (z2).v]), (z3).v]) ∧ Γ' = [E (List (Int × Int × List Int × List Int)) y0_1 z0, E (List Int) y0_2 z1, E (List Int) y0_3 z2, E (List Int) y1 z3]) := by
 intro w0 S0 fp0 hI hS
 have H : Cx w0 fp0 S0 w0 [Es (List (Int × Int × List Int × List Int)) g__1 g__1h, Es (List Int) g__2 g__2h, Es (List Int) g__3 g__3h, Es (List Int) a_ a_h, Es (List Int) b_ b_h] := Cx.start hI hS
 clear hI hS
 refine enterC (args := [_, _, _]) gok Tryz.func101 rfl _ rfl rfl rfl ?_
 refine box_ H ?_; clear H; intro b7 w6 hx H
 clear hx
 refine alloc_ gok rfl H ?_; clear H; intro b0 w9 hx H
 clear hx
 refine fld gok rfl rfl rfl rfl ?_
 refine load1 (H.bx 1 rfl (j := 0) rfl) ?_
 obtain ⟨a0, e, f0⟩ := bindS hF; clear hF
 refine make_ (α := Int) gok rfl rfl rfl rfl (makeCO_of e) H ?_; clear e H; intro h0 w1 hx H
 clear hx
 refine sq ?_
 refine lenE (H.ro (α := List Int) 0 rfl).len ?_
 have x0 := (H.ro (α := List Int) 0 rfl).max
 obtain ⟨r0, e, f1⟩ := bindS f0; clear f0
 refine loopS _ a0.length (fun (k0 : Nat) (s0 : List Int) (_ : Unit) => [(1, (a_h).v), (2, (b_h).v), (3, (.pointer (some ⟨b7, 0, none⟩))), (6, (.pointer (some ⟨b0, 0, none⟩))), (8, (h0).v), (27, (.int .i64 ((a0.length : Nat) : Int))), (28, (.int .i64 ((k0 : Nat) : Int)))]) (fun _ (s0 : List Int) (_ : Unit) w' => Cx w0 fp0 S0 w' [Es (List Int) a_ a_h, Es (List Int) b_ b_h, Bx b7 [(.int .i64 g__0), (g__1h).v, (g__2h).v, (g__3h).v], Es (List (Int × Int × List Int × List Int)) g__1 g__1h, Es (List Int) g__2 g__2h, Es (List Int) g__3 g__3h, Bx b0 [(.int .i64 0), (.slice none 0 0), (.slice none 0 0), (.slice none 0 0)], E (List Int) s0 h0]) a0 () e ⟨rfl, rfl, rfl, rfl, rfl, rfl, rfl, trivial⟩ (H.sel [6, 7, 2, 3, 4, 5, 1, 0] rfl) ?_ ?_
 ·
  clear H e
  rintro T0 k0 s0 _ w2 o0 hk (H : Cx w0 fp0 S0 w2 [Es (List Int) a_ a_h, Es (List Int) b_ b_h, Bx b7 [(.int .i64 g__0), (g__1h).v, (g__2h).v, (g__3h).v], Es (List (Int × Int × List Int × List Int)) g__1 g__1h, Es (List Int) g__2 g__2h, Es (List Int) g__3 g__3h, Bx b0 [(.int .i64 0), (.slice none 0 0), (.slice none 0 0), (.slice none 0 0)], E (List Int) s0 h0]) f2
  refine boolE (z := true) (ltLen hk) ?_
  refine sq ?_
  refine sq ?_
  obtain ⟨a1, e, f3⟩ := bindS f2; clear f2
  have ea55 := e; clear e
  obtain ⟨p0, m0, c0, c1, c2⟩ := (H.ro (α := List Int) 7 rfl).setp ea55
  refine idxE c0 c1 c2 ?_
  replace H := H.sel [7, 0, 1, 2, 3, 4, 5, 6] rfl
  refine setS (α := Int) H c0 c1 ea55 ?_; clear H c0 c1 c2 ea55; intro w3 H
  refine arK hk x0 ?_
  have hs := Option.some.inj f3; subst hs; clear f3
  exact ⟨(), ⟨rfl, rfl, rfl, rfl, rfl, rfl, rfl, trivial⟩, H.sel [1, 2, 3, 4, 5, 6, 7, 0] rfl⟩
 ·
  clear H e
  rintro T1 _ w4 (H : Cx w0 fp0 S0 w4 [Es (List Int) a_ a_h, Es (List Int) b_ b_h, Bx b7 [(.int .i64 g__0), (g__1h).v, (g__2h).v, (g__3h).v], Es (List (Int × Int × List Int × List Int)) g__1 g__1h, Es (List Int) g__2 g__2h, Es (List Int) g__3 g__3h, Bx b0 [(.int .i64 0), (.slice none 0 0), (.slice none 0 0), (.slice none 0 0)], E (List Int) r0 h0])
  refine boolE (z := false) geLen ?_
  refine sq ?_
  refine sq ?_
  refine lenE (H.rs (α := List Int) 0 rfl).len ?_
  have x1 := (H.rs (α := List Int) 0 rfl).max
  obtain ⟨r1, e, f4⟩ := bindS f1; clear f1
  refine loopS _ a_.length (fun (k1 : Nat) (s1 : List Int) (_ : Unit) => [(1, (a_h).v), (2, (b_h).v), (3, (.pointer (some ⟨b7, 0, none⟩))), (6, (.pointer (some ⟨b0, 0, none⟩))), (8, (h0).v), (37, (.int .i64 ((a_.length : Nat) : Int))), (38, (.int .i64 ((k1 : Nat) : Int)))]) (fun _ (s1 : List Int) (_ : Unit) w' => Cx w0 fp0 S0 w' [Es (List Int) a_ a_h, Es (List Int) b_ b_h, Bx b7 [(.int .i64 g__0), (g__1h).v, (g__2h).v, (g__3h).v], Es (List (Int × Int × List Int × List Int)) g__1 g__1h, Es (List Int) g__2 g__2h, Es (List Int) g__3 g__3h, Bx b0 [(.int .i64 0), (.slice none 0 0), (.slice none 0 0), (.slice none 0 0)], E (List Int) s1 h0]) r0 () e ⟨rfl, rfl, rfl, rfl, rfl, rfl, rfl, trivial⟩ (H.sel [0, 1, 2, 3, 4, 5, 6, 7] rfl) ?_ ?_
  ·
   clear H e
   rintro T2 k1 s1 _ w5 o1 hk (H : Cx w0 fp0 S0 w5 [Es (List Int) a_ a_h, Es (List Int) b_ b_h, Bx b7 [(.int .i64 g__0), (g__1h).v, (g__2h).v, (g__3h).v], Es (List (Int × Int × List Int × List Int)) g__1 g__1h, Es (List Int) g__2 g__2h, Es (List Int) g__3 g__3h, Bx b0 [(.int .i64 0), (.slice none 0 0), (.slice none 0 0), (.slice none 0 0)], E (List Int) s1 h0]) f5
   refine boolE (z := true) (ltLen hk) ?_
   refine sq ?_
   refine sq ?_
   refine heldX H [] (.fst 0 (.fst 1 (.fst 2 (.fst 3 (.fst 7 (.fst 8 (.fst 9 (.fst 10 (.fst 4 (.fst 5 (.fst 6 (.fst 14 (.fst 11 (.fst 12 (.fst 13 (.fst 15 .done)))))))))))))))) mixed [] trivial (by kernel_rfl) ?_
   clear H; intro w7 H
   have hX : Ext w7 w7 := Upd.refl _ _
   have H0 := H
   obtain ⟨a2, e, f6⟩ := bindS f5; clear f5
   obtain ⟨p1, m1, c3, c4, c5, c6⟩ := (H.rs (α := List Int) 0 rfl).at1 e; clear e
   refine idxE c3 c4 c5 ?_; clear c3 c4 c5
   obtain ⟨a3, e, f7⟩ := bindS f6; clear f6
   obtain ⟨p2, m2, c7, c8, c9, c10⟩ := (H.rs (α := List Int) 1 rfl).at1 e; clear e
   refine idxE c7 c8 c9 ?_; clear c7 c8 c9
   refine load1X c6 ?_; clear c6
   obtain ⟨a4, e, f8⟩ := bindS f7; clear f7
   obtain ⟨p3, m3, c11, c12, c13, c14⟩ := (H.ro (α := List Int) 7 rfl).at1 e; clear e
   refine idxE c11 c12 c13 ?_; clear c11 c12 c13
   refine load1X c14 ?_; clear c14
   refine load1X c10 ?_; clear c10
   obtain ⟨a5, e, f9⟩ := bindS f8; clear f8
   obtain ⟨p4, m4, c15, c16, c17, c18⟩ := (H.ro (α := List Int) 7 rfl).at1 e; clear e
   refine idxE c15 c16 c17 ?_; clear c15 c16 c17
   refine load1X c18 ?_; clear c18
   refine lenE (H.ro (α := List Int) 7 rfl).len ?_
   have x2 := (H.ro (α := List Int) 7 rfl).max
   obtain ⟨r2, e, f10⟩ := bindS f9; clear f9
   refine loopS _ s1.length (fun (k2 : Nat) (s2 : List Int) (_ : Unit) => [(1, (a_h).v), (2, (b_h).v), (3, (.pointer (some ⟨b7, 0, none⟩))), (6, (.pointer (some ⟨b0, 0, none⟩))), (8, (h0).v), (11, (.int .i64 a4)), (12, (.int .i64 a5)), (37, (.int .i64 ((a_.length : Nat) : Int))), (38, (.int .i64 ((k1 : Nat) : Int))), (56, (.int .i64 ((s1.length : Nat) : Int))), (57, (.int .i64 ((k2 : Nat) : Int)))]) (fun _ (s2 : List Int) (_ : Unit) w' => Cx w0 fp0 S0 w' [Es (List Int) a_ a_h, Es (List Int) b_ b_h, Bx b7 [(.int .i64 g__0), (g__1h).v, (g__2h).v, (g__3h).v], Es (List (Int × Int × List Int × List Int)) g__1 g__1h, Es (List Int) g__2 g__2h, Es (List Int) g__3 g__3h, Bx b0 [(.int .i64 0), (.slice none 0 0), (.slice none 0 0), (.slice none 0 0)], E (List Int) s2 h0]) s1 () e ⟨rfl, rfl, rfl, rfl, rfl, rfl, rfl, rfl, rfl, rfl, rfl, trivial⟩ (H.sel [0, 1, 2, 3, 4, 5, 6, 7] rfl) ?_ ?_
   ·
    clear H e
    rintro T3 k2 s2 _ w8 o2 hk (H : Cx w0 fp0 S0 w8 [Es (List Int) a_ a_h, Es (List Int) b_ b_h, Bx b7 [(.int .i64 g__0), (g__1h).v, (g__2h).v, (g__3h).v], Es (List (Int × Int × List Int × List Int)) g__1 g__1h, Es (List Int) g__2 g__2h, Es (List Int) g__3 g__3h, Bx b0 [(.int .i64 0), (.slice none 0 0), (.slice none 0 0), (.slice none 0 0)], E (List Int) s2 h0]) f11
    refine boolE (z := true) (ltLen hk) ?_
    refine sq ?_
    refine sq ?_
    refine heldX H [] (.fst 0 (.fst 1 (.fst 2 (.fst 4 (.fst 5 (.fst 3 (.act 6 (.fst 7 .done)))))))) mixed [] trivial (by kernel_rfl) ?_
    clear H; intro w10 H
    have hX : Ext w10 w10 := Upd.refl _ _
    have H0 := H
    obtain ⟨a6, e, f12⟩ := bindS f11; clear f11
    obtain ⟨p5, m5, c19, c20, c21, c22⟩ := (H.ro (α := List Int) 7 rfl).at1 e; clear e
    refine idxE c19 c20 c21 ?_; clear c19 c20 c21
    refine load1X c22 ?_; clear c22
    obtain ⟨y0, e, f13⟩ := bindS f12; clear f12
    have ey458 := e; clear e
    refine callFx (spec_l1Most_c a4 a5 y0 ey458) H trivial ?_; clear H ey458
    rintro _ _ w11 ⟨rfl, rfl⟩ hx H
    replace hX := hX.trans0 hx; clear hx
    refine hold hX ?_
    obtain ⟨a7, e, f14⟩ := bindS f13; clear f13
    refine boolO e ?_; clear e
    cases a7
    ·
     have f15 := condF f14; clear f14
     refine arK hk x2 ?_
     have hs := Option.some.inj f15; subst hs; clear f15
     exact ⟨(), ⟨rfl, rfl, rfl, rfl, rfl, rfl, rfl, rfl, rfl, rfl, rfl, trivial⟩, H.sel [0, 1, 2, 3, 4, 5, 6, 7] rfl⟩
    ·
     have f16 := condT f14; clear f14
     obtain ⟨y2, e, f17⟩ := bindS f16; clear f16
     have ey465 := e; clear e
     refine callF (spec_l1Least_c a4 a5 y2 ey465) (Γi := []) H trivial ?_; clear H ey465
     rintro _ _ w12 ⟨rfl, rfl⟩ H
     obtain ⟨a8, e, f18⟩ := bindS f17; clear f17
     have ea474 := e; clear e
     obtain ⟨p6, m6, c23, c24, c25⟩ := (H.ro (α := List Int) 7 rfl).setp ea474
     refine idxE c23 c24 c25 ?_
     replace H := H.sel [7, 0, 1, 2, 3, 4, 5, 6] rfl
     refine setS (α := Int) H c23 c24 ea474 ?_; clear H c23 c24 c25 ea474; intro w13 H
     refine arK hk x2 ?_
     have hs := Option.some.inj f18; subst hs; clear f18
     exact ⟨(), ⟨rfl, rfl, rfl, rfl, rfl, rfl, rfl, rfl, rfl, rfl, rfl, trivial⟩, H.sel [1, 2, 3, 4, 5, 6, 7, 0] rfl⟩
   ·
    clear H e
    rintro T4 _ w15 (H : Cx w0 fp0 S0 w15 [Es (List Int) a_ a_h, Es (List Int) b_ b_h, Bx b7 [(.int .i64 g__0), (g__1h).v, (g__2h).v, (g__3h).v], Es (List (Int × Int × List Int × List Int)) g__1 g__1h, Es (List Int) g__2 g__2h, Es (List Int) g__3 g__3h, Bx b0 [(.int .i64 0), (.slice none 0 0), (.slice none 0 0), (.slice none 0 0)], E (List Int) r2 h0])
    refine boolE (z := false) geLen ?_
    refine sq ?_
    refine arK hk x1 ?_
    have hs := Option.some.inj f10; subst hs; clear f10
    exact ⟨(), ⟨rfl, rfl, rfl, rfl, rfl, rfl, rfl, trivial⟩, H.sel [0, 1, 2, 3, 4, 5, 6, 7] rfl⟩
  ·
   clear H e
   rintro T5 _ w16 (H : Cx w0 fp0 S0 w16 [Es (List Int) a_ a_h, Es (List Int) b_ b_h, Bx b7 [(.int .i64 g__0), (g__1h).v, (g__2h).v, (g__3h).v], Es (List (Int × Int × List Int × List Int)) g__1 g__1h, Es (List Int) g__2 g__2h, Es (List Int) g__3 g__3h, Bx b0 [(.int .i64 0), (.slice none 0 0), (.slice none 0 0), (.slice none 0 0)], E (List Int) r1 h0])
   refine boolE (z := false) geLen ?_
   refine sq ?_
   refine loadN [(.int .i64 g__0), (g__1h).v, (g__2h).v, (g__3h).v] rfl (fun j u hj => H.bx 2 rfl hj) ?_
   obtain ⟨y3, e, f19⟩ := bindS f4; clear f4
   obtain ⟨y3_0, y3_1⟩ := y3
   have ey485 := e; clear e
   refine callF (spec_hgCounts_c g__0 g__1 g__1h g__2 g__2h g__3 g__3h y3_0 y3_1 ey485) (Γi := []) H ⟨Vw.sh 3 rfl, Vw.sh 4 rfl, Vw.sh 5 rfl, trivial⟩ ?_; clear H ey485
   rintro _ _ w17 ⟨h1, h2, rfl, rfl⟩ H
   refine fld gok rfl rfl rfl rfl ?_
   refine load1 (H.bx 4 rfl (j := 0) rfl) ?_
   obtain ⟨a9, e, f20⟩ := bindS f19; clear f19
   refine make_ (α := Bool) gok rfl rfl rfl rfl (makeCO_of e) H ?_; clear e H; intro h3 w18 hx H
   clear hx
   refine sq ?_
   refine lenE (H.ro (α := List Int) 10 rfl).len ?_
   have x3 := (H.ro (α := List Int) 10 rfl).max
   obtain ⟨r3, e, f21⟩ := bindS f20; clear f20
   refine loopS _ r1.length (fun (k3 : Nat) (s3 : List Bool) (_ : Unit) => [(3, (.pointer (some ⟨b7, 0, none⟩))), (6, (.pointer (some ⟨b0, 0, none⟩))), (8, (h0).v), (14, (h1).v), (15, (h2).v), (16, (h3).v), (84, (h0).v), (85, (.int .i64 ((r1.length : Nat) : Int))), (86, (.int .i64 ((k3 : Nat) : Int)))]) (fun _ (s3 : List Bool) (_ : Unit) w' => Cx w0 fp0 S0 w' [Bx b7 [(.int .i64 g__0), (g__1h).v, (g__2h).v, (g__3h).v], Es (List (Int × Int × List Int × List Int)) g__1 g__1h, Es (List Int) g__2 g__2h, Es (List Int) g__3 g__3h, Bx b0 [(.int .i64 0), (.slice none 0 0), (.slice none 0 0), (.slice none 0 0)], E (List Int) r1 h0, E (List Int) y3_0 h1, E (List Int) y3_1 h2, E (List Bool) s3 h3]) a9 () e ⟨rfl, rfl, rfl, rfl, rfl, rfl, rfl, rfl, rfl, trivial⟩ (H.sel [5, 6, 7, 8, 9, 10, 1, 2, 0] rfl) ?_ ?_
   ·
    clear H e
    rintro T6 k3 s3 _ w19 o3 hk (H : Cx w0 fp0 S0 w19 [Bx b7 [(.int .i64 g__0), (g__1h).v, (g__2h).v, (g__3h).v], Es (List (Int × Int × List Int × List Int)) g__1 g__1h, Es (List Int) g__2 g__2h, Es (List Int) g__3 g__3h, Bx b0 [(.int .i64 0), (.slice none 0 0), (.slice none 0 0), (.slice none 0 0)], E (List Int) r1 h0, E (List Int) y3_0 h1, E (List Int) y3_1 h2, E (List Bool) s3 h3]) f22
    refine boolE (z := true) (ltLen hk) ?_
    refine sq ?_
    refine sq ?_
    obtain ⟨a10, e, f23⟩ := bindS f22; clear f22
    obtain ⟨p7, m7, c26, c27, c28, c29⟩ := (H.ro (α := List Int) 5 rfl).at1 e; clear e
    refine idxE c26 c27 c28 ?_; clear c26 c27 c28
    refine load1 c29 ?_; clear c29
    refine heldX H [] (.fst 0 (.fst 1 (.fst 2 (.fst 4 (.fst 5 (.fst 6 (.fst 3 (.fst 7 (.fst 8 (.fst 9 .done)))))))))) mixed [] trivial (by kernel_rfl) ?_
    clear H; intro w20 H
    have hX : Ext w20 w20 := Upd.refl _ _
    have H0 := H
    obtain ⟨a11, e, f24⟩ := bindS f23; clear f23
    obtain ⟨p8, m8, c30, c31, c32, c33⟩ := (H.ro (α := List Int) 6 rfl).at1 e; clear e
    refine idxE c30 c31 c32 ?_; clear c30 c31 c32
    obtain ⟨a13, e, f25⟩ := bindS f24; clear f24
    obtain ⟨p9, m9, c34, c35, c36, c37⟩ := (H.ro (α := List Int) 7 rfl).at1 e; clear e
    refine idxE c34 c35 c36 ?_; clear c34 c35 c36
    refine load1X c33 ?_; clear c33
    refine load1X c37 ?_; clear c37
    obtain ⟨a14, e, f26⟩ := bindS f25; clear f25
    refine arO e ?_; clear e
    obtain ⟨a15, e, f27⟩ := bindS f26; clear f26
    refine boolO e ?_; clear e
    cases a15
    ·
     have f28 := condF f27; clear f27
     refine arK hk x3 ?_
     have hs := Option.some.inj f28; subst hs; clear f28
     exact ⟨(), ⟨rfl, rfl, rfl, rfl, rfl, rfl, rfl, rfl, rfl, trivial⟩, H.sel [0, 1, 2, 3, 4, 5, 6, 7, 8] rfl⟩
    ·
     have f29 := condT f27; clear f27
     obtain ⟨a16, e, f30⟩ := bindS f29; clear f29
     have ea628 := e; clear e
     obtain ⟨p10, m10, c38, c39, c40⟩ := (H.ro (α := List Bool) 8 rfl).setp ea628
     refine idxE c38 c39 c40 ?_
     replace H := H.sel [8, 0, 1, 2, 3, 4, 5, 6, 7] rfl
     refine setS (α := Bool) H c38 c39 ea628 ?_; clear H c38 c39 c40 ea628; intro w21 H
     refine arK hk x3 ?_
     have hs := Option.some.inj f30; subst hs; clear f30
     exact ⟨(), ⟨rfl, rfl, rfl, rfl, rfl, rfl, rfl, rfl, rfl, trivial⟩, H.sel [1, 2, 3, 4, 5, 6, 7, 8, 0] rfl⟩
   ·
    clear H e
    rintro T7 _ w22 (H : Cx w0 fp0 S0 w22 [Bx b7 [(.int .i64 g__0), (g__1h).v, (g__2h).v, (g__3h).v], Es (List (Int × Int × List Int × List Int)) g__1 g__1h, Es (List Int) g__2 g__2h, Es (List Int) g__3 g__3h, Bx b0 [(.int .i64 0), (.slice none 0 0), (.slice none 0 0), (.slice none 0 0)], E (List Int) r1 h0, E (List Int) y3_0 h1, E (List Int) y3_1 h2, E (List Bool) r3 h3])
    refine boolE (z := false) geLen ?_
    refine sq ?_
    refine fld gok rfl rfl rfl rfl ?_
    refine load1 (H.bx 0 rfl (j := 0) rfl) ?_
    obtain ⟨a17, e, f31⟩ := bindS f21; clear f21
    refine make_ (α := Int) gok rfl rfl rfl rfl (makeCO_of e) H ?_; clear e H; intro h4 w23 hx H
    clear hx
    refine sq ?_
    refine lenE (H.ro (α := List Int) 0 rfl).len ?_
    have x4 := (H.ro (α := List Int) 0 rfl).max
    obtain ⟨r4, e, f32⟩ := bindS f31; clear f31
    refine loopS _ a17.length (fun (k4 : Nat) (s4 : List Int × Int) (_ : Unit) => [(3, (.pointer (some ⟨b7, 0, none⟩))), (6, (.pointer (some ⟨b0, 0, none⟩))), (8, (h0).v), (16, (h3).v), (19, (h4).v), (20, (.int .i64 s4.2)), (109, (.int .i64 ((a17.length : Nat) : Int))), (110, (.int .i64 ((k4 : Nat) : Int)))]) (fun _ (s4 : List Int × Int) (_ : Unit) w' => Cx w0 fp0 S0 w' [Bx b7 [(.int .i64 g__0), (g__1h).v, (g__2h).v, (g__3h).v], Es (List (Int × Int × List Int × List Int)) g__1 g__1h, Es (List Int) g__2 g__2h, Es (List Int) g__3 g__3h, Bx b0 [(.int .i64 0), (.slice none 0 0), (.slice none 0 0), (.slice none 0 0)], E (List Int) r1 h0, E (List Bool) r3 h3, E (List Int) s4.1 h4]) (a17, 0) () e ⟨rfl, rfl, rfl, rfl, rfl, rfl, rfl, rfl, trivial⟩ (H.sel [1, 2, 3, 4, 5, 6, 9, 0] rfl) ?_ ?_
    ·
     clear H e
     rintro T8 k4 ⟨s4_0, s4_1⟩ _ w24 o4 hk (H : Cx w0 fp0 S0 w24 [Bx b7 [(.int .i64 g__0), (g__1h).v, (g__2h).v, (g__3h).v], Es (List (Int × Int × List Int × List Int)) g__1 g__1h, Es (List Int) g__2 g__2h, Es (List Int) g__3 g__3h, Bx b0 [(.int .i64 0), (.slice none 0 0), (.slice none 0 0), (.slice none 0 0)], E (List Int) r1 h0, E (List Bool) r3 h3, E (List Int) s4_0 h4]) f33
     refine boolE (z := true) (ltLen hk) ?_
     refine sq ?_
     refine sq ?_
     obtain ⟨r5, f34, f35⟩ := bindS f33; clear f33
     refine cut (fun (q0 : Bool) => [(3, (.pointer (some ⟨b7, 0, none⟩))), (6, (.pointer (some ⟨b0, 0, none⟩))), (8, (h0).v), (16, (h3).v), (19, (h4).v), (20, (.int .i64 s4_1)), (21, (.int .i64 ((k4 : Nat) : Int))), (109, (.int .i64 ((a17.length : Nat) : Int))), (110, (.int .i64 ((k4 : Nat) : Int))), (124, (.bool q0))]) (fun (q0 : Bool) w' => q0 = r5 ∧ Cx w0 fp0 S0 w' [Bx b7 [(.int .i64 g__0), (g__1h).v, (g__2h).v, (g__3h).v], Es (List (Int × Int × List Int × List Int)) g__1 g__1h, Es (List Int) g__2 g__2h, Es (List Int) g__3 g__3h, Bx b0 [(.int .i64 0), (.slice none 0 0), (.slice none 0 0), (.slice none 0 0)], E (List Int) r1 h0, E (List Bool) r3 h3, E (List Int) s4_0 h4]) ?_ ?_
     ·
      obtain ⟨a18, e, f36⟩ := bindS f34; clear f34
      obtain ⟨p11, m11, c41, c42, c43, c44⟩ := (H.ro (α := List Int) 5 rfl).at1 e; clear e
      refine idxE c41 c42 c43 ?_; clear c41 c42 c43
      refine load1 c44 ?_; clear c44
      obtain ⟨a19, e, f37⟩ := bindS f36; clear f36
      refine boolO e ?_; clear e
      cases a19
      ·
       have f38 := condF f37; clear f37
       exact ⟨false, ⟨rfl, rfl, rfl, rfl, rfl, rfl, rfl, rfl, rfl, rfl, trivial⟩, Option.some.inj f38, H.sel [0, 1, 2, 3, 4, 5, 6, 7] rfl⟩
      ·
       have f39 := condT f37; clear f37
       obtain ⟨a20, e, f40⟩ := bindS f39; clear f39
       obtain ⟨p12, m12, c45, c46, c47, c48⟩ := (H.ro (α := List Bool) 6 rfl).at1 e; clear e
       refine idxE c45 c46 c47 ?_; clear c45 c46 c47
       refine load1 c48 ?_; clear c48
       exact ⟨a20, ⟨rfl, rfl, rfl, rfl, rfl, rfl, rfl, rfl, rfl, rfl, trivial⟩, Option.some.inj f40, H.sel [0, 1, 2, 3, 4, 5, 6, 7] rfl⟩
     ·
      clear f34 H
      rintro T9 s5 w25 ⟨hr, (H : Cx w0 fp0 S0 w25 [Bx b7 [(.int .i64 g__0), (g__1h).v, (g__2h).v, (g__3h).v], Es (List (Int × Int × List Int × List Int)) g__1 g__1h, Es (List Int) g__2 g__2h, Es (List Int) g__3 g__3h, Bx b0 [(.int .i64 0), (.slice none 0 0), (.slice none 0 0), (.slice none 0 0)], E (List Int) r1 h0, E (List Bool) r3 h3, E (List Int) s4_0 h4])⟩
      subst hr
      cases s5
      ·
       have f41 := condF f35; clear f35
       refine arK hk x4 ?_
       have hs := Option.some.inj f41; subst hs; clear f41
       exact ⟨(), ⟨rfl, rfl, rfl, rfl, rfl, rfl, rfl, rfl, trivial⟩, H.sel [0, 1, 2, 3, 4, 5, 6, 7] rfl⟩
      ·
       have f42 := condT f35; clear f35
       obtain ⟨a21, e, f43⟩ := bindS f42; clear f42
       have ea832 := e; clear e
       obtain ⟨p13, m13, c52, c53, c54⟩ := (H.ro (α := List Int) 7 rfl).setp ea832
       refine idxE c52 c53 c54 ?_
       replace H := H.sel [7, 0, 1, 2, 3, 4, 5, 6] rfl
       refine setS (α := Int) H c52 c53 ea832 ?_; clear H c52 c53 c54 ea832; intro w26 H
       obtain ⟨a22, e, f44⟩ := bindS f43; clear f43
       refine arO e ?_; clear e
       refine arK hk x4 ?_
       have hs := Option.some.inj f44; subst hs; clear f44
       exact ⟨(), ⟨rfl, rfl, rfl, rfl, rfl, rfl, rfl, rfl, trivial⟩, H.sel [1, 2, 3, 4, 5, 6, 7, 0] rfl⟩
    ·
     clear H e
     obtain ⟨s6_0, s6_1⟩ := r4
     rintro T10 _ w27 (H : Cx w0 fp0 S0 w27 [Bx b7 [(.int .i64 g__0), (g__1h).v, (g__2h).v, (g__3h).v], Es (List (Int × Int × List Int × List Int)) g__1 g__1h, Es (List Int) g__2 g__2h, Es (List Int) g__3 g__3h, Bx b0 [(.int .i64 0), (.slice none 0 0), (.slice none 0 0), (.slice none 0 0)], E (List Int) r1 h0, E (List Bool) r3 h3, E (List Int) s6_0 h4])
     refine boolE (z := false) geLen ?_
     refine sq ?_
     refine sq ?_
     refine lenE (H.ro (α := List Int) 7 rfl).len ?_
     have x5 := (H.ro (α := List Int) 7 rfl).max
     obtain ⟨r6, e, f45⟩ := bindS f32; clear f32
     refine loopS _ s6_0.length (fun (k5 : Nat) (s7 : List Int) (_ : Unit) => [(3, (.pointer (some ⟨b7, 0, none⟩))), (6, (.pointer (some ⟨b0, 0, none⟩))), (8, (h0).v), (16, (h3).v), (19, (h4).v), (20, (.int .i64 s6_1)), (133, (.int .i64 ((s6_0.length : Nat) : Int))), (134, (.int .i64 ((k5 : Nat) : Int)))]) (fun _ (s7 : List Int) (_ : Unit) w' => Cx w0 fp0 S0 w' [Bx b7 [(.int .i64 g__0), (g__1h).v, (g__2h).v, (g__3h).v], Es (List (Int × Int × List Int × List Int)) g__1 g__1h, Es (List Int) g__2 g__2h, Es (List Int) g__3 g__3h, Bx b0 [(.int .i64 0), (.slice none 0 0), (.slice none 0 0), (.slice none 0 0)], E (List Int) r1 h0, E (List Bool) r3 h3, E (List Int) s7 h4]) s6_0 () e ⟨rfl, rfl, rfl, rfl, rfl, rfl, rfl, rfl, trivial⟩ (H.sel [0, 1, 2, 3, 4, 5, 6, 7] rfl) ?_ ?_
     ·
      clear H e
      rintro T11 k5 s7 _ w28 o5 hk (H : Cx w0 fp0 S0 w28 [Bx b7 [(.int .i64 g__0), (g__1h).v, (g__2h).v, (g__3h).v], Es (List (Int × Int × List Int × List Int)) g__1 g__1h, Es (List Int) g__2 g__2h, Es (List Int) g__3 g__3h, Bx b0 [(.int .i64 0), (.slice none 0 0), (.slice none 0 0), (.slice none 0 0)], E (List Int) r1 h0, E (List Bool) r3 h3, E (List Int) s7 h4]) f46
      refine boolE (z := true) (ltLen hk) ?_
      refine sq ?_
      refine sq ?_
      obtain ⟨a23, e, f47⟩ := bindS f46; clear f46
      obtain ⟨p14, m14, c55, c56, c57, c58⟩ := (H.ro (α := List Int) 5 rfl).at1 e; clear e
      refine idxE c55 c56 c57 ?_; clear c55 c56 c57
      refine load1 c58 ?_; clear c58
      obtain ⟨a24, e, f48⟩ := bindS f47; clear f47
      obtain ⟨p15, m15, c59, c60, c61, c62⟩ := (H.ro (α := List Int) 7 rfl).at1 e; clear e
      refine idxE c59 c60 c61 ?_; clear c59 c60 c61
      refine load1 c62 ?_; clear c62
      obtain ⟨a25, e, f49⟩ := bindS f48; clear f48
      have ea985 := e; clear e
      obtain ⟨p16, m16, c63, c64, c65⟩ := (H.ro (α := List Int) 7 rfl).setp ea985
      refine idxE c63 c64 c65 ?_
      replace H := H.sel [7, 0, 1, 2, 3, 4, 5, 6] rfl
      refine setS (α := Int) H c63 c64 ea985 ?_; clear H c63 c64 c65 ea985; intro w29 H
      obtain ⟨a26, e, f50⟩ := bindS f49; clear f49
      obtain ⟨p17, m17, c66, c67, c68, c69⟩ := (H.ro (α := List Int) 6 rfl).at1 e; clear e
      refine idxE c66 c67 c68 ?_; clear c66 c67 c68
      refine load1 c69 ?_; clear c69
      obtain ⟨a27, e, f51⟩ := bindS f50; clear f50
      obtain ⟨p18, m18, c70, c71, c72, c73⟩ := (H.ro (α := List Bool) 7 rfl).at1 e; clear e
      refine idxE c70 c71 c72 ?_; clear c70 c71 c72
      refine load1 c73 ?_; clear c73
      obtain ⟨a28, e, f52⟩ := bindS f51; clear f51
      refine boolO e ?_; clear e
      cases a28
      ·
       have f53 := condF f52; clear f52
       refine arK hk x5 ?_
       have hs := Option.some.inj f53; subst hs; clear f53
       exact ⟨(), ⟨rfl, rfl, rfl, rfl, rfl, rfl, rfl, rfl, trivial⟩, H.sel [1, 2, 3, 4, 5, 6, 7, 0] rfl⟩
      ·
       have f54 := condT f52; clear f52
       obtain ⟨a29, e, f55⟩ := bindS f54; clear f54
       have ea1014 := e; clear e
       obtain ⟨p19, m19, c74, c75, c76⟩ := (H.ro (α := List Int) 0 rfl).setp ea1014
       refine idxE c74 c75 c76 ?_
       refine setS (α := Int) H c74 c75 ea1014 ?_; clear H c74 c75 c76 ea1014; intro w30 H
       refine arK hk x5 ?_
       have hs := Option.some.inj f55; subst hs; clear f55
       exact ⟨(), ⟨rfl, rfl, rfl, rfl, rfl, rfl, rfl, rfl, trivial⟩, H.sel [1, 2, 3, 4, 5, 6, 7, 0] rfl⟩
     ·
      clear H e
      rintro T12 _ w31 (H : Cx w0 fp0 S0 w31 [Bx b7 [(.int .i64 g__0), (g__1h).v, (g__2h).v, (g__3h).v], Es (List (Int × Int × List Int × List Int)) g__1 g__1h, Es (List Int) g__2 g__2h, Es (List Int) g__3 g__3h, Bx b0 [(.int .i64 0), (.slice none 0 0), (.slice none 0 0), (.slice none 0 0)], E (List Int) r1 h0, E (List Bool) r3 h3, E (List Int) r6 h4])
      refine boolE (z := false) geLen ?_
      refine sq ?_
      refine loadN [(.int .i64 g__0), (g__1h).v, (g__2h).v, (g__3h).v] rfl (fun j u hj => H.bx 0 rfl hj) ?_
      obtain ⟨y4, e, f56⟩ := bindS f45; clear f45
      obtain ⟨y4_0, y4_1, y4_2, y4_3⟩ := y4
      have ey1021 := e; clear e
      refine callF (spec_hgMap_c g__0 g__1 g__1h g__2 g__2h g__3 g__3h r6 h4 s6_1 y4_0 y4_1 y4_2 y4_3 ey1021) (Γi := []) H ⟨Vw.sh 1 rfl, Vw.sh 2 rfl, Vw.sh 3 rfl, Vw.own 7 rfl, trivial⟩ ?_; clear H ey1021
      rintro _ _ w32 ⟨h5, h6, h7, rfl, rfl⟩ H
      replace H := H.sel [7, 0, 1, 2, 3, 4, 5, 6, 8, 9, 10] rfl
      refine stA gok [(.int .i64 y4_0), (h5).v, (h6).v, (h7).v] rfl H rfl rfl rfl ?_; clear H; intro w33 H
      refine loadN [(.int .i64 y4_0), (h5).v, (h6).v, (h7).v] rfl (fun j u hj => H.bx 0 rfl hj) ?_
      cases f56
      exact ⟨_, _, rfl, ⟨h5, h6, h7, h4, rfl, rfl⟩, (H.sel [1, 2, 3, 10] rfl).close ⟨cloE, cloE, cloE, cloE, trivial⟩⟩

theorem spec_hgGlue_c (g__0 : Int) (g__1 : List (Int × Int × List Int × List Int)) (g__1h : Hd) (g__2 : List Int) (g__2h : Hd) (g__3 : List Int) (g__3h : Hd) (a_ : List Int) (a_h : Hd) (b_ : List Int) (b_h : Hd) (y_0 : Int) (y_1 : List (Int × Int × List Int × List Int)) (y_2 : List Int) (y_3 : List Int) (hF : F_spec_hgGlue (g__0, g__1, g__2, g__3) a_ b_ = some (y_0, y_1, y_2, y_3)) :
  ConF Tryz.prog 73 #[(.agg #[(.int .i64 g__0), (g__1h).v, (g__2h).v, (g__3h).v]), (a_h).v, (b_h).v] [Es (List (Int × Int × List Int × List Int)) g__1 g__1h, Es (List Int) g__2 g__2h, Es (List Int) g__3 g__3h, Es (List Int) a_ a_h, Es (List Int) b_ b_h] [] (fun v Γ' => ∃ z0 z1 z2 : Hd, v = (.agg #[(.int .i64 y_0), (z0).v, (z1).v, (z2).v]) ∧ Γ' = [E (List (Int × Int × List Int × List Int)) y_1 z0, E (List Int) y_2 z1, E (List Int) y_3 z2]) := by
 intro w0 S0 fp0 hI hS
 have H : Cx w0 fp0 S0 w0 [Es (List (Int × Int × List Int × List Int)) g__1 g__1h, Es (List Int) g__2 g__2h, Es (List Int) g__3 g__3h, Es (List Int) a_ a_h, Es (List Int) b_ b_h] := Cx.start hI hS
 clear hI hS
 refine enterC (args := [_, _, _]) gok Tryz.func73 rfl _ rfl rfl rfl ?_
 refine box_ H ?_; clear H; intro b7 w6 hx H
 clear hx
 refine alloc_ gok rfl H ?_; clear H; intro b0 w9 hx H
 clear hx
 refine loadN [(.int .i64 g__0), (g__1h).v, (g__2h).v, (g__3h).v] rfl (fun j u hj => H.bx 1 rfl hj) ?_
 obtain ⟨y0, e, f0⟩ := bindS hF; clear hF
 obtain ⟨⟨y0_0_0, y0_0_1, y0_0_2, y0_0_3⟩, y0_1⟩ := y0
 have ey12 := e; clear e
 refine callF (spec_hgGlued_c g__0 g__1 g__1h g__2 g__2h g__3 g__3h a_ a_h b_ b_h y0_0_0 y0_0_1 y0_0_2 y0_0_3 y0_1 ey12) (Γi := []) H ⟨Vw.sh 2 rfl, Vw.sh 3 rfl, Vw.sh 4 rfl, Vw.sh 5 rfl, Vw.sh 6 rfl, trivial⟩ ?_; clear H ey12
 rintro _ _ w1 ⟨h0, h1, h2, h3, rfl, rfl⟩ H
 refine alloc_ gok rfl H ?_; clear H; intro b1 w2 hx H
 clear hx
 refine stA gok [(.int .i64 y0_0_0), (h0).v, (h1).v, (h2).v] rfl H rfl rfl rfl ?_; clear H; intro w3 H
 refine loadN [(.int .i64 y0_0_0), (h0).v, (h1).v, (h2).v] rfl (fun j u hj => H.bx 0 rfl hj) ?_
 replace H := H.sel [5, 0, 1, 2, 3, 4, 6, 7, 8, 9, 10, 11] rfl
 refine stA gok [(.int .i64 y0_0_0), (h0).v, (h1).v, (h2).v] rfl H rfl rfl rfl ?_; clear H; intro w4 H
 refine loadN [(.int .i64 y0_0_0), (h0).v, (h1).v, (h2).v] rfl (fun j u hj => H.bx 0 rfl hj) ?_
 cases f0
 exact ⟨_, _, rfl, ⟨h0, h1, h2, rfl, rfl⟩, (H.sel [2, 3, 4] rfl).close ⟨cloE, cloE, cloE, trivial⟩⟩

theorem spec_hgSeq_c (a__0 : Int) (a__1 : List (Int × Int × List Int × List Int)) (a__1h : Hd) (a__2 : List Int) (a__2h : Hd) (a__3 : List Int) (a__3h : Hd) (b__0 : Int) (b__1 : List (Int × Int × List Int × List Int)) (b__1h : Hd) (b__2 : List Int) (b__2h : Hd) (b__3 : List Int) (b__3h : Hd) (y_0 : Int) (y_1 : List (Int × Int × List Int × List Int)) (y_2 : List Int) (y_3 : List Int) (hF : F_spec_hgSeq (a__0, a__1, a__2, a__3) (b__0, b__1, b__2, b__3) = some (y_0, y_1, y_2, y_3)) :
  ConF Tryz.prog 52 #[(.agg #[(.int .i64 a__0), (a__1h).v, (a__2h).v, (a__3h).v]), (.agg #[(.int .i64 b__0), (b__1h).v, (b__2h).v, (b__3h).v])] [Es (List (Int × Int × List Int × List Int)) a__1 a__1h, Es (List Int) a__2 a__2h, Es (List Int) a__3 a__3h, Es (List (Int × Int × List Int × List Int)) b__1 b__1h, Es (List Int) b__2 b__2h, Es (List Int) b__3 b__3h] [] (fun v Γ' => ∃ z0 z1 z2 : Hd, v = (.agg #[(.int .i64 y_0), (z0).v, (z1).v, (z2).v]) ∧ Γ' = [E (List (Int × Int × List Int × List Int)) y_1 z0, E (List Int) y_2 z1, E (List Int) y_3 z2]) := by
 intro w0 S0 fp0 hI hS
 have H : Cx w0 fp0 S0 w0 [Es (List (Int × Int × List Int × List Int)) a__1 a__1h, Es (List Int) a__2 a__2h, Es (List Int) a__3 a__3h, Es (List (Int × Int × List Int × List Int)) b__1 b__1h, Es (List Int) b__2 b__2h, Es (List Int) b__3 b__3h] := Cx.start hI hS
 clear hI hS
 refine enterC (args := [_, _]) gok Tryz.func52 rfl _ rfl rfl rfl ?_
 refine box_ H ?_; clear H; intro b8 w7 hx H
 clear hx
 refine box_ H ?_; clear H; intro b0 w1 hx H
 clear hx
 refine alloc_ gok rfl H ?_; clear H; intro b1 w2 hx H
 clear hx
 refine loadN [(.int .i64 a__0), (a__1h).v, (a__2h).v, (a__3h).v] rfl (fun j u hj => H.bx 2 rfl hj) ?_
 refine loadN [(.int .i64 b__0), (b__1h).v, (b__2h).v, (b__3h).v] rfl (fun j u hj => H.bx 1 rfl hj) ?_
 obtain ⟨y0, e, f0⟩ := bindS hF; clear hF
 obtain ⟨y0_0, y0_1, y0_2, y0_3⟩ := y0
 have ey16 := e; clear e
 refine callF (spec_hgBeside_c a__0 a__1 a__1h a__2 a__2h a__3 a__3h b__0 b__1 b__1h b__2 b__2h b__3 b__3h y0_0 y0_1 y0_2 y0_3 ey16) (Γi := []) H ⟨Vw.sh 3 rfl, Vw.sh 4 rfl, Vw.sh 5 rfl, Vw.sh 6 rfl, Vw.sh 7 rfl, Vw.sh 8 rfl, trivial⟩ ?_; clear H ey16
 rintro _ _ w3 ⟨h0, h1, h2, rfl, rfl⟩ H
 refine alloc_ gok rfl H ?_; clear H; intro b2 w4 hx H
 clear hx
 refine stA gok [(.int .i64 y0_0), (h0).v, (h1).v, (h2).v] rfl H rfl rfl rfl ?_; clear H; intro w5 H
 refine heldX H [] (.fst 0 (.fst 3 (.fst 1 (.fst 2 (.fst 6 (.fst 4 (.fst 5 (.fst 7 .done)))))))) mixed [] trivial (by kernel_rfl) ?_
 clear H; intro w6 H
 have hX : Ext w6 w6 := Upd.refl _ _
 have H0 := H
 refine anyH (fun _ => fld gok rfl rfl rfl rfl ⟨rfl, rfl⟩) ?_
 refine anyH (fun _ => fld gok rfl rfl rfl rfl ⟨rfl, rfl⟩) ?_
 refine load1X (H.bx 6 rfl (j := 2) rfl) ?_
 refine lenE (H.rs (α := List Int) 8 rfl).len ?_
 refine load1X (H.bx 6 rfl (j := 3) rfl) ?_
 refine lenE (H.rs (α := List Int) 9 rfl).len ?_
 refine heldX H [] (.fst 0 (.fst 2 (.fst 5 (.fst 7 (.fst 1 (.fst 3 (.fst 6 (.fst 8 (.act 4 (.act 9 (.fst 10 (.fst 11 .done)))))))))))) mixed [] trivial (by kernel_rfl) ?_
 clear H; intro w8 H
 have hX : Ext w8 w8 := Upd.refl _ _
 have H0 := H
 refine anyH (fun _ => fld gok rfl rfl rfl rfl ⟨rfl, rfl⟩) ?_
 refine anyH (fun _ => fld gok rfl rfl rfl rfl ⟨rfl, rfl⟩) ?_
 refine load1X (H.bx 0 rfl (j := 3) rfl) ?_
 obtain ⟨a0, e, f1⟩ := bindS f0; clear f0
 replace H := H.sel [3, 0, 1, 2, 4, 5, 6, 7, 8, 9, 10, 11, 12] rfl
 replace H := H.frz
 refine slSX (α := Int) gok rfl rfl H 0 rfl e rfl rfl ?_; clear e; intro h3 HH; clear H; have H := HH; clear HH
 refine load1X (H.bx 2 rfl (j := 2) rfl) ?_
 obtain ⟨a1, e, f2⟩ := bindS f1; clear f1
 replace H := H.sel [4, 0, 1, 2, 3, 5, 6, 7, 8, 9, 10, 11, 12, 13] rfl
 replace H := H.frz
 refine slSX (α := Int) (hi := none) gok rfl rfl H 0 rfl e rfl (congrArg (fun n : Nat => some (n : Int)) (H.rs (α := List Int) 0 rfl).len) ?_; clear e; intro h4 HH; clear H; have H := HH; clear HH
 obtain ⟨y1, e, f3⟩ := bindS f2; clear f2
 have ey39 := e; clear e
 refine callFx (spec_l1Own_c a0 h3 y1 ey39) H ⟨Vw.sh 2 rfl, trivial⟩ ?_; clear H ey39
 rintro _ _ w9 ⟨h5, rfl, rfl⟩ hx H
 replace hX := hX.trans0 hx; clear hx
 refine hold hX ?_
 obtain ⟨y2, e, f4⟩ := bindS f3; clear f3
 have ey44 := e; clear e
 refine callFx (spec_l1Own_c a1 h4 y2 ey44) H ⟨Vw.sh 1 rfl, trivial⟩ ?_; clear H ey44
 rintro _ _ w11 ⟨h6, rfl, rfl⟩ hx H
 replace hX := hX.trans0 hx; clear hx
 refine hold hX ?_
 refine fld gok rfl rfl rfl rfl ?_
 refine load1 (H.bx 6 rfl (j := 2) rfl) ?_
 obtain ⟨a2, e, f5⟩ := bindS f4; clear f4
 refine slS (α := Int) gok rfl rfl H 3 rfl e rfl rfl ?_; clear e H; intro h7 H
 refine fld gok rfl rfl rfl rfl ?_
 replace H := H.sel [7, 0, 1, 2, 3, 4, 5, 6, 8, 9, 10, 11, 12, 13, 14, 15, 16, 17] rfl
 refine stB (j := 2) H rfl rfl ?_; clear H; intro w12 H
 refine fld gok rfl rfl rfl rfl ?_
 refine load1 (H.bx 0 rfl (j := 3) rfl) ?_
 obtain ⟨a3, e, f6⟩ := bindS f5; clear f5
 refine slS (α := Int) (hi := none) gok rfl rfl H 7 rfl e rfl (congrArg (fun n : Nat => some (n : Int)) (H.rs (α := List Int) 7 rfl).len) ?_; clear e H; intro h8 H
 refine fld gok rfl rfl rfl rfl ?_
 replace H := H.sel [1, 0, 2, 3, 4, 5, 6, 7, 8, 9, 10, 11, 12, 13, 14, 15, 16, 17, 18] rfl
 refine stB (j := 3) H rfl rfl ?_; clear H; intro w14 H
 refine loadN [(.int .i64 y0_0), (h0).v, (h7).v, (h8).v] rfl (fun j u hj => H.bx 0 rfl hj) ?_
 obtain ⟨y3, e, f7⟩ := bindS f6; clear f6
 obtain ⟨y3_0, y3_1, y3_2, y3_3⟩ := y3
 have ey59 := e; clear e
 refine callF (spec_hgGlue_c y0_0 y0_1 h0 a2 h7 a3 h8 y1 h5 y2 h6 y3_0 y3_1 y3_2 y3_3 ey59) (Γi := []) H ⟨Vw.own 9 rfl, Vw.sh 2 rfl, Vw.sh 1 rfl, Vw.own 4 rfl, Vw.own 3 rfl, trivial⟩ ?_; clear H ey59
 rintro _ _ w15 ⟨h9, h10, h11, rfl, rfl⟩ H
 replace H := H.sel [13, 0, 1, 2, 3, 4, 5, 6, 7, 8, 9, 10, 11, 12, 14, 15, 16, 17, 18, 19, 20, 21] rfl
 refine stA gok [(.int .i64 y3_0), (h9).v, (h10).v, (h11).v] rfl H rfl rfl rfl ?_; clear H; intro w16 H
 refine loadN [(.int .i64 y3_0), (h9).v, (h10).v, (h11).v] rfl (fun j u hj => H.bx 0 rfl hj) ?_
 cases f7
 exact ⟨_, _, rfl, ⟨h9, h10, h11, rfl, rfl⟩, (H.sel [1, 2, 3] rfl).close ⟨cloE, cloE, cloE, trivial⟩⟩

theorem spec_l1All_c (l_ : List Int) (l_h : Hd) (lo_ : Int) (hi_ : Int) (y : Bool) (hF : F_spec_l1All l_ lo_ hi_ = some y) :
  ConF Tryz.prog 96 #[(l_h).v, (.int .i64 lo_), (.int .i64 hi_)] [Es (List Int) l_ l_h] [] (fun v Γ' => v = (.bool y) ∧ Γ' = []) := by
 intro w0 S0 fp0 hI hS
 have H : Cx w0 fp0 S0 w0 [Es (List Int) l_ l_h] := Cx.start hI hS
 clear hI hS
 refine enterC (args := [_, _, _]) gok Tryz.func96 rfl _ rfl rfl rfl ?_
 refine sq ?_
 refine lenE (H.rs (α := List Int) 0 rfl).len ?_
 have x0 := (H.rs (α := List Int) 0 rfl).max
 obtain ⟨r0, e, f0⟩ := bindS hF; clear hF
 refine loopO _ l_.length (fun (k2 : Nat) (_ : Unit) (_ : Unit) => [(1, (.int .i64 lo_)), (2, (.int .i64 hi_)), (9, (l_h).v), (10, (.int .i64 ((l_.length : Nat) : Int))), (11, (.int .i64 ((k2 : Nat) : Int)))]) (fun _ (_ : Unit) (_ : Unit) w' => Cx w0 fp0 S0 w' [Es (List Int) l_ l_h]) () () e ⟨rfl, rfl, rfl, rfl, rfl, trivial⟩ (H.sel [0] rfl) ?_ ?_
 ·
  clear H e
  rintro T0 k2 _ _ w1 o0 hk (H : Cx w0 fp0 S0 w1 [Es (List Int) l_ l_h]) hrt f1
  refine boolE (z := true) (ltLen hk) ?_
  refine sq ?_
  refine sq ?_
  obtain ⟨a0, e, f2⟩ := bindS f1; clear f1
  obtain ⟨p0, m0, c0, c1, c2, c3⟩ := (H.rs (α := List Int) 0 rfl).at1 e; clear e
  refine idxE c0 c1 c2 ?_; clear c0 c1 c2
  refine load1 c3 ?_; clear c3
  obtain ⟨y0, e, f3⟩ := bindS f2; clear f2
  have ey37 := e; clear e
  refine callF (spec_l1In_c a0 lo_ hi_ y0 ey37) (Γi := []) H trivial ?_; clear H ey37
  rintro _ _ w2 ⟨rfl, rfl⟩ H
  obtain ⟨a1, e, f4⟩ := bindS f3; clear f3
  refine boolO e ?_; clear e
  cases a1
  ·
   have f5 := condF f4; clear f4
   refine arK hk x0 ?_
   have hs := Option.some.inj f5; subst hs; clear f5
   exact ⟨(), (), rfl, ⟨rfl, rfl, rfl, rfl, rfl, trivial⟩, H.sel [0] rfl⟩
  ·
   have f6 := condT f4; clear f4
   have hs := Option.some.inj f6; subst hs; clear f6
   have hr := hrt _ rfl; subst hr
   have f7 : some _ = some _ := f0
   cases f7
   exact ⟨_, _, rfl, ⟨rfl, rfl⟩, (H.sel [] rfl).close trivial⟩
 ·
  clear H e
  rintro T1 _ _ w3 hr (H : Cx w0 fp0 S0 w3 [Es (List Int) l_ l_h])
  subst hr
  refine boolE (z := false) geLen ?_
  refine sq ?_
  cases f0
  exact ⟨_, _, rfl, ⟨rfl, rfl⟩, (H.sel [] rfl).close trivial⟩

theorem spec_hgEdge_c (e__0 : Int) (e__1 : Int) (e__2 : List Int) (e__2h : Hd) (e__3 : List Int) (e__3h : Hd) (wires_ : Int) (y : Bool) (hF : F_spec_hgEdge (e__0, e__1, e__2, e__3) wires_ = some y) :
  ConF Tryz.prog 97 #[(.agg #[(.int .i64 e__0), (.int .i64 e__1), (e__2h).v, (e__3h).v]), (.int .i64 wires_)] [Es (List Int) e__2 e__2h, Es (List Int) e__3 e__3h] [] (fun v Γ' => v = (.bool y) ∧ Γ' = []) := by
 intro w0 S0 fp0 hI hS
 have H : Cx w0 fp0 S0 w0 [Es (List Int) e__2 e__2h, Es (List Int) e__3 e__3h] := Cx.start hI hS
 clear hI hS
 refine enterC (args := [_, _]) gok Tryz.func97 rfl _ rfl rfl rfl ?_
 refine box_ H ?_; clear H; intro b4 w3 hx H
 clear hx
 refine sq ?_
 obtain ⟨r0, f0, f1⟩ := bindS hF; clear hF
 refine cut (fun (q0 : Bool) => [(1, (.int .i64 wires_)), (2, (.pointer (some ⟨b4, 0, none⟩))), (19, (.bool q0))]) (fun (q0 : Bool) w' => q0 = r0 ∧ Cx w0 fp0 S0 w' [Bx b4 [(.int .i64 e__0), (.int .i64 e__1), (e__2h).v, (e__3h).v], Es (List Int) e__2 e__2h, Es (List Int) e__3 e__3h]) ?_ ?_
 ·
  refine fld gok rfl rfl rfl rfl ?_
  refine load1 (H.bx 0 rfl (j := 0) rfl) ?_
  obtain ⟨y0, e, f2⟩ := bindS f0; clear f0
  have ey24 := e; clear e
  refine callF (spec_l1In_c e__0 3 14 y0 ey24) (Γi := []) H trivial ?_; clear H ey24
  rintro _ _ w1 ⟨rfl, rfl⟩ H
  obtain ⟨a0, e, f3⟩ := bindS f2; clear f2
  refine boolO e ?_; clear e
  cases a0
  ·
   have f4 := condF f3; clear f3
   refine fld gok rfl rfl rfl rfl ?_
   refine load1 (H.bx 0 rfl (j := 0) rfl) ?_
   refine fld gok rfl rfl rfl rfl ?_
   refine load1 (H.bx 0 rfl (j := 1) rfl) ?_
   refine build_ (cs := #[(.int .i64 e__0), (.int .i64 e__1), (.string .empty)]) gok rfl rfl rfl ?_
   obtain ⟨y1, e, f5⟩ := bindS f4; clear f4
   have ey30 := e; clear e
   refine callF (spec_tmLeaf_c e__0 e__1 .empty y1 ey30) (Γi := []) H trivial ?_; clear H ey30
   rintro _ _ w2 ⟨rfl, rfl⟩ H
   obtain ⟨a1, e, f6⟩ := bindS f5; clear f5
   refine boolO e ?_; clear e
   exact ⟨a1, ⟨rfl, rfl, rfl, trivial⟩, Option.some.inj f6, H.sel [0, 1, 2] rfl⟩
  ·
   have f7 := condT f3; clear f3
   exact ⟨true, ⟨rfl, rfl, rfl, trivial⟩, Option.some.inj f7, H.sel [0, 1, 2] rfl⟩
 ·
  clear f0 H
  rintro T0 s0 w4 ⟨hr, (H : Cx w0 fp0 S0 w4 [Bx b4 [(.int .i64 e__0), (.int .i64 e__1), (e__2h).v, (e__3h).v], Es (List Int) e__2 e__2h, Es (List Int) e__3 e__3h])⟩
  subst hr
  cases s0
  ·
   have f8 := condF f1; clear f1
   refine fld gok rfl rfl rfl rfl ?_
   refine load1 (H.bx 0 rfl (j := 0) rfl) ?_
   obtain ⟨y2, e, f9⟩ := bindS f8; clear f8
   obtain ⟨y2_0, y2_1⟩ := y2
   have ey39 := e; clear e
   refine callF (spec_tmKind_c e__0 y2_0 y2_1 ey39) (Γi := []) H trivial ?_; clear H ey39
   rintro _ _ w5 ⟨rfl, rfl⟩ H
   obtain ⟨r1, f10, f11⟩ := bindS f9; clear f9
   refine cut (fun (q1 : Bool) => [(4, (.bool q1))]) (fun (q1 : Bool) w' => q1 = r1 ∧ Cx w0 fp0 S0 w' []) ?_ ?_
   ·
    refine fld gok rfl rfl rfl rfl ?_
    refine load1 (H.bx 0 rfl (j := 2) rfl) ?_
    refine lenE (H.rs (α := List Int) 1 rfl).len ?_
    obtain ⟨a2, e, f12⟩ := bindS f10; clear f10
    refine boolO e ?_; clear e
    cases a2
    ·
     have f13 := condF f12; clear f12
     exact ⟨false, ⟨rfl, trivial⟩, Option.some.inj f13, H.sel [] rfl⟩
    ·
     have f14 := condT f12; clear f12
     refine fld gok rfl rfl rfl rfl ?_
     refine load1 (H.bx 0 rfl (j := 3) rfl) ?_
     refine lenE (H.rs (α := List Int) 2 rfl).len ?_
     obtain ⟨a3, e, f15⟩ := bindS f14; clear f14
     refine boolO e ?_; clear e
     cases a3
     ·
      have f16 := condF f15; clear f15
      exact ⟨false, ⟨rfl, trivial⟩, Option.some.inj f16, H.sel [] rfl⟩
     ·
      have f17 := condT f15; clear f15
      refine fld gok rfl rfl rfl rfl ?_
      refine load1 (H.bx 0 rfl (j := 2) rfl) ?_
      obtain ⟨a4, e, f18⟩ := bindS f17; clear f17
      refine arO e ?_; clear e
      obtain ⟨y3, e, f19⟩ := bindS f18; clear f18
      have ey78 := e; clear e
      refine callF (spec_l1All_c e__2 e__2h 0 a4 y3 ey78) (Γi := []) H ⟨Vw.sh 1 rfl, trivial⟩ ?_; clear H ey78
      rintro _ _ w6 ⟨rfl, rfl⟩ H
      cases y3
      ·
       have f20 := condF f19; clear f19
       exact ⟨false, ⟨rfl, trivial⟩, Option.some.inj f20, H.sel [] rfl⟩
      ·
       have f21 := condT f19; clear f19
       refine fld gok rfl rfl rfl rfl ?_
       refine load1 (H.bx 0 rfl (j := 3) rfl) ?_
       obtain ⟨a5, e, f22⟩ := bindS f21; clear f21
       refine arO e ?_; clear e
       obtain ⟨y4, e, f23⟩ := bindS f22; clear f22
       have ey85 := e; clear e
       refine callF (spec_l1All_c e__3 e__3h 0 a5 y4 ey85) (Γi := []) H ⟨Vw.sh 2 rfl, trivial⟩ ?_; clear H ey85
       rintro _ _ w7 ⟨rfl, rfl⟩ H
       exact ⟨y4, ⟨rfl, trivial⟩, Option.some.inj f23, H.sel [] rfl⟩
   ·
    clear f10 H
    rintro T1 s1 w8 ⟨hr, (H : Cx w0 fp0 S0 w8 [])⟩
    subst hr
    cases f11
    exact ⟨_, _, rfl, ⟨rfl, rfl⟩, (H.sel [] rfl).close trivial⟩
  ·
   have f24 := condT f1; clear f1
   cases f24
   exact ⟨_, _, rfl, ⟨rfl, rfl⟩, (H.sel [] rfl).close trivial⟩

theorem spec_hgValid_c (g__0 : Int) (g__1 : List (Int × Int × List Int × List Int)) (g__1h : Hd) (g__2 : List Int) (g__2h : Hd) (g__3 : List Int) (g__3h : Hd) (y : Bool) (hF : F_spec_hgValid (g__0, g__1, g__2, g__3) = some y) :
  ConF Tryz.prog 70 #[(.agg #[(.int .i64 g__0), (g__1h).v, (g__2h).v, (g__3h).v])] [Es (List (Int × Int × List Int × List Int)) g__1 g__1h, Es (List Int) g__2 g__2h, Es (List Int) g__3 g__3h] [] (fun v Γ' => v = (.bool y) ∧ Γ' = []) := by
 intro w0 S0 fp0 hI hS
 have H : Cx w0 fp0 S0 w0 [Es (List (Int × Int × List Int × List Int)) g__1 g__1h, Es (List Int) g__2 g__2h, Es (List Int) g__3 g__3h] := Cx.start hI hS
 clear hI hS
 refine enterC (args := [_]) gok Tryz.func70 rfl _ rfl rfl rfl ?_
 refine box_ H ?_; clear H; intro b5 w4 hx H
 clear hx
 refine sq ?_
 obtain ⟨r0, f0, f1⟩ := bindS hF; clear hF
 refine cut (fun (q0 : Bool) => [(1, (.pointer (some ⟨b5, 0, none⟩))), (47, (.bool q0))]) (fun (q0 : Bool) w' => q0 = r0 ∧ Cx w0 fp0 S0 w' [Bx b5 [(.int .i64 g__0), (g__1h).v, (g__2h).v, (g__3h).v], Es (List (Int × Int × List Int × List Int)) g__1 g__1h, Es (List Int) g__2 g__2h, Es (List Int) g__3 g__3h]) ?_ ?_
 ·
  refine fld gok rfl rfl rfl rfl ?_
  refine load1 (H.bx 0 rfl (j := 0) rfl) ?_
  obtain ⟨y0, e, f2⟩ := bindS f0; clear f0
  have ey48 := e; clear e
  refine callF (spec_l1In_c g__0 0 100 y0 ey48) (Γi := []) H trivial ?_; clear H ey48
  rintro _ _ w1 ⟨rfl, rfl⟩ H
  obtain ⟨a0, e, f3⟩ := bindS f2; clear f2
  refine boolO e ?_; clear e
  cases a0
  ·
   have f4 := condF f3; clear f3
   refine fld gok rfl rfl rfl rfl ?_
   refine load1 (H.bx 0 rfl (j := 1) rfl) ?_
   refine lenE (H.rs (α := List (Int × Int × List Int × List Int)) 1 rfl).len ?_
   obtain ⟨a1, e, f5⟩ := bindS f4; clear f4
   refine boolO e ?_; clear e
   cases a1
   ·
    have f6 := condF f5; clear f5
    refine fld gok rfl rfl rfl rfl ?_
    refine load1 (H.bx 0 rfl (j := 2) rfl) ?_
    refine lenE (H.rs (α := List Int) 2 rfl).len ?_
    obtain ⟨a2, e, f7⟩ := bindS f6; clear f6
    refine boolO e ?_; clear e
    cases a2
    ·
     have f8 := condF f7; clear f7
     refine fld gok rfl rfl rfl rfl ?_
     refine load1 (H.bx 0 rfl (j := 3) rfl) ?_
     refine lenE (H.rs (α := List Int) 3 rfl).len ?_
     obtain ⟨a3, e, f9⟩ := bindS f8; clear f8
     refine boolO e ?_; clear e
     cases a3
     ·
      have f10 := condF f9; clear f9
      refine fld gok rfl rfl rfl rfl ?_
      refine load1 (H.bx 0 rfl (j := 2) rfl) ?_
      refine fld gok rfl rfl rfl rfl ?_
      refine load1 (H.bx 0 rfl (j := 0) rfl) ?_
      obtain ⟨a4, e, f11⟩ := bindS f10; clear f10
      refine arO e ?_; clear e
      obtain ⟨y1, e, f12⟩ := bindS f11; clear f11
      have ey65 := e; clear e
      refine callF (spec_l1All_c g__2 g__2h 0 a4 y1 ey65) (Γi := []) H ⟨Vw.sh 2 rfl, trivial⟩ ?_; clear H ey65
      rintro _ _ w2 ⟨rfl, rfl⟩ H
      obtain ⟨a5, e, f13⟩ := bindS f12; clear f12
      refine boolO e ?_; clear e
      cases a5
      ·
       have f14 := condF f13; clear f13
       refine fld gok rfl rfl rfl rfl ?_
       refine load1 (H.bx 0 rfl (j := 3) rfl) ?_
       refine fld gok rfl rfl rfl rfl ?_
       refine load1 (H.bx 0 rfl (j := 0) rfl) ?_
       obtain ⟨a6, e, f15⟩ := bindS f14; clear f14
       refine arO e ?_; clear e
       obtain ⟨y2, e, f16⟩ := bindS f15; clear f15
       have ey73 := e; clear e
       refine callF (spec_l1All_c g__3 g__3h 0 a6 y2 ey73) (Γi := []) H ⟨Vw.sh 3 rfl, trivial⟩ ?_; clear H ey73
       rintro _ _ w3 ⟨rfl, rfl⟩ H
       obtain ⟨a7, e, f17⟩ := bindS f16; clear f16
       refine boolO e ?_; clear e
       exact ⟨a7, ⟨rfl, rfl, trivial⟩, Option.some.inj f17, H.sel [0, 1, 2, 3] rfl⟩
      ·
       have f18 := condT f13; clear f13
       exact ⟨true, ⟨rfl, rfl, trivial⟩, Option.some.inj f18, H.sel [0, 1, 2, 3] rfl⟩
     ·
      have f19 := condT f9; clear f9
      exact ⟨true, ⟨rfl, rfl, trivial⟩, Option.some.inj f19, H.sel [0, 1, 2, 3] rfl⟩
    ·
     have f20 := condT f7; clear f7
     exact ⟨true, ⟨rfl, rfl, trivial⟩, Option.some.inj f20, H.sel [0, 1, 2, 3] rfl⟩
   ·
    have f21 := condT f5; clear f5
    exact ⟨true, ⟨rfl, rfl, trivial⟩, Option.some.inj f21, H.sel [0, 1, 2, 3] rfl⟩
  ·
   have f22 := condT f3; clear f3
   exact ⟨true, ⟨rfl, rfl, trivial⟩, Option.some.inj f22, H.sel [0, 1, 2, 3] rfl⟩
 ·
  clear f0 H
  rintro T0 s0 w5 ⟨hr, (H : Cx w0 fp0 S0 w5 [Bx b5 [(.int .i64 g__0), (g__1h).v, (g__2h).v, (g__3h).v], Es (List (Int × Int × List Int × List Int)) g__1 g__1h, Es (List Int) g__2 g__2h, Es (List Int) g__3 g__3h])⟩
  subst hr
  cases s0
  ·
   have f23 := condF f1; clear f1
   refine sq ?_
   refine fld gok rfl rfl rfl rfl ?_
   refine load1 (H.bx 0 rfl (j := 1) rfl) ?_
   refine lenE (H.rs (α := List (Int × Int × List Int × List Int)) 1 rfl).len ?_
   have x0 := (H.rs (α := List (Int × Int × List Int × List Int)) 1 rfl).max
   obtain ⟨r1, e, f24⟩ := bindS f23; clear f23
   refine loopO _ g__1.length (fun (k0 : Nat) (_ : Unit) (_ : Unit) => [(1, (.pointer (some ⟨b5, 0, none⟩))), (49, (g__1h).v), (50, (.int .i64 ((g__1.length : Nat) : Int))), (51, (.int .i64 ((k0 : Nat) : Int)))]) (fun _ (_ : Unit) (_ : Unit) w' => Cx w0 fp0 S0 w' [Bx b5 [(.int .i64 g__0), (g__1h).v, (g__2h).v, (g__3h).v], Es (List (Int × Int × List Int × List Int)) g__1 g__1h, Es (List Int) g__2 g__2h, Es (List Int) g__3 g__3h]) () () e ⟨rfl, rfl, rfl, rfl, trivial⟩ (H.sel [0, 1, 2, 3] rfl) ?_ ?_
   ·
    clear H e
    rintro T1 k0 _ _ w6 o0 hk (H : Cx w0 fp0 S0 w6 [Bx b5 [(.int .i64 g__0), (g__1h).v, (g__2h).v, (g__3h).v], Es (List (Int × Int × List Int × List Int)) g__1 g__1h, Es (List Int) g__2 g__2h, Es (List Int) g__3 g__3h]) hrt f25
    refine boolE (z := true) (ltLen hk) ?_
    refine sq ?_
    refine sq ?_
    obtain ⟨a8, e, f26⟩ := bindS f25; clear f25
    have HH := H; clear H; obtain ⟨p0, m0, g0, c0, c1, c2, c3, H⟩ := HH.el (α := Int × Int × List Int × List Int) 1 rfl e; clear HH
    clear e
    obtain ⟨a8_0, a8_1, a8_2, a8_3⟩ := a8
    obtain ⟨_, _, h0, h1⟩ := g0
    replace H := H.part (β := List Int) a8_2 (h0 : Hd) 0 rfl (fun S h => (And.left (And.right (And.right h))))
    replace H := H.part (β := List Int) a8_3 (h1 : Hd) 1 rfl (fun S h => (And.right (And.right (And.right h))))
    replace H := H.sel [0, 1, 3, 4, 5, 6] rfl
    refine idxE c0 c1 c2 ?_; clear c0 c1 c2
    refine loadN [(.int .i64 a8_0), (.int .i64 a8_1), (h0).v, (h1).v] rfl c3 ?_; clear c3
    refine alloc_ gok rfl H ?_; clear H; intro b0 w7 hx H
    clear hx
    refine stA gok [(.int .i64 a8_0), (.int .i64 a8_1), (h0).v, (h1).v] rfl H rfl rfl rfl ?_; clear H; intro w8 H
    refine loadN [(.int .i64 a8_0), (.int .i64 a8_1), (h0).v, (h1).v] rfl (fun j u hj => H.bx 0 rfl hj) ?_
    refine fld gok rfl rfl rfl rfl ?_
    refine load1 (H.bx 3 rfl (j := 0) rfl) ?_
    obtain ⟨y3, e, f27⟩ := bindS f26; clear f26
    have ey141 := e; clear e
    refine callF (spec_hgEdge_c a8_0 a8_1 a8_2 h0 a8_3 h1 g__0 y3 ey141) (Γi := []) H ⟨Vw.sh 2 rfl, Vw.sh 1 rfl, trivial⟩ ?_; clear H ey141
    rintro _ _ w9 ⟨rfl, rfl⟩ H
    obtain ⟨a9, e, f28⟩ := bindS f27; clear f27
    refine boolO e ?_; clear e
    cases a9
    ·
     have f29 := condF f28; clear f28
     refine arK hk x0 ?_
     have hs := Option.some.inj f29; subst hs; clear f29
     exact ⟨(), (), rfl, ⟨rfl, rfl, rfl, rfl, trivial⟩, H.sel [3, 4, 5, 6] rfl⟩
    ·
     have f30 := condT f28; clear f28
     have hs := Option.some.inj f30; subst hs; clear f30
     have hr := hrt _ rfl; subst hr
     have f31 : some _ = some _ := f24
     cases f31
     exact ⟨_, _, rfl, ⟨rfl, rfl⟩, (H.sel [] rfl).close trivial⟩
   ·
    clear H e
    rintro T2 _ _ w10 hr (H : Cx w0 fp0 S0 w10 [Bx b5 [(.int .i64 g__0), (g__1h).v, (g__2h).v, (g__3h).v], Es (List (Int × Int × List Int × List Int)) g__1 g__1h, Es (List Int) g__2 g__2h, Es (List Int) g__3 g__3h])
    subst hr
    refine boolE (z := false) geLen ?_
    refine sq ?_
    refine loadN [(.int .i64 g__0), (g__1h).v, (g__2h).v, (g__3h).v] rfl (fun j u hj => H.bx 0 rfl hj) ?_
    obtain ⟨y4, e, f32⟩ := bindS f24; clear f24
    obtain ⟨y4_0, y4_1⟩ := y4
    have ey153 := e; clear e
    refine callF (spec_hgCounts_c g__0 g__1 g__1h g__2 g__2h g__3 g__3h y4_0 y4_1 ey153) (Γi := []) H ⟨Vw.sh 1 rfl, Vw.sh 2 rfl, Vw.sh 3 rfl, trivial⟩ ?_; clear H ey153
    rintro _ _ w11 ⟨h2, h3, rfl, rfl⟩ H
    refine sq ?_
    refine lenE (H.ro (α := List Int) 0 rfl).len ?_
    have x1 := (H.ro (α := List Int) 0 rfl).max
    obtain ⟨r2, e, f33⟩ := bindS f32; clear f32
    refine loopO _ y4_0.length (fun (k1 : Nat) (_ : Unit) (_ : Unit) => [(5, (h2).v), (6, (h3).v), (67, (.int .i64 ((y4_0.length : Nat) : Int))), (68, (.int .i64 ((k1 : Nat) : Int)))]) (fun _ (_ : Unit) (_ : Unit) w' => Cx w0 fp0 S0 w' [E (List Int) y4_0 h2, E (List Int) y4_1 h3]) () () e ⟨rfl, rfl, rfl, rfl, trivial⟩ (H.sel [0, 1] rfl) ?_ ?_
    ·
     clear H e
     rintro T3 k1 _ _ w12 o1 hk (H : Cx w0 fp0 S0 w12 [E (List Int) y4_0 h2, E (List Int) y4_1 h3]) hrt f34
     refine boolE (z := true) (ltLen hk) ?_
     refine sq ?_
     refine sq ?_
     refine heldX H [] (.fst 0 (.fst 1 (.fst 2 (.fst 4 (.fst 5 (.fst 6 (.fst 3 (.fst 7 (.fst 8 (.fst 9 .done)))))))))) mixed [] trivial (by kernel_rfl) ?_
     clear H; intro w13 H
     have hX : Ext w13 w13 := Upd.refl _ _
     have H0 := H
     obtain ⟨a10, e, f35⟩ := bindS f34; clear f34
     obtain ⟨p1, m1, c4, c5, c6, c7⟩ := (H.ro (α := List Int) 0 rfl).at1 e; clear e
     refine idxE c4 c5 c6 ?_; clear c4 c5 c6
     obtain ⟨a11, e, f36⟩ := bindS f35; clear f35
     obtain ⟨p2, m2, c8, c9, c10, c11⟩ := (H.ro (α := List Int) 1 rfl).at1 e; clear e
     refine idxE c8 c9 c10 ?_; clear c8 c9 c10
     refine load1X c7 ?_; clear c7
     refine load1X c11 ?_; clear c11
     obtain ⟨a12, e, f37⟩ := bindS f36; clear f36
     refine arO e ?_; clear e
     obtain ⟨a13, e, f38⟩ := bindS f37; clear f37
     refine boolO e ?_; clear e
     cases a13
     ·
      have f39 := condF f38; clear f38
      refine arK hk x1 ?_
      have hs := Option.some.inj f39; subst hs; clear f39
      exact ⟨(), (), rfl, ⟨rfl, rfl, rfl, rfl, trivial⟩, H.sel [0, 1] rfl⟩
     ·
      have f40 := condT f38; clear f38
      have hs := Option.some.inj f40; subst hs; clear f40
      have hr := hrt _ rfl; subst hr
      have f41 : some _ = some _ := f33
      cases f41
      exact ⟨_, _, rfl, ⟨rfl, rfl⟩, (H.sel [] rfl).close trivial⟩
    ·
     clear H e
     rintro T4 _ _ w14 hr (H : Cx w0 fp0 S0 w14 [E (List Int) y4_0 h2, E (List Int) y4_1 h3])
     subst hr
     refine boolE (z := false) geLen ?_
     refine sq ?_
     cases f33
     exact ⟨_, _, rfl, ⟨rfl, rfl⟩, (H.sel [] rfl).close trivial⟩
  ·
   have f42 := condT f1; clear f1
   cases f42
   exact ⟨_, _, rfl, ⟨rfl, rfl⟩, (H.sel [] rfl).close trivial⟩

theorem spec_hgIf_c (g__0 : Int) (g__1 : List (Int × Int × List Int × List Int)) (g__1h : Hd) (g__2 : List Int) (g__2h : Hd) (g__3 : List Int) (g__3h : Hd) (y0_0 : Int) (y0_1 : List (Int × Int × List Int × List Int)) (y0_2 : List Int) (y0_3 : List Int) (y1 : Bool) (hF : F_spec_hgIf (g__0, g__1, g__2, g__3) = some ((y0_0, y0_1, y0_2, y0_3), y1)) :
  ConS Tryz.prog 51 #[(.agg #[(.int .i64 g__0), (g__1h).v, (g__2h).v, (g__3h).v])] [Es (List (Int × Int × List Int × List Int)) g__1 g__1h, Es (List Int) g__2 g__2h, Es (List Int) g__3 g__3h] [] (fun v Γ' => ∃ z0 z1 z2 : Hd, v = (.tuple #[(.agg #[(.int .i64 y0_0), (z0).v, (z1).v, (z2).v]), (.bool y1)]) ∧ Γ' = [Es (List (Int × Int × List Int × List Int)) y0_1 z0, Es (List Int) y0_2 z1, Es (List Int) y0_3 z2]) := by
 intro w0 S0 fp0 hI hS
 have H : Cx w0 fp0 S0 w0 [Es (List (Int × Int × List Int × List Int)) g__1 g__1h, Es (List Int) g__2 g__2h, Es (List Int) g__3 g__3h] := Cx.start hI hS
 clear hI hS
 refine enterC (args := [_]) gok Tryz.func51 rfl _ rfl rfl rfl ?_
 refine box_ H ?_; clear H; intro b5 w4 hx H
 clear hx
 refine alloc_ gok rfl H ?_; clear H; intro b8 w7 hx H
 clear hx
 refine sq ?_
 refine loadN [(.int .i64 g__0), (g__1h).v, (g__2h).v, (g__3h).v] rfl (fun j u hj => H.bx 1 rfl hj) ?_
 obtain ⟨y0, e, f0⟩ := bindS hF; clear hF
 have ey10 := e; clear e
 refine callF (spec_hgValid_c g__0 g__1 g__1h g__2 g__2h g__3 g__3h y0 ey10) (Γi := []) H ⟨Vw.sh 2 rfl, Vw.sh 3 rfl, Vw.sh 4 rfl, trivial⟩ ?_; clear H ey10
 rintro _ _ w1 ⟨rfl, rfl⟩ H
 obtain ⟨a0, e, f1⟩ := bindS f0; clear f0
 refine boolO e ?_; clear e
 cases a0
 ·
  have f2 := condF f1; clear f1
  refine loadN [(.int .i64 g__0), (g__1h).v, (g__2h).v, (g__3h).v] rfl (fun j u hj => H.bx 1 rfl hj) ?_
  refine stA gok [(.int .i64 g__0), (g__1h).v, (g__2h).v, (g__3h).v] rfl H rfl rfl rfl ?_; clear H; intro w2 H
  refine loadN [(.int .i64 g__0), (g__1h).v, (g__2h).v, (g__3h).v] rfl (fun j u hj => H.bx 0 rfl hj) ?_
  cases f2
  exact ⟨_, _, rfl, ⟨g__1h, g__2h, g__3h, rfl, rfl⟩, (H.sel [2, 3, 4] rfl)⟩
 ·
  have f3 := condT f1; clear f1
  refine build_ (cs := #[(.int .i64 0), (.slice none 0 0), (.slice none 0 0), (.slice none 0 0)]) gok rfl rfl rfl ?_
  refine stA gok [(.int .i64 0), (.slice none 0 0), (.slice none 0 0), (.slice none 0 0)] rfl H rfl rfl rfl ?_; clear H; intro w3 H
  refine loadN [(.int .i64 0), (.slice none 0 0), (.slice none 0 0), (.slice none 0 0)] rfl (fun j u hj => H.bx 0 rfl hj) ?_
  replace H := H.nil (α := Int × Int × List Int × List Int)
  replace H := H.frz
  replace H := H.nil (α := Int)
  replace H := H.frz
  replace H := H.nil (α := Int)
  replace H := H.frz
  cases f3
  exact ⟨_, _, rfl, ⟨nilH, nilH, nilH, rfl, rfl⟩, (H.sel [2, 1, 0] rfl)⟩

theorem spec_hgPar_c (a__0 : Int) (a__1 : List (Int × Int × List Int × List Int)) (a__1h : Hd) (a__2 : List Int) (a__2h : Hd) (a__3 : List Int) (a__3h : Hd) (b__0 : Int) (b__1 : List (Int × Int × List Int × List Int)) (b__1h : Hd) (b__2 : List Int) (b__2h : Hd) (b__3 : List Int) (b__3h : Hd) (y_0 : Int) (y_1 : List (Int × Int × List Int × List Int)) (y_2 : List Int) (y_3 : List Int) (hF : F_spec_hgPar (a__0, a__1, a__2, a__3) (b__0, b__1, b__2, b__3) = some (y_0, y_1, y_2, y_3)) :
  ConF Tryz.prog 53 #[(.agg #[(.int .i64 a__0), (a__1h).v, (a__2h).v, (a__3h).v]), (.agg #[(.int .i64 b__0), (b__1h).v, (b__2h).v, (b__3h).v])] [Es (List (Int × Int × List Int × List Int)) a__1 a__1h, Es (List Int) a__2 a__2h, Es (List Int) a__3 a__3h, Es (List (Int × Int × List Int × List Int)) b__1 b__1h, Es (List Int) b__2 b__2h, Es (List Int) b__3 b__3h] [] (fun v Γ' => ∃ z0 z1 z2 : Hd, v = (.agg #[(.int .i64 y_0), (z0).v, (z1).v, (z2).v]) ∧ Γ' = [E (List (Int × Int × List Int × List Int)) y_1 z0, E (List Int) y_2 z1, E (List Int) y_3 z2]) := by
 intro w0 S0 fp0 hI hS
 have H : Cx w0 fp0 S0 w0 [Es (List (Int × Int × List Int × List Int)) a__1 a__1h, Es (List Int) a__2 a__2h, Es (List Int) a__3 a__3h, Es (List (Int × Int × List Int × List Int)) b__1 b__1h, Es (List Int) b__2 b__2h, Es (List Int) b__3 b__3h] := Cx.start hI hS
 clear hI hS
 refine enterC (args := [_, _]) gok Tryz.func53 rfl _ rfl rfl rfl ?_
 refine box_ H ?_; clear H; intro b8 w7 hx H
 clear hx
 refine box_ H ?_; clear H; intro b0 w1 hx H
 clear hx
 refine alloc_ gok rfl H ?_; clear H; intro b1 w2 hx H
 clear hx
 refine loadN [(.int .i64 a__0), (a__1h).v, (a__2h).v, (a__3h).v] rfl (fun j u hj => H.bx 2 rfl hj) ?_
 refine loadN [(.int .i64 b__0), (b__1h).v, (b__2h).v, (b__3h).v] rfl (fun j u hj => H.bx 1 rfl hj) ?_
 obtain ⟨y0, e, f0⟩ := bindS hF; clear hF
 obtain ⟨y0_0, y0_1, y0_2, y0_3⟩ := y0
 have ey16 := e; clear e
 refine callF (spec_hgBeside_c a__0 a__1 a__1h a__2 a__2h a__3 a__3h b__0 b__1 b__1h b__2 b__2h b__3 b__3h y0_0 y0_1 y0_2 y0_3 ey16) (Γi := []) H ⟨Vw.sh 3 rfl, Vw.sh 4 rfl, Vw.sh 5 rfl, Vw.sh 6 rfl, Vw.sh 7 rfl, Vw.sh 8 rfl, trivial⟩ ?_; clear H ey16
 rintro _ _ w3 ⟨h0, h1, h2, rfl, rfl⟩ H
 replace H := H.sel [3, 0, 1, 2, 4, 5, 6, 7, 8, 9, 10, 11] rfl
 refine stA gok [(.int .i64 y0_0), (h0).v, (h1).v, (h2).v] rfl H rfl rfl rfl ?_; clear H; intro w4 H
 refine loadN [(.int .i64 y0_0), (h0).v, (h1).v, (h2).v] rfl (fun j u hj => H.bx 0 rfl hj) ?_
 cases f0
 exact ⟨_, _, rfl, ⟨h0, h1, h2, rfl, rfl⟩, (H.sel [1, 2, 3] rfl).close ⟨cloE, cloE, cloE, trivial⟩⟩

theorem spec_hgMade_cn : ∀ (fuel : Nat) (t__0 : List (Int × Int × ByteArray)) (t__0h : Hd) (y0_0 : Int) (y0_1 : List (Int × Int × List Int × List Int)) (y0_2 : List Int) (y0_3 : List Int) (y1 : Bool) (hF : F_spec_hgMade_n fuel t__0 = some ((y0_0, y0_1, y0_2, y0_3), y1)),
  ConS Tryz.prog 33 #[(.agg #[(t__0h).v])] [Es (List (Int × Int × ByteArray)) t__0 t__0h] [] (fun v Γ' => ∃ z0 z1 z2 : Hd, v = (.tuple #[(.agg #[(.int .i64 y0_0), (z0).v, (z1).v, (z2).v]), (.bool y1)]) ∧ Γ' = [Es (List (Int × Int × List Int × List Int)) y0_1 z0, Es (List Int) y0_2 z1, Es (List Int) y0_3 z2]) := by
 intro fuel
 induction fuel with
 | zero => intro t__0 t__0h y0_0 y0_1 y0_2 y0_3 y1 hF; cases hF
 | succ fuel ih =>
 intro t__0 t__0h y0_0 y0_1 y0_2 y0_3 y1 hF
 intro w0 S0 fp0 hI hS
 have H : Cx w0 fp0 S0 w0 [Es (List (Int × Int × ByteArray)) t__0 t__0h] := Cx.start hI hS
 clear hI hS
 refine enterC (args := [_]) gok Tryz.func33 rfl _ rfl rfl rfl ?_
 refine box_ H ?_; clear H; intro b3 w2 hx H
 clear hx
 refine alloc_ gok rfl H ?_; clear H; intro b6 w5 hx H
 clear hx
 refine loadN [(t__0h).v] rfl (fun j u hj => H.bx 1 rfl hj) ?_
 obtain ⟨y8, e, hF9⟩ := bindS hF; clear hF
 have ey8 := e; clear e
 refine callF (spec_tmTop_c t__0 t__0h y8 ey8) (Γi := []) H ⟨Vw.sh 2 rfl, trivial⟩ ?_; clear H ey8
 rintro _ _ w1 ⟨rfl, rfl⟩ H
 refine sq ?_
 obtain ⟨a0, e, f0⟩ := bindS hF9; clear hF9
 refine boolO e ?_; clear e
 cases a0
 ·
  have f1 := condF f0; clear f0
  refine loadN [(t__0h).v] rfl (fun j u hj => H.bx 1 rfl hj) ?_
  obtain ⟨y0, e, f2⟩ := bindS f1; clear f1
  obtain ⟨y0_0_0, y0_1_0⟩ := y0
  have ey14 := e; clear e
  refine callS (spec_tmParts_c t__0 t__0h y0_0_0 y0_1_0 ey14) (Γi := []) H [2] rfl (persC persS persN) ?_; clear H ey14
  rintro _ _ w3 ⟨h0, h1, rfl, rfl⟩ H
  refine alloc_ gok rfl H ?_; clear H; intro b0 w4 hx H
  clear hx
  refine alloc_ gok rfl H ?_; clear H; intro b1 w6 hx H
  clear hx
  replace H := H.sel [1, 0, 2, 3, 4, 5, 6] rfl
  refine stA gok [(h0).v] rfl H rfl rfl rfl ?_; clear H; intro w7 H
  replace H := H.sel [1, 0, 2, 3, 4, 5, 6] rfl
  refine stA gok [(h1).v] rfl H rfl rfl rfl ?_; clear H; intro w8 H
  refine loadN [(h0).v] rfl (fun j u hj => H.bx 1 rfl hj) ?_
  obtain ⟨y2, e, f3⟩ := bindS f2; clear f2
  obtain ⟨⟨y2_0_0, y2_0_1, y2_0_2, y2_0_3⟩, y2_1⟩ := y2
  have ey29 := e; clear e
  refine callS (ih y0_0_0 h0 y2_0_0 y2_0_1 y2_0_2 y2_0_3 y2_1 ey29) (Γi := []) H [2] rfl (persC persS persN) ?_; clear H ey29
  rintro _ _ w9 ⟨h2, h3, h4, rfl, rfl⟩ H
  refine alloc_ gok rfl H ?_; clear H; intro b2 w11 hx H
  clear hx
  refine stA gok [(.int .i64 y2_0_0), (h2).v, (h3).v, (h4).v] rfl H rfl rfl rfl ?_; clear H; intro w12 H
  refine loadN [(h1).v] rfl (fun j u hj => H.bx 4 rfl hj) ?_
  obtain ⟨y3, e, f4⟩ := bindS f3; clear f3
  obtain ⟨⟨y3_0_0, y3_0_1, y3_0_2, y3_0_3⟩, y3_1⟩ := y3
  have ey42 := e; clear e
  refine callS (ih y0_1_0 h1 y3_0_0 y3_0_1 y3_0_2 y3_0_3 y3_1 ey42) (Γi := []) H [7] rfl (persC persS persN) ?_; clear H ey42
  rintro _ _ w13 ⟨h5, h6, h7, rfl, rfl⟩ H
  refine alloc_ gok rfl H ?_; clear H; intro b4 w14 hx H
  clear hx
  refine stA gok [(.int .i64 y3_0_0), (h5).v, (h6).v, (h7).v] rfl H rfl rfl rfl ?_; clear H; intro w15 H
  refine sq ?_
  obtain ⟨r0, f5, f6⟩ := bindS f4; clear f4
  refine cut (fun (q0 : Bool) => [(2, (.pointer (some ⟨b6, 0, none⟩))), (4, (.int .i64 y8)), (7, (.pointer (some ⟨b2, 0, none⟩))), (9, (.pointer (some ⟨b4, 0, none⟩))), (40, (.bool q0))]) (fun (q0 : Bool) w' => q0 = r0 ∧ Cx w0 fp0 S0 w' [Bx b6 [(.int .i64 0), (.slice none 0 0), (.slice none 0 0), (.slice none 0 0)], Bx b2 [(.int .i64 y2_0_0), (h2).v, (h3).v, (h4).v], Es (List (Int × Int × List Int × List Int)) y2_0_1 h2, Es (List Int) y2_0_2 h3, Es (List Int) y2_0_3 h4, Bx b4 [(.int .i64 y3_0_0), (h5).v, (h6).v, (h7).v], Es (List (Int × Int × List Int × List Int)) y3_0_1 h5, Es (List Int) y3_0_2 h6, Es (List Int) y3_0_3 h7]) ?_ ?_
  ·
   obtain ⟨a1, e, f7⟩ := bindS f5; clear f5
   refine boolO e ?_; clear e
   cases a1
   ·
    have f8 := condF f7; clear f7
    obtain ⟨a2, e, f9⟩ := bindS f8; clear f8
    refine boolO e ?_; clear e
    exact ⟨a2, ⟨rfl, rfl, rfl, rfl, rfl, trivial⟩, Option.some.inj f9, H.sel [12, 4, 5, 6, 7, 0, 1, 2, 3] rfl⟩
   ·
    have f10 := condT f7; clear f7
    exact ⟨true, ⟨rfl, rfl, rfl, rfl, rfl, trivial⟩, Option.some.inj f10, H.sel [12, 4, 5, 6, 7, 0, 1, 2, 3] rfl⟩
  ·
   clear f5 H
   rintro T0 s0 w17 ⟨hr, (H : Cx w0 fp0 S0 w17 [Bx b6 [(.int .i64 0), (.slice none 0 0), (.slice none 0 0), (.slice none 0 0)], Bx b2 [(.int .i64 y2_0_0), (h2).v, (h3).v, (h4).v], Es (List (Int × Int × List Int × List Int)) y2_0_1 h2, Es (List Int) y2_0_2 h3, Es (List Int) y2_0_3 h4, Bx b4 [(.int .i64 y3_0_0), (h5).v, (h6).v, (h7).v], Es (List (Int × Int × List Int × List Int)) y3_0_1 h5, Es (List Int) y3_0_2 h6, Es (List Int) y3_0_3 h7])⟩
   subst hr
   cases s0
   ·
    have f11 := condF f6; clear f6
    refine sq ?_
    obtain ⟨a3, e, f12⟩ := bindS f11; clear f11
    refine boolO e ?_; clear e
    cases a3
    ·
     have f13 := condF f12; clear f12
     refine loadN [(.int .i64 y2_0_0), (h2).v, (h3).v, (h4).v] rfl (fun j u hj => H.bx 1 rfl hj) ?_
     refine loadN [(.int .i64 y3_0_0), (h5).v, (h6).v, (h7).v] rfl (fun j u hj => H.bx 5 rfl hj) ?_
     obtain ⟨y4, e, f14⟩ := bindS f13; clear f13
     obtain ⟨y4_0, y4_1, y4_2, y4_3⟩ := y4
     have ey79 := e; clear e
     refine callF (spec_hgPar_c y2_0_0 y2_0_1 h2 y2_0_2 h3 y2_0_3 h4 y3_0_0 y3_0_1 h5 y3_0_2 h6 y3_0_3 h7 y4_0 y4_1 y4_2 y4_3 ey79) (Γi := []) H ⟨Vw.sh 2 rfl, Vw.sh 3 rfl, Vw.sh 4 rfl, Vw.sh 6 rfl, Vw.sh 7 rfl, Vw.sh 8 rfl, trivial⟩ ?_; clear H ey79
     rintro _ _ w18 ⟨h8, h9, h10, rfl, rfl⟩ H
     obtain ⟨y5, e, f15⟩ := bindS f14; clear f14
     obtain ⟨⟨y5_0_0, y5_0_1, y5_0_2, y5_0_3⟩, y5_1⟩ := y5
     have ey88 := e; clear e
     replace H := H.frz
     replace H := H.sel [1, 0, 2, 3, 4, 5, 6, 7, 8, 9, 10, 11] rfl
     replace H := H.frz
     replace H := H.sel [2, 0, 1, 3, 4, 5, 6, 7, 8, 9, 10, 11] rfl
     replace H := H.frz
     refine callS (spec_hgIf_c y4_0 y4_1 h8 y4_2 h9 y4_3 h10 y5_0_0 y5_0_1 y5_0_2 y5_0_3 y5_1 ey88) (Γi := []) H [2, 1, 0] rfl (persC persS (persC persS (persC persS persN))) ?_; clear H ey88
     rintro _ _ w19 ⟨h11, h12, h13, rfl, rfl⟩ H
     replace H := H.sel [6, 0, 1, 2, 3, 4, 5, 7, 8, 9, 10, 11, 12, 13, 14] rfl
     refine stA gok [(.int .i64 y5_0_0), (h11).v, (h12).v, (h13).v] rfl H rfl rfl rfl ?_; clear H; intro w20 H
     refine loadN [(.int .i64 y5_0_0), (h11).v, (h12).v, (h13).v] rfl (fun j u hj => H.bx 0 rfl hj) ?_
     cases f15
     exact ⟨_, _, rfl, ⟨h11, h12, h13, rfl, rfl⟩, (H.sel [1, 2, 3] rfl)⟩
    ·
     have f16 := condT f12; clear f12
     refine loadN [(.int .i64 y2_0_0), (h2).v, (h3).v, (h4).v] rfl (fun j u hj => H.bx 1 rfl hj) ?_
     refine loadN [(.int .i64 y3_0_0), (h5).v, (h6).v, (h7).v] rfl (fun j u hj => H.bx 5 rfl hj) ?_
     obtain ⟨y6, e, f17⟩ := bindS f16; clear f16
     obtain ⟨y6_0, y6_1, y6_2, y6_3⟩ := y6
     have ey99 := e; clear e
     refine callF (spec_hgSeq_c y2_0_0 y2_0_1 h2 y2_0_2 h3 y2_0_3 h4 y3_0_0 y3_0_1 h5 y3_0_2 h6 y3_0_3 h7 y6_0 y6_1 y6_2 y6_3 ey99) (Γi := []) H ⟨Vw.sh 2 rfl, Vw.sh 3 rfl, Vw.sh 4 rfl, Vw.sh 6 rfl, Vw.sh 7 rfl, Vw.sh 8 rfl, trivial⟩ ?_; clear H ey99
     rintro _ _ w22 ⟨h14, h15, h16, rfl, rfl⟩ H
     obtain ⟨y7, e, f18⟩ := bindS f17; clear f17
     obtain ⟨⟨y7_0_0, y7_0_1, y7_0_2, y7_0_3⟩, y7_1⟩ := y7
     have ey108 := e; clear e
     replace H := H.frz
     replace H := H.sel [1, 0, 2, 3, 4, 5, 6, 7, 8, 9, 10, 11] rfl
     replace H := H.frz
     replace H := H.sel [2, 0, 1, 3, 4, 5, 6, 7, 8, 9, 10, 11] rfl
     replace H := H.frz
     refine callS (spec_hgIf_c y6_0 y6_1 h14 y6_2 h15 y6_3 h16 y7_0_0 y7_0_1 y7_0_2 y7_0_3 y7_1 ey108) (Γi := []) H [2, 1, 0] rfl (persC persS (persC persS (persC persS persN))) ?_; clear H ey108
     rintro _ _ w23 ⟨h18, h20, h21, rfl, rfl⟩ H
     replace H := H.sel [6, 0, 1, 2, 3, 4, 5, 7, 8, 9, 10, 11, 12, 13, 14] rfl
     refine stA gok [(.int .i64 y7_0_0), (h18).v, (h20).v, (h21).v] rfl H rfl rfl rfl ?_; clear H; intro w25 H
     refine loadN [(.int .i64 y7_0_0), (h18).v, (h20).v, (h21).v] rfl (fun j u hj => H.bx 0 rfl hj) ?_
     cases f18
     exact ⟨_, _, rfl, ⟨h18, h20, h21, rfl, rfl⟩, (H.sel [1, 2, 3] rfl)⟩
   ·
    have f19 := condT f6; clear f6
    refine build_ (cs := #[(.int .i64 0), (.slice none 0 0), (.slice none 0 0), (.slice none 0 0)]) gok rfl rfl rfl ?_
    refine stA gok [(.int .i64 0), (.slice none 0 0), (.slice none 0 0), (.slice none 0 0)] rfl H rfl rfl rfl ?_; clear H; intro w26 H
    refine loadN [(.int .i64 0), (.slice none 0 0), (.slice none 0 0), (.slice none 0 0)] rfl (fun j u hj => H.bx 0 rfl hj) ?_
    replace H := H.nil (α := Int × Int × List Int × List Int)
    replace H := H.frz
    replace H := H.nil (α := Int)
    replace H := H.frz
    replace H := H.nil (α := Int)
    replace H := H.frz
    cases f19
    exact ⟨_, _, rfl, ⟨nilH, nilH, nilH, rfl, rfl⟩, (H.sel [2, 1, 0] rfl)⟩
 ·
  have f20 := condT f0; clear f0
  refine fld gok rfl rfl rfl rfl ?_
  refine load1 (H.bx 1 rfl (j := 0) rfl) ?_
  obtain ⟨a4, e, f21⟩ := bindS f20; clear f20
  have HH := H; clear H; obtain ⟨p0, m0, g0, c0, c1, c2, c3, H⟩ := HH.el (α := Int × Int × ByteArray) 2 rfl e; clear HH
  clear e
  obtain ⟨a4_0, a4_1, a4_2⟩ := a4
  obtain ⟨_, _, _⟩ := g0
  replace H := H.sel [1, 2, 3] rfl
  refine idxE c0 c1 c2 ?_; clear c0 c1 c2
  refine loadN [(.int .i64 a4_0), (.int .i64 a4_1), (.string a4_2)] rfl c3 ?_; clear c3
  obtain ⟨y9, e, f22⟩ := bindS f21; clear f21
  obtain ⟨y9_0, y9_1, y9_2, y9_3⟩ := y9
  have ey134 := e; clear e
  refine callF (spec_hgLeaf_c a4_0 a4_1 a4_2 y9_0 y9_1 y9_2 y9_3 ey134) (Γi := []) H trivial ?_; clear H ey134
  rintro _ _ w29 ⟨h22, h23, h24, rfl, rfl⟩ H
  replace H := H.sel [3, 0, 1, 2, 4, 5] rfl
  refine stA gok [(.int .i64 y9_0), (h22).v, (h23).v, (h24).v] rfl H rfl rfl rfl ?_; clear H; intro w30 H
  refine loadN [(.int .i64 y9_0), (h22).v, (h23).v, (h24).v] rfl (fun j u hj => H.bx 0 rfl hj) ?_
  replace H := H.sel [1, 0, 2, 3, 4, 5] rfl
  replace H := H.frz
  replace H := H.sel [2, 0, 1, 3, 4, 5] rfl
  replace H := H.frz
  replace H := H.sel [3, 0, 1, 2, 4, 5] rfl
  replace H := H.frz
  cases f22
  exact ⟨_, _, rfl, ⟨h22, h23, h24, rfl, rfl⟩, (H.sel [2, 1, 0] rfl)⟩
theorem spec_hgMade_c (t__0 : List (Int × Int × ByteArray)) (t__0h : Hd) (y0_0 : Int) (y0_1 : List (Int × Int × List Int × List Int)) (y0_2 : List Int) (y0_3 : List Int) (y1 : Bool) (hF : F_spec_hgMade t__0 = some ((y0_0, y0_1, y0_2, y0_3), y1)) :
  ConS Tryz.prog 33 #[(.agg #[(t__0h).v])] [Es (List (Int × Int × ByteArray)) t__0 t__0h] [] (fun v Γ' => ∃ z0 z1 z2 : Hd, v = (.tuple #[(.agg #[(.int .i64 y0_0), (z0).v, (z1).v, (z2).v]), (.bool y1)]) ∧ Γ' = [Es (List (Int × Int × List Int × List Int)) y0_1 z0, Es (List Int) y0_2 z1, Es (List Int) y0_3 z2]) := spec_hgMade_cn _ t__0 t__0h y0_0 y0_1 y0_2 y0_3 y1 hF

theorem spec_rwSides_c (r__0 : ByteArray) (r__1_0 : List (Int × Int × ByteArray)) (r__1_0h : Hd) (r__2_0 : List (Int × Int × ByteArray)) (r__2_0h : Hd) (y0_0 : Int) (y0_1 : List (Int × Int × List Int × List Int)) (y0_2 : List Int) (y0_3 : List Int) (y1_0 : Int) (y1_1 : List (Int × Int × List Int × List Int)) (y1_2 : List Int) (y1_3 : List Int) (y2 : Bool) (hF : F_spec_rwSides (r__0, r__1_0, r__2_0) = some ((y0_0, y0_1, y0_2, y0_3), (y1_0, y1_1, y1_2, y1_3), y2)) :
  ConS Tryz.prog 16 #[(.agg #[(.string r__0), (r__1_0h).v, (r__2_0h).v])] [Es (List (Int × Int × ByteArray)) r__1_0 r__1_0h, Es (List (Int × Int × ByteArray)) r__2_0 r__2_0h] [] (fun v Γ' => ∃ z0 z1 z2 z3 z4 z5 : Hd, v = (.tuple #[(.agg #[(.int .i64 y0_0), (z0).v, (z1).v, (z2).v]), (.agg #[(.int .i64 y1_0), (z3).v, (z4).v, (z5).v]), (.bool y2)]) ∧ Γ' = [Es (List (Int × Int × List Int × List Int)) y0_1 z0, Es (List Int) y0_2 z1, Es (List Int) y0_3 z2, Es (List (Int × Int × List Int × List Int)) y1_1 z3, Es (List Int) y1_2 z4, Es (List Int) y1_3 z5]) := by
 intro w0 S0 fp0 hI hS
 have H : Cx w0 fp0 S0 w0 [Es (List (Int × Int × ByteArray)) r__1_0 r__1_0h, Es (List (Int × Int × ByteArray)) r__2_0 r__2_0h] := Cx.start hI hS
 clear hI hS
 refine enterC (args := [_]) gok Tryz.func16 rfl _ rfl rfl rfl ?_
 refine box_ H ?_; clear H; intro b4 w3 hx H
 clear hx
 refine alloc_ gok rfl H ?_; clear H; intro b7 w6 hx H
 clear hx
 refine alloc_ gok rfl H ?_; clear H; intro b0 w9 hx H
 clear hx
 refine fld gok rfl rfl rfl rfl ?_
 refine loadN [(r__1_0h).v] rfl (H.bxs 2 rfl 1 rfl) ?_
 obtain ⟨y0, e, f0⟩ := bindS hF; clear hF
 obtain ⟨y0_0, y0_1, y0_2⟩ := y0
 have ey12 := e; clear e
 refine callF (spec_tmType_c r__1_0 r__1_0h y0_0 y0_1 y0_2 ey12) (Γi := []) H ⟨Vw.sh 3 rfl, trivial⟩ ?_; clear H ey12
 rintro _ _ w1 ⟨rfl, rfl⟩ H
 refine fld gok rfl rfl rfl rfl ?_
 refine loadN [(r__2_0h).v] rfl (H.bxs 2 rfl 2 rfl) ?_
 obtain ⟨y1, e, f1⟩ := bindS f0; clear f0
 obtain ⟨y1_0, y1_1, y1_2⟩ := y1
 have ey15 := e; clear e
 refine callF (spec_tmType_c r__2_0 r__2_0h y1_0 y1_1 y1_2 ey15) (Γi := []) H ⟨Vw.sh 4 rfl, trivial⟩ ?_; clear H ey15
 rintro _ _ w2 ⟨rfl, rfl⟩ H
 refine sq ?_
 obtain ⟨r0, f2, f3⟩ := bindS f1; clear f1
 refine cut (fun (q0 : Bool) => [(1, (.pointer (some ⟨b4, 0, none⟩))), (2, (.pointer (some ⟨b7, 0, none⟩))), (3, (.pointer (some ⟨b0, 0, none⟩))), (50, (.bool q0))]) (fun (q0 : Bool) w' => q0 = r0 ∧ Cx w0 fp0 S0 w' [Bx b4 [(.string r__0), (r__1_0h).v, (r__2_0h).v], Es (List (Int × Int × ByteArray)) r__1_0 r__1_0h, Es (List (Int × Int × ByteArray)) r__2_0 r__2_0h, Bx b7 [(.int .i64 0), (.slice none 0 0), (.slice none 0 0), (.slice none 0 0)], Bx b0 [(.int .i64 0), (.slice none 0 0), (.slice none 0 0), (.slice none 0 0)]]) ?_ ?_
 ·
  refine fld gok rfl rfl rfl rfl ?_
  refine load1 (H.bx 2 rfl (j := 0) rfl) ?_
  obtain ⟨y3, e, f4⟩ := bindS f2; clear f2
  have ey45 := e; clear e
  refine callF (spec_lbName_c r__0 y3 ey45) (Γi := []) H trivial ?_; clear H ey45
  rintro _ _ w4 ⟨rfl, rfl⟩ H
  obtain ⟨a0, e, f5⟩ := bindS f4; clear f4
  refine boolO e ?_; clear e
  cases a0
  ·
   have f6 := condF f5; clear f5
   obtain ⟨a1, e, f7⟩ := bindS f6; clear f6
   refine boolO e ?_; clear e
   cases a1
   ·
    have f8 := condF f7; clear f7
    obtain ⟨a2, e, f9⟩ := bindS f8; clear f8
    refine boolO e ?_; clear e
    cases a2
    ·
     have f10 := condF f9; clear f9
     obtain ⟨a3, e, f11⟩ := bindS f10; clear f10
     refine boolO e ?_; clear e
     cases a3
     ·
      have f12 := condF f11; clear f11
      obtain ⟨a4, e, f13⟩ := bindS f12; clear f12
      refine boolO e ?_; clear e
      exact ⟨a4, ⟨rfl, rfl, rfl, rfl, trivial⟩, Option.some.inj f13, H.sel [2, 3, 4, 1, 0] rfl⟩
     ·
      have f14 := condT f11; clear f11
      exact ⟨true, ⟨rfl, rfl, rfl, rfl, trivial⟩, Option.some.inj f14, H.sel [2, 3, 4, 1, 0] rfl⟩
    ·
     have f15 := condT f9; clear f9
     exact ⟨true, ⟨rfl, rfl, rfl, rfl, trivial⟩, Option.some.inj f15, H.sel [2, 3, 4, 1, 0] rfl⟩
   ·
    have f16 := condT f7; clear f7
    exact ⟨true, ⟨rfl, rfl, rfl, rfl, trivial⟩, Option.some.inj f16, H.sel [2, 3, 4, 1, 0] rfl⟩
  ·
   have f17 := condT f5; clear f5
   exact ⟨true, ⟨rfl, rfl, rfl, rfl, trivial⟩, Option.some.inj f17, H.sel [2, 3, 4, 1, 0] rfl⟩
 ·
  clear f2 H
  rintro T0 s0 w5 ⟨hr, (H : Cx w0 fp0 S0 w5 [Bx b4 [(.string r__0), (r__1_0h).v, (r__2_0h).v], Es (List (Int × Int × ByteArray)) r__1_0 r__1_0h, Es (List (Int × Int × ByteArray)) r__2_0 r__2_0h, Bx b7 [(.int .i64 0), (.slice none 0 0), (.slice none 0 0), (.slice none 0 0)], Bx b0 [(.int .i64 0), (.slice none 0 0), (.slice none 0 0), (.slice none 0 0)]])⟩
  subst hr
  cases s0
  ·
   have f18 := condF f3; clear f3
   refine fld gok rfl rfl rfl rfl ?_
   refine loadN [(r__1_0h).v] rfl (H.bxs 0 rfl 1 rfl) ?_
   obtain ⟨y4, e, f19⟩ := bindS f18; clear f18
   obtain ⟨⟨y4_0_0, y4_0_1, y4_0_2, y4_0_3⟩, y4_1⟩ := y4
   have ey69 := e; clear e
   refine callS (spec_hgMade_c r__1_0 r__1_0h y4_0_0 y4_0_1 y4_0_2 y4_0_3 y4_1 ey69) (Γi := []) H [1] rfl (persC persS persN) ?_; clear H ey69
   rintro _ _ w7 ⟨h0, h1, h2, rfl, rfl⟩ H
   refine alloc_ gok rfl H ?_; clear H; intro b1 w8 hx H
   clear hx
   refine stA gok [(.int .i64 y4_0_0), (h0).v, (h1).v, (h2).v] rfl H rfl rfl rfl ?_; clear H; intro w10 H
   refine fld gok rfl rfl rfl rfl ?_
   refine loadN [(r__2_0h).v] rfl (H.bxs 4 rfl 2 rfl) ?_
   obtain ⟨y5, e, f20⟩ := bindS f19; clear f19
   obtain ⟨⟨y5_0_0, y5_0_1, y5_0_2, y5_0_3⟩, y5_1⟩ := y5
   have ey82 := e; clear e
   refine callS (spec_hgMade_c r__2_0 r__2_0h y5_0_0 y5_0_1 y5_0_2 y5_0_3 y5_1 ey82) (Γi := []) H [6] rfl (persC persS persN) ?_; clear H ey82
   rintro _ _ w11 ⟨h3, h4, h5, rfl, rfl⟩ H
   refine alloc_ gok rfl H ?_; clear H; intro b2 w12 hx H
   clear hx
   refine stA gok [(.int .i64 y5_0_0), (h3).v, (h4).v, (h5).v] rfl H rfl rfl rfl ?_; clear H; intro w13 H
   obtain ⟨r1, f21, f22⟩ := bindS f20; clear f20
   refine cut (fun (q1 : (Int × (List (Int × Int × List Int × List Int)) × List Int × List Int × Int × (List (Int × Int × List Int × List Int)) × List Int × List Int × Bool) × (Hd × Hd × Hd × Hd × Hd × Hd)) => [(2, (.pointer (some ⟨b7, 0, none⟩))), (3, (.pointer (some ⟨b0, 0, none⟩))), (4, (.bool q1.1.2.2.2.2.2.2.2.2))]) (fun (q1 : (Int × (List (Int × Int × List Int × List Int)) × List Int × List Int × Int × (List (Int × Int × List Int × List Int)) × List Int × List Int × Bool) × (Hd × Hd × Hd × Hd × Hd × Hd)) w' => (q1.1.1, q1.1.2.1, q1.1.2.2.1, q1.1.2.2.2.1, q1.1.2.2.2.2.1, q1.1.2.2.2.2.2.1, q1.1.2.2.2.2.2.2.1, q1.1.2.2.2.2.2.2.2.1, q1.1.2.2.2.2.2.2.2.2) = r1 ∧ Cx w0 fp0 S0 w' [Bx b7 [(.int .i64 q1.1.2.2.2.2.1), (q1.2.2.2.2.1).v, (q1.2.2.2.2.2.1).v, (q1.2.2.2.2.2.2).v], Es (List (Int × Int × List Int × List Int)) q1.1.2.2.2.2.2.1 q1.2.2.2.2.1, Es (List Int) q1.1.2.2.2.2.2.2.1 q1.2.2.2.2.2.1, Es (List Int) q1.1.2.2.2.2.2.2.2.1 q1.2.2.2.2.2.2, Bx b0 [(.int .i64 q1.1.1), (q1.2.1).v, (q1.2.2.1).v, (q1.2.2.2.1).v], Es (List (Int × Int × List Int × List Int)) q1.1.2.1 q1.2.1, Es (List Int) q1.1.2.2.1 q1.2.2.1, Es (List Int) q1.1.2.2.2.1 q1.2.2.2.1]) ?_ ?_
   ·
    refine heldX H [6, 7, 8, 0, 1, 4, 5] (.pure 0 (.pure 1 (.fst 2 (.fst 3 (.pure 4 (.pure 5 (.act 6 (.act 7 (.act 8 .done))))))))) mixed [((Addr.add ⟨b1, 0, none⟩ 0), (.int .i64 y4_0_0)), ((Addr.add ⟨b1, 0, none⟩ 1), (h0).v), ((Addr.add ⟨b1, 0, none⟩ 2), (h1).v), ((Addr.add ⟨b1, 0, none⟩ 3), (h2).v), ((Addr.add ⟨b2, 0, none⟩ 0), (.int .i64 y5_0_0)), ((Addr.add ⟨b2, 0, none⟩ 1), (h3).v), ((Addr.add ⟨b2, 0, none⟩ 2), (h4).v), ((Addr.add ⟨b2, 0, none⟩ 3), (h5).v)] ⟨H.bx 4 rfl (j := 0) rfl, H.bx 4 rfl (j := 1) rfl, H.bx 4 rfl (j := 2) rfl, H.bx 4 rfl (j := 3) rfl, H.bx 0 rfl (j := 0) rfl, H.bx 0 rfl (j := 1) rfl, H.bx 0 rfl (j := 2) rfl, H.bx 0 rfl (j := 3) rfl, trivial⟩ (by kernel_rfl) ?_
    clear H; intro w15 H
    have hX : Ext w15 w15 := Upd.refl _ _
    have H0 := H
    refine loadNW 0 [(.int .i64 y4_0_0), (h0).v, (h1).v, (h2).v] rfl ⟨rfl, rfl, rfl, rfl, trivial⟩ ?_
    refine loadNW 4 [(.int .i64 y5_0_0), (h3).v, (h4).v, (h5).v] rfl ⟨rfl, rfl, rfl, rfl, trivial⟩ ?_
    cases y4_1
    ·
     have f23 := condF f21; clear f21
     replace H := H.sel [11, 0, 1, 2, 3, 4, 5, 6, 7, 8, 9, 10, 12] rfl
     refine stA gok [(.int .i64 y4_0_0), (h0).v, (h1).v, (h2).v] rfl H rfl rfl rfl ?_; clear H; intro w16 H
     refine hold ⟨H.bx 5 rfl (j := 0) rfl, H.bx 5 rfl (j := 1) rfl, H.bx 5 rfl (j := 2) rfl, H.bx 5 rfl (j := 3) rfl, H.bx 1 rfl (j := 0) rfl, H.bx 1 rfl (j := 1) rfl, H.bx 1 rfl (j := 2) rfl, H.bx 1 rfl (j := 3) rfl, trivial⟩ ?_
     replace H := H.sel [12, 0, 1, 2, 3, 4, 5, 6, 7, 8, 9, 10, 11] rfl
     refine stA gok [(.int .i64 y5_0_0), (h3).v, (h4).v, (h5).v] rfl H rfl rfl rfl ?_; clear H; intro w18 H
     refine hold ⟨H.bx 6 rfl (j := 0) rfl, H.bx 6 rfl (j := 1) rfl, H.bx 6 rfl (j := 2) rfl, H.bx 6 rfl (j := 3) rfl, H.bx 2 rfl (j := 0) rfl, H.bx 2 rfl (j := 1) rfl, H.bx 2 rfl (j := 2) rfl, H.bx 2 rfl (j := 3) rfl, trivial⟩ ?_
     refine hold ⟨H.bx 6 rfl (j := 0) rfl, H.bx 6 rfl (j := 1) rfl, H.bx 6 rfl (j := 2) rfl, H.bx 6 rfl (j := 3) rfl, H.bx 2 rfl (j := 0) rfl, H.bx 2 rfl (j := 1) rfl, H.bx 2 rfl (j := 2) rfl, H.bx 2 rfl (j := 3) rfl, trivial⟩ ?_
     exact ⟨((y5_0_0, y5_0_1, y5_0_2, y5_0_3, y4_0_0, y4_0_1, y4_0_2, y4_0_3, false), (h3, h4, h5, h0, h1, h2)), ⟨rfl, rfl, rfl, trivial⟩, Option.some.inj f23, H.sel [1, 7, 8, 9, 0, 3, 4, 5] rfl⟩
    ·
     have f24 := condT f21; clear f21
     replace H := H.sel [11, 0, 1, 2, 3, 4, 5, 6, 7, 8, 9, 10, 12] rfl
     refine stA gok [(.int .i64 y4_0_0), (h0).v, (h1).v, (h2).v] rfl H rfl rfl rfl ?_; clear H; intro w19 H
     refine hold ⟨H.bx 5 rfl (j := 0) rfl, H.bx 5 rfl (j := 1) rfl, H.bx 5 rfl (j := 2) rfl, H.bx 5 rfl (j := 3) rfl, H.bx 1 rfl (j := 0) rfl, H.bx 1 rfl (j := 1) rfl, H.bx 1 rfl (j := 2) rfl, H.bx 1 rfl (j := 3) rfl, trivial⟩ ?_
     replace H := H.sel [12, 0, 1, 2, 3, 4, 5, 6, 7, 8, 9, 10, 11] rfl
     refine stA gok [(.int .i64 y5_0_0), (h3).v, (h4).v, (h5).v] rfl H rfl rfl rfl ?_; clear H; intro w20 H
     refine hold ⟨H.bx 6 rfl (j := 0) rfl, H.bx 6 rfl (j := 1) rfl, H.bx 6 rfl (j := 2) rfl, H.bx 6 rfl (j := 3) rfl, H.bx 2 rfl (j := 0) rfl, H.bx 2 rfl (j := 1) rfl, H.bx 2 rfl (j := 2) rfl, H.bx 2 rfl (j := 3) rfl, trivial⟩ ?_
     refine hold ⟨H.bx 6 rfl (j := 0) rfl, H.bx 6 rfl (j := 1) rfl, H.bx 6 rfl (j := 2) rfl, H.bx 6 rfl (j := 3) rfl, H.bx 2 rfl (j := 0) rfl, H.bx 2 rfl (j := 1) rfl, H.bx 2 rfl (j := 2) rfl, H.bx 2 rfl (j := 3) rfl, trivial⟩ ?_
     exact ⟨((y5_0_0, y5_0_1, y5_0_2, y5_0_3, y4_0_0, y4_0_1, y4_0_2, y4_0_3, y5_1), (h3, h4, h5, h0, h1, h2)), ⟨rfl, rfl, rfl, trivial⟩, Option.some.inj f24, H.sel [1, 7, 8, 9, 0, 3, 4, 5] rfl⟩
   ·
    clear f21 H
    rintro T1 ⟨⟨s1_0, s1_1, s1_2, s1_3, s1_4, s1_5, s1_6, s1_7, s1_8⟩, ⟨g0_0, g0_1, g0_2, g0_3, g0_4, g0_5⟩⟩ w21 ⟨hr, (H : Cx w0 fp0 S0 w21 [Bx b7 [(.int .i64 s1_4), (g0_3).v, (g0_4).v, (g0_5).v], Es (List (Int × Int × List Int × List Int)) s1_5 g0_3, Es (List Int) s1_6 g0_4, Es (List Int) s1_7 g0_5, Bx b0 [(.int .i64 s1_0), (g0_0).v, (g0_1).v, (g0_2).v], Es (List (Int × Int × List Int × List Int)) s1_1 g0_0, Es (List Int) s1_2 g0_1, Es (List Int) s1_3 g0_2])⟩
    subst hr
    refine loadN [(.int .i64 s1_4), (g0_3).v, (g0_4).v, (g0_5).v] rfl (fun j u hj => H.bx 0 rfl hj) ?_
    refine loadN [(.int .i64 s1_0), (g0_0).v, (g0_1).v, (g0_2).v] rfl (fun j u hj => H.bx 4 rfl hj) ?_
    cases f22
    exact ⟨_, _, rfl, ⟨g0_3, g0_4, g0_5, g0_0, g0_1, g0_2, rfl, rfl⟩, (H.sel [1, 2, 3, 5, 6, 7] rfl)⟩
  ·
   have f25 := condT f3; clear f3
   refine build_ (cs := #[(.int .i64 0), (.slice none 0 0), (.slice none 0 0), (.slice none 0 0)]) gok rfl rfl rfl ?_
   refine build_ (cs := #[(.int .i64 0), (.slice none 0 0), (.slice none 0 0), (.slice none 0 0)]) gok rfl rfl rfl ?_
   replace H := H.sel [3, 0, 1, 2, 4] rfl
   refine stA gok [(.int .i64 0), (.slice none 0 0), (.slice none 0 0), (.slice none 0 0)] rfl H rfl rfl rfl ?_; clear H; intro w22 H
   replace H := H.sel [4, 0, 1, 2, 3] rfl
   refine stA gok [(.int .i64 0), (.slice none 0 0), (.slice none 0 0), (.slice none 0 0)] rfl H rfl rfl rfl ?_; clear H; intro w23 H
   refine loadN [(.int .i64 0), (.slice none 0 0), (.slice none 0 0), (.slice none 0 0)] rfl (fun j u hj => H.bx 1 rfl hj) ?_
   refine loadN [(.int .i64 0), (.slice none 0 0), (.slice none 0 0), (.slice none 0 0)] rfl (fun j u hj => H.bx 0 rfl hj) ?_
   replace H := H.nil (α := Int × Int × List Int × List Int)
   replace H := H.frz
   replace H := H.nil (α := Int)
   replace H := H.frz
   replace H := H.nil (α := Int)
   replace H := H.frz
   replace H := H.nil (α := Int × Int × List Int × List Int)
   replace H := H.frz
   replace H := H.nil (α := Int)
   replace H := H.frz
   replace H := H.nil (α := Int)
   replace H := H.frz
   cases f25
   exact ⟨_, _, rfl, ⟨nilH, nilH, nilH, nilH, nilH, nilH, rfl, rfl⟩, (H.sel [5, 4, 3, 2, 1, 0] rfl)⟩

theorem spec_dvRules_c (rules_ : List (ByteArray × (List (Int × Int × ByteArray)) × (List (Int × Int × ByteArray)))) (rules_h : Hd) (y : Bool) (hF : F_spec_dvRules rules_ = some y) :
  ConF Tryz.prog 14 #[(rules_h).v] [Es (List (ByteArray × (List (Int × Int × ByteArray)) × (List (Int × Int × ByteArray)))) rules_ rules_h] [] (fun v Γ' => v = (.bool y) ∧ Γ' = []) := by
 intro w0 S0 fp0 hI hS
 have H : Cx w0 fp0 S0 w0 [Es (List (ByteArray × (List (Int × Int × ByteArray)) × (List (Int × Int × ByteArray)))) rules_ rules_h] := Cx.start hI hS
 clear hI hS
 refine enterC (args := [_]) gok Tryz.func14 rfl _ rfl rfl rfl ?_
 refine sq ?_
 refine lenE (H.rs (α := List (ByteArray × (List (Int × Int × ByteArray)) × (List (Int × Int × ByteArray)))) 0 rfl).len ?_
 have x0 := (H.rs (α := List (ByteArray × (List (Int × Int × ByteArray)) × (List (Int × Int × ByteArray)))) 0 rfl).max
 obtain ⟨r0, e, f0⟩ := bindS hF; clear hF
 refine loopO _ rules_.length (fun (k2 : Nat) (_ : Unit) (_ : Unit) => [(0, (rules_h).v), (10, (rules_h).v), (11, (.int .i64 ((rules_.length : Nat) : Int))), (12, (.int .i64 ((k2 : Nat) : Int)))]) (fun _ (_ : Unit) (_ : Unit) w' => Cx w0 fp0 S0 w' [Es (List (ByteArray × (List (Int × Int × ByteArray)) × (List (Int × Int × ByteArray)))) rules_ rules_h]) () () e ⟨rfl, rfl, rfl, rfl, trivial⟩ (H.sel [0] rfl) ?_ ?_
 ·
  clear H e
  rintro T0 k2 _ _ w1 o0 hk (H : Cx w0 fp0 S0 w1 [Es (List (ByteArray × (List (Int × Int × ByteArray)) × (List (Int × Int × ByteArray)))) rules_ rules_h]) hrt f1
  refine boolE (z := true) (ltLen hk) ?_
  refine sq ?_
  refine sq ?_
  obtain ⟨a0, e, f2⟩ := bindS f1; clear f1
  have HH := H; clear H; obtain ⟨p0, m0, g0, c0, c1, c2, c3, H⟩ := HH.el (α := ByteArray × (List (Int × Int × ByteArray)) × (List (Int × Int × ByteArray))) 0 rfl e; clear HH
  clear e
  obtain ⟨a0_0, a0_1_0, a0_2_0⟩ := a0
  obtain ⟨_, h0, h1⟩ := g0
  replace H := H.part (β := List (Int × Int × ByteArray)) a0_1_0 (h0 : Hd) 0 rfl (fun S h => (And.left (And.right h)))
  replace H := H.part (β := List (Int × Int × ByteArray)) a0_2_0 (h1 : Hd) 1 rfl (fun S h => (And.right (And.right h)))
  replace H := H.sel [0, 1, 3] rfl
  refine idxE c0 c1 c2 ?_; clear c0 c1 c2
  refine loadN [(.string a0_0), (h0).v, (h1).v] rfl c3 ?_; clear c3
  refine alloc_ gok rfl H ?_; clear H; intro b0 w2 hx H
  clear hx
  refine stA gok [(.string a0_0), (h0).v, (h1).v] rfl H rfl rfl rfl ?_; clear H; intro w3 H
  refine loadN [(.string a0_0), (h0).v, (h1).v] rfl (fun j u hj => H.bx 0 rfl hj) ?_
  obtain ⟨y0, e, f3⟩ := bindS f2; clear f2
  obtain ⟨⟨y0_0_0, y0_0_1, y0_0_2, y0_0_3⟩, ⟨y0_1_0, y0_1_1, y0_1_2, y0_1_3⟩, y0_2⟩ := y0
  have ey168 := e; clear e
  refine callS (spec_rwSides_c a0_0 a0_1_0 h0 a0_2_0 h1 y0_0_0 y0_0_1 y0_0_2 y0_0_3 y0_1_0 y0_1_1 y0_1_2 y0_1_3 y0_2 ey168) (Γi := []) H [2, 1] rfl (persC persS (persC persS persN)) ?_; clear H ey168
  rintro _ _ w4 ⟨h2, h3, h4, h5, h6, h7, rfl, rfl⟩ H
  refine alloc_ gok rfl H ?_; clear H; intro b1 w5 hx H
  clear hx
  refine alloc_ gok rfl H ?_; clear H; intro b2 w6 hx H
  clear hx
  replace H := H.sel [1, 0, 2, 3, 4, 5, 6, 7, 8, 9, 10, 11] rfl
  refine stA gok [(.int .i64 y0_0_0), (h2).v, (h3).v, (h4).v] rfl H rfl rfl rfl ?_; clear H; intro w7 H
  replace H := H.sel [1, 0, 2, 3, 4, 5, 6, 7, 8, 9, 10, 11] rfl
  refine stA gok [(.int .i64 y0_1_0), (h5).v, (h6).v, (h7).v] rfl H rfl rfl rfl ?_; clear H; intro w8 H
  refine sq ?_
  obtain ⟨r1, f4, f5⟩ := bindS f3; clear f3
  refine cut (fun (q0 : Bool) => [(0, (rules_h).v), (3, (.int .i64 ((k2 : Nat) : Int))), (4, (.pointer (some ⟨b0, 0, none⟩))), (10, (rules_h).v), (11, (.int .i64 ((rules_.length : Nat) : Int))), (12, (.int .i64 ((k2 : Nat) : Int))), (36, (.bool q0))]) (fun (q0 : Bool) w' => q0 = r1 ∧ Cx w0 fp0 S0 w' [Es (List (ByteArray × (List (Int × Int × ByteArray)) × (List (Int × Int × ByteArray)))) rules_ rules_h, Bx b0 [(.string a0_0), (h0).v, (h1).v], Es (List (Int × Int × ByteArray)) a0_1_0 h0, Es (List (Int × Int × ByteArray)) a0_2_0 h1]) ?_ ?_
  ·
   obtain ⟨a1, e, f6⟩ := bindS f4; clear f4
   refine boolO e ?_; clear e
   cases a1
   ·
    have f7 := condF f6; clear f6
    refine fld gok rfl rfl rfl rfl ?_
    refine load1 (H.bx 1 rfl (j := 1) rfl) ?_
    refine lenE (H.rs (α := List (Int × Int × List Int × List Int)) 2 rfl).len ?_
    obtain ⟨a2, e, f8⟩ := bindS f7; clear f7
    refine boolO e ?_; clear e
    cases a2
    ·
     have f9 := condF f8; clear f8
     refine fld gok rfl rfl rfl rfl ?_
     refine load1 (H.bx 0 rfl (j := 1) rfl) ?_
     refine lenE (H.rs (α := List (Int × Int × List Int × List Int)) 5 rfl).len ?_
     obtain ⟨a3, e, f10⟩ := bindS f9; clear f9
     refine boolO e ?_; clear e
     exact ⟨a3, ⟨rfl, rfl, rfl, rfl, rfl, rfl, rfl, trivial⟩, Option.some.inj f10, H.sel [11, 8, 10, 9] rfl⟩
    ·
     have f11 := condT f8; clear f8
     exact ⟨true, ⟨rfl, rfl, rfl, rfl, rfl, rfl, rfl, trivial⟩, Option.some.inj f11, H.sel [11, 8, 10, 9] rfl⟩
   ·
    have f12 := condT f6; clear f6
    exact ⟨true, ⟨rfl, rfl, rfl, rfl, rfl, rfl, rfl, trivial⟩, Option.some.inj f12, H.sel [11, 8, 10, 9] rfl⟩
  ·
   clear f4 H
   rintro T1 s0 w9 ⟨hr, (H : Cx w0 fp0 S0 w9 [Es (List (ByteArray × (List (Int × Int × ByteArray)) × (List (Int × Int × ByteArray)))) rules_ rules_h, Bx b0 [(.string a0_0), (h0).v, (h1).v], Es (List (Int × Int × ByteArray)) a0_1_0 h0, Es (List (Int × Int × ByteArray)) a0_2_0 h1])⟩
   subst hr
   cases s0
   ·
    have f13 := condF f5; clear f5
    obtain ⟨a4, e, f14⟩ := bindS f13; clear f13
    refine slS (α := ByteArray × (List (Int × Int × ByteArray)) × (List (Int × Int × ByteArray))) gok rfl rfl H 0 rfl e rfl rfl ?_; clear e H; intro h8 H
    refine lenE (H.rs (α := List (ByteArray × (List (Int × Int × ByteArray)) × (List (Int × Int × ByteArray)))) 0 rfl).len ?_
    have x1 := (H.rs (α := List (ByteArray × (List (Int × Int × ByteArray)) × (List (Int × Int × ByteArray)))) 0 rfl).max
    obtain ⟨r2, e, f15⟩ := bindS f14; clear f14
    refine loopO _ a4.length (fun (k0 : Nat) (_ : Unit) (_ : Unit) => [(0, (rules_h).v), (4, (.pointer (some ⟨b0, 0, none⟩))), (10, (rules_h).v), (11, (.int .i64 ((rules_.length : Nat) : Int))), (12, (.int .i64 ((k2 : Nat) : Int))), (39, (h8).v), (40, (.int .i64 ((a4.length : Nat) : Int))), (41, (.int .i64 ((k0 : Nat) : Int)))]) (fun _ (_ : Unit) (_ : Unit) w' => Cx w0 fp0 S0 w' [Es (List (ByteArray × (List (Int × Int × ByteArray)) × (List (Int × Int × ByteArray)))) rules_ rules_h, Bx b0 [(.string a0_0), (h0).v, (h1).v], Es (List (Int × Int × ByteArray)) a0_1_0 h0, Es (List (Int × Int × ByteArray)) a0_2_0 h1, Es (List (ByteArray × (List (Int × Int × ByteArray)) × (List (Int × Int × ByteArray)))) a4 h8]) () () e ⟨rfl, rfl, rfl, rfl, rfl, rfl, rfl, rfl, trivial⟩ (H.sel [1, 2, 3, 4, 0] rfl) ?_ ?_
    ·
     clear H e
     rintro T2 k0 _ _ w10 o1 hk (H : Cx w0 fp0 S0 w10 [Es (List (ByteArray × (List (Int × Int × ByteArray)) × (List (Int × Int × ByteArray)))) rules_ rules_h, Bx b0 [(.string a0_0), (h0).v, (h1).v], Es (List (Int × Int × ByteArray)) a0_1_0 h0, Es (List (Int × Int × ByteArray)) a0_2_0 h1, Es (List (ByteArray × (List (Int × Int × ByteArray)) × (List (Int × Int × ByteArray)))) a4 h8]) hrt f16
     refine boolE (z := true) (ltLen hk) ?_
     refine sq ?_
     refine sq ?_
     obtain ⟨a5, e, f17⟩ := bindS f16; clear f16
     have HH := H; clear H; obtain ⟨p1, m1, g1, c4, c5, c6, c7, H⟩ := HH.el (α := ByteArray × (List (Int × Int × ByteArray)) × (List (Int × Int × ByteArray))) 4 rfl e; clear HH
     clear e
     obtain ⟨a5_0, a5_1_0, a5_2_0⟩ := a5
     obtain ⟨_, h9, h10⟩ := g1
     replace H := H.part (β := List (Int × Int × ByteArray)) a5_1_0 (h9 : Hd) 0 rfl (fun S h => (And.left (And.right h)))
     replace H := H.part (β := List (Int × Int × ByteArray)) a5_2_0 (h10 : Hd) 1 rfl (fun S h => (And.right (And.right h)))
     replace H := H.sel [0, 1, 3, 4, 5, 6, 7] rfl
     refine idxE c4 c5 c6 ?_; clear c4 c5 c6
     refine loadN [(.string a5_0), (h9).v, (h10).v] rfl c7 ?_; clear c7
     refine alloc_ gok rfl H ?_; clear H; intro b3 w11 hx H
     clear hx
     refine stA gok [(.string a5_0), (h9).v, (h10).v] rfl H rfl rfl rfl ?_; clear H; intro w12 H
     refine fld gok rfl rfl rfl rfl ?_
     refine load1 (H.bx 0 rfl (j := 0) rfl) ?_
     refine fld gok rfl rfl rfl rfl ?_
     refine load1 (H.bx 4 rfl (j := 0) rfl) ?_
     obtain ⟨a6, e, f18⟩ := bindS f17; clear f17
     refine eqZ e ?_; clear e
     cases a6
     ·
      have f19 := condF f18; clear f18
      refine arK hk x1 ?_
      have hs := Option.some.inj f19; subst hs; clear f19
      exact ⟨(), (), rfl, ⟨rfl, rfl, rfl, rfl, rfl, rfl, rfl, rfl, trivial⟩, H.sel [3, 4, 5, 6, 7] rfl⟩
     ·
      have f20 := condT f18; clear f18
      have hs := Option.some.inj f20; subst hs; clear f20
      have hr := hrt _ rfl; subst hr
      have f21 : some _ = some _ := f15
      have hs := Option.some.inj f21; subst hs; clear f21
      have hr := hrt _ rfl; subst hr
      have f22 : some _ = some _ := f0
      cases f22
      exact ⟨_, _, rfl, ⟨rfl, rfl⟩, (H.sel [] rfl).close trivial⟩
    ·
     clear H e
     rintro T3 _ _ w13 hr (H : Cx w0 fp0 S0 w13 [Es (List (ByteArray × (List (Int × Int × ByteArray)) × (List (Int × Int × ByteArray)))) rules_ rules_h, Bx b0 [(.string a0_0), (h0).v, (h1).v], Es (List (Int × Int × ByteArray)) a0_1_0 h0, Es (List (Int × Int × ByteArray)) a0_2_0 h1, Es (List (ByteArray × (List (Int × Int × ByteArray)) × (List (Int × Int × ByteArray)))) a4 h8])
     subst hr
     refine boolE (z := false) geLen ?_
     refine sq ?_
     refine arK hk x0 ?_
     have hs := Option.some.inj f15; subst hs; clear f15
     exact ⟨(), (), rfl, ⟨rfl, rfl, rfl, rfl, trivial⟩, H.sel [0] rfl⟩
   ·
    have f23 := condT f5; clear f5
    have hs := Option.some.inj f23; subst hs; clear f23
    have hr := hrt _ rfl; subst hr
    have f24 : some _ = some _ := f0
    cases f24
    exact ⟨_, _, rfl, ⟨rfl, rfl⟩, (H.sel [] rfl).close trivial⟩
 ·
  clear H e
  rintro T4 _ _ w14 hr (H : Cx w0 fp0 S0 w14 [Es (List (ByteArray × (List (Int × Int × ByteArray)) × (List (Int × Int × ByteArray)))) rules_ rules_h])
  subst hr
  refine boolE (z := false) geLen ?_
  refine sq ?_
  refine lenE (H.rs (α := List (ByteArray × (List (Int × Int × ByteArray)) × (List (Int × Int × ByteArray)))) 0 rfl).len ?_
  obtain ⟨y1, e, f25⟩ := bindS f0; clear f0
  have ey292 := e; clear e
  refine callF (spec_l1In_c ((rules_.length : Nat) : Int) 1 20 y1 ey292) (Γi := []) H trivial ?_; clear H ey292
  rintro _ _ w15 ⟨rfl, rfl⟩ H
  cases f25
  exact ⟨_, _, rfl, ⟨rfl, rfl⟩, (H.sel [] rfl).close trivial⟩

theorem spec_l1Put_c (l_ : List Int) (l_h : Hd) (n_ : Int) (y : List Int) (hF : F_spec_l1Put l_ n_ = some y) :
  ConS Tryz.prog 17 #[(l_h).v, (.int .i64 n_)] [Es (List Int) l_ l_h] [] (fun v Γ' => ∃ z0 : Hd, v = (z0).v ∧ Γ' = [Es (List Int) y z0]) := by
 intro w0 S0 fp0 hI hS
 have H : Cx w0 fp0 S0 w0 [Es (List Int) l_ l_h] := Cx.start hI hS
 clear hI hS
 refine enterC (args := [_, _]) gok Tryz.func17 rfl _ rfl rfl rfl ?_
 obtain ⟨r0, f0, f1⟩ := bindS hF; clear hF
 refine cut (fun (q0 : Int) => [(0, (l_h).v), (1, (.int .i64 n_)), (5, (.int .i64 q0))]) (fun (q0 : Int) w' => q0 = r0 ∧ Cx w0 fp0 S0 w' [Es (List Int) l_ l_h]) ?_ ?_
 ·
  refine loopW _ (fun (s0 : Int) (_ : Unit) => [(0, (l_h).v), (1, (.int .i64 n_)), (5, (.int .i64 s0))]) (fun (s0 : Int) (_ : Unit) w' => Cx w0 fp0 S0 w' [Es (List Int) l_ l_h]) 0 () f0 ⟨rfl, rfl, rfl, trivial⟩ (H.sel [0] rfl) ?_
  ·
   clear H
   rintro T0 s0 _ w1 o0 (H : Cx w0 fp0 S0 w1 [Es (List Int) l_ l_h]) hrt f2
   refine sq ?_
   obtain ⟨r1, f3, f4⟩ := bindS f2; clear f2
   refine cut (fun (q1 : Bool) => [(0, (l_h).v), (1, (.int .i64 n_)), (5, (.int .i64 s0)), (18, (.bool q1))]) (fun (q1 : Bool) w' => q1 = r1 ∧ Cx w0 fp0 S0 w' [Es (List Int) l_ l_h]) ?_ ?_
   ·
    refine lenE (H.rs (α := List Int) 0 rfl).len ?_
    obtain ⟨a0, e, f5⟩ := bindS f3; clear f3
    refine boolO e ?_; clear e
    cases a0
    ·
     have f6 := condF f5; clear f5
     exact ⟨false, ⟨rfl, rfl, rfl, rfl, trivial⟩, Option.some.inj f6, H.sel [0] rfl⟩
    ·
     have f7 := condT f5; clear f5
     obtain ⟨a1, e, f8⟩ := bindS f7; clear f7
     obtain ⟨p0, m0, c0, c1, c2, c3⟩ := (H.rs (α := List Int) 0 rfl).at1 e; clear e
     refine idxE c0 c1 c2 ?_; clear c0 c1 c2
     refine load1 c3 ?_; clear c3
     obtain ⟨a2, e, f9⟩ := bindS f8; clear f8
     refine boolO e ?_; clear e
     exact ⟨a2, ⟨rfl, rfl, rfl, rfl, trivial⟩, Option.some.inj f9, H.sel [0] rfl⟩
   ·
    clear f3 H
    rintro T1 s1 w2 ⟨hr, (H : Cx w0 fp0 S0 w2 [Es (List Int) l_ l_h])⟩
    subst hr
    cases s1
    ·
     have f10 := condF f4; clear f4
     have hs := Option.some.inj f10; subst hs; clear f10
     have f11 : some _ = some _ := congrArg some (hrt _ rfl).symm
     exact ⟨s0, ⟨rfl, rfl, rfl, trivial⟩, Option.some.inj f11, H.sel [0] rfl⟩
    ·
     have f12 := condT f4; clear f4
     obtain ⟨a3, e, f13⟩ := bindS f12; clear f12
     refine arO e ?_; clear e
     have hs := Option.some.inj f13; subst hs; clear f13
     exact ⟨a3, (), rfl, ⟨rfl, rfl, rfl, trivial⟩, H.sel [0] rfl⟩
 ·
  clear f0 H
  rintro T2 s2 w3 ⟨hr, (H : Cx w0 fp0 S0 w3 [Es (List Int) l_ l_h])⟩
  subst hr
  refine sq ?_
  obtain ⟨r2, f14, f15⟩ := bindS f1; clear f1
  refine cut (fun (q2 : Bool) => [(0, (l_h).v), (1, (.int .i64 n_)), (5, (.int .i64 s2)), (32, (.bool q2))]) (fun (q2 : Bool) w' => q2 = r2 ∧ Cx w0 fp0 S0 w' [Es (List Int) l_ l_h]) ?_ ?_
  ·
   refine lenE (H.rs (α := List Int) 0 rfl).len ?_
   obtain ⟨a4, e, f16⟩ := bindS f14; clear f14
   refine boolO e ?_; clear e
   cases a4
   ·
    have f17 := condF f16; clear f16
    exact ⟨false, ⟨rfl, rfl, rfl, rfl, trivial⟩, Option.some.inj f17, H.sel [0] rfl⟩
   ·
    have f18 := condT f16; clear f16
    obtain ⟨a5, e, f19⟩ := bindS f18; clear f18
    obtain ⟨p1, m1, c4, c5, c6, c7⟩ := (H.rs (α := List Int) 0 rfl).at1 e; clear e
    refine idxE c4 c5 c6 ?_; clear c4 c5 c6
    refine load1 c7 ?_; clear c7
    obtain ⟨a6, e, f20⟩ := bindS f19; clear f19
    refine boolO e ?_; clear e
    exact ⟨a6, ⟨rfl, rfl, rfl, rfl, trivial⟩, Option.some.inj f20, H.sel [0] rfl⟩
  ·
   clear f14 H
   rintro T3 s3 w4 ⟨hr, (H : Cx w0 fp0 S0 w4 [Es (List Int) l_ l_h])⟩
   subst hr
   cases s3
   ·
    have f21 := condF f15; clear f15
    refine lit0 (α := Int) gok rfl rfl H ?_; clear H; intro h0 w5 hx H
    clear hx
    obtain ⟨a7, e, f22⟩ := bindS f21; clear f21
    refine slS (α := Int) gok rfl rfl H 1 rfl e rfl rfl ?_; clear e H; intro h1 H
    obtain ⟨a8, e, f23⟩ := bindS f22; clear f22
    replace H := H.sel [1, 0, 2] rfl
    refine appendS (α := Int) gok rfl rfl rfl rfl H (Vw.sh 0 rfl) e ?_; clear e H; intro h2 w6 H
    refine lit1S (α := Int) gok rfl rfl rfl rfl H ?_; clear H; intro h3 w7 hx H
    clear hx
    obtain ⟨a9, e, f24⟩ := bindS f23; clear f23
    replace H := H.sel [1, 0, 2, 3] rfl
    refine append_ (α := Int) gok rfl rfl rfl rfl H e ?_; clear e H; intro h4 w8 H
    obtain ⟨a10, e, f25⟩ := bindS f24; clear f24
    refine slS (α := Int) (hi := none) gok rfl rfl H 2 rfl e rfl (congrArg (fun n : Nat => some (n : Int)) (H.rs (α := List Int) 2 rfl).len) ?_; clear e H; intro h5 H
    obtain ⟨a11, e, f26⟩ := bindS f25; clear f25
    replace H := H.sel [1, 0, 2, 3] rfl
    refine appendS (α := Int) gok rfl rfl rfl rfl H (Vw.sh 0 rfl) e ?_; clear e H; intro h6 w9 H
    replace H := H.frz
    cases f26
    exact ⟨_, _, rfl, ⟨h6, rfl, rfl⟩, (H.sel [0] rfl)⟩
   ·
    have f27 := condT f15; clear f15
    cases f27
    exact ⟨_, _, rfl, ⟨l_h, rfl, rfl⟩, (H.sel [0] rfl)⟩

theorem spec_cpWeight_c (g__0 : Int) (g__1 : List (Int × Int × List Int × List Int)) (g__1h : Hd) (g__2 : List Int) (g__2h : Hd) (g__3 : List Int) (g__3h : Hd) (weights_ : List Int) (weights_h : Hd) (y : Int) (hF : F_spec_cpWeight (g__0, g__1, g__2, g__3) weights_ = some y) :
  ConF Tryz.prog 54 #[(.agg #[(.int .i64 g__0), (g__1h).v, (g__2h).v, (g__3h).v]), (weights_h).v] [Es (List (Int × Int × List Int × List Int)) g__1 g__1h, Es (List Int) g__2 g__2h, Es (List Int) g__3 g__3h, Es (List Int) weights_ weights_h] [] (fun v Γ' => v = (.int .i64 y) ∧ Γ' = []) := by
 intro w0 S0 fp0 hI hS
 have H : Cx w0 fp0 S0 w0 [Es (List (Int × Int × List Int × List Int)) g__1 g__1h, Es (List Int) g__2 g__2h, Es (List Int) g__3 g__3h, Es (List Int) weights_ weights_h] := Cx.start hI hS
 clear hI hS
 refine enterC (args := [_, _]) gok Tryz.func54 rfl _ rfl rfl rfl ?_
 refine box_ H ?_; clear H; intro b6 w5 hx H
 clear hx
 refine sq ?_
 refine fld gok rfl rfl rfl rfl ?_
 refine load1 (H.bx 0 rfl (j := 1) rfl) ?_
 refine lenE (H.rs (α := List (Int × Int × List Int × List Int)) 1 rfl).len ?_
 have x0 := (H.rs (α := List (Int × Int × List Int × List Int)) 1 rfl).max
 obtain ⟨r0, e, f0⟩ := bindS hF; clear hF
 refine loopS _ g__1.length (fun (k8 : Nat) (s0 : Int) (_ : Unit) => [(1, (weights_h).v), (5, (.int .i64 s0)), (9, (g__1h).v), (10, (.int .i64 ((g__1.length : Nat) : Int))), (11, (.int .i64 ((k8 : Nat) : Int)))]) (fun _ (s0 : Int) (_ : Unit) w' => Cx w0 fp0 S0 w' [Es (List Int) weights_ weights_h, Es (List (Int × Int × List Int × List Int)) g__1 g__1h]) 0 () e ⟨rfl, rfl, rfl, rfl, rfl, trivial⟩ (H.sel [4, 1] rfl) ?_ ?_
 ·
  clear H e
  rintro T0 k8 s0 _ w1 o0 hk (H : Cx w0 fp0 S0 w1 [Es (List Int) weights_ weights_h, Es (List (Int × Int × List Int × List Int)) g__1 g__1h]) f1
  refine boolE (z := true) (ltLen hk) ?_
  refine sq ?_
  refine sq ?_
  obtain ⟨a0, e, f2⟩ := bindS f1; clear f1
  have HH := H; clear H; obtain ⟨p0, m0, g0, c0, c1, c2, c3, H⟩ := HH.el (α := Int × Int × List Int × List Int) 1 rfl e; clear HH
  clear e
  obtain ⟨a0_0, a0_1, a0_2, a0_3⟩ := a0
  obtain ⟨_, _, h0, h1⟩ := g0
  replace H := H.part (β := List Int) a0_2 (h0 : Hd) 0 rfl (fun S h => (And.left (And.right (And.right h))))
  replace H := H.part (β := List Int) a0_3 (h1 : Hd) 1 rfl (fun S h => (And.right (And.right (And.right h))))
  replace H := H.sel [0, 1, 3, 4] rfl
  refine idxE c0 c1 c2 ?_; clear c0 c1 c2
  refine loadN [(.int .i64 a0_0), (.int .i64 a0_1), (h0).v, (h1).v] rfl c3 ?_; clear c3
  refine alloc_ gok rfl H ?_; clear H; intro b0 w2 hx H
  clear hx
  refine stA gok [(.int .i64 a0_0), (.int .i64 a0_1), (h0).v, (h1).v] rfl H rfl rfl rfl ?_; clear H; intro w3 H
  refine fld gok rfl rfl rfl rfl ?_
  refine load1 (H.bx 0 rfl (j := 0) rfl) ?_
  obtain ⟨a1, e, f3⟩ := bindS f2; clear f2
  refine arO e ?_; clear e
  obtain ⟨a2, e, f4⟩ := bindS f3; clear f3
  obtain ⟨p1, m1, c4, c5, c6, c7⟩ := (H.rs (α := List Int) 3 rfl).at1 e; clear e
  refine idxE c4 c5 c6 ?_; clear c4 c5 c6
  refine load1 c7 ?_; clear c7
  obtain ⟨a3, e, f5⟩ := bindS f4; clear f4
  refine arO e ?_; clear e
  refine arK hk x0 ?_
  have hs := Option.some.inj f5; subst hs; clear f5
  exact ⟨(), ⟨rfl, rfl, rfl, rfl, rfl, trivial⟩, H.sel [3, 4] rfl⟩
 ·
  clear H e
  rintro T1 _ w4 (H : Cx w0 fp0 S0 w4 [Es (List Int) weights_ weights_h, Es (List (Int × Int × List Int × List Int)) g__1 g__1h])
  refine boolE (z := false) geLen ?_
  refine sq ?_
  cases f0
  exact ⟨_, _, rfl, ⟨rfl, rfl⟩, (H.sel [] rfl).close trivial⟩

theorem spec_cpChange_c (r__0 : ByteArray) (r__1_0 : List (Int × Int × ByteArray)) (r__1_0h : Hd) (r__2_0 : List (Int × Int × ByteArray)) (r__2_0h : Hd) (weights_ : List Int) (weights_h : Hd) (y : Int) (hF : F_spec_cpChange (r__0, r__1_0, r__2_0) weights_ = some y) :
  ConF Tryz.prog 34 #[(.agg #[(.string r__0), (r__1_0h).v, (r__2_0h).v]), (weights_h).v] [Es (List (Int × Int × ByteArray)) r__1_0 r__1_0h, Es (List (Int × Int × ByteArray)) r__2_0 r__2_0h, Es (List Int) weights_ weights_h] [] (fun v Γ' => v = (.int .i64 y) ∧ Γ' = []) := by
 intro w0 S0 fp0 hI hS
 have H : Cx w0 fp0 S0 w0 [Es (List (Int × Int × ByteArray)) r__1_0 r__1_0h, Es (List (Int × Int × ByteArray)) r__2_0 r__2_0h, Es (List Int) weights_ weights_h] := Cx.start hI hS
 clear hI hS
 refine enterC (args := [_, _]) gok Tryz.func34 rfl _ rfl rfl rfl ?_
 refine box_ H ?_; clear H; intro b5 w4 hx H
 clear hx
 refine loadN [(.string r__0), (r__1_0h).v, (r__2_0h).v] rfl (fun j u hj => H.bx 0 rfl hj) ?_
 obtain ⟨y7, e, hF8⟩ := bindS hF; clear hF
 obtain ⟨⟨y7_0_0, y7_0_1, y7_0_2, y7_0_3⟩, ⟨y7_1_0, y7_1_1, y7_1_2, y7_1_3⟩, y7_2⟩ := y7
 have ey7 := e; clear e
 refine callS (spec_rwSides_c r__0 r__1_0 r__1_0h r__2_0 r__2_0h y7_0_0 y7_0_1 y7_0_2 y7_0_3 y7_1_0 y7_1_1 y7_1_2 y7_1_3 y7_2 ey7) (Γi := []) H [1, 2] rfl (persC persS (persC persS persN)) ?_; clear H ey7
 rintro _ _ w9 ⟨h0, h1, h2, h3, h4, h5, rfl, rfl⟩ H
 refine alloc_ gok rfl H ?_; clear H; intro b0 w1 hx H
 clear hx
 refine alloc_ gok rfl H ?_; clear H; intro b1 w2 hx H
 clear hx
 replace H := H.sel [1, 0, 2, 3, 4, 5, 6, 7, 8, 9, 10, 11] rfl
 refine stA gok [(.int .i64 y7_0_0), (h0).v, (h1).v, (h2).v] rfl H rfl rfl rfl ?_; clear H; intro w3 H
 replace H := H.sel [1, 0, 2, 3, 4, 5, 6, 7, 8, 9, 10, 11] rfl
 refine stA gok [(.int .i64 y7_1_0), (h3).v, (h4).v, (h5).v] rfl H rfl rfl rfl ?_; clear H; intro w5 H
 refine heldX H [] (.fst 1 (.fst 4 (.fst 0 (.fst 3 (.act 2 (.act 5 (.fst 6 (.fst 7 .done)))))))) mixed [] trivial (by kernel_rfl) ?_
 clear H; intro w6 H
 have hX : Ext w6 w6 := Upd.refl _ _
 have H0 := H
 refine loadNX [(.int .i64 y7_1_0), (h3).v, (h4).v, (h5).v] rfl (fun j u hj => H.bx 0 rfl hj) ?_
 refine loadNX [(.int .i64 y7_0_0), (h0).v, (h1).v, (h2).v] rfl (fun j u hj => H.bx 1 rfl hj) ?_
 obtain ⟨y0, e, f0⟩ := bindS hF8; clear hF8
 have ey31 := e; clear e
 refine callFx (spec_cpWeight_c y7_1_0 y7_1_1 h3 y7_1_2 h4 y7_1_3 h5 weights_ weights_h y0 ey31) H ⟨Vw.sh 5 rfl, Vw.sh 6 rfl, Vw.sh 7 rfl, Vw.sh 11 rfl, trivial⟩ ?_; clear H ey31
 rintro _ _ w7 ⟨rfl, rfl⟩ hx H
 replace hX := hX.trans0 hx; clear hx
 refine hold hX ?_
 obtain ⟨y1, e, f1⟩ := bindS f0; clear f0
 have ey34 := e; clear e
 refine callFx (spec_cpWeight_c y7_0_0 y7_0_1 h0 y7_0_2 h1 y7_0_3 h2 weights_ weights_h y1 ey34) H ⟨Vw.sh 2 rfl, Vw.sh 3 rfl, Vw.sh 4 rfl, Vw.sh 11 rfl, trivial⟩ ?_; clear H ey34
 rintro _ _ w8 ⟨rfl, rfl⟩ hx H
 replace hX := hX.trans0 hx; clear hx
 refine hold hX ?_
 obtain ⟨a0, e, f2⟩ := bindS f1; clear f1
 refine arO e ?_; clear e
 cases f2
 exact ⟨_, _, rfl, ⟨rfl, rfl⟩, (H.sel [] rfl).close trivial⟩

theorem spec_cpDecrease_c (rules_ : List (ByteArray × (List (Int × Int × ByteArray)) × (List (Int × Int × ByteArray)))) (rules_h : Hd) (weights_ : List Int) (weights_h : Hd) (y : Bool) (hF : F_spec_cpDecrease rules_ weights_ = some y) :
  ConF Tryz.prog 18 #[(rules_h).v, (weights_h).v] [Es (List (ByteArray × (List (Int × Int × ByteArray)) × (List (Int × Int × ByteArray)))) rules_ rules_h, Es (List Int) weights_ weights_h] [] (fun v Γ' => v = (.bool y) ∧ Γ' = []) := by
 intro w0 S0 fp0 hI hS
 have H : Cx w0 fp0 S0 w0 [Es (List (ByteArray × (List (Int × Int × ByteArray)) × (List (Int × Int × ByteArray)))) rules_ rules_h, Es (List Int) weights_ weights_h] := Cx.start hI hS
 clear hI hS
 refine enterC (args := [_, _]) gok Tryz.func18 rfl _ rfl rfl rfl ?_
 refine sq ?_
 refine lenE (H.rs (α := List (ByteArray × (List (Int × Int × ByteArray)) × (List (Int × Int × ByteArray)))) 0 rfl).len ?_
 have x0 := (H.rs (α := List (ByteArray × (List (Int × Int × ByteArray)) × (List (Int × Int × ByteArray)))) 0 rfl).max
 obtain ⟨r0, e, f0⟩ := bindS hF; clear hF
 refine loopO _ rules_.length (fun (k3 : Nat) (_ : Unit) (_ : Unit) => [(1, (weights_h).v), (7, (rules_h).v), (8, (.int .i64 ((rules_.length : Nat) : Int))), (9, (.int .i64 ((k3 : Nat) : Int)))]) (fun _ (_ : Unit) (_ : Unit) w' => Cx w0 fp0 S0 w' [Es (List Int) weights_ weights_h, Es (List (ByteArray × (List (Int × Int × ByteArray)) × (List (Int × Int × ByteArray)))) rules_ rules_h]) () () e ⟨rfl, rfl, rfl, rfl, trivial⟩ (H.sel [1, 0] rfl) ?_ ?_
 ·
  clear H e
  rintro T0 k3 _ _ w1 o0 hk (H : Cx w0 fp0 S0 w1 [Es (List Int) weights_ weights_h, Es (List (ByteArray × (List (Int × Int × ByteArray)) × (List (Int × Int × ByteArray)))) rules_ rules_h]) hrt f1
  refine boolE (z := true) (ltLen hk) ?_
  refine sq ?_
  refine sq ?_
  obtain ⟨a0, e, f2⟩ := bindS f1; clear f1
  have HH := H; clear H; obtain ⟨p0, m0, g0, c0, c1, c2, c3, H⟩ := HH.el (α := ByteArray × (List (Int × Int × ByteArray)) × (List (Int × Int × ByteArray))) 1 rfl e; clear HH
  clear e
  obtain ⟨a0_0, a0_1_0, a0_2_0⟩ := a0
  obtain ⟨_, h0, h1⟩ := g0
  replace H := H.part (β := List (Int × Int × ByteArray)) a0_1_0 (h0 : Hd) 0 rfl (fun S h => (And.left (And.right h)))
  replace H := H.part (β := List (Int × Int × ByteArray)) a0_2_0 (h1 : Hd) 1 rfl (fun S h => (And.right (And.right h)))
  replace H := H.sel [0, 1, 3, 4] rfl
  refine idxE c0 c1 c2 ?_; clear c0 c1 c2
  refine loadN [(.string a0_0), (h0).v, (h1).v] rfl c3 ?_; clear c3
  refine alloc_ gok rfl H ?_; clear H; intro b0 w2 hx H
  clear hx
  refine stA gok [(.string a0_0), (h0).v, (h1).v] rfl H rfl rfl rfl ?_; clear H; intro w3 H
  refine loadN [(.string a0_0), (h0).v, (h1).v] rfl (fun j u hj => H.bx 0 rfl hj) ?_
  obtain ⟨y0, e, f3⟩ := bindS f2; clear f2
  have ey58 := e; clear e
  refine callF (spec_cpChange_c a0_0 a0_1_0 h0 a0_2_0 h1 weights_ weights_h y0 ey58) (Γi := []) H ⟨Vw.sh 2 rfl, Vw.sh 1 rfl, Vw.sh 3 rfl, trivial⟩ ?_; clear H ey58
  rintro _ _ w4 ⟨rfl, rfl⟩ H
  obtain ⟨a1, e, f4⟩ := bindS f3; clear f3
  refine boolO e ?_; clear e
  cases a1
  ·
   have f5 := condF f4; clear f4
   refine arK hk x0 ?_
   have hs := Option.some.inj f5; subst hs; clear f5
   exact ⟨(), (), rfl, ⟨rfl, rfl, rfl, rfl, trivial⟩, H.sel [3, 4] rfl⟩
  ·
   have f6 := condT f4; clear f4
   have hs := Option.some.inj f6; subst hs; clear f6
   have hr := hrt _ rfl; subst hr
   have f7 : some _ = some _ := f0
   cases f7
   exact ⟨_, _, rfl, ⟨rfl, rfl⟩, (H.sel [] rfl).close trivial⟩
 ·
  clear H e
  rintro T1 _ _ w5 hr (H : Cx w0 fp0 S0 w5 [Es (List Int) weights_ weights_h, Es (List (ByteArray × (List (Int × Int × ByteArray)) × (List (Int × Int × ByteArray)))) rules_ rules_h])
  subst hr
  refine boolE (z := false) geLen ?_
  refine sq ?_
  cases f0
  exact ⟨_, _, rfl, ⟨rfl, rfl⟩, (H.sel [] rfl).close trivial⟩

theorem spec_FindWeights_c (rules_ : List (ByteArray × (List (Int × Int × ByteArray)) × (List (Int × Int × ByteArray)))) (rules_h : Hd) (most_ : Int) (y0 : List Int) (y1 : Bool) (hF : F_spec_FindWeights rules_ most_ = some (y0, y1)) :
  ConF Tryz.prog 5 #[(rules_h).v, (.int .i64 most_)] [Es (List (ByteArray × (List (Int × Int × ByteArray)) × (List (Int × Int × ByteArray)))) rules_ rules_h] [] (fun v Γ' => ∃ z0 : Hd, v = (.tuple #[(z0).v, (.bool y1)]) ∧ Γ' = [E (List Int) y0 z0]) := by
 intro w0 S0 fp0 hI hS
 have H : Cx w0 fp0 S0 w0 [Es (List (ByteArray × (List (Int × Int × ByteArray)) × (List (Int × Int × ByteArray)))) rules_ rules_h] := Cx.start hI hS
 clear hI hS
 refine enterC (args := [_, _]) gok Tryz.func5 rfl _ rfl rfl rfl ?_
 refine sq ?_
 obtain ⟨r0, f0, f1⟩ := bindS hF; clear hF
 refine cut (fun (q0 : Bool) => [(0, (rules_h).v), (1, (.int .i64 most_)), (26, (.bool q0))]) (fun (q0 : Bool) w' => q0 = r0 ∧ Cx w0 fp0 S0 w' [Es (List (ByteArray × (List (Int × Int × ByteArray)) × (List (Int × Int × ByteArray)))) rules_ rules_h]) ?_ ?_
 ·
  obtain ⟨y2, e, f2⟩ := bindS f0; clear f0
  have ey20 := e; clear e
  refine callF (spec_dvRules_c rules_ rules_h y2 ey20) (Γi := []) H ⟨Vw.sh 0 rfl, trivial⟩ ?_; clear H ey20
  rintro _ _ w1 ⟨rfl, rfl⟩ H
  obtain ⟨a0, e, f3⟩ := bindS f2; clear f2
  refine boolO e ?_; clear e
  cases a0
  ·
   have f4 := condF f3; clear f3
   obtain ⟨y3, e, f5⟩ := bindS f4; clear f4
   have ey26 := e; clear e
   refine callF (spec_l1In_c most_ 0 3 y3 ey26) (Γi := []) H trivial ?_; clear H ey26
   rintro _ _ w2 ⟨rfl, rfl⟩ H
   obtain ⟨a1, e, f6⟩ := bindS f5; clear f5
   refine boolO e ?_; clear e
   exact ⟨a1, ⟨rfl, rfl, rfl, trivial⟩, Option.some.inj f6, H.sel [0] rfl⟩
  ·
   have f7 := condT f3; clear f3
   exact ⟨true, ⟨rfl, rfl, rfl, trivial⟩, Option.some.inj f7, H.sel [0] rfl⟩
 ·
  clear f0 H
  rintro T0 s0 w3 ⟨hr, (H : Cx w0 fp0 S0 w3 [Es (List (ByteArray × (List (Int × Int × ByteArray)) × (List (Int × Int × ByteArray)))) rules_ rules_h])⟩
  subst hr
  cases s0
  ·
   have f8 := condF f1; clear f1
   refine sq ?_
   refine lenE (H.rs (α := List (ByteArray × (List (Int × Int × ByteArray)) × (List (Int × Int × ByteArray)))) 0 rfl).len ?_
   have x0 := (H.rs (α := List (ByteArray × (List (Int × Int × ByteArray)) × (List (Int × Int × ByteArray)))) 0 rfl).max
   obtain ⟨r1, e, f9⟩ := bindS f8; clear f8
   replace H := H.nil (α := Int)
   replace H := H.frz
   refine loopS _ rules_.length (fun (k0 : Nat) (s1 : List Int) (g0 : Hd) => [(0, (rules_h).v), (1, (.int .i64 most_)), (6, (g0).v), (27, (rules_h).v), (28, (.int .i64 ((rules_.length : Nat) : Int))), (29, (.int .i64 ((k0 : Nat) : Int)))]) (fun _ (s1 : List Int) (g0 : Hd) w' => Cx w0 fp0 S0 w' [Es (List (ByteArray × (List (Int × Int × ByteArray)) × (List (Int × Int × ByteArray)))) rules_ rules_h, Es (List Int) s1 g0]) [] nilH e ⟨rfl, rfl, rfl, rfl, rfl, rfl, trivial⟩ (H.sel [1, 0] rfl) ?_ ?_
   ·
    clear H e
    rintro T1 k0 s1 g0 w4 o0 hk (H : Cx w0 fp0 S0 w4 [Es (List (ByteArray × (List (Int × Int × ByteArray)) × (List (Int × Int × ByteArray)))) rules_ rules_h, Es (List Int) s1 g0]) f10
    refine boolE (z := true) (ltLen hk) ?_
    refine sq ?_
    refine sq ?_
    obtain ⟨a2, e, f11⟩ := bindS f10; clear f10
    have HH := H; clear H; obtain ⟨p0, m0, g1, c0, c1, c2, c3, H⟩ := HH.el (α := ByteArray × (List (Int × Int × ByteArray)) × (List (Int × Int × ByteArray))) 0 rfl e; clear HH
    clear e
    obtain ⟨a2_0, a2_1_0, a2_2_0⟩ := a2
    obtain ⟨_, h0, h1⟩ := g1
    replace H := H.part (β := List (Int × Int × ByteArray)) a2_1_0 (h0 : Hd) 0 rfl (fun S h => (And.left (And.right h)))
    replace H := H.part (β := List (Int × Int × ByteArray)) a2_2_0 (h1 : Hd) 1 rfl (fun S h => (And.right (And.right h)))
    replace H := H.sel [0, 1, 3, 4] rfl
    refine idxE c0 c1 c2 ?_; clear c0 c1 c2
    refine loadN [(.string a2_0), (h0).v, (h1).v] rfl c3 ?_; clear c3
    refine alloc_ gok rfl H ?_; clear H; intro b0 w5 hx H
    clear hx
    refine stA gok [(.string a2_0), (h0).v, (h1).v] rfl H rfl rfl rfl ?_; clear H; intro w6 H
    refine loadN [(.string a2_0), (h0).v, (h1).v] rfl (fun j u hj => H.bx 0 rfl hj) ?_
    obtain ⟨y4, e, f12⟩ := bindS f11; clear f11
    obtain ⟨⟨y4_0_0, y4_0_1, y4_0_2, y4_0_3⟩, ⟨y4_1_0, y4_1_1, y4_1_2, y4_1_3⟩, y4_2⟩ := y4
    have ey334 := e; clear e
    refine callS (spec_rwSides_c a2_0 a2_1_0 h0 a2_2_0 h1 y4_0_0 y4_0_1 y4_0_2 y4_0_3 y4_1_0 y4_1_1 y4_1_2 y4_1_3 y4_2 ey334) (Γi := []) H [2, 1] rfl (persC persS (persC persS persN)) ?_; clear H ey334
    rintro _ _ w7 ⟨h2, h3, h4, h5, h6, h7, rfl, rfl⟩ H
    refine alloc_ gok rfl H ?_; clear H; intro b1 w8 hx H
    clear hx
    refine alloc_ gok rfl H ?_; clear H; intro b2 w9 hx H
    clear hx
    replace H := H.sel [1, 0, 2, 3, 4, 5, 6, 7, 8, 9, 10, 11, 12] rfl
    refine stA gok [(.int .i64 y4_0_0), (h2).v, (h3).v, (h4).v] rfl H rfl rfl rfl ?_; clear H; intro w10 H
    replace H := H.sel [1, 0, 2, 3, 4, 5, 6, 7, 8, 9, 10, 11, 12] rfl
    refine stA gok [(.int .i64 y4_1_0), (h5).v, (h6).v, (h7).v] rfl H rfl rfl rfl ?_; clear H; intro w11 H
    refine fld gok rfl rfl rfl rfl ?_
    refine load1 (H.bx 1 rfl (j := 1) rfl) ?_
    refine lenE (H.rs (α := List (Int × Int × List Int × List Int)) 2 rfl).len ?_
    have x1 := (H.rs (α := List (Int × Int × List Int × List Int)) 2 rfl).max
    obtain ⟨r2, e, f13⟩ := bindS f12; clear f12
    refine loopS _ y4_0_1.length (fun (k1 : Nat) (s2 : List Int) (g2 : Hd) => [(0, (rules_h).v), (1, (.int .i64 most_)), (6, (g2).v), (27, (rules_h).v), (28, (.int .i64 ((rules_.length : Nat) : Int))), (29, (.int .i64 ((k0 : Nat) : Int))), (40, (h2).v), (41, (.int .i64 ((y4_0_1.length : Nat) : Int))), (42, (.int .i64 ((k1 : Nat) : Int)))]) (fun _ (s2 : List Int) (g2 : Hd) w' => Cx w0 fp0 S0 w' [Es (List (ByteArray × (List (Int × Int × ByteArray)) × (List (Int × Int × ByteArray)))) rules_ rules_h, Es (List Int) s2 g2, Es (List (Int × Int × List Int × List Int)) y4_0_1 h2]) s1 g0 e ⟨rfl, rfl, rfl, rfl, rfl, rfl, rfl, rfl, rfl, trivial⟩ (H.sel [11, 12, 2] rfl) ?_ ?_
    ·
     clear H e
     rintro T2 k1 s2 g2 w12 o1 hk (H : Cx w0 fp0 S0 w12 [Es (List (ByteArray × (List (Int × Int × ByteArray)) × (List (Int × Int × ByteArray)))) rules_ rules_h, Es (List Int) s2 g2, Es (List (Int × Int × List Int × List Int)) y4_0_1 h2]) f14
     refine boolE (z := true) (ltLen hk) ?_
     refine sq ?_
     refine sq ?_
     obtain ⟨a3, e, f15⟩ := bindS f14; clear f14
     have HH := H; clear H; obtain ⟨p1, m1, g3, c4, c5, c6, c7, H⟩ := HH.el (α := Int × Int × List Int × List Int) 2 rfl e; clear HH
     clear e
     obtain ⟨a3_0, a3_1, a3_2, a3_3⟩ := a3
     obtain ⟨_, _, h8, h9⟩ := g3
     replace H := H.part (β := List Int) a3_2 (h8 : Hd) 0 rfl (fun S h => (And.left (And.right (And.right h))))
     replace H := H.part (β := List Int) a3_3 (h9 : Hd) 1 rfl (fun S h => (And.right (And.right (And.right h))))
     replace H := H.sel [0, 1, 3, 4, 5] rfl
     refine idxE c4 c5 c6 ?_; clear c4 c5 c6
     refine loadN [(.int .i64 a3_0), (.int .i64 a3_1), (h8).v, (h9).v] rfl c7 ?_; clear c7
     refine alloc_ gok rfl H ?_; clear H; intro b3 w13 hx H
     clear hx
     refine stA gok [(.int .i64 a3_0), (.int .i64 a3_1), (h8).v, (h9).v] rfl H rfl rfl rfl ?_; clear H; intro w14 H
     refine fld gok rfl rfl rfl rfl ?_
     refine load1 (H.bx 0 rfl (j := 0) rfl) ?_
     obtain ⟨y5, e, f16⟩ := bindS f15; clear f15
     have ey437 := e; clear e
     refine callS (spec_l1Put_c s2 g2 a3_0 y5 ey437) (Γi := []) H [4] rfl (persC persS persN) ?_; clear H ey437
     rintro _ _ w15 ⟨h10, rfl, rfl⟩ H
     refine arK hk x1 ?_
     have hs := Option.some.inj f16; subst hs; clear f16
     exact ⟨h10, ⟨rfl, rfl, rfl, rfl, rfl, rfl, rfl, rfl, rfl, trivial⟩, H.sel [4, 0, 6] rfl⟩
    ·
     clear H e
     rintro T3 g4 w16 (H : Cx w0 fp0 S0 w16 [Es (List (ByteArray × (List (Int × Int × ByteArray)) × (List (Int × Int × ByteArray)))) rules_ rules_h, Es (List Int) r2 g4, Es (List (Int × Int × List Int × List Int)) y4_0_1 h2])
     refine boolE (z := false) geLen ?_
     refine sq ?_
     refine arK hk x0 ?_
     have hs := Option.some.inj f13; subst hs; clear f13
     exact ⟨g4, ⟨rfl, rfl, rfl, rfl, rfl, rfl, trivial⟩, H.sel [0, 1] rfl⟩
   ·
    clear H e
    rintro T4 g5 w17 (H : Cx w0 fp0 S0 w17 [Es (List (ByteArray × (List (Int × Int × ByteArray)) × (List (Int × Int × ByteArray)))) rules_ rules_h, Es (List Int) r1 g5])
    refine boolE (z := false) geLen ?_
    refine sq ?_
    refine sq ?_
    refine lenE (H.rs (α := List Int) 1 rfl).len ?_
    obtain ⟨a4, e, f17⟩ := bindS f9; clear f9
    refine boolO e ?_; clear e
    cases a4
    ·
     have f18 := condF f17; clear f17
     refine sq ?_
     refine lenE (H.rs (α := List Int) 1 rfl).len ?_
     have x2 := (H.rs (α := List Int) 1 rfl).max
     obtain ⟨r3, e, f19⟩ := bindS f18; clear f18
     refine loopS _ r1.length (fun (k2 : Nat) (s3 : Int) (_ : Unit) => [(0, (rules_h).v), (1, (.int .i64 most_)), (6, (g5).v), (14, (.int .i64 s3)), (56, (.int .i64 ((r1.length : Nat) : Int))), (57, (.int .i64 ((k2 : Nat) : Int)))]) (fun _ (s3 : Int) (_ : Unit) w' => Cx w0 fp0 S0 w' [Es (List (ByteArray × (List (Int × Int × ByteArray)) × (List (Int × Int × ByteArray)))) rules_ rules_h, Es (List Int) r1 g5]) 1 () e ⟨rfl, rfl, rfl, rfl, rfl, rfl, trivial⟩ (H.sel [0, 1] rfl) ?_ ?_
     ·
      clear H e
      rintro T5 k2 s3 _ w18 o2 hk (H : Cx w0 fp0 S0 w18 [Es (List (ByteArray × (List (Int × Int × ByteArray)) × (List (Int × Int × ByteArray)))) rules_ rules_h, Es (List Int) r1 g5]) f20
      refine boolE (z := true) (ltLen hk) ?_
      refine sq ?_
      refine sq ?_
      obtain ⟨a5, e, f21⟩ := bindS f20; clear f20
      refine arO e ?_; clear e
      obtain ⟨a6, e, f22⟩ := bindS f21; clear f21
      refine arO e ?_; clear e
      refine arK hk x2 ?_
      have hs := Option.some.inj f22; subst hs; clear f22
      exact ⟨(), ⟨rfl, rfl, rfl, rfl, rfl, rfl, trivial⟩, H.sel [0, 1] rfl⟩
     ·
      clear H e
      rintro T6 _ w19 (H : Cx w0 fp0 S0 w19 [Es (List (ByteArray × (List (Int × Int × ByteArray)) × (List (Int × Int × ByteArray)))) rules_ rules_h, Es (List Int) r1 g5])
      refine boolE (z := false) geLen ?_
      refine sq ?_
      obtain ⟨r4, f23, f24⟩ := bindS f19; clear f19
      refine cut (fun (q1 : Unit) => []) (fun (q1 : Unit) w' => .inl () = r4 ∧ Cx w0 fp0 S0 w' []) ?_ ?_
      ·
       refine loopW _ (fun (s4 : Int) (_ : Unit) => [(0, (rules_h).v), (1, (.int .i64 most_)), (6, (g5).v), (14, (.int .i64 r3)), (15, (.int .i64 s4))]) (fun (s4 : Int) (_ : Unit) w' => Cx w0 fp0 S0 w' [Es (List (ByteArray × (List (Int × Int × ByteArray)) × (List (Int × Int × ByteArray)))) rules_ rules_h, Es (List Int) r1 g5]) 0 () f23 ⟨rfl, rfl, rfl, rfl, rfl, trivial⟩ (H.sel [0, 1] rfl) ?_
       ·
        clear H
        rintro T7 s4 _ w20 o3 (H : Cx w0 fp0 S0 w20 [Es (List (ByteArray × (List (Int × Int × ByteArray)) × (List (Int × Int × ByteArray)))) rules_ rules_h, Es (List Int) r1 g5]) hrt f25
        refine sq ?_
        obtain ⟨a7, e, f26⟩ := bindS f25; clear f25
        refine boolO e ?_; clear e
        cases a7
        ·
         have f27 := condF f26; clear f26
         have hs := Option.some.inj f27; subst hs; clear f27
         have f28 : some _ = some _ := congrArg some (hrt _ rfl).symm
         exact ⟨(), trivial, Option.some.inj f28, H.sel [] rfl⟩
        ·
         have f29 := condT f26; clear f26
         refine sq ?_
         obtain ⟨a8, e, f30⟩ := bindS f29; clear f29
         refine make_ (α := Int) gok rfl rfl rfl rfl (makeCO_of e) H ?_; clear e H; intro h11 w21 hx H
         clear hx
         obtain ⟨r5, f31, f32⟩ := bindS f30; clear f30
         refine cut (fun (q2 : List Int) => [(0, (rules_h).v), (1, (.int .i64 most_)), (6, (g5).v), (14, (.int .i64 r3)), (15, (.int .i64 s4)), (16, (h11).v)]) (fun (q2 : List Int) w' => q2 = r5 ∧ Cx w0 fp0 S0 w' [Es (List (ByteArray × (List (Int × Int × ByteArray)) × (List (Int × Int × ByteArray)))) rules_ rules_h, Es (List Int) r1 g5, E (List Int) q2 h11]) ?_ ?_
         ·
          refine lenE (H.rs (α := List Int) 2 rfl).len ?_
          obtain ⟨a9, e, f33⟩ := bindS f31; clear f31
          refine arO e ?_; clear e
          refine loopW _ (fun (s5 : List Int × Int × Int) (_ : Unit) => [(0, (rules_h).v), (1, (.int .i64 most_)), (6, (g5).v), (14, (.int .i64 r3)), (15, (.int .i64 s4)), (16, (h11).v), (17, (.int .i64 s5.2.1)), (18, (.int .i64 s5.2.2))]) (fun (s5 : List Int × Int × Int) (_ : Unit) w' => Cx w0 fp0 S0 w' [Es (List (ByteArray × (List (Int × Int × ByteArray)) × (List (Int × Int × ByteArray)))) rules_ rules_h, Es (List Int) r1 g5, E (List Int) s5.1 h11]) (a8, s4, a9) () f33 ⟨rfl, rfl, rfl, rfl, rfl, rfl, rfl, rfl, trivial⟩ (H.sel [1, 2, 0] rfl) ?_
          ·
           clear H
           rintro T8 ⟨s5_0, s5_1, s5_2⟩ _ w23 o4 (H : Cx w0 fp0 S0 w23 [Es (List (ByteArray × (List (Int × Int × ByteArray)) × (List (Int × Int × ByteArray)))) rules_ rules_h, Es (List Int) r1 g5, E (List Int) s5_0 h11]) hrt f34
           refine sq ?_
           obtain ⟨a10, e, f35⟩ := bindS f34; clear f34
           refine boolO e ?_; clear e
           cases a10
           ·
            have f36 := condF f35; clear f35
            have hs := Option.some.inj f36; subst hs; clear f36
            have f37 : some _ = some _ := congrArg some (hrt _ rfl).symm
            exact ⟨s5_0, ⟨rfl, rfl, rfl, rfl, rfl, rfl, trivial⟩, Option.some.inj f37, H.sel [0, 1, 2] rfl⟩
           ·
            have f38 := condT f35; clear f35
            refine sq ?_
            refine heldX H [11] (.fst 0 (.fst 1 (.fst 2 (.fst 3 (.fst 6 (.fst 7 (.fst 8 (.fst 9 (.fst 4 (.fst 5 (.fst 10 (.act 11 .done)))))))))))) mixed [] trivial (by kernel_rfl) ?_
            clear H; intro w24 H
            have hX : Ext w24 w24 := Upd.refl _ _
            have H0 := H
            obtain ⟨a11, e, f39⟩ := bindS f38; clear f38
            obtain ⟨p2, m2, c8, c9, c10, c11⟩ := (H.rs (α := List Int) 1 rfl).at1 e; clear e
            refine idxE c8 c9 c10 ?_; clear c8 c9 c10
            obtain ⟨a12, e, f40⟩ := bindS f39; clear f39
            refine arO e ?_; clear e
            obtain ⟨a13, e, f41⟩ := bindS f40; clear f40
            refine remO_ e ?_; clear e
            refine load1X c11 ?_; clear c11
            obtain ⟨a14, e, f42⟩ := bindS f41; clear f41
            refine arO e ?_; clear e
            obtain ⟨a15, e, f43⟩ := bindS f42; clear f42
            have ea2062 := e; clear e
            obtain ⟨p3, m3, c12, c13, c14⟩ := (H.ro (α := List Int) 2 rfl).setp ea2062
            refine idxE c12 c13 c14 ?_
            replace H := H.sel [2, 0, 1] rfl
            refine setS (α := Int) H c12 c13 ea2062 ?_; clear H c12 c13 c14 ea2062; intro w25 H
            refine hold trivial ?_
            obtain ⟨a16, e, f44⟩ := bindS f43; clear f43
            refine arO e ?_; clear e
            obtain ⟨a17, e, f45⟩ := bindS f44; clear f44
            refine quoO_ e ?_; clear e
            obtain ⟨a18, e, f46⟩ := bindS f45; clear f45
            refine arO e ?_; clear e
            have hs := Option.some.inj f46; subst hs; clear f46
            exact ⟨(a15, a17, a18), (), rfl, ⟨rfl, rfl, rfl, rfl, rfl, rfl, rfl, rfl, trivial⟩, H.sel [1, 2, 0] rfl⟩
         ·
          clear f31 H
          rintro T9 s6 w26 ⟨hr, (H : Cx w0 fp0 S0 w26 [Es (List (ByteArray × (List (Int × Int × ByteArray)) × (List (Int × Int × ByteArray)))) rules_ rules_h, Es (List Int) r1 g5, E (List Int) s6 h11])⟩
          subst hr
          obtain ⟨y6, e, f47⟩ := bindS f32; clear f32
          have ey2073 := e; clear e
          refine callF (spec_cpDecrease_c rules_ rules_h s6 h11 y6 ey2073) (Γi := []) H ⟨Vw.sh 0 rfl, Vw.own 2 rfl, trivial⟩ ?_; clear H ey2073
          rintro _ _ w27 ⟨rfl, rfl⟩ H
          cases y6
          ·
           have f48 := condF f47; clear f47
           obtain ⟨a19, e, f49⟩ := bindS f48; clear f48
           refine arO e ?_; clear e
           have hs := Option.some.inj f49; subst hs; clear f49
           exact ⟨a19, (), rfl, ⟨rfl, rfl, rfl, rfl, rfl, trivial⟩, H.sel [0, 1] rfl⟩
          ·
           have f50 := condT f47; clear f47
           have hs := Option.some.inj f50; subst hs; clear f50
           have f51 : some _ = some _ := congrArg some (hrt _ rfl).symm
           have hs := Option.some.inj f51; subst hs; clear f51
           have f52 : some _ = some _ := f24; clear f24
           cases f52
           exact ⟨_, _, rfl, ⟨h11, rfl, rfl⟩, (H.sel [2] rfl).close ⟨cloE, trivial⟩⟩
      ·
       clear f23 H
       rintro T10 _ w29 ⟨hr, (H : Cx w0 fp0 S0 w29 [])⟩
       subst hr
       replace H := H.nil (α := Int)
       cases f24
       exact ⟨_, _, rfl, ⟨nilH, rfl, rfl⟩, (H.sel [0] rfl).close ⟨cloE, trivial⟩⟩
    ·
     have f53 := condT f17; clear f17
     replace H := H.nil (α := Int)
     cases f53
     exact ⟨_, _, rfl, ⟨nilH, rfl, rfl⟩, (H.sel [0] rfl).close ⟨cloE, trivial⟩⟩
  ·
   have f54 := condT f1; clear f1
   replace H := H.nil (α := Int)
   cases f54
   exact ⟨_, _, rfl, ⟨nilH, rfl, rfl⟩, (H.sel [0] rfl).close ⟨cloE, trivial⟩⟩

theorem impl_within_c (n_ : Int) (low_ : Int) (high_ : Int) (y : Bool) (hF : F_impl_within n_ low_ high_ = some y) :
  ConF Tryz.prog 21 #[(.int .i64 n_), (.int .i64 low_), (.int .i64 high_)] [] [] (fun v Γ' => v = (.bool y) ∧ Γ' = []) := by
 intro w0 S0 fp0 hI hS
 have H : Cx w0 fp0 S0 w0 [] := Cx.start hI hS
 clear hI hS
 refine enterC (args := [_, _, _]) gok Tryz.func21 rfl _ rfl rfl rfl ?_
 obtain ⟨r9, f0, f1⟩ := bindS hF; clear hF
 refine cut (fun (q0 : Bool) => [(6, (.bool q0))]) (fun (q0 : Bool) w' => q0 = r9 ∧ Cx w0 fp0 S0 w' []) ?_ ?_
 ·
  obtain ⟨a0, e, f2⟩ := bindS f0; clear f0
  refine boolO e ?_; clear e
  cases a0
  ·
   have f3 := condF f2; clear f2
   exact ⟨false, ⟨rfl, trivial⟩, Option.some.inj f3, H.sel [] rfl⟩
  ·
   have f4 := condT f2; clear f2
   obtain ⟨a1, e, f5⟩ := bindS f4; clear f4
   refine boolO e ?_; clear e
   exact ⟨a1, ⟨rfl, trivial⟩, Option.some.inj f5, H.sel [] rfl⟩
 ·
  clear f0 H
  rintro T0 s7 w1 ⟨hr, (H : Cx w0 fp0 S0 w1 [])⟩
  subst hr
  cases f1
  exact ⟨_, _, rfl, ⟨rfl, rfl⟩, (H.sel [] rfl).close trivial⟩

theorem impl_wires_fit_c (w__0 : Int) (w__1 : Int) (y : Bool) (hF : F_impl_wires_fit (w__0, w__1) = some y) :
  ConF Tryz.prog 114 #[(.agg #[(.int .i64 w__0), (.int .i64 w__1)])] [] [] (fun v Γ' => v = (.bool y) ∧ Γ' = []) := by
 intro w0 S0 fp0 hI hS
 have H : Cx w0 fp0 S0 w0 [] := Cx.start hI hS
 clear hI hS
 refine enterC (args := [_]) gok Tryz.func114 rfl _ rfl rfl rfl ?_
 refine box_ H ?_; clear H; intro b2 w1 hx H
 clear hx
 obtain ⟨r0, f0, f1⟩ := bindS hF; clear hF
 refine cut (fun (q0 : Bool) => [(2, (.bool q0))]) (fun (q0 : Bool) w' => q0 = r0 ∧ Cx w0 fp0 S0 w' []) ?_ ?_
 ·
  refine fld gok rfl rfl rfl rfl ?_
  refine load1 (H.bx 0 rfl (j := 0) rfl) ?_
  obtain ⟨a0, e, f2⟩ := bindS f0; clear f0
  refine boolO e ?_; clear e
  cases a0
  ·
   have f3 := condF f2; clear f2
   exact ⟨false, ⟨rfl, trivial⟩, Option.some.inj f3, H.sel [] rfl⟩
  ·
   have f4 := condT f2; clear f2
   refine fld gok rfl rfl rfl rfl ?_
   refine load1 (H.bx 0 rfl (j := 1) rfl) ?_
   obtain ⟨a1, e, f5⟩ := bindS f4; clear f4
   refine boolO e ?_; clear e
   exact ⟨a1, ⟨rfl, trivial⟩, Option.some.inj f5, H.sel [] rfl⟩
 ·
  clear f0 H
  rintro T0 s0 w2 ⟨hr, (H : Cx w0 fp0 S0 w2 [])⟩
  subst hr
  cases f1
  exact ⟨_, _, rfl, ⟨rfl, rfl⟩, (H.sel [] rfl).close trivial⟩

theorem impl_joinWires_c (kind_ : Int) (a__0 : Int) (a__1 : Int) (b__0 : Int) (b__1 : Int) (y0_0 : Int) (y0_1 : Int) (y1 : Bool) (hF : F_impl_joinWires kind_ (a__0, a__1) (b__0, b__1) = some ((y0_0, y0_1), y1)) :
  ConF Tryz.prog 102 #[(.int .i64 kind_), (.agg #[(.int .i64 a__0), (.int .i64 a__1)]), (.agg #[(.int .i64 b__0), (.int .i64 b__1)])] [] [] (fun v Γ' => v = (.tuple #[(.agg #[(.int .i64 y0_0), (.int .i64 y0_1)]), (.bool y1)]) ∧ Γ' = []) := by
 intro w0 S0 fp0 hI hS
 have H : Cx w0 fp0 S0 w0 [] := Cx.start hI hS
 clear hI hS
 refine enterC (args := [_, _, _]) gok Tryz.func102 rfl _ rfl rfl rfl ?_
 refine box_ H ?_; clear H; intro b2 w1 hx H
 clear hx
 refine box_ H ?_; clear H; intro b5 w4 hx H
 clear hx
 refine alloc_ gok rfl H ?_; clear H; intro b8 w7 hx H
 clear hx
 refine sq ?_
 obtain ⟨a0, e, f0⟩ := bindS hF; clear hF
 refine boolO e ?_; clear e
 cases a0
 ·
  have f1 := condF f0; clear f0
  refine fld gok rfl rfl rfl rfl ?_
  refine load1 (H.bx 2 rfl (j := 0) rfl) ?_
  refine fld gok rfl rfl rfl rfl ?_
  refine load1 (H.bx 1 rfl (j := 0) rfl) ?_
  obtain ⟨a1, e, f2⟩ := bindS f1; clear f1
  refine arO e ?_; clear e
  refine fld gok rfl rfl rfl rfl ?_
  refine load1 (H.bx 2 rfl (j := 1) rfl) ?_
  refine fld gok rfl rfl rfl rfl ?_
  refine load1 (H.bx 1 rfl (j := 1) rfl) ?_
  obtain ⟨a2, e, f3⟩ := bindS f2; clear f2
  refine arO e ?_; clear e
  refine build_ (cs := #[(.int .i64 a1), (.int .i64 a2)]) gok rfl rfl rfl ?_
  refine alloc_ gok rfl H ?_; clear H; intro b0 w2 hx H
  clear hx
  refine stA gok [(.int .i64 a1), (.int .i64 a2)] rfl H rfl rfl rfl ?_; clear H; intro w3 H
  refine heldX H [3, 4] (.fst 0 (.fst 1 (.act 2 (.act 3 (.act 4 .done))))) mixed [] trivial (by kernel_rfl) ?_
  clear H; intro w5 H
  have hX : Ext w5 w5 := Upd.refl _ _
  have H0 := H
  refine loadNX [(.int .i64 a1), (.int .i64 a2)] rfl (fun j u hj => H.bx 0 rfl hj) ?_
  refine loadNX [(.int .i64 a1), (.int .i64 a2)] rfl (fun j u hj => H.bx 0 rfl hj) ?_
  obtain ⟨y0, e, f4⟩ := bindS f3; clear f3
  have ey22 := e; clear e
  refine callFx (impl_wires_fit_c a1 a2 y0 ey22) H trivial ?_; clear H ey22
  rintro _ _ w6 ⟨rfl, rfl⟩ hx H
  replace hX := hX.trans0 hx; clear hx
  refine hold hX ?_
  replace H := H.sel [1, 0, 2, 3] rfl
  refine stA gok [(.int .i64 a1), (.int .i64 a2)] rfl H rfl rfl rfl ?_; clear H; intro w8 H
  refine hold trivial ?_
  refine hold trivial ?_
  refine loadN [(.int .i64 a1), (.int .i64 a2)] rfl (fun j u hj => H.bx 0 rfl hj) ?_
  cases f4
  exact ⟨_, _, rfl, ⟨rfl, rfl⟩, (H.sel [] rfl).close trivial⟩
 ·
  have f5 := condT f0; clear f0
  refine heldX H [10, 11, 0, 1, 2, 3, 4, 5, 6, 7, 8, 9] (.pure 0 (.pure 1 (.pure 2 (.pure 3 (.pure 4 (.pure 5 (.pure 6 (.pure 7 (.pure 8 (.pure 9 (.act 10 (.act 11 .done)))))))))))) mixed [((Addr.add ⟨b2, 0, none⟩ 0), (.int .i64 a__0)), ((Addr.add ⟨b5, 0, none⟩ 1), (.int .i64 b__1)), ((Addr.add ⟨b2, 0, none⟩ 1), (.int .i64 a__1)), ((Addr.add ⟨b5, 0, none⟩ 0), (.int .i64 b__0))] ⟨H.bx 2 rfl (j := 0) rfl, H.bx 1 rfl (j := 1) rfl, H.bx 2 rfl (j := 1) rfl, H.bx 1 rfl (j := 0) rfl, trivial⟩ (by kernel_rfl) ?_
  clear H; intro w9 H
  have hX : Ext w9 w9 := Upd.refl _ _
  have H0 := H
  refine anyH (fun _ => fld gok rfl rfl rfl rfl ⟨rfl, rfl⟩) ?_
  refine load1W 0 rfl ?_
  refine anyH (fun _ => fld gok rfl rfl rfl rfl ⟨rfl, rfl⟩) ?_
  refine load1W 1 rfl ?_
  refine anyH (fun _ => build_ (cs := #[(.int .i64 a__0), (.int .i64 b__1)]) gok rfl rfl rfl ⟨rfl, rfl⟩) ?_
  refine anyH (fun _ => fld gok rfl rfl rfl rfl ⟨rfl, rfl⟩) ?_
  refine load1W 2 rfl ?_
  refine anyH (fun _ => fld gok rfl rfl rfl rfl ⟨rfl, rfl⟩) ?_
  refine load1W 3 rfl ?_
  obtain ⟨a3, e, f6⟩ := bindS f5; clear f5
  refine boolO e ?_; clear e
  refine stA gok [(.int .i64 a__0), (.int .i64 b__1)] rfl H rfl rfl rfl ?_; clear H; intro w10 H
  refine hold ⟨H.bx 2 rfl (j := 0) rfl, H.bx 1 rfl (j := 1) rfl, H.bx 2 rfl (j := 1) rfl, H.bx 1 rfl (j := 0) rfl, trivial⟩ ?_
  refine hold ⟨H.bx 2 rfl (j := 0) rfl, H.bx 1 rfl (j := 1) rfl, H.bx 2 rfl (j := 1) rfl, H.bx 1 rfl (j := 0) rfl, trivial⟩ ?_
  refine loadN [(.int .i64 a__0), (.int .i64 b__1)] rfl (fun j u hj => H.bx 0 rfl hj) ?_
  cases f6
  exact ⟨_, _, rfl, ⟨rfl, rfl⟩, (H.sel [] rfl).close trivial⟩

theorem impl_isGenerator_c (kind_ : Int) (y : Bool) (hF : F_impl_isGenerator kind_ = some y) :
  ConF Tryz.prog 103 #[(.int .i64 kind_)] [] [] (fun v Γ' => v = (.bool y) ∧ Γ' = []) := by
 intro w0 S0 fp0 hI hS
 have H : Cx w0 fp0 S0 w0 [] := Cx.start hI hS
 clear hI hS
 refine enterC (args := [_]) gok Tryz.func103 rfl _ rfl rfl rfl ?_
 obtain ⟨y1, e, hF2⟩ := bindS hF; clear hF
 have ey1 := e; clear e
 refine callF (impl_within_c kind_ 3 14 y1 ey1) (Γi := []) H trivial ?_; clear H ey1
 rintro _ _ w3 ⟨rfl, rfl⟩ H
 cases hF2
 exact ⟨_, _, rfl, ⟨rfl, rfl⟩, (H.sel [] rfl).close trivial⟩

theorem impl_generatorWires_c (kind_ : Int) (y_0 : Int) (y_1 : Int) (hF : F_impl_generatorWires kind_ = some (y_0, y_1)) :
  ConF Tryz.prog 87 #[(.int .i64 kind_)] [] [] (fun v Γ' => v = (.agg #[(.int .i64 y_0), (.int .i64 y_1)]) ∧ Γ' = []) := by
 intro w0 S0 fp0 hI hS
 have H : Cx w0 fp0 S0 w0 [] := Cx.start hI hS
 clear hI hS
 refine enterC (args := [_]) gok Tryz.func87 rfl _ rfl rfl rfl ?_
 refine alloc_ gok rfl H ?_; clear H; intro b2 w1 hx H
 clear hx
 refine build_ (cs := #[(.int .i64 1), (.int .i64 2)]) gok rfl rfl rfl ?_
 refine build_ (cs := #[(.int .i64 1), (.int .i64 0)]) gok rfl rfl rfl ?_
 refine build_ (cs := #[(.int .i64 2), (.int .i64 1)]) gok rfl rfl rfl ?_
 refine build_ (cs := #[(.int .i64 0), (.int .i64 1)]) gok rfl rfl rfl ?_
 refine build_ (cs := #[(.int .i64 1), (.int .i64 1)]) gok rfl rfl rfl ?_
 refine build_ (cs := #[(.int .i64 1), (.int .i64 1)]) gok rfl rfl rfl ?_
 refine buildAr (cs := #[(.int .i64 1), (.int .i64 2), (.int .i64 1), (.int .i64 0), (.int .i64 2), (.int .i64 1), (.int .i64 0), (.int .i64 1), (.int .i64 1), (.int .i64 1), (.int .i64 1), (.int .i64 1)]) gok rfl rfl rfl ?_
 refine alloc_ gok rfl H ?_; clear H; intro b5 w4 hx H
 clear hx
 refine stA gok [(.int .i64 1), (.int .i64 2), (.int .i64 1), (.int .i64 0), (.int .i64 2), (.int .i64 1), (.int .i64 0), (.int .i64 1), (.int .i64 1), (.int .i64 1), (.int .i64 1), (.int .i64 1)] rfl H rfl rfl rfl ?_; clear H; intro w7 H
 refine sq ?_
 obtain ⟨a8, e, hF9⟩ := bindS hF; clear hF
 refine boolO e ?_; clear e
 cases a8
 ·
  have f0 := condF hF9; clear hF9
  obtain ⟨a0, e, f1⟩ := bindS f0; clear f0
  refine arO e ?_; clear e
  obtain ⟨a1, e, f2⟩ := bindS f1; clear f1
  obtain ⟨p0, c0, c1, c2⟩ := H.bxV (s := 2) 0 rfl [(1, 2), (1, 0), (2, 1), (0, 1), (1, 1), (1, 1)] (fun x => [.int .i64 x.1, .int .i64 x.2]) rfl (fun _ => rfl) e; clear e
  obtain ⟨a1_0, a1_1⟩ := a1
  refine idxAr gok rfl rfl c0 c1 ?_; clear c0 c1
  refine loadN [(.int .i64 a1_0), (.int .i64 a1_1)] rfl c2 ?_; clear c2
  refine alloc_ gok rfl H ?_; clear H; intro b0 w2 hx H
  clear hx
  refine stA gok [(.int .i64 a1_0), (.int .i64 a1_1)] rfl H rfl rfl rfl ?_; clear H; intro w3 H
  refine fld gok rfl rfl rfl rfl ?_
  refine load1 (H.bx 0 rfl (j := 1) rfl) ?_
  refine fld gok rfl rfl rfl rfl ?_
  refine load1 (H.bx 0 rfl (j := 0) rfl) ?_
  refine build_ (cs := #[(.int .i64 a1_1), (.int .i64 a1_0)]) gok rfl rfl rfl ?_
  replace H := H.sel [2, 0, 1] rfl
  refine stA gok [(.int .i64 a1_1), (.int .i64 a1_0)] rfl H rfl rfl rfl ?_; clear H; intro w5 H
  refine loadN [(.int .i64 a1_1), (.int .i64 a1_0)] rfl (fun j u hj => H.bx 0 rfl hj) ?_
  cases f2
  exact ⟨_, _, rfl, ⟨rfl, rfl⟩, (H.sel [] rfl).close trivial⟩
 ·
  have f3 := condT hF9; clear hF9
  obtain ⟨a2, e, f4⟩ := bindS f3; clear f3
  refine arO e ?_; clear e
  obtain ⟨a3, e, f5⟩ := bindS f4; clear f4
  obtain ⟨p1, c3, c4, c5⟩ := H.bxV (s := 2) 0 rfl [(1, 2), (1, 0), (2, 1), (0, 1), (1, 1), (1, 1)] (fun x => [.int .i64 x.1, .int .i64 x.2]) rfl (fun _ => rfl) e; clear e
  obtain ⟨a3_0, a3_1⟩ := a3
  refine idxAr gok rfl rfl c3 c4 ?_; clear c3 c4
  refine loadN [(.int .i64 a3_0), (.int .i64 a3_1)] rfl c5 ?_; clear c5
  replace H := H.sel [1, 0] rfl
  refine stA gok [(.int .i64 a3_0), (.int .i64 a3_1)] rfl H rfl rfl rfl ?_; clear H; intro w6 H
  refine loadN [(.int .i64 a3_0), (.int .i64 a3_1)] rfl (fun j u hj => H.bx 0 rfl hj) ?_
  cases f5
  exact ⟨_, _, rfl, ⟨rfl, rfl⟩, (H.sel [] rfl).close trivial⟩

theorem impl_hasValue_c (kind_ : Int) (y : Bool) (hF : F_impl_hasValue kind_ = some y) :
  ConF Tryz.prog 115 #[(.int .i64 kind_)] [] [] (fun v Γ' => v = (.bool y) ∧ Γ' = []) := by
 intro w0 S0 fp0 hI hS
 have H : Cx w0 fp0 S0 w0 [] := Cx.start hI hS
 clear hI hS
 refine enterC (args := [_]) gok Tryz.func115 rfl _ rfl rfl rfl ?_
 obtain ⟨r9, f0, f1⟩ := bindS hF; clear hF
 refine cut (fun (q0 : Bool) => [(2, (.bool q0))]) (fun (q0 : Bool) w' => q0 = r9 ∧ Cx w0 fp0 S0 w' []) ?_ ?_
 ·
  obtain ⟨a0, e, f2⟩ := bindS f0; clear f0
  refine boolO e ?_; clear e
  cases a0
  ·
   have f3 := condF f2; clear f2
   obtain ⟨a1, e, f4⟩ := bindS f3; clear f3
   refine boolO e ?_; clear e
   exact ⟨a1, ⟨rfl, trivial⟩, Option.some.inj f4, H.sel [] rfl⟩
  ·
   have f5 := condT f2; clear f2
   exact ⟨true, ⟨rfl, trivial⟩, Option.some.inj f5, H.sel [] rfl⟩
 ·
  clear f0 H
  rintro T0 s7 w1 ⟨hr, (H : Cx w0 fp0 S0 w1 [])⟩
  subst hr
  cases f1
  exact ⟨_, _, rfl, ⟨rfl, rfl⟩, (H.sel [] rfl).close trivial⟩

theorem impl_isGeneratorValue_c (kind_ : Int) (value_ : Int) (y : Bool) (hF : F_impl_isGeneratorValue kind_ value_ = some y) :
  ConF Tryz.prog 104 #[(.int .i64 kind_), (.int .i64 value_)] [] [] (fun v Γ' => v = (.bool y) ∧ Γ' = []) := by
 intro w0 S0 fp0 hI hS
 have H : Cx w0 fp0 S0 w0 [] := Cx.start hI hS
 clear hI hS
 refine enterC (args := [_, _]) gok Tryz.func104 rfl _ rfl rfl rfl ?_
 refine sq ?_
 obtain ⟨y1, e, hF2⟩ := bindS hF; clear hF
 have ey1 := e; clear e
 refine callF (impl_hasValue_c kind_ y1 ey1) (Γi := []) H trivial ?_; clear H ey1
 rintro _ _ w3 ⟨rfl, rfl⟩ H
 cases y1
 ·
  have hF4 := condF hF2; clear hF2
  obtain ⟨a5, e, hF6⟩ := bindS hF4; clear hF4
  refine boolO e ?_; clear e
  cases hF6
  exact ⟨_, _, rfl, ⟨rfl, rfl⟩, (H.sel [] rfl).close trivial⟩
 ·
  have hF7 := condT hF2; clear hF2
  obtain ⟨y8, e, hF9⟩ := bindS hF7; clear hF7
  have ey8 := e; clear e
  refine callF (impl_within_c value_ 0 96 y8 ey8) (Γi := []) H trivial ?_; clear H ey8
  rintro _ _ w1 ⟨rfl, rfl⟩ H
  cases hF9
  exact ⟨_, _, rfl, ⟨rfl, rfl⟩, (H.sel [] rfl).close trivial⟩

theorem impl_leafWires_c (n__0 : Int) (n__1 : Int) (n__2 : ByteArray) (y0_0 : Int) (y0_1 : Int) (y1 : Bool) (hF : F_impl_leafWires (n__0, n__1, n__2) = some ((y0_0, y0_1), y1)) :
  ConF Tryz.prog 76 #[(.agg #[(.int .i64 n__0), (.int .i64 n__1), (.string n__2)])] [] [] (fun v Γ' => v = (.tuple #[(.agg #[(.int .i64 y0_0), (.int .i64 y0_1)]), (.bool y1)]) ∧ Γ' = []) := by
 intro w0 S0 fp0 hI hS
 have H : Cx w0 fp0 S0 w0 [] := Cx.start hI hS
 clear hI hS
 refine enterC (args := [_]) gok Tryz.func76 rfl _ rfl rfl rfl ?_
 refine box_ H ?_; clear H; intro b2 w1 hx H
 clear hx
 refine alloc_ gok rfl H ?_; clear H; intro b5 w4 hx H
 clear hx
 refine sq ?_
 refine fld gok rfl rfl rfl rfl ?_
 refine load1 (H.bx 1 rfl (j := 2) rfl) ?_
 obtain ⟨a7, e, hF8⟩ := bindS hF; clear hF
 refine neqZ e ?_; clear e
 cases a7
 ·
  have hF9 := condF hF8; clear hF8
  refine fld gok rfl rfl rfl rfl ?_
  refine load1 (H.bx 1 rfl (j := 0) rfl) ?_
  obtain ⟨a0, e, f0⟩ := bindS hF9; clear hF9
  refine boolO e ?_; clear e
  cases a0
  ·
   have f1 := condF f0; clear f0
   refine fld gok rfl rfl rfl rfl ?_
   refine load1 (H.bx 1 rfl (j := 0) rfl) ?_
   obtain ⟨a1, e, f2⟩ := bindS f1; clear f1
   refine boolO e ?_; clear e
   cases a1
   ·
    have f3 := condF f2; clear f2
    refine fld gok rfl rfl rfl rfl ?_
    refine load1 (H.bx 1 rfl (j := 0) rfl) ?_
    obtain ⟨y0, e, f4⟩ := bindS f3; clear f3
    have ey16 := e; clear e
    refine callF (impl_isGenerator_c n__0 y0 ey16) (Γi := []) H trivial ?_; clear H ey16
    rintro _ _ w2 ⟨rfl, rfl⟩ H
    cases y0
    ·
     have f5 := condF f4; clear f4
     refine build_ (cs := #[(.int .i64 0), (.int .i64 0)]) gok rfl rfl rfl ?_
     refine stA gok [(.int .i64 0), (.int .i64 0)] rfl H rfl rfl rfl ?_; clear H; intro w3 H
     refine loadN [(.int .i64 0), (.int .i64 0)] rfl (fun j u hj => H.bx 0 rfl hj) ?_
     cases f5
     exact ⟨_, _, rfl, ⟨rfl, rfl⟩, (H.sel [] rfl).close trivial⟩
    ·
     have f6 := condT f4; clear f4
     refine heldX H [8, 9] (.fst 0 (.fst 3 (.fst 5 (.fst 1 (.fst 4 (.fst 6 (.act 2 (.act 7 (.act 8 (.act 9 .done)))))))))) mixed [] trivial (by kernel_rfl) ?_
     clear H; intro w5 H
     have hX : Ext w5 w5 := Upd.refl _ _
     have H0 := H
     refine anyH (fun _ => fld gok rfl rfl rfl rfl ⟨rfl, rfl⟩) ?_
     refine anyH (fun _ => fld gok rfl rfl rfl rfl ⟨rfl, rfl⟩) ?_
     refine anyH (fun _ => fld gok rfl rfl rfl rfl ⟨rfl, rfl⟩) ?_
     refine load1X (H.bx 1 rfl (j := 0) rfl) ?_
     refine load1X (H.bx 1 rfl (j := 0) rfl) ?_
     refine load1X (H.bx 1 rfl (j := 1) rfl) ?_
     obtain ⟨y2, e, f7⟩ := bindS f6; clear f6
     obtain ⟨y2_0, y2_1⟩ := y2
     have ey23 := e; clear e
     refine callFx (impl_generatorWires_c n__0 y2_0 y2_1 ey23) H trivial ?_; clear H ey23
     rintro _ _ w6 ⟨rfl, rfl⟩ hx H
     replace hX := hX.trans0 hx; clear hx
     refine hold hX ?_
     obtain ⟨y3, e, f8⟩ := bindS f7; clear f7
     have ey26 := e; clear e
     refine callFx (impl_isGeneratorValue_c n__0 n__1 y3 ey26) H trivial ?_; clear H ey26
     rintro _ _ w7 ⟨rfl, rfl⟩ hx H
     replace hX := hX.trans0 hx; clear hx
     refine hold hX ?_
     refine stA gok [(.int .i64 y2_0), (.int .i64 y2_1)] rfl H rfl rfl rfl ?_; clear H; intro w8 H
     refine hold trivial ?_
     refine hold trivial ?_
     refine loadN [(.int .i64 y2_0), (.int .i64 y2_1)] rfl (fun j u hj => H.bx 0 rfl hj) ?_
     cases f8
     exact ⟨_, _, rfl, ⟨rfl, rfl⟩, (H.sel [] rfl).close trivial⟩
   ·
    have f9 := condT f2; clear f2
    refine heldX H [4, 5, 0, 1, 2, 3] (.pure 0 (.pure 1 (.pure 2 (.pure 3 (.act 4 (.act 5 .done)))))) mixed [((Addr.add ⟨b2, 0, none⟩ 1), (.int .i64 n__1))] ⟨H.bx 1 rfl (j := 1) rfl, trivial⟩ (by kernel_rfl) ?_
    clear H; intro w9 H
    have hX : Ext w9 w9 := Upd.refl _ _
    have H0 := H
    refine anyH (fun _ => build_ (cs := #[(.int .i64 2), (.int .i64 2)]) gok rfl rfl rfl ⟨rfl, rfl⟩) ?_
    refine anyH (fun _ => fld gok rfl rfl rfl rfl ⟨rfl, rfl⟩) ?_
    refine load1W 0 rfl ?_
    obtain ⟨a2, e, f10⟩ := bindS f9; clear f9
    refine boolO e ?_; clear e
    refine stA gok [(.int .i64 2), (.int .i64 2)] rfl H rfl rfl rfl ?_; clear H; intro w10 H
    refine hold ⟨H.bx 1 rfl (j := 1) rfl, trivial⟩ ?_
    refine hold ⟨H.bx 1 rfl (j := 1) rfl, trivial⟩ ?_
    refine loadN [(.int .i64 2), (.int .i64 2)] rfl (fun j u hj => H.bx 0 rfl hj) ?_
    cases f10
    exact ⟨_, _, rfl, ⟨rfl, rfl⟩, (H.sel [] rfl).close trivial⟩
  ·
   have f11 := condT f0; clear f0
   refine heldX H [8, 9] (.fst 0 (.fst 2 (.fst 5 (.fst 1 (.fst 3 (.fst 4 (.fst 6 (.act 7 (.act 8 (.act 9 .done)))))))))) mixed [] trivial (by kernel_rfl) ?_
   clear H; intro w11 H
   have hX : Ext w11 w11 := Upd.refl _ _
   have H0 := H
   refine anyH (fun _ => fld gok rfl rfl rfl rfl ⟨rfl, rfl⟩) ?_
   refine anyH (fun _ => fld gok rfl rfl rfl rfl ⟨rfl, rfl⟩) ?_
   refine anyH (fun _ => fld gok rfl rfl rfl rfl ⟨rfl, rfl⟩) ?_
   refine load1X (H.bx 1 rfl (j := 1) rfl) ?_
   refine load1X (H.bx 1 rfl (j := 1) rfl) ?_
   refine anyH (fun _ => build_ (cs := #[(.int .i64 n__1), (.int .i64 n__1)]) gok rfl rfl rfl ⟨rfl, rfl⟩) ?_
   refine load1X (H.bx 1 rfl (j := 1) rfl) ?_
   obtain ⟨y4, e, f12⟩ := bindS f11; clear f11
   have ey37 := e; clear e
   refine callFx (impl_within_c n__1 0 12 y4 ey37) H trivial ?_; clear H ey37
   rintro _ _ w12 ⟨rfl, rfl⟩ hx H
   replace hX := hX.trans0 hx; clear hx
   refine hold hX ?_
   refine stA gok [(.int .i64 n__1), (.int .i64 n__1)] rfl H rfl rfl rfl ?_; clear H; intro w13 H
   refine hold trivial ?_
   refine hold trivial ?_
   refine loadN [(.int .i64 n__1), (.int .i64 n__1)] rfl (fun j u hj => H.bx 0 rfl hj) ?_
   cases f12
   exact ⟨_, _, rfl, ⟨rfl, rfl⟩, (H.sel [] rfl).close trivial⟩
 ·
  have f13 := condT hF8; clear hF8
  refine build_ (cs := #[(.int .i64 0), (.int .i64 0)]) gok rfl rfl rfl ?_
  refine stA gok [(.int .i64 0), (.int .i64 0)] rfl H rfl rfl rfl ?_; clear H; intro w14 H
  refine loadN [(.int .i64 0), (.int .i64 0)] rfl (fun j u hj => H.bx 0 rfl hj) ?_
  cases f13
  exact ⟨_, _, rfl, ⟨rfl, rfl⟩, (H.sel [] rfl).close trivial⟩

theorem impl_typed_impl_leafWires_c (nodes_ : List (Int × Int × ByteArray)) (nodes_h : Hd) (y0_0 : Int) (y0_1 : Int) (y1 : Bool) (hF : F_impl_typed_impl_leafWires nodes_ = some ((y0_0, y0_1), y1)) :
  ConF Tryz.prog 75 #[(nodes_h).v, (.func (.func 76) #[] #[])] [Es (List (Int × Int × ByteArray)) nodes_ nodes_h] [] (fun v Γ' => v = (.tuple #[(.agg #[(.int .i64 y0_0), (.int .i64 y0_1)]), (.bool y1)]) ∧ Γ' = []) := by
 intro w0 S0 fp0 hI hS
 have H : Cx w0 fp0 S0 w0 [Es (List (Int × Int × ByteArray)) nodes_ nodes_h] := Cx.start hI hS
 clear hI hS
 refine enterC (args := [_, _]) gok Tryz.func75 rfl _ rfl rfl rfl ?_
 refine alloc_ gok rfl H ?_; clear H; intro b3 w2 hx H
 clear hx
 refine sq ?_
 refine lenE (H.rs (α := List (Int × Int × ByteArray)) 1 rfl).len ?_
 obtain ⟨y5, e, hF6⟩ := bindS hF; clear hF
 have ey5 := e; clear e
 refine callF (impl_within_c ((nodes_.length : Nat) : Int) 1 400 y5 ey5) (Γi := []) H trivial ?_; clear H ey5
 rintro _ _ w7 ⟨rfl, rfl⟩ H
 obtain ⟨a8, e, hF9⟩ := bindS hF6; clear hF6
 refine boolO e ?_; clear e
 cases a8
 ·
  have f0 := condF hF9; clear hF9
  refine lit0 (α := Int × Int) gok rfl rfl H ?_; clear H; intro h0 w1 hx H
  clear hx
  refine sq ?_
  refine lenE (H.rs (α := List (Int × Int × ByteArray)) 2 rfl).len ?_
  have x0 := (H.rs (α := List (Int × Int × ByteArray)) 2 rfl).max
  obtain ⟨r0, e, f1⟩ := bindS f0; clear f0
  refine loopO _ nodes_.length (fun (k0 : Nat) (s0 : List (Int × Int)) (g0 : Hd) => [(1, (.func (.func 76) #[] #[])), (4, (.pointer (some ⟨b3, 0, none⟩))), (6, (g0).v), (20, (nodes_h).v), (21, (.int .i64 ((nodes_.length : Nat) : Int))), (22, (.int .i64 ((k0 : Nat) : Int)))]) (fun _ (s0 : List (Int × Int)) (g0 : Hd) w' => Cx w0 fp0 S0 w' [Bx b3 [(.int .i64 0), (.int .i64 0)], E (List (Int × Int)) s0 g0, Es (List (Int × Int × ByteArray)) nodes_ nodes_h]) ([] : List (Int × Int)) h0 e ⟨rfl, rfl, rfl, rfl, rfl, rfl, trivial⟩ (H.sel [1, 0, 2] rfl) ?_ ?_
  ·
   clear H e
   rintro T0 k0 s0 g0 w3 o0 hk (H : Cx w0 fp0 S0 w3 [Bx b3 [(.int .i64 0), (.int .i64 0)], E (List (Int × Int)) s0 g0, Es (List (Int × Int × ByteArray)) nodes_ nodes_h]) hrt f2
   refine boolE (z := true) (ltLen hk) ?_
   refine sq ?_
   obtain ⟨r1, f3, f4⟩ := bindS f2; clear f2
   refine cut (fun (q0 : (List (Int × Int)) × Hd) => [(1, (.func (.func 76) #[] #[])), (4, (.pointer (some ⟨b3, 0, none⟩))), (6, (q0.2).v), (20, (nodes_h).v), (21, (.int .i64 ((nodes_.length : Nat) : Int))), (22, (.int .i64 ((k0 : Nat) : Int)))]) (fun (q0 : (List (Int × Int)) × Hd) w' => .inl q0.1 = r1 ∧ Cx w0 fp0 S0 w' [Bx b3 [(.int .i64 0), (.int .i64 0)], E (List (Int × Int)) q0.1 q0.2, Es (List (Int × Int × ByteArray)) nodes_ nodes_h]) ?_ ?_
   ·
    obtain ⟨a0, e, f5⟩ := bindS f3; clear f3
    have HH := H; clear H; obtain ⟨p0, m0, g1, c0, c1, c2, c3, H⟩ := HH.el (α := Int × Int × ByteArray) 2 rfl e; clear HH
    clear e
    obtain ⟨a0_0, a0_1, a0_2⟩ := a0
    obtain ⟨_, _, _⟩ := g1
    replace H := H.sel [1, 2, 3] rfl
    refine idxE c0 c1 c2 ?_; clear c0 c1 c2
    refine loadN [(.int .i64 a0_0), (.int .i64 a0_1), (.string a0_2)] rfl c3 ?_; clear c3
    refine alloc_ gok rfl H ?_; clear H; intro b0 w4 hx H
    clear hx
    refine stA gok [(.int .i64 a0_0), (.int .i64 a0_1), (.string a0_2)] rfl H rfl rfl rfl ?_; clear H; intro w5 H
    refine sq ?_
    obtain ⟨r2, f6, f7⟩ := bindS f5; clear f5
    refine cut (fun (q1 : Bool) => [(1, (.func (.func 76) #[] #[])), (4, (.pointer (some ⟨b3, 0, none⟩))), (6, (g0).v), (8, (.pointer (some ⟨b0, 0, none⟩))), (20, (nodes_h).v), (21, (.int .i64 ((nodes_.length : Nat) : Int))), (22, (.int .i64 ((k0 : Nat) : Int))), (33, (.bool q1))]) (fun (q1 : Bool) w' => q1 = r2 ∧ Cx w0 fp0 S0 w' [Bx b3 [(.int .i64 0), (.int .i64 0)], E (List (Int × Int)) s0 g0, Bx b0 [(.int .i64 a0_0), (.int .i64 a0_1), (.string a0_2)], Es (List (Int × Int × ByteArray)) nodes_ nodes_h]) ?_ ?_
    ·
     refine fld gok rfl rfl rfl rfl ?_
     refine load1 (H.bx 0 rfl (j := 0) rfl) ?_
     obtain ⟨a1, e, f8⟩ := bindS f6; clear f6
     refine boolO e ?_; clear e
     cases a1
     ·
      have f9 := condF f8; clear f8
      exact ⟨false, ⟨rfl, rfl, rfl, rfl, rfl, rfl, rfl, rfl, trivial⟩, Option.some.inj f9, H.sel [1, 2, 0, 3] rfl⟩
     ·
      have f10 := condT f8; clear f8
      refine fld gok rfl rfl rfl rfl ?_
      refine load1 (H.bx 0 rfl (j := 0) rfl) ?_
      obtain ⟨a2, e, f11⟩ := bindS f10; clear f10
      refine boolO e ?_; clear e
      exact ⟨a2, ⟨rfl, rfl, rfl, rfl, rfl, rfl, rfl, rfl, trivial⟩, Option.some.inj f11, H.sel [1, 2, 0, 3] rfl⟩
    ·
     clear f6 H
     rintro T1 s1 w6 ⟨hr, (H : Cx w0 fp0 S0 w6 [Bx b3 [(.int .i64 0), (.int .i64 0)], E (List (Int × Int)) s0 g0, Bx b0 [(.int .i64 a0_0), (.int .i64 a0_1), (.string a0_2)], Es (List (Int × Int × ByteArray)) nodes_ nodes_h])⟩
     subst hr
     cases s1
     ·
      have f12 := condF f7; clear f7
      refine sq ?_
      obtain ⟨r3, f13, f14⟩ := bindS f12; clear f12
      refine cut (fun (q2 : Bool) => [(1, (.func (.func 76) #[] #[])), (4, (.pointer (some ⟨b3, 0, none⟩))), (6, (g0).v), (8, (.pointer (some ⟨b0, 0, none⟩))), (20, (nodes_h).v), (21, (.int .i64 ((nodes_.length : Nat) : Int))), (22, (.int .i64 ((k0 : Nat) : Int))), (59, (.bool q2))]) (fun (q2 : Bool) w' => q2 = r3 ∧ Cx w0 fp0 S0 w' [Bx b3 [(.int .i64 0), (.int .i64 0)], E (List (Int × Int)) s0 g0, Bx b0 [(.int .i64 a0_0), (.int .i64 a0_1), (.string a0_2)], Es (List (Int × Int × ByteArray)) nodes_ nodes_h]) ?_ ?_
      ·
       refine fld gok rfl rfl rfl rfl ?_
       refine load1 (H.bx 2 rfl (j := 1) rfl) ?_
       obtain ⟨a3, e, f15⟩ := bindS f13; clear f13
       refine boolO e ?_; clear e
       cases a3
       ·
        have f16 := condF f15; clear f15
        refine fld gok rfl rfl rfl rfl ?_
        refine load1 (H.bx 2 rfl (j := 2) rfl) ?_
        obtain ⟨a4, e, f17⟩ := bindS f16; clear f16
        refine neqZ e ?_; clear e
        cases a4
        ·
         have f18 := condF f17; clear f17
         refine lenE (H.ro (α := List (Int × Int)) 1 rfl).len ?_
         obtain ⟨a5, e, f19⟩ := bindS f18; clear f18
         refine boolO e ?_; clear e
         exact ⟨a5, ⟨rfl, rfl, rfl, rfl, rfl, rfl, rfl, rfl, trivial⟩, Option.some.inj f19, H.sel [0, 1, 2, 3] rfl⟩
        ·
         have f20 := condT f17; clear f17
         exact ⟨true, ⟨rfl, rfl, rfl, rfl, rfl, rfl, rfl, rfl, trivial⟩, Option.some.inj f20, H.sel [0, 1, 2, 3] rfl⟩
       ·
        have f21 := condT f15; clear f15
        exact ⟨true, ⟨rfl, rfl, rfl, rfl, rfl, rfl, rfl, rfl, trivial⟩, Option.some.inj f21, H.sel [0, 1, 2, 3] rfl⟩
      ·
       clear f13 H
       rintro T2 s2 w8 ⟨hr, (H : Cx w0 fp0 S0 w8 [Bx b3 [(.int .i64 0), (.int .i64 0)], E (List (Int × Int)) s0 g0, Bx b0 [(.int .i64 a0_0), (.int .i64 a0_1), (.string a0_2)], Es (List (Int × Int × ByteArray)) nodes_ nodes_h])⟩
       subst hr
       cases s2
       ·
        have f22 := condF f14; clear f14
        refine lenE (H.ro (α := List (Int × Int)) 1 rfl).len ?_
        obtain ⟨a6, e, f23⟩ := bindS f22; clear f22
        refine arO e ?_; clear e
        obtain ⟨r4, f24, f25⟩ := bindS f23; clear f23
        refine heldJ H [] (.fst 0 (.fst 2 (.fst 3 (.fst 4 (.fst 5 (.fst 7 (.fst 8 (.fst 9 (.fst 1 (.fst 6 (.fst 10 (.alts (.alt 11 (.fst 12 (.fst 13 (.fst 14 (.act 15 (.act 16 (.fst 17 .done)))))) (.alt 15 (.act 11 (.fst 12 (.fst 13 (.fst 14 (.act 16 (.fst 17 .done)))))) .no)))))))))))))) mixed [] trivial (by kernel_rfl) (fun (q3 : (Int × Int × Bool) × Nat) => [(1, (.func (.func 76) #[] #[])), (4, (.pointer (some ⟨b3, 0, none⟩))), (6, (g0).v), (11, (.int .i64 a6)), (12, (.pointer (some ⟨q3.2, 0, none⟩))), (13, (.bool q3.1.2.2)), (20, (nodes_h).v), (21, (.int .i64 ((nodes_.length : Nat) : Int))), (22, (.int .i64 ((k0 : Nat) : Int)))]) (fun (q3 : (Int × Int × Bool) × Nat) w' => (q3.1.1, q3.1.2.1, q3.1.2.2) = r4 ∧ Cx w0 fp0 S0 w' [Bx b3 [(.int .i64 0), (.int .i64 0)], E (List (Int × Int)) s0 g0, Bx q3.2 [(.int .i64 q3.1.1), (.int .i64 q3.1.2.1)], Es (List (Int × Int × ByteArray)) nodes_ nodes_h]) ?_ ?_
        ·
         clear H; intro w9 H
         have hX : Ext w9 w9 := Upd.refl _ _
         have H0 := H
         refine anyH (fun _ => fld gok rfl rfl rfl rfl ⟨rfl, rfl⟩) ?_
         obtain ⟨a7, e, f26⟩ := bindS f24; clear f24
         refine arO e ?_; clear e
         obtain ⟨a9, e, f27⟩ := bindS f26; clear f26
         replace H := H.sel [1, 0, 2, 3] rfl
         replace H := H.toEH (α := Int × Int)
         have HH := H; clear H; obtain ⟨p1, m1, g2, c4, c5, c6, c7, H⟩ := HH.peek e; clear HH
         clear e
         obtain ⟨a9_0, a9_1⟩ := a9
         obtain ⟨_, _⟩ := g2
         refine idxE c4 c5 c6 ?_
         obtain ⟨a10, e, f28⟩ := bindS f27; clear f27
         have HH := H; clear H; obtain ⟨p2, m2, g3, c8, c9, c10, c11, H⟩ := HH.peek e; clear HH
         clear e
         obtain ⟨a10_0, a10_1⟩ := a10
         obtain ⟨_, _⟩ := g3
         refine idxE c8 c9 c10 ?_
         refine load1X (H.bx 2 rfl (j := 0) rfl) ?_
         refine loadNX [(.int .i64 a9_0), (.int .i64 a9_1)] rfl c7 ?_; clear c7
         refine loadNX [(.int .i64 a10_0), (.int .i64 a10_1)] rfl c11 ?_; clear c11
         refine both ?_ ?_
         ·
          obtain ⟨y0, e, f29⟩ := bindS f28; clear f28
          obtain ⟨⟨y0_0_0, y0_0_1⟩, y0_1⟩ := y0
          have ey1289 := e; clear e
          refine callFx (impl_joinWires_c a0_0 a9_0 a9_1 a10_0 a10_1 y0_0_0 y0_0_1 y0_1 ey1289) H trivial ?_; clear H ey1289
          rintro _ _ w10 ⟨rfl, rfl⟩ hx H
          replace hX := hX.trans0 hx; clear hx
          refine hold hX ?_
          refine allocX gok rfl H ?_; clear H; intro b1 w12 hx v0 H; replace v0 := Nat.le_trans hX.size v0
          replace hX := hX.trans0 hx; clear hx
          refine hold hX ?_
          refine stAX gok [(.int .i64 y0_0_0), (.int .i64 y0_0_1)] rfl H rfl rfl rfl ?_; clear H; intro w13 hu H
          replace hX := hX.fresh hu v0; clear hu
          refine hold hX ?_
          replace H := H.sel [1, 0, 2, 3, 4] rfl
          replace H := H.ofEH
          exact ⟨((y0_0_0, y0_0_1, y0_1), b1), ⟨rfl, rfl, rfl, rfl, rfl, rfl, rfl, rfl, rfl, trivial⟩, Option.some.inj f29, H.sel [2, 0, 1, 4] rfl⟩
         ·
          refine both ?_ ?_
          ·
           obtain ⟨a11, o1, f30⟩ := bindS f28; clear f28
           refine allocX gok rfl H ?_; clear H; intro b2 w14 hx v1 H; replace v1 := Nat.le_trans hX.size v1
           replace hX := hX.trans0 hx; clear hx
           refine hold hX ?_
           have e := o1; clear o1
           obtain ⟨⟨a11_0_0, a11_0_1⟩, a11_1⟩ := a11
           have ea1297 := e; clear e
           refine callFx (impl_joinWires_c a0_0 a9_0 a9_1 a10_0 a10_1 a11_0_0 a11_0_1 a11_1 ea1297) H trivial ?_; clear H ea1297
           rintro _ _ w15 ⟨rfl, rfl⟩ hx H
           replace hX := hX.trans0 hx; clear hx
           refine hold hX ?_
           refine stAX gok [(.int .i64 a11_0_0), (.int .i64 a11_0_1)] rfl H rfl rfl rfl ?_; clear H; intro w16 hu H
           replace hX := hX.fresh hu v1; clear hu
           refine hold hX ?_
           replace H := H.sel [1, 0, 2, 3, 4] rfl
           replace H := H.ofEH
           exact ⟨((a11_0_0, a11_0_1, a11_1), b2), ⟨rfl, rfl, rfl, rfl, rfl, rfl, rfl, rfl, rfl, trivial⟩, Option.some.inj f30, H.sel [2, 0, 1, 4] rfl⟩
          ·
           exact trivial
        ·
         clear f24 H
         rintro T3 ⟨⟨s3_0, s3_1, s3_2⟩, g4⟩ w17 ⟨hr, (H : Cx w0 fp0 S0 w17 [Bx b3 [(.int .i64 0), (.int .i64 0)], E (List (Int × Int)) s0 g0, Bx g4 [(.int .i64 s3_0), (.int .i64 s3_1)], Es (List (Int × Int × ByteArray)) nodes_ nodes_h])⟩
         subst hr
         refine sq ?_
         obtain ⟨a12, e, f31⟩ := bindS f25; clear f25
         refine boolO e ?_; clear e
         cases a12
         ·
          have f32 := condF f31; clear f31
          refine heldX H [6, 7] (.fst 0 (.fst 1 (.fst 2 (.fst 3 (.fst 4 (.act 5 (.act 6 (.act 7 .done)))))))) mixed [] trivial (by kernel_rfl) ?_
          clear H; intro w18 H
          have hX : Ext w18 w18 := Upd.refl _ _
          have H0 := H
          obtain ⟨a13, e, f33⟩ := bindS f32; clear f32
          refine arO e ?_; clear e
          obtain ⟨a14, e, f34⟩ := bindS f33; clear f33
          replace H := H.sel [1, 0, 2, 3] rfl
          refine slOX (α := Int × Int) gok rfl rfl H e rfl rfl ?_; clear e; intro h1 HH; clear H; have H := HH; clear HH
          refine loadNX [(.int .i64 s3_0), (.int .i64 s3_1)] rfl (fun j u hj => H.bx 2 rfl hj) ?_
          replace H := H.sc (α := Int) s3_1
          replace H := H.sc (α := Int) s3_0
          replace H := H.join (α := Int) (β := Int)
          refine lit1 (α := Int × Int) (g := ((), ())) gok rfl rfl rfl rfl rfl H ?_; clear H; intro h2 w19 hx H
          replace hX := hX.trans0 hx; clear hx
          refine hold hX ?_
          obtain ⟨a15, e, f35⟩ := bindS f34; clear f34
          replace H := H.sel [1, 0, 2, 3, 4] rfl
          refine append_ (α := Int × Int) gok rfl rfl rfl rfl H e ?_; clear e H; intro h3 w20 H
          refine hold trivial ?_
          refine hold trivial ?_
          exact ⟨(a15, h3), ⟨rfl, rfl, rfl, rfl, rfl, rfl, trivial⟩, Option.some.inj f35, H.sel [1, 0, 3] rfl⟩
         ·
          have f36 := condT f31; clear f31
          refine build_ (cs := #[(.int .i64 0), (.int .i64 0)]) gok rfl rfl rfl ?_
          refine stA gok [(.int .i64 0), (.int .i64 0)] rfl H rfl rfl rfl ?_; clear H; intro w21 H
          have hs := Option.some.inj f36; subst hs; clear f36
          have f37 : some _ = some _ := f4; clear f4
          have hs := Option.some.inj f37; subst hs; clear f37
          have hr := hrt _ rfl; subst hr
          have f38 : some _ = some _ := f1
          refine loadN [(.int .i64 0), (.int .i64 0)] rfl (fun j u hj => H.bx 0 rfl hj) ?_
          cases f38
          exact ⟨_, _, rfl, ⟨rfl, rfl⟩, (H.sel [] rfl).close trivial⟩
       ·
        have f39 := condT f14; clear f14
        refine build_ (cs := #[(.int .i64 0), (.int .i64 0)]) gok rfl rfl rfl ?_
        refine stA gok [(.int .i64 0), (.int .i64 0)] rfl H rfl rfl rfl ?_; clear H; intro w22 H
        have hs := Option.some.inj f39; subst hs; clear f39
        have f40 : some _ = some _ := f4; clear f4
        have hs := Option.some.inj f40; subst hs; clear f40
        have hr := hrt _ rfl; subst hr
        have f41 : some _ = some _ := f1
        refine loadN [(.int .i64 0), (.int .i64 0)] rfl (fun j u hj => H.bx 0 rfl hj) ?_
        cases f41
        exact ⟨_, _, rfl, ⟨rfl, rfl⟩, (H.sel [] rfl).close trivial⟩
     ·
      have f42 := condT f7; clear f7
      refine loadN [(.int .i64 a0_0), (.int .i64 a0_1), (.string a0_2)] rfl (fun j u hj => H.bx 2 rfl hj) ?_
      obtain ⟨y2, e, f43⟩ := bindS f42; clear f42
      obtain ⟨⟨y2_0_0, y2_0_1⟩, y2_1⟩ := y2
      have ey1338 := e; clear e
      refine callF (impl_leafWires_c a0_0 a0_1 a0_2 y2_0_0 y2_0_1 y2_1 ey1338) (Γi := []) H trivial ?_; clear H ey1338
      rintro _ _ w23 ⟨rfl, rfl⟩ H
      refine alloc_ gok rfl H ?_; clear H; intro b4 w24 hx H
      clear hx
      refine stA gok [(.int .i64 y2_0_0), (.int .i64 y2_0_1)] rfl H rfl rfl rfl ?_; clear H; intro w25 H
      refine sq ?_
      obtain ⟨a16, e, f44⟩ := bindS f43; clear f43
      refine boolO e ?_; clear e
      cases a16
      ·
       have f45 := condF f44; clear f44
       refine loadN [(.int .i64 y2_0_0), (.int .i64 y2_0_1)] rfl (fun j u hj => H.bx 0 rfl hj) ?_
       replace H := H.sc (α := Int) y2_0_1
       replace H := H.sc (α := Int) y2_0_0
       replace H := H.join (α := Int) (β := Int)
       refine lit1 (α := Int × Int) (g := ((), ())) gok rfl rfl rfl rfl rfl H ?_; clear H; intro h4 w26 hx H
       clear hx
       obtain ⟨a17, e, f46⟩ := bindS f45; clear f45
       replace H := H.sel [3, 0, 1, 2, 4, 5] rfl
       refine append_ (α := Int × Int) gok rfl rfl rfl rfl H e ?_; clear e H; intro h5 w27 H
       exact ⟨(a17, h5), ⟨rfl, rfl, rfl, rfl, rfl, rfl, trivial⟩, Option.some.inj f46, H.sel [2, 0, 4] rfl⟩
      ·
       have f47 := condT f44; clear f44
       refine build_ (cs := #[(.int .i64 0), (.int .i64 0)]) gok rfl rfl rfl ?_
       replace H := H.sel [1, 0, 2, 3, 4] rfl
       refine stA gok [(.int .i64 0), (.int .i64 0)] rfl H rfl rfl rfl ?_; clear H; intro w28 H
       have hs := Option.some.inj f47; subst hs; clear f47
       have f48 : some _ = some _ := f4; clear f4
       have hs := Option.some.inj f48; subst hs; clear f48
       have hr := hrt _ rfl; subst hr
       have f49 : some _ = some _ := f1
       refine loadN [(.int .i64 0), (.int .i64 0)] rfl (fun j u hj => H.bx 0 rfl hj) ?_
       cases f49
       exact ⟨_, _, rfl, ⟨rfl, rfl⟩, (H.sel [] rfl).close trivial⟩
   ·
    clear f3 H
    rintro T4 ⟨s4, g5⟩ w29 ⟨hr, (H : Cx w0 fp0 S0 w29 [Bx b3 [(.int .i64 0), (.int .i64 0)], E (List (Int × Int)) s4 g5, Es (List (Int × Int × ByteArray)) nodes_ nodes_h])⟩
    subst hr
    refine arK hk x0 ?_
    have hs := Option.some.inj f4; subst hs; clear f4
    exact ⟨s4, g5, rfl, ⟨rfl, rfl, rfl, rfl, rfl, rfl, trivial⟩, H.sel [0, 1, 2] rfl⟩
  ·
   clear H e
   rintro T5 s5 g6 w30 hr (H : Cx w0 fp0 S0 w30 [Bx b3 [(.int .i64 0), (.int .i64 0)], E (List (Int × Int)) s5 g6, Es (List (Int × Int × ByteArray)) nodes_ nodes_h])
   subst hr
   refine boolE (z := false) geLen ?_
   refine sq ?_
   obtain ⟨a18, e, f50⟩ := bindS f1; clear f1
   replace H := H.sel [1, 0, 2] rfl
   replace H := H.toEH (α := Int × Int)
   have HH := H; clear H; obtain ⟨p3, m3, g7, c12, c13, c14, c15, H⟩ := HH.peek e; clear HH
   clear e
   obtain ⟨a18_0, a18_1⟩ := a18
   obtain ⟨_, _⟩ := g7
   refine idxE c12 c13 c14 ?_
   refine loadN [(.int .i64 a18_0), (.int .i64 a18_1)] rfl c15 ?_; clear c15
   refine lenE (H.rohd (α := Int × Int) 0 rfl).len ?_
   obtain ⟨a19, e, f51⟩ := bindS f50; clear f50
   refine boolO e ?_; clear e
   replace H := H.sel [1, 0, 2] rfl
   refine stA gok [(.int .i64 a18_0), (.int .i64 a18_1)] rfl H rfl rfl rfl ?_; clear H; intro w31 H
   replace H := H.sel [1, 0, 2] rfl
   replace H := H.ofEH
   refine loadN [(.int .i64 a18_0), (.int .i64 a18_1)] rfl (fun j u hj => H.bx 1 rfl hj) ?_
   cases f51
   exact ⟨_, _, rfl, ⟨rfl, rfl⟩, (H.sel [] rfl).close trivial⟩
 ·
  have f52 := condT hF9; clear hF9
  refine build_ (cs := #[(.int .i64 0), (.int .i64 0)]) gok rfl rfl rfl ?_
  refine stA gok [(.int .i64 0), (.int .i64 0)] rfl H rfl rfl rfl ?_; clear H; intro w32 H
  refine loadN [(.int .i64 0), (.int .i64 0)] rfl (fun j u hj => H.bx 0 rfl hj) ?_
  cases f52
  exact ⟨_, _, rfl, ⟨rfl, rfl⟩, (H.sel [] rfl).close trivial⟩

theorem impl_Term_wires_c (t__0 : List (Int × Int × ByteArray)) (t__0h : Hd) (y0_0 : Int) (y0_1 : Int) (y1 : Bool) (hF : F_impl_Term_wires t__0 = some ((y0_0, y0_1), y1)) :
  ConF Tryz.prog 56 #[(.agg #[(t__0h).v])] [Es (List (Int × Int × ByteArray)) t__0 t__0h] [] (fun v Γ' => v = (.tuple #[(.agg #[(.int .i64 y0_0), (.int .i64 y0_1)]), (.bool y1)]) ∧ Γ' = []) := by
 intro w0 S0 fp0 hI hS
 have H : Cx w0 fp0 S0 w0 [Es (List (Int × Int × ByteArray)) t__0 t__0h] := Cx.start hI hS
 clear hI hS
 refine enterC (args := [_]) gok Tryz.func56 rfl _ rfl rfl rfl ?_
 refine box_ H ?_; clear H; intro b3 w2 hx H
 clear hx
 refine alloc_ gok rfl H ?_; clear H; intro b6 w5 hx H
 clear hx
 refine fld gok rfl rfl rfl rfl ?_
 refine load1 (H.bx 1 rfl (j := 0) rfl) ?_
 obtain ⟨y8, e, hF9⟩ := bindS hF; clear hF
 obtain ⟨⟨y8_0_0, y8_0_1⟩, y8_1⟩ := y8
 have ey8 := e; clear e
 refine callF (impl_typed_impl_leafWires_c t__0 t__0h y8_0_0 y8_0_1 y8_1 ey8) (Γi := []) H ⟨Vw.sh 2 rfl, trivial⟩ ?_; clear H ey8
 rintro _ _ w1 ⟨rfl, rfl⟩ H
 refine stA gok [(.int .i64 y8_0_0), (.int .i64 y8_0_1)] rfl H rfl rfl rfl ?_; clear H; intro w3 H
 refine loadN [(.int .i64 y8_0_0), (.int .i64 y8_0_1)] rfl (fun j u hj => H.bx 0 rfl hj) ?_
 cases hF9
 exact ⟨_, _, rfl, ⟨rfl, rfl⟩, (H.sel [] rfl).close trivial⟩

theorem impl_isLower_c (b_ : Int) (y : Bool) (hF : F_impl_isLower b_ = some y) :
  ConF Tryz.prog 77 #[(.int .u8 b_)] [] [] (fun v Γ' => v = (.bool y) ∧ Γ' = []) := by
 intro w0 S0 fp0 hI hS
 have H : Cx w0 fp0 S0 w0 [] := Cx.start hI hS
 clear hI hS
 refine enterC (args := [_]) gok Tryz.func77 rfl _ rfl rfl rfl ?_
 obtain ⟨r9, f0, f1⟩ := bindS hF; clear hF
 refine cut (fun (q0 : Bool) => [(2, (.bool q0))]) (fun (q0 : Bool) w' => q0 = r9 ∧ Cx w0 fp0 S0 w' []) ?_ ?_
 ·
  obtain ⟨a0, e, f2⟩ := bindS f0; clear f0
  refine geqY e ?_; clear e
  cases a0
  ·
   have f3 := condF f2; clear f2
   exact ⟨false, ⟨rfl, trivial⟩, Option.some.inj f3, H.sel [] rfl⟩
  ·
   have f4 := condT f2; clear f2
   obtain ⟨a1, e, f5⟩ := bindS f4; clear f4
   refine leqY e ?_; clear e
   exact ⟨a1, ⟨rfl, trivial⟩, Option.some.inj f5, H.sel [] rfl⟩
 ·
  clear f0 H
  rintro T0 s7 w1 ⟨hr, (H : Cx w0 fp0 S0 w1 [])⟩
  subst hr
  cases f1
  exact ⟨_, _, rfl, ⟨rfl, rfl⟩, (H.sel [] rfl).close trivial⟩

theorem impl_kindWords_c  (y : List ByteArray) (hF : F_impl_kindWords = some y) :
  ConF Tryz.prog 105 #[] [] [] (fun v Γ' => ∃ z0 : Hd, v = (z0).v ∧ Γ' = [E (List ByteArray) y z0]) := by
 intro w0 S0 fp0 hI hS
 have H : Cx w0 fp0 S0 w0 [] := Cx.start hI hS
 clear hI hS
 refine enterC (args := []) gok Tryz.func105 rfl _ rfl rfl rfl ?_
 replace H := H.sc (α := ByteArray) ⟨#[99, 111, 100, 101, 108, 97, 121]⟩
 replace H := H.sc (α := ByteArray) ⟨#[99, 111, 115, 99, 97, 108, 101]⟩
 replace H := H.sc (α := ByteArray) ⟨#[99, 111, 122, 101, 114, 111]⟩
 replace H := H.sc (α := ByteArray) ⟨#[99, 111, 97, 100, 100]⟩
 replace H := H.sc (α := ByteArray) ⟨#[99, 111, 100, 105, 115, 99, 97, 114, 100]⟩
 replace H := H.sc (α := ByteArray) ⟨#[99, 111, 99, 111, 112, 121]⟩
 replace H := H.sc (α := ByteArray) ⟨#[100, 101, 108, 97, 121]⟩
 replace H := H.sc (α := ByteArray) ⟨#[115, 99, 97, 108, 101]⟩
 replace H := H.sc (α := ByteArray) ⟨#[122, 101, 114, 111]⟩
 replace H := H.sc (α := ByteArray) ⟨#[97, 100, 100]⟩
 replace H := H.sc (α := ByteArray) ⟨#[100, 105, 115, 99, 97, 114, 100]⟩
 replace H := H.sc (α := ByteArray) ⟨#[99, 111, 112, 121]⟩
 replace H := H.sc (α := ByteArray) ⟨#[115, 119, 97, 112]⟩
 replace H := H.sc (α := ByteArray) ⟨#[105, 100]⟩
 replace H := H.sc (α := ByteArray) .empty
 refine litN (α := ByteArray) (us := [(.string .empty), (.string ⟨#[105, 100]⟩), (.string ⟨#[115, 119, 97, 112]⟩), (.string ⟨#[99, 111, 112, 121]⟩), (.string ⟨#[100, 105, 115, 99, 97, 114, 100]⟩), (.string ⟨#[97, 100, 100]⟩), (.string ⟨#[122, 101, 114, 111]⟩), (.string ⟨#[115, 99, 97, 108, 101]⟩), (.string ⟨#[100, 101, 108, 97, 121]⟩), (.string ⟨#[99, 111, 99, 111, 112, 121]⟩), (.string ⟨#[99, 111, 100, 105, 115, 99, 97, 114, 100]⟩), (.string ⟨#[99, 111, 97, 100, 100]⟩), (.string ⟨#[99, 111, 122, 101, 114, 111]⟩), (.string ⟨#[99, 111, 115, 99, 97, 108, 101]⟩), (.string ⟨#[99, 111, 100, 101, 108, 97, 121]⟩)]) (xs := [.empty, ⟨#[105, 100]⟩, ⟨#[115, 119, 97, 112]⟩, ⟨#[99, 111, 112, 121]⟩, ⟨#[100, 105, 115, 99, 97, 114, 100]⟩, ⟨#[97, 100, 100]⟩, ⟨#[122, 101, 114, 111]⟩, ⟨#[115, 99, 97, 108, 101]⟩, ⟨#[100, 101, 108, 97, 121]⟩, ⟨#[99, 111, 99, 111, 112, 121]⟩, ⟨#[99, 111, 100, 105, 115, 99, 97, 114, 100]⟩, ⟨#[99, 111, 97, 100, 100]⟩, ⟨#[99, 111, 122, 101, 114, 111]⟩, ⟨#[99, 111, 115, 99, 97, 108, 101]⟩, ⟨#[99, 111, 100, 101, 108, 97, 121]⟩]) (gs := [(), (), (), (), (), (), (), (), (), (), (), (), (), (), ()]) gok rfl rfl rfl ⟨rfl, rfl, rfl, rfl, rfl, rfl, rfl, rfl, rfl, rfl, rfl, rfl, rfl, rfl, rfl, trivial⟩ rfl rfl H ?_; clear H; intro h2 w1 hx H
 clear hx
 cases hF
 exact ⟨_, _, rfl, ⟨h2, rfl, rfl⟩, (H.sel [0] rfl).close ⟨cloE, trivial⟩⟩

theorem impl_kindOf_c (word_ : ByteArray) (y : Int) (hF : F_impl_kindOf word_ = some y) :
  ConF Tryz.prog 78 #[(.string word_)] [] [] (fun v Γ' => v = (.int .i64 y) ∧ Γ' = []) := by
 intro w0 S0 fp0 hI hS
 have H : Cx w0 fp0 S0 w0 [] := Cx.start hI hS
 clear hI hS
 refine enterC (args := [_]) gok Tryz.func78 rfl _ rfl rfl rfl ?_
 refine sq ?_
 obtain ⟨y1, e, hF2⟩ := bindS hF; clear hF
 have ey1 := e; clear e
 refine callF (impl_kindWords_c y1 ey1) (Γi := []) H trivial ?_; clear H ey1
 rintro _ _ w3 ⟨h4, rfl, rfl⟩ H
 refine lenE (H.ro (α := List ByteArray) 0 rfl).len ?_
 have x0 := (H.ro (α := List ByteArray) 0 rfl).max
 obtain ⟨r0, e, f0⟩ := bindS hF2; clear hF2
 refine loopO _ y1.length (fun (k6 : Nat) (_ : Unit) (_ : Unit) => [(0, (.string word_)), (5, (h4).v), (6, (.int .i64 ((y1.length : Nat) : Int))), (7, (.int .i64 ((k6 : Nat) : Int)))]) (fun _ (_ : Unit) (_ : Unit) w' => Cx w0 fp0 S0 w' [E (List ByteArray) y1 h4]) () () e ⟨rfl, rfl, rfl, rfl, trivial⟩ (H.sel [0] rfl) ?_ ?_
 ·
  clear H e
  rintro T0 k6 _ _ w1 o0 hk (H : Cx w0 fp0 S0 w1 [E (List ByteArray) y1 h4]) hrt f1
  refine boolE (z := true) (ltLen hk) ?_
  refine sq ?_
  refine sq ?_
  obtain ⟨a0, e, f2⟩ := bindS f1; clear f1
  obtain ⟨p0, m0, c0, c1, c2, c3⟩ := (H.ro (α := List ByteArray) 0 rfl).at1 e; clear e
  refine idxE c0 c1 c2 ?_; clear c0 c1 c2
  refine load1 c3 ?_; clear c3
  obtain ⟨a1, e, f3⟩ := bindS f2; clear f2
  refine eqZ e ?_; clear e
  cases a1
  ·
   have f4 := condF f3; clear f3
   refine arK hk x0 ?_
   have hs := Option.some.inj f4; subst hs; clear f4
   exact ⟨(), (), rfl, ⟨rfl, rfl, rfl, rfl, trivial⟩, H.sel [0] rfl⟩
  ·
   have f5 := condT f3; clear f3
   have hs := Option.some.inj f5; subst hs; clear f5
   have hr := hrt _ rfl; subst hr
   have f6 : some _ = some _ := f0
   cases f6
   exact ⟨_, _, rfl, ⟨rfl, rfl⟩, (H.sel [] rfl).close trivial⟩
 ·
  clear H e
  rintro T1 _ _ w2 hr (H : Cx w0 fp0 S0 w2 [E (List ByteArray) y1 h4])
  subst hr
  refine boolE (z := false) geLen ?_
  refine sq ?_
  cases f0
  exact ⟨_, _, rfl, ⟨rfl, rfl⟩, (H.sel [] rfl).close trivial⟩

theorem impl_isDigit_c (b_ : Int) (y : Bool) (hF : F_impl_isDigit b_ = some y) :
  ConF Tryz.prog 79 #[(.int .u8 b_)] [] [] (fun v Γ' => v = (.bool y) ∧ Γ' = []) := by
 intro w0 S0 fp0 hI hS
 have H : Cx w0 fp0 S0 w0 [] := Cx.start hI hS
 clear hI hS
 refine enterC (args := [_]) gok Tryz.func79 rfl _ rfl rfl rfl ?_
 obtain ⟨r9, f0, f1⟩ := bindS hF; clear hF
 refine cut (fun (q0 : Bool) => [(2, (.bool q0))]) (fun (q0 : Bool) w' => q0 = r9 ∧ Cx w0 fp0 S0 w' []) ?_ ?_
 ·
  obtain ⟨a0, e, f2⟩ := bindS f0; clear f0
  refine geqY e ?_; clear e
  cases a0
  ·
   have f3 := condF f2; clear f2
   exact ⟨false, ⟨rfl, trivial⟩, Option.some.inj f3, H.sel [] rfl⟩
  ·
   have f4 := condT f2; clear f2
   obtain ⟨a1, e, f5⟩ := bindS f4; clear f4
   refine leqY e ?_; clear e
   exact ⟨a1, ⟨rfl, trivial⟩, Option.some.inj f5, H.sel [] rfl⟩
 ·
  clear f0 H
  rintro T0 s7 w1 ⟨hr, (H : Cx w0 fp0 S0 w1 [])⟩
  subst hr
  cases f1
  exact ⟨_, _, rfl, ⟨rfl, rfl⟩, (H.sel [] rfl).close trivial⟩
end Go.Proofs.YtnfiffchbelapaaGreat
