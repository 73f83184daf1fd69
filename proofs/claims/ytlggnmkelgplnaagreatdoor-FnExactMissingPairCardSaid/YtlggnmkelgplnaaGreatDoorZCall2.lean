/-
 Contracts, printed by a program (wip/y/gen.py): each function of Go computes its partial function. Condition of each: its partial function yields a value.
-/
import Derived.Test.YtlggnmkelgplnaaGreatDoorZCall
namespace Go.Proofs.YtlggnmkelgplnaaGreatDoor
open Go Go.Proofs.YtlggnmkelgplnaaGreatDoor.RW
set_option maxRecDepth 100000
set_option linter.unusedVariables false
theorem spec_dnRows_c (p_:Int) (n_:Int) (e__0:Int) (e__1:Int) (e__2:List Int) (e__2h:Hd) (e__3:List Int) (e__3h:Hd) (y:List (List Int)) (hF:F_spec_dnRows p_ n_ (e__0,e__1,e__2,e__3) = some y) :
  ConF Tryz.prog 138 #[(.int .i64 p_),(.int .i64 n_),(.agg #[(.int .i64 e__0),(.int .i64 e__1),(e__2h).v,(e__3h).v])] [Es (List Int) e__2 e__2h,Es (List Int) e__3 e__3h] [] (fun v Γ'=>∃ z0:Hd,v = (z0).v ∧ Γ' = [E (List (List Int)) y z0]):=by
 intro w0 S0 fp0 hI hS
 have H:Cx w0 fp0 S0 w0 [Es (List Int) e__2 e__2h,Es (List Int) e__3 e__3h]:=Cx.start hI hS
 clear hI hS
 refine enterC (args:=[_,_,_]) gok Tryz.func138 rfl _ rfl rfl rfl ?_
 refine box_ H ?_;clear H;intro b4 w3 hx H
 clear hx
 refine heldX H [] (.fst 0 (.fst 2 (.fst 1 (.fst 4 (.fst 3 (.fst 5 .done)))))) mixed [] trivial (by kernel_rfl) ?_
 clear H;intro w6 H
 have hX:Ext w6 w6:=Upd.refl _ _
 have H0:=H
 refine anyH (fun _=>fld gok rfl rfl rfl rfl ⟨rfl,rfl⟩) ?_
 refine anyH (fun _=>fld gok rfl rfl rfl rfl ⟨rfl,rfl⟩) ?_
 refine load1X (H.bx 0 rfl (j:=2) rfl) ?_
 refine load1X (H.bx 0 rfl (j:=3) rfl) ?_
 refine fld gok rfl rfl rfl rfl ?_
 refine load1 (H.bx 0 rfl (j:=0) rfl) ?_
 obtain ⟨r0,f0,f1⟩:=bindS hF;clear hF
 refine cut (fun (q0:(List Int × List Int × Int) × (Hd × Hd))=>[(0,(.int .i64 p_)),(1,(.int .i64 n_)),(5,(.pointer (some ⟨b4,0,none⟩))),(7,(q0.2.1).v),(8,(q0.2.2).v),(9,(.int .i64 q0.1.2.2))]) (fun (q0:(List Int × List Int × Int) × (Hd × Hd)) w'=>(q0.1.1,q0.1.2.1,q0.1.2.2) = r0 ∧ Cx w0 fp0 S0 w' [Bx b4 [(.int .i64 e__0),(.int .i64 e__1),(e__2h).v,(e__3h).v],Es (List Int) e__2 e__2h,Es (List Int) e__3 e__3h,Es (List Int) q0.1.1 q0.2.1,Es (List Int) q0.1.2.1 q0.2.2]) ?_ ?_
 ·
  obtain ⟨a0,e,f2⟩:=bindS f0;clear f0
  refine boolO e ?_;clear e
  cases a0
  ·
   have f3:=condF f2;clear f2
   replace H:=H.dup 1 rfl persS
   replace H:=H.dup 3 rfl persS
   exact ⟨((e__2,e__3,e__0),(e__2h,e__3h)),⟨rfl,rfl,rfl,rfl,rfl,rfl,trivial⟩,Option.some.inj f3,H.sel [2,3,4,1,0] rfl⟩
  ·
   have f4:=condT f2;clear f2
   refine heldX H [] (.fst 0 (.fst 2 (.fst 4 (.fst 5 (.fst 6 (.fst 1 (.fst 7 (.fst 3 (.fst 8 (.fst 9 .done)))))))))) mixed [] trivial (by kernel_rfl) ?_
   clear H;intro w1 H
   have hX:Ext w1 w1:=Upd.refl _ _
   have H0:=H
   refine anyH (fun _=>fld gok rfl rfl rfl rfl ⟨rfl,rfl⟩) ?_
   refine anyH (fun _=>fld gok rfl rfl rfl rfl ⟨rfl,rfl⟩) ?_
   obtain ⟨a1,e,f5⟩:=bindS f4;clear f4
   refine arO e ?_;clear e
   obtain ⟨a2,e,f6⟩:=bindS f5;clear f5
   refine arO e ?_;clear e
   refine load1X (H.bx 0 rfl (j:=3) rfl) ?_
   refine load1X (H.bx 0 rfl (j:=2) rfl) ?_
   replace H:=H.dup 2 rfl persS
   replace H:=H.dup 2 rfl persS
   exact ⟨((e__3,e__2,a2),(e__3h,e__2h)),⟨rfl,rfl,rfl,rfl,rfl,rfl,trivial⟩,Option.some.inj f6,H.sel [2,3,4,1,0] rfl⟩
 ·
  clear f0 H
  rintro T0 ⟨⟨s0_0,s0_1,s0_2⟩,⟨g0_0,g0_1⟩⟩ w2 ⟨hr,(H:Cx w0 fp0 S0 w2 [Bx b4 [(.int .i64 e__0),(.int .i64 e__1),(e__2h).v,(e__3h).v],Es (List Int) e__2 e__2h,Es (List Int) e__3 e__3h,Es (List Int) s0_0 g0_0,Es (List Int) s0_1 g0_1])⟩
  subst hr
  refine sq ?_
  obtain ⟨a3,e,f7⟩:=bindS f1;clear f1
  refine boolO e ?_;clear e
  cases a3
  ·
   have f8:=condF f7;clear f7
   obtain ⟨a4,e,f9⟩:=bindS f8;clear f8
   refine boolO e ?_;clear e
   cases a4
   ·
    have f10:=condF f9;clear f9
    obtain ⟨a5,e,f11⟩:=bindS f10;clear f10
    refine boolO e ?_;clear e
    cases a5
    ·
     have f12:=condF f11;clear f11
     obtain ⟨a6,e,f13⟩:=bindS f12;clear f12
     refine boolO e ?_;clear e
     cases a6
     ·
      have f14:=condF f13;clear f13
      replace H:=H.nil (α:=List Int)
      cases f14
      exact ⟨_,_,rfl,⟨nilH,rfl,rfl⟩,(H.sel [0] rfl).close ⟨cloE,trivial⟩⟩
     ·
      have f15:=condT f13;clear f13
      obtain ⟨r1,f16,f17⟩:=bindS f15;clear f15
      refine heldJ H [] (.fst 0 (.fst 1 (.fst 2 (.fst 3 (.fst 5 (.fst 6 (.fst 9 (.fst 10 (.fst 4 (.fst 7 (.fst 11 (.alts (.alt 8 (.act 12 (.act 13 (.act 14 (.act 15 (.fst 16 .done))))) (.alt 12 (.alts (.alt 8 (.act 13 (.act 14 (.act 15 (.fst 16 .done)))) (.alt 13 (.act 8 (.act 14 (.act 15 (.fst 16 .done)))) .no))) .no)))))))))))))) mixed [] trivial (by kernel_rfl) (fun (q1:List (List Int) × Hd)=>[(6,(q1.2).v)]) (fun (q1:List (List Int) × Hd) w'=>q1.1 = r1 ∧ Cx w0 fp0 S0 w' [E (List (List Int)) q1.1 q1.2]) ?_ ?_
      ·
       clear H;intro w4 H
       have hX:Ext w4 w4:=Upd.refl _ _
       have H0:=H
       obtain ⟨a7,e,f18⟩:=bindS f16;clear f16
       obtain ⟨p0,m0,c0,c1,c2,c3⟩:=(H.rs (α:=List Int) 4 rfl).at1 e;clear e
       refine idxE c0 c1 c2 ?_;clear c0 c1 c2
       obtain ⟨a8,e,f19⟩:=bindS f18;clear f18
       obtain ⟨p1,m1,c4,c5,c6,c7⟩:=(H.rs (α:=List Int) 3 rfl).at1 e;clear e
       refine idxE c4 c5 c6 ?_;clear c4 c5 c6
       refine anyH (fun _=>fld gok rfl rfl rfl rfl ⟨rfl,rfl⟩) ?_
       refine load1X c3 ?_;clear c3
       refine load1X c7 ?_;clear c7
       refine load1X (H.bx 0 rfl (j:=1) rfl) ?_
       refine both ?_ ?_
       ·
        replace H:=H.sc (α:=Int) a8
        replace H:=H.sc (α:=Int) a7
        refine litN (α:=Int) (us:=[(.int .i64 a7),(.int .i64 a8)]) (xs:=[a7,a8]) (gs:=[(),()]) gok rfl rfl rfl ⟨rfl,rfl,trivial⟩ rfl rfl H ?_;clear H;intro h0 w5 hx H
        replace hX:=hX.trans0 hx;clear hx
        refine hold hX ?_
        obtain ⟨y0,e,f20⟩:=bindS f19;clear f19
        have ey183:=e;clear e
        refine callFx (spec_fdNeg_c p_ e__1 y0 ey183) H trivial ?_;clear H ey183
        rintro _ _ w7 ⟨rfl,rfl⟩ hx H
        replace hX:=hX.trans0 hx;clear hx
        refine hold hX ?_
        replace H:=H.sc (α:=Int) y0
        replace H:=H.sc (α:=Int) 1
        refine litN (α:=Int) (us:=[(.int .i64 1),(.int .i64 y0)]) (xs:=[1,y0]) (gs:=[(),()]) gok rfl rfl rfl ⟨rfl,rfl,trivial⟩ rfl rfl H ?_;clear H;intro h1 w8 hx H
        replace hX:=hX.trans0 hx;clear hx
        refine hold hX ?_
        obtain ⟨y1,e,f21⟩:=bindS f20;clear f20
        have ey189:=e;clear e
        refine callFx (spec_dnRow_c p_ n_ [a7,a8] h0 [1,y0] h1 y1 ey189) H ⟨Vw.own 1 rfl,Vw.own 0 rfl,trivial⟩ ?_;clear H ey189
        rintro _ _ w9 ⟨h2,rfl,rfl⟩ hx H
        replace hX:=hX.trans0 hx;clear hx
        refine hold hX ?_
        refine lit1 (α:=List Int) (g:=h2) gok rfl rfl rfl rfl rfl H ?_;clear H;intro h3 w10 hx H
        replace hX:=hX.trans0 hx;clear hx
        refine hold hX ?_
        exact ⟨([y1],h3),⟨rfl,trivial⟩,Option.some.inj f21,H.sel [0] rfl⟩
       ·
        refine both ?_ ?_
        ·
         obtain ⟨a9,o0,f22⟩:=bindS f19;clear f19
         obtain ⟨a10,o1,f23⟩:=bindS f22;clear f22
         have e:=o0;clear o0
         have ea197:=e;clear e
         refine callFx (spec_fdNeg_c p_ e__1 a9 ea197) H trivial ?_;clear H ea197
         rintro _ _ w11 ⟨rfl,rfl⟩ hx H
         replace hX:=hX.trans0 hx;clear hx
         refine hold hX ?_
         refine both ?_ ?_
         ·
          replace H:=H.sc (α:=Int) a8
          replace H:=H.sc (α:=Int) a7
          refine litN (α:=Int) (us:=[(.int .i64 a7),(.int .i64 a8)]) (xs:=[a7,a8]) (gs:=[(),()]) gok rfl rfl rfl ⟨rfl,rfl,trivial⟩ rfl rfl H ?_;clear H;intro h4 w12 hx H
          replace hX:=hX.trans0 hx;clear hx
          refine hold hX ?_
          replace H:=H.sc (α:=Int) a9
          replace H:=H.sc (α:=Int) 1
          refine litN (α:=Int) (us:=[(.int .i64 1),(.int .i64 a9)]) (xs:=[1,a9]) (gs:=[(),()]) gok rfl rfl rfl ⟨rfl,rfl,trivial⟩ rfl rfl H ?_;clear H;intro h5 w13 hx H
          replace hX:=hX.trans0 hx;clear hx
          refine hold hX ?_
          have e:=o1;clear o1
          have ea200:=e;clear e
          refine callFx (spec_dnRow_c p_ n_ [a7,a8] h4 [1,a9] h5 a10 ea200) H ⟨Vw.own 1 rfl,Vw.own 0 rfl,trivial⟩ ?_;clear H ea200
          rintro _ _ w14 ⟨h6,rfl,rfl⟩ hx H
          replace hX:=hX.trans0 hx;clear hx
          refine hold hX ?_
          refine lit1 (α:=List Int) (g:=h6) gok rfl rfl rfl rfl rfl H ?_;clear H;intro h7 w15 hx H
          replace hX:=hX.trans0 hx;clear hx
          refine hold hX ?_
          exact ⟨([a10],h7),⟨rfl,trivial⟩,Option.some.inj f23,H.sel [0] rfl⟩
         ·
          refine both ?_ ?_
          ·
           replace H:=H.sc (α:=Int) a9
           replace H:=H.sc (α:=Int) 1
           refine litN (α:=Int) (us:=[(.int .i64 1),(.int .i64 a9)]) (xs:=[1,a9]) (gs:=[(),()]) gok rfl rfl rfl ⟨rfl,rfl,trivial⟩ rfl rfl H ?_;clear H;intro h8 w16 hx H
           replace hX:=hX.trans0 hx;clear hx
           refine hold hX ?_
           replace H:=H.sc (α:=Int) a8
           replace H:=H.sc (α:=Int) a7
           refine litN (α:=Int) (us:=[(.int .i64 a7),(.int .i64 a8)]) (xs:=[a7,a8]) (gs:=[(),()]) gok rfl rfl rfl ⟨rfl,rfl,trivial⟩ rfl rfl H ?_;clear H;intro h9 w17 hx H
           replace hX:=hX.trans0 hx;clear hx
           refine hold hX ?_
           have e:=o1;clear o1
           have ea200:=e;clear e
           refine callFx (spec_dnRow_c p_ n_ [a7,a8] h9 [1,a9] h8 a10 ea200) H ⟨Vw.own 0 rfl,Vw.own 1 rfl,trivial⟩ ?_;clear H ea200
           rintro _ _ w18 ⟨h10,rfl,rfl⟩ hx H
           replace hX:=hX.trans0 hx;clear hx
           refine hold hX ?_
           refine lit1 (α:=List Int) (g:=h10) gok rfl rfl rfl rfl rfl H ?_;clear H;intro h11 w19 hx H
           replace hX:=hX.trans0 hx;clear hx
           refine hold hX ?_
           exact ⟨([a10],h11),⟨rfl,trivial⟩,Option.some.inj f23,H.sel [0] rfl⟩
          ·
           exact trivial
        ·
         exact trivial
      ·
       clear f16 H
       rintro T1 ⟨s1,g1⟩ w20 ⟨hr,(H:Cx w0 fp0 S0 w20 [E (List (List Int)) s1 g1])⟩
       subst hr
       cases f17
       exact ⟨_,_,rfl,⟨g1,rfl,rfl⟩,(H.sel [0] rfl).close ⟨cloE,trivial⟩⟩
    ·
     have f24:=condT f11;clear f11
     obtain ⟨a11,e,f25⟩:=bindS f24;clear f24
     obtain ⟨p2,m2,c8,c9,c10,c11⟩:=(H.rs (α:=List Int) 4 rfl).at1 e;clear e
     refine idxE c8 c9 c10 ?_;clear c8 c9 c10
     refine load1 c11 ?_;clear c11
     refine lit1S (α:=Int) gok rfl rfl rfl rfl H ?_;clear H;intro h12 w21 hx H
     clear hx
     refine lit1S (α:=Int) gok rfl rfl rfl rfl H ?_;clear H;intro h13 w22 hx H
     clear hx
     obtain ⟨y2,e,f26⟩:=bindS f25;clear f25
     have ey245:=e;clear e
     refine callF (spec_dnRow_c p_ n_ [a11] h12 [1] h13 y2 ey245) (Γi:=[]) H ⟨Vw.own 1 rfl,Vw.own 0 rfl,trivial⟩ ?_;clear H ey245
     rintro _ _ w23 ⟨h14,rfl,rfl⟩ H
     refine lit1 (α:=List Int) (g:=h14) gok rfl rfl rfl rfl rfl H ?_;clear H;intro h15 w24 hx H
     clear hx
     cases f26
     exact ⟨_,_,rfl,⟨h15,rfl,rfl⟩,(H.sel [0] rfl).close ⟨cloE,trivial⟩⟩
   ·
    have f27:=condT f9;clear f9
    obtain ⟨r2,f28,f29⟩:=bindS f27;clear f27
    refine heldJ H [] (.fst 0 (.fst 1 (.fst 2 (.fst 3 (.fst 5 (.fst 6 (.fst 8 (.fst 9 (.fst 12 (.fst 13 (.fst 14 (.fst 15 (.fst 4 (.fst 7 (.fst 10 (.alts (.alt 11 (.act 16 (.act 17 (.act 18 (.fst 19 .done)))) (.alt 16 (.act 11 (.act 17 (.act 18 (.fst 19 .done)))) .no)))))))))))))))))) mixed [] trivial (by kernel_rfl) (fun (q2:List (List Int) × Hd)=>[(6,(q2.2).v)]) (fun (q2:List (List Int) × Hd) w'=>q2.1 = r2 ∧ Cx w0 fp0 S0 w' [E (List (List Int)) q2.1 q2.2]) ?_ ?_
    ·
     clear H;intro w25 H
     have hX:Ext w25 w25:=Upd.refl _ _
     have H0:=H
     obtain ⟨a12,e,f30⟩:=bindS f28;clear f28
     obtain ⟨p3,m3,c12,c13,c14,c15⟩:=(H.rs (α:=List Int) 4 rfl).at1 e;clear e
     refine idxE c12 c13 c14 ?_;clear c12 c13 c14
     obtain ⟨a13,e,f31⟩:=bindS f30;clear f30
     obtain ⟨p4,m4,c16,c17,c18,c19⟩:=(H.rs (α:=List Int) 3 rfl).at1 e;clear e
     refine idxE c16 c17 c18 ?_;clear c16 c17 c18
     obtain ⟨a14,e,f32⟩:=bindS f31;clear f31
     obtain ⟨p5,m5,c20,c21,c22,c23⟩:=(H.rs (α:=List Int) 3 rfl).at1 e;clear e
     refine idxE c20 c21 c22 ?_;clear c20 c21 c22
     obtain ⟨a15,e,f33⟩:=bindS f32;clear f32
     refine arO e ?_;clear e
     obtain ⟨a16,e,f34⟩:=bindS f33;clear f33
     refine arO e ?_;clear e
     refine load1X c15 ?_;clear c15
     refine load1X c19 ?_;clear c19
     refine load1X c23 ?_;clear c23
     refine both ?_ ?_
     ·
      replace H:=H.sc (α:=Int) a14
      replace H:=H.sc (α:=Int) a13
      replace H:=H.sc (α:=Int) a12
      refine litN (α:=Int) (us:=[(.int .i64 a12),(.int .i64 a13),(.int .i64 a14)]) (xs:=[a12,a13,a14]) (gs:=[(),(),()]) gok rfl rfl rfl ⟨rfl,rfl,rfl,trivial⟩ rfl rfl H ?_;clear H;intro h16 w26 hx H
      replace hX:=hX.trans0 hx;clear hx
      refine hold hX ?_
      replace H:=H.sc (α:=Int) a16
      replace H:=H.sc (α:=Int) a15
      replace H:=H.sc (α:=Int) 1
      refine litN (α:=Int) (us:=[(.int .i64 1),(.int .i64 a15),(.int .i64 a16)]) (xs:=[1,a15,a16]) (gs:=[(),(),()]) gok rfl rfl rfl ⟨rfl,rfl,rfl,trivial⟩ rfl rfl H ?_;clear H;intro h17 w27 hx H
      replace hX:=hX.trans0 hx;clear hx
      refine hold hX ?_
      obtain ⟨y3,e,f35⟩:=bindS f34;clear f34
      have ey382:=e;clear e
      refine callFx (spec_dnRow_c p_ n_ [a12,a13,a14] h16 [1,a15,a16] h17 y3 ey382) H ⟨Vw.own 1 rfl,Vw.own 0 rfl,trivial⟩ ?_;clear H ey382
      rintro _ _ w28 ⟨h18,rfl,rfl⟩ hx H
      replace hX:=hX.trans0 hx;clear hx
      refine hold hX ?_
      refine lit1 (α:=List Int) (g:=h18) gok rfl rfl rfl rfl rfl H ?_;clear H;intro h19 w29 hx H
      replace hX:=hX.trans0 hx;clear hx
      refine hold hX ?_
      exact ⟨([y3],h19),⟨rfl,trivial⟩,Option.some.inj f35,H.sel [0] rfl⟩
     ·
      refine both ?_ ?_
      ·
       obtain ⟨a17,o2,f36⟩:=bindS f34;clear f34
       replace H:=H.sc (α:=Int) a16
       replace H:=H.sc (α:=Int) a15
       replace H:=H.sc (α:=Int) 1
       refine litN (α:=Int) (us:=[(.int .i64 1),(.int .i64 a15),(.int .i64 a16)]) (xs:=[1,a15,a16]) (gs:=[(),(),()]) gok rfl rfl rfl ⟨rfl,rfl,rfl,trivial⟩ rfl rfl H ?_;clear H;intro h20 w30 hx H
       replace hX:=hX.trans0 hx;clear hx
       refine hold hX ?_
       replace H:=H.sc (α:=Int) a14
       replace H:=H.sc (α:=Int) a13
       replace H:=H.sc (α:=Int) a12
       refine litN (α:=Int) (us:=[(.int .i64 a12),(.int .i64 a13),(.int .i64 a14)]) (xs:=[a12,a13,a14]) (gs:=[(),(),()]) gok rfl rfl rfl ⟨rfl,rfl,rfl,trivial⟩ rfl rfl H ?_;clear H;intro h21 w31 hx H
       replace hX:=hX.trans0 hx;clear hx
       refine hold hX ?_
       have e:=o2;clear o2
       have ea390:=e;clear e
       refine callFx (spec_dnRow_c p_ n_ [a12,a13,a14] h21 [1,a15,a16] h20 a17 ea390) H ⟨Vw.own 0 rfl,Vw.own 1 rfl,trivial⟩ ?_;clear H ea390
       rintro _ _ w33 ⟨h22,rfl,rfl⟩ hx H
       replace hX:=hX.trans0 hx;clear hx
       refine hold hX ?_
       refine lit1 (α:=List Int) (g:=h22) gok rfl rfl rfl rfl rfl H ?_;clear H;intro h23 w34 hx H
       replace hX:=hX.trans0 hx;clear hx
       refine hold hX ?_
       exact ⟨([a17],h23),⟨rfl,trivial⟩,Option.some.inj f36,H.sel [0] rfl⟩
      ·
       exact trivial
    ·
     clear f28 H
     rintro T2 ⟨s2,g2⟩ w35 ⟨hr,(H:Cx w0 fp0 S0 w35 [E (List (List Int)) s2 g2])⟩
     subst hr
     cases f29
     exact ⟨_,_,rfl,⟨g2,rfl,rfl⟩,(H.sel [0] rfl).close ⟨cloE,trivial⟩⟩
  ·
   have f37:=condT f7;clear f7
   obtain ⟨r3,f38,f39⟩:=bindS f37;clear f37
   refine heldJ H [] (.fst 0 (.fst 1 (.fst 2 (.fst 3 (.fst 5 (.fst 6 (.fst 9 (.fst 10 (.fst 13 (.fst 14 (.fst 15 (.fst 16 (.fst 18 (.fst 19 (.fst 22 (.fst 23 (.fst 4 (.fst 7 (.fst 17 (.fst 20 (.alts (.alt 8 (.alts (.alt 11 (.alts (.alt 12 (.alts (.alt 21 (.act 24 (.act 25 (.act 26 (.fst 27 .done)))) (.alt 24 (.act 21 (.act 25 (.act 26 (.fst 27 .done)))) .no))) (.alt 21 (.alts (.alt 12 (.act 24 (.act 25 (.act 26 (.fst 27 .done)))) (.alt 24 (.act 12 (.act 25 (.act 26 (.fst 27 .done)))) .no))) (.alt 24 (.alts (.alt 12 (.act 21 (.act 25 (.act 26 (.fst 27 .done)))) (.alt 21 (.act 12 (.act 25 (.act 26 (.fst 27 .done)))) .no))) .no)))) (.alt 21 (.alts (.alt 11 (.alts (.alt 12 (.act 24 (.act 25 (.act 26 (.fst 27 .done)))) (.alt 24 (.act 12 (.act 25 (.act 26 (.fst 27 .done)))) .no))) (.alt 24 (.act 11 (.act 12 (.act 25 (.act 26 (.fst 27 .done))))) .no))) (.alt 24 (.alts (.alt 11 (.alts (.alt 12 (.act 21 (.act 25 (.act 26 (.fst 27 .done)))) (.alt 21 (.act 12 (.act 25 (.act 26 (.fst 27 .done)))) .no))) (.alt 21 (.act 11 (.act 12 (.act 25 (.act 26 (.fst 27 .done))))) .no))) .no)))) (.alt 11 (.alts (.alt 8 (.alts (.alt 12 (.alts (.alt 21 (.act 24 (.act 25 (.act 26 (.fst 27 .done)))) (.alt 24 (.act 21 (.act 25 (.act 26 (.fst 27 .done)))) .no))) (.alt 21 (.alts (.alt 12 (.act 24 (.act 25 (.act 26 (.fst 27 .done)))) (.alt 24 (.act 12 (.act 25 (.act 26 (.fst 27 .done)))) .no))) (.alt 24 (.alts (.alt 12 (.act 21 (.act 25 (.act 26 (.fst 27 .done)))) (.alt 21 (.act 12 (.act 25 (.act 26 (.fst 27 .done)))) .no))) .no)))) (.alt 21 (.alts (.alt 8 (.alts (.alt 12 (.act 24 (.act 25 (.act 26 (.fst 27 .done)))) (.alt 24 (.act 12 (.act 25 (.act 26 (.fst 27 .done)))) .no))) (.alt 24 (.act 8 (.act 12 (.act 25 (.act 26 (.fst 27 .done))))) .no))) (.alt 24 (.alts (.alt 8 (.alts (.alt 12 (.act 21 (.act 25 (.act 26 (.fst 27 .done)))) (.alt 21 (.act 12 (.act 25 (.act 26 (.fst 27 .done)))) .no))) (.alt 21 (.act 8 (.act 12 (.act 25 (.act 26 (.fst 27 .done))))) .no))) .no)))) (.alt 21 (.alts (.alt 8 (.alts (.alt 11 (.alts (.alt 12 (.act 24 (.act 25 (.act 26 (.fst 27 .done)))) (.alt 24 (.act 12 (.act 25 (.act 26 (.fst 27 .done)))) .no))) (.alt 24 (.act 11 (.act 12 (.act 25 (.act 26 (.fst 27 .done))))) .no))) (.alt 11 (.alts (.alt 8 (.alts (.alt 12 (.act 24 (.act 25 (.act 26 (.fst 27 .done)))) (.alt 24 (.act 12 (.act 25 (.act 26 (.fst 27 .done)))) .no))) (.alt 24 (.act 8 (.act 12 (.act 25 (.act 26 (.fst 27 .done))))) .no))) (.alt 24 (.alts (.alt 8 (.act 11 (.act 12 (.act 25 (.act 26 (.fst 27 .done))))) (.alt 11 (.act 8 (.act 12 (.act 25 (.act 26 (.fst 27 .done))))) .no))) .no)))) (.alt 24 (.alts (.alt 8 (.alts (.alt 11 (.alts (.alt 12 (.act 21 (.act 25 (.act 26 (.fst 27 .done)))) (.alt 21 (.act 12 (.act 25 (.act 26 (.fst 27 .done)))) .no))) (.alt 21 (.act 11 (.act 12 (.act 25 (.act 26 (.fst 27 .done))))) .no))) (.alt 11 (.alts (.alt 8 (.alts (.alt 12 (.act 21 (.act 25 (.act 26 (.fst 27 .done)))) (.alt 21 (.act 12 (.act 25 (.act 26 (.fst 27 .done)))) .no))) (.alt 21 (.act 8 (.act 12 (.act 25 (.act 26 (.fst 27 .done))))) .no))) (.alt 21 (.alts (.alt 8 (.act 11 (.act 12 (.act 25 (.act 26 (.fst 27 .done))))) (.alt 11 (.act 8 (.act 12 (.act 25 (.act 26 (.fst 27 .done))))) .no))) .no)))) .no))))))))))))))))))))))))) mixed [] trivial (by kernel_rfl) (fun (q3:List (List Int) × Hd)=>[(6,(q3.2).v)]) (fun (q3:List (List Int) × Hd) w'=>q3.1 = r3 ∧ Cx w0 fp0 S0 w' [E (List (List Int)) q3.1 q3.2]) ?_ ?_
   ·
    clear H;intro w36 H
    have hX:Ext w36 w36:=Upd.refl _ _
    have H0:=H
    obtain ⟨a18,e,f40⟩:=bindS f38;clear f38
    obtain ⟨p6,m6,c24,c25,c26,c27⟩:=(H.rs (α:=List Int) 4 rfl).at1 e;clear e
    refine idxE c24 c25 c26 ?_;clear c24 c25 c26
    obtain ⟨a19,e,f41⟩:=bindS f40;clear f40
    obtain ⟨p7,m7,c28,c29,c30,c31⟩:=(H.rs (α:=List Int) 3 rfl).at1 e;clear e
    refine idxE c28 c29 c30 ?_;clear c28 c29 c30
    obtain ⟨a20,e,f42⟩:=bindS f41;clear f41
    refine arO e ?_;clear e
    obtain ⟨a21,e,f43⟩:=bindS f42;clear f42
    obtain ⟨p8,m8,c32,c33,c34,c35⟩:=(H.rs (α:=List Int) 4 rfl).at1 e;clear e
    refine idxE c32 c33 c34 ?_;clear c32 c33 c34
    obtain ⟨a22,e,f44⟩:=bindS f43;clear f43
    obtain ⟨p9,m9,c36,c37,c38,c39⟩:=(H.rs (α:=List Int) 3 rfl).at1 e;clear e
    refine idxE c36 c37 c38 ?_;clear c36 c37 c38
    obtain ⟨a23,e,f45⟩:=bindS f44;clear f44
    refine arO e ?_;clear e
    refine load1X c27 ?_;clear c27
    refine load1X c31 ?_;clear c31
    refine load1X c35 ?_;clear c35
    refine load1X c39 ?_;clear c39
    refine both ?_ ?_
    ·
     replace H:=H.sc (α:=Int) a19
     replace H:=H.sc (α:=Int) a18
     refine litN (α:=Int) (us:=[(.int .i64 a18),(.int .i64 a19)]) (xs:=[a18,a19]) (gs:=[(),()]) gok rfl rfl rfl ⟨rfl,rfl,trivial⟩ rfl rfl H ?_;clear H;intro h24 w37 hx H
     replace hX:=hX.trans0 hx;clear hx
     refine hold hX ?_
     refine both ?_ ?_
     ·
      replace H:=H.sc (α:=Int) a20
      replace H:=H.sc (α:=Int) 1
      refine litN (α:=Int) (us:=[(.int .i64 1),(.int .i64 a20)]) (xs:=[1,a20]) (gs:=[(),()]) gok rfl rfl rfl ⟨rfl,rfl,trivial⟩ rfl rfl H ?_;clear H;intro h25 w38 hx H
      replace hX:=hX.trans0 hx;clear hx
      refine hold hX ?_
      refine both ?_ ?_
      ·
       obtain ⟨y4,e,f46⟩:=bindS f45;clear f45
       have ey1296:=e;clear e
       refine callFx (spec_dnRow_c p_ n_ [a18,a19] h24 [1,a20] h25 y4 ey1296) H ⟨Vw.own 1 rfl,Vw.own 0 rfl,trivial⟩ ?_;clear H ey1296
       rintro _ _ w39 ⟨h26,rfl,rfl⟩ hx H
       replace hX:=hX.trans0 hx;clear hx
       refine hold hX ?_
       refine both ?_ ?_
       ·
        replace H:=H.sc (α:=Int) a22
        replace H:=H.sc (α:=Int) a21
        refine litN (α:=Int) (us:=[(.int .i64 a21),(.int .i64 a22)]) (xs:=[a21,a22]) (gs:=[(),()]) gok rfl rfl rfl ⟨rfl,rfl,trivial⟩ rfl rfl H ?_;clear H;intro h27 w40 hx H
        replace hX:=hX.trans0 hx;clear hx
        refine hold hX ?_
        replace H:=H.sc (α:=Int) a23
        replace H:=H.sc (α:=Int) 1
        refine litN (α:=Int) (us:=[(.int .i64 1),(.int .i64 a23)]) (xs:=[1,a23]) (gs:=[(),()]) gok rfl rfl rfl ⟨rfl,rfl,trivial⟩ rfl rfl H ?_;clear H;intro h28 w42 hx H
        replace hX:=hX.trans0 hx;clear hx
        refine hold hX ?_
        obtain ⟨y5,e,f47⟩:=bindS f46;clear f46
        have ey1321:=e;clear e
        refine callFx (spec_dnRow_c p_ n_ [a21,a22] h27 [1,a23] h28 y5 ey1321) H ⟨Vw.own 1 rfl,Vw.own 0 rfl,trivial⟩ ?_;clear H ey1321
        rintro _ _ w43 ⟨h29,rfl,rfl⟩ hx H
        replace hX:=hX.trans0 hx;clear hx
        refine hold hX ?_
        replace H:=H.sel [3,0,1,2,4,5,6,7,8,9,10] rfl
        refine litN (α:=List Int) (us:=[(h26).v,(h29).v]) (xs:=[y4,y5]) (gs:=[h26,h29]) gok rfl rfl rfl ⟨rfl,rfl,trivial⟩ rfl rfl H ?_;clear H;intro h30 w44 hx H
        replace hX:=hX.trans0 hx;clear hx
        refine hold hX ?_
        exact ⟨([y4,y5],h30),⟨rfl,trivial⟩,Option.some.inj f47,H.sel [0] rfl⟩
       ·
        refine both ?_ ?_
        ·
         obtain ⟨a25,o3,f48⟩:=bindS f46;clear f46
         replace H:=H.sc (α:=Int) a23
         replace H:=H.sc (α:=Int) 1
         refine litN (α:=Int) (us:=[(.int .i64 1),(.int .i64 a23)]) (xs:=[1,a23]) (gs:=[(),()]) gok rfl rfl rfl ⟨rfl,rfl,trivial⟩ rfl rfl H ?_;clear H;intro h31 w45 hx H
         replace hX:=hX.trans0 hx;clear hx
         refine hold hX ?_
         replace H:=H.sc (α:=Int) a22
         replace H:=H.sc (α:=Int) a21
         refine litN (α:=Int) (us:=[(.int .i64 a21),(.int .i64 a22)]) (xs:=[a21,a22]) (gs:=[(),()]) gok rfl rfl rfl ⟨rfl,rfl,trivial⟩ rfl rfl H ?_;clear H;intro h32 w46 hx H
         replace hX:=hX.trans0 hx;clear hx
         refine hold hX ?_
         have e:=o3;clear o3
         have ea1329:=e;clear e
         refine callFx (spec_dnRow_c p_ n_ [a21,a22] h32 [1,a23] h31 a25 ea1329) H ⟨Vw.own 0 rfl,Vw.own 1 rfl,trivial⟩ ?_;clear H ea1329
         rintro _ _ w47 ⟨h33,rfl,rfl⟩ hx H
         replace hX:=hX.trans0 hx;clear hx
         refine hold hX ?_
         replace H:=H.sel [3,0,1,2,4,5,6,7,8,9,10] rfl
         refine litN (α:=List Int) (us:=[(h26).v,(h33).v]) (xs:=[y4,a25]) (gs:=[h26,h33]) gok rfl rfl rfl ⟨rfl,rfl,trivial⟩ rfl rfl H ?_;clear H;intro h34 w48 hx H
         replace hX:=hX.trans0 hx;clear hx
         refine hold hX ?_
         exact ⟨([y4,a25],h34),⟨rfl,trivial⟩,Option.some.inj f48,H.sel [0] rfl⟩
        ·
         exact trivial
      ·
       refine both ?_ ?_
       ·
        obtain ⟨a26,o4,f49⟩:=bindS f45;clear f45
        obtain ⟨a27,o5,f50⟩:=bindS f49;clear f49
        replace H:=H.sc (α:=Int) a22
        replace H:=H.sc (α:=Int) a21
        refine litN (α:=Int) (us:=[(.int .i64 a21),(.int .i64 a22)]) (xs:=[a21,a22]) (gs:=[(),()]) gok rfl rfl rfl ⟨rfl,rfl,trivial⟩ rfl rfl H ?_;clear H;intro h35 w49 hx H
        replace hX:=hX.trans0 hx;clear hx
        refine hold hX ?_
        refine both ?_ ?_
        ·
         have e:=o4;clear o4
         have ea1344:=e;clear e
         refine callFx (spec_dnRow_c p_ n_ [a18,a19] h24 [1,a20] h25 a26 ea1344) H ⟨Vw.own 2 rfl,Vw.own 1 rfl,trivial⟩ ?_;clear H ea1344
         rintro _ _ w50 ⟨h36,rfl,rfl⟩ hx H
         replace hX:=hX.trans0 hx;clear hx
         refine hold hX ?_
         replace H:=H.sc (α:=Int) a23
         replace H:=H.sc (α:=Int) 1
         refine litN (α:=Int) (us:=[(.int .i64 1),(.int .i64 a23)]) (xs:=[1,a23]) (gs:=[(),()]) gok rfl rfl rfl ⟨rfl,rfl,trivial⟩ rfl rfl H ?_;clear H;intro h37 w51 hx H
         replace hX:=hX.trans0 hx;clear hx
         refine hold hX ?_
         have e:=o5;clear o5
         have ea1347:=e;clear e
         refine callFx (spec_dnRow_c p_ n_ [a21,a22] h35 [1,a23] h37 a27 ea1347) H ⟨Vw.own 2 rfl,Vw.own 0 rfl,trivial⟩ ?_;clear H ea1347
         rintro _ _ w52 ⟨h38,rfl,rfl⟩ hx H
         replace hX:=hX.trans0 hx;clear hx
         refine hold hX ?_
         replace H:=H.sel [2,0,1,3,4,5,6,7,8,9,10] rfl
         refine litN (α:=List Int) (us:=[(h36).v,(h38).v]) (xs:=[a26,a27]) (gs:=[h36,h38]) gok rfl rfl rfl ⟨rfl,rfl,trivial⟩ rfl rfl H ?_;clear H;intro h39 w53 hx H
         replace hX:=hX.trans0 hx;clear hx
         refine hold hX ?_
         exact ⟨([a26,a27],h39),⟨rfl,trivial⟩,Option.some.inj f50,H.sel [0] rfl⟩
        ·
         refine both ?_ ?_
         ·
          replace H:=H.sc (α:=Int) a23
          replace H:=H.sc (α:=Int) 1
          refine litN (α:=Int) (us:=[(.int .i64 1),(.int .i64 a23)]) (xs:=[1,a23]) (gs:=[(),()]) gok rfl rfl rfl ⟨rfl,rfl,trivial⟩ rfl rfl H ?_;clear H;intro h40 w54 hx H
          replace hX:=hX.trans0 hx;clear hx
          refine hold hX ?_
          have e:=o4;clear o4
          have ea1344:=e;clear e
          refine callFx (spec_dnRow_c p_ n_ [a18,a19] h24 [1,a20] h25 a26 ea1344) H ⟨Vw.own 3 rfl,Vw.own 2 rfl,trivial⟩ ?_;clear H ea1344
          rintro _ _ w55 ⟨h41,rfl,rfl⟩ hx H
          replace hX:=hX.trans0 hx;clear hx
          refine hold hX ?_
          have e:=o5;clear o5
          have ea1347:=e;clear e
          refine callFx (spec_dnRow_c p_ n_ [a21,a22] h35 [1,a23] h40 a27 ea1347) H ⟨Vw.own 2 rfl,Vw.own 1 rfl,trivial⟩ ?_;clear H ea1347
          rintro _ _ w56 ⟨h42,rfl,rfl⟩ hx H
          replace hX:=hX.trans0 hx;clear hx
          refine hold hX ?_
          replace H:=H.sel [1,0,2,3,4,5,6,7,8,9,10] rfl
          refine litN (α:=List Int) (us:=[(h41).v,(h42).v]) (xs:=[a26,a27]) (gs:=[h41,h42]) gok rfl rfl rfl ⟨rfl,rfl,trivial⟩ rfl rfl H ?_;clear H;intro h43 w57 hx H
          replace hX:=hX.trans0 hx;clear hx
          refine hold hX ?_
          exact ⟨([a26,a27],h43),⟨rfl,trivial⟩,Option.some.inj f50,H.sel [0] rfl⟩
         ·
          exact trivial
       ·
        refine both ?_ ?_
        ·
         obtain ⟨a28,o6,f51⟩:=bindS f45;clear f45
         obtain ⟨a29,o7,f52⟩:=bindS f51;clear f51
         replace H:=H.sc (α:=Int) a23
         replace H:=H.sc (α:=Int) 1
         refine litN (α:=Int) (us:=[(.int .i64 1),(.int .i64 a23)]) (xs:=[1,a23]) (gs:=[(),()]) gok rfl rfl rfl ⟨rfl,rfl,trivial⟩ rfl rfl H ?_;clear H;intro h44 w58 hx H
         replace hX:=hX.trans0 hx;clear hx
         refine hold hX ?_
         refine both ?_ ?_
         ·
          have e:=o6;clear o6
          have ea1377:=e;clear e
          refine callFx (spec_dnRow_c p_ n_ [a18,a19] h24 [1,a20] h25 a28 ea1377) H ⟨Vw.own 2 rfl,Vw.own 1 rfl,trivial⟩ ?_;clear H ea1377
          rintro _ _ w59 ⟨h45,rfl,rfl⟩ hx H
          replace hX:=hX.trans0 hx;clear hx
          refine hold hX ?_
          replace H:=H.sc (α:=Int) a22
          replace H:=H.sc (α:=Int) a21
          refine litN (α:=Int) (us:=[(.int .i64 a21),(.int .i64 a22)]) (xs:=[a21,a22]) (gs:=[(),()]) gok rfl rfl rfl ⟨rfl,rfl,trivial⟩ rfl rfl H ?_;clear H;intro h46 w60 hx H
          replace hX:=hX.trans0 hx;clear hx
          refine hold hX ?_
          have e:=o7;clear o7
          have ea1380:=e;clear e
          refine callFx (spec_dnRow_c p_ n_ [a21,a22] h46 [1,a23] h44 a29 ea1380) H ⟨Vw.own 0 rfl,Vw.own 2 rfl,trivial⟩ ?_;clear H ea1380
          rintro _ _ w61 ⟨h47,rfl,rfl⟩ hx H
          replace hX:=hX.trans0 hx;clear hx
          refine hold hX ?_
          replace H:=H.sel [2,0,1,3,4,5,6,7,8,9,10] rfl
          refine litN (α:=List Int) (us:=[(h45).v,(h47).v]) (xs:=[a28,a29]) (gs:=[h45,h47]) gok rfl rfl rfl ⟨rfl,rfl,trivial⟩ rfl rfl H ?_;clear H;intro h48 w62 hx H
          replace hX:=hX.trans0 hx;clear hx
          refine hold hX ?_
          exact ⟨([a28,a29],h48),⟨rfl,trivial⟩,Option.some.inj f52,H.sel [0] rfl⟩
         ·
          refine both ?_ ?_
          ·
           replace H:=H.sc (α:=Int) a22
           replace H:=H.sc (α:=Int) a21
           refine litN (α:=Int) (us:=[(.int .i64 a21),(.int .i64 a22)]) (xs:=[a21,a22]) (gs:=[(),()]) gok rfl rfl rfl ⟨rfl,rfl,trivial⟩ rfl rfl H ?_;clear H;intro h49 w63 hx H
           replace hX:=hX.trans0 hx;clear hx
           refine hold hX ?_
           have e:=o6;clear o6
           have ea1377:=e;clear e
           refine callFx (spec_dnRow_c p_ n_ [a18,a19] h24 [1,a20] h25 a28 ea1377) H ⟨Vw.own 3 rfl,Vw.own 2 rfl,trivial⟩ ?_;clear H ea1377
           rintro _ _ w64 ⟨h50,rfl,rfl⟩ hx H
           replace hX:=hX.trans0 hx;clear hx
           refine hold hX ?_
           have e:=o7;clear o7
           have ea1380:=e;clear e
           refine callFx (spec_dnRow_c p_ n_ [a21,a22] h49 [1,a23] h44 a29 ea1380) H ⟨Vw.own 1 rfl,Vw.own 2 rfl,trivial⟩ ?_;clear H ea1380
           rintro _ _ w65 ⟨h51,rfl,rfl⟩ hx H
           replace hX:=hX.trans0 hx;clear hx
           refine hold hX ?_
           replace H:=H.sel [1,0,2,3,4,5,6,7,8,9,10] rfl
           refine litN (α:=List Int) (us:=[(h50).v,(h51).v]) (xs:=[a28,a29]) (gs:=[h50,h51]) gok rfl rfl rfl ⟨rfl,rfl,trivial⟩ rfl rfl H ?_;clear H;intro h52 w66 hx H
           replace hX:=hX.trans0 hx;clear hx
           refine hold hX ?_
           exact ⟨([a28,a29],h52),⟨rfl,trivial⟩,Option.some.inj f52,H.sel [0] rfl⟩
          ·
           exact trivial
        ·
         exact trivial
     ·
      refine both ?_ ?_
      ·
       obtain ⟨a30,o8,f53⟩:=bindS f45;clear f45
       obtain ⟨a31,o9,f54⟩:=bindS f53;clear f53
       replace H:=H.sc (α:=Int) a22
       replace H:=H.sc (α:=Int) a21
       refine litN (α:=Int) (us:=[(.int .i64 a21),(.int .i64 a22)]) (xs:=[a21,a22]) (gs:=[(),()]) gok rfl rfl rfl ⟨rfl,rfl,trivial⟩ rfl rfl H ?_;clear H;intro h53 w67 hx H
       replace hX:=hX.trans0 hx;clear hx
       refine hold hX ?_
       refine both ?_ ?_
       ·
        replace H:=H.sc (α:=Int) a20
        replace H:=H.sc (α:=Int) 1
        refine litN (α:=Int) (us:=[(.int .i64 1),(.int .i64 a20)]) (xs:=[1,a20]) (gs:=[(),()]) gok rfl rfl rfl ⟨rfl,rfl,trivial⟩ rfl rfl H ?_;clear H;intro h54 w68 hx H
        replace hX:=hX.trans0 hx;clear hx
        refine hold hX ?_
        refine both ?_ ?_
        ·
         have e:=o8;clear o8
         have ea1410:=e;clear e
         refine callFx (spec_dnRow_c p_ n_ [a18,a19] h24 [1,a20] h54 a30 ea1410) H ⟨Vw.own 2 rfl,Vw.own 0 rfl,trivial⟩ ?_;clear H ea1410
         rintro _ _ w69 ⟨h55,rfl,rfl⟩ hx H
         replace hX:=hX.trans0 hx;clear hx
         refine hold hX ?_
         replace H:=H.sc (α:=Int) a23
         replace H:=H.sc (α:=Int) 1
         refine litN (α:=Int) (us:=[(.int .i64 1),(.int .i64 a23)]) (xs:=[1,a23]) (gs:=[(),()]) gok rfl rfl rfl ⟨rfl,rfl,trivial⟩ rfl rfl H ?_;clear H;intro h56 w70 hx H
         replace hX:=hX.trans0 hx;clear hx
         refine hold hX ?_
         have e:=o9;clear o9
         have ea1413:=e;clear e
         refine callFx (spec_dnRow_c p_ n_ [a21,a22] h53 [1,a23] h56 a31 ea1413) H ⟨Vw.own 3 rfl,Vw.own 0 rfl,trivial⟩ ?_;clear H ea1413
         rintro _ _ w71 ⟨h57,rfl,rfl⟩ hx H
         replace hX:=hX.trans0 hx;clear hx
         refine hold hX ?_
         replace H:=H.sel [2,0,1,3,4,5,6,7,8,9,10] rfl
         refine litN (α:=List Int) (us:=[(h55).v,(h57).v]) (xs:=[a30,a31]) (gs:=[h55,h57]) gok rfl rfl rfl ⟨rfl,rfl,trivial⟩ rfl rfl H ?_;clear H;intro h58 w72 hx H
         replace hX:=hX.trans0 hx;clear hx
         refine hold hX ?_
         exact ⟨([a30,a31],h58),⟨rfl,trivial⟩,Option.some.inj f54,H.sel [0] rfl⟩
        ·
         refine both ?_ ?_
         ·
          replace H:=H.sc (α:=Int) a23
          replace H:=H.sc (α:=Int) 1
          refine litN (α:=Int) (us:=[(.int .i64 1),(.int .i64 a23)]) (xs:=[1,a23]) (gs:=[(),()]) gok rfl rfl rfl ⟨rfl,rfl,trivial⟩ rfl rfl H ?_;clear H;intro h59 w73 hx H
          replace hX:=hX.trans0 hx;clear hx
          refine hold hX ?_
          have e:=o8;clear o8
          have ea1410:=e;clear e
          refine callFx (spec_dnRow_c p_ n_ [a18,a19] h24 [1,a20] h54 a30 ea1410) H ⟨Vw.own 3 rfl,Vw.own 1 rfl,trivial⟩ ?_;clear H ea1410
          rintro _ _ w74 ⟨h60,rfl,rfl⟩ hx H
          replace hX:=hX.trans0 hx;clear hx
          refine hold hX ?_
          have e:=o9;clear o9
          have ea1413:=e;clear e
          refine callFx (spec_dnRow_c p_ n_ [a21,a22] h53 [1,a23] h59 a31 ea1413) H ⟨Vw.own 3 rfl,Vw.own 1 rfl,trivial⟩ ?_;clear H ea1413
          rintro _ _ w75 ⟨h61,rfl,rfl⟩ hx H
          replace hX:=hX.trans0 hx;clear hx
          refine hold hX ?_
          replace H:=H.sel [1,0,2,3,4,5,6,7,8,9,10] rfl
          refine litN (α:=List Int) (us:=[(h60).v,(h61).v]) (xs:=[a30,a31]) (gs:=[h60,h61]) gok rfl rfl rfl ⟨rfl,rfl,trivial⟩ rfl rfl H ?_;clear H;intro h62 w76 hx H
          replace hX:=hX.trans0 hx;clear hx
          refine hold hX ?_
          exact ⟨([a30,a31],h62),⟨rfl,trivial⟩,Option.some.inj f54,H.sel [0] rfl⟩
         ·
          exact trivial
       ·
        refine both ?_ ?_
        ·
         replace H:=H.sc (α:=Int) a23
         replace H:=H.sc (α:=Int) 1
         refine litN (α:=Int) (us:=[(.int .i64 1),(.int .i64 a23)]) (xs:=[1,a23]) (gs:=[(),()]) gok rfl rfl rfl ⟨rfl,rfl,trivial⟩ rfl rfl H ?_;clear H;intro h63 w77 hx H
         replace hX:=hX.trans0 hx;clear hx
         refine hold hX ?_
         replace H:=H.sc (α:=Int) a20
         replace H:=H.sc (α:=Int) 1
         refine litN (α:=Int) (us:=[(.int .i64 1),(.int .i64 a20)]) (xs:=[1,a20]) (gs:=[(),()]) gok rfl rfl rfl ⟨rfl,rfl,trivial⟩ rfl rfl H ?_;clear H;intro h64 w78 hx H
         replace hX:=hX.trans0 hx;clear hx
         refine hold hX ?_
         have e:=o8;clear o8
         have ea1410:=e;clear e
         refine callFx (spec_dnRow_c p_ n_ [a18,a19] h24 [1,a20] h64 a30 ea1410) H ⟨Vw.own 3 rfl,Vw.own 0 rfl,trivial⟩ ?_;clear H ea1410
         rintro _ _ w79 ⟨h65,rfl,rfl⟩ hx H
         replace hX:=hX.trans0 hx;clear hx
         refine hold hX ?_
         have e:=o9;clear o9
         have ea1413:=e;clear e
         refine callFx (spec_dnRow_c p_ n_ [a21,a22] h53 [1,a23] h63 a31 ea1413) H ⟨Vw.own 3 rfl,Vw.own 2 rfl,trivial⟩ ?_;clear H ea1413
         rintro _ _ w80 ⟨h66,rfl,rfl⟩ hx H
         replace hX:=hX.trans0 hx;clear hx
         refine hold hX ?_
         replace H:=H.sel [1,0,2,3,4,5,6,7,8,9,10] rfl
         refine litN (α:=List Int) (us:=[(h65).v,(h66).v]) (xs:=[a30,a31]) (gs:=[h65,h66]) gok rfl rfl rfl ⟨rfl,rfl,trivial⟩ rfl rfl H ?_;clear H;intro h67 w81 hx H
         replace hX:=hX.trans0 hx;clear hx
         refine hold hX ?_
         exact ⟨([a30,a31],h67),⟨rfl,trivial⟩,Option.some.inj f54,H.sel [0] rfl⟩
        ·
         exact trivial
      ·
       refine both ?_ ?_
       ·
        obtain ⟨a32,o10,f55⟩:=bindS f45;clear f45
        obtain ⟨a34,o11,f56⟩:=bindS f55;clear f55
        replace H:=H.sc (α:=Int) a23
        replace H:=H.sc (α:=Int) 1
        refine litN (α:=Int) (us:=[(.int .i64 1),(.int .i64 a23)]) (xs:=[1,a23]) (gs:=[(),()]) gok rfl rfl rfl ⟨rfl,rfl,trivial⟩ rfl rfl H ?_;clear H;intro h68 w82 hx H
        replace hX:=hX.trans0 hx;clear hx
        refine hold hX ?_
        refine both ?_ ?_
        ·
         replace H:=H.sc (α:=Int) a20
         replace H:=H.sc (α:=Int) 1
         refine litN (α:=Int) (us:=[(.int .i64 1),(.int .i64 a20)]) (xs:=[1,a20]) (gs:=[(),()]) gok rfl rfl rfl ⟨rfl,rfl,trivial⟩ rfl rfl H ?_;clear H;intro h69 w83 hx H
         replace hX:=hX.trans0 hx;clear hx
         refine hold hX ?_
         refine both ?_ ?_
         ·
          have e:=o10;clear o10
          have ea1461:=e;clear e
          refine callFx (spec_dnRow_c p_ n_ [a18,a19] h24 [1,a20] h69 a32 ea1461) H ⟨Vw.own 2 rfl,Vw.own 0 rfl,trivial⟩ ?_;clear H ea1461
          rintro _ _ w84 ⟨h70,rfl,rfl⟩ hx H
          replace hX:=hX.trans0 hx;clear hx
          refine hold hX ?_
          replace H:=H.sc (α:=Int) a22
          replace H:=H.sc (α:=Int) a21
          refine litN (α:=Int) (us:=[(.int .i64 a21),(.int .i64 a22)]) (xs:=[a21,a22]) (gs:=[(),()]) gok rfl rfl rfl ⟨rfl,rfl,trivial⟩ rfl rfl H ?_;clear H;intro h71 w85 hx H
          replace hX:=hX.trans0 hx;clear hx
          refine hold hX ?_
          have e:=o11;clear o11
          have ea1464:=e;clear e
          refine callFx (spec_dnRow_c p_ n_ [a21,a22] h71 [1,a23] h68 a34 ea1464) H ⟨Vw.own 0 rfl,Vw.own 3 rfl,trivial⟩ ?_;clear H ea1464
          rintro _ _ w86 ⟨h72,rfl,rfl⟩ hx H
          replace hX:=hX.trans0 hx;clear hx
          refine hold hX ?_
          replace H:=H.sel [2,0,1,3,4,5,6,7,8,9,10] rfl
          refine litN (α:=List Int) (us:=[(h70).v,(h72).v]) (xs:=[a32,a34]) (gs:=[h70,h72]) gok rfl rfl rfl ⟨rfl,rfl,trivial⟩ rfl rfl H ?_;clear H;intro h73 w87 hx H
          replace hX:=hX.trans0 hx;clear hx
          refine hold hX ?_
          exact ⟨([a32,a34],h73),⟨rfl,trivial⟩,Option.some.inj f56,H.sel [0] rfl⟩
         ·
          refine both ?_ ?_
          ·
           replace H:=H.sc (α:=Int) a22
           replace H:=H.sc (α:=Int) a21
           refine litN (α:=Int) (us:=[(.int .i64 a21),(.int .i64 a22)]) (xs:=[a21,a22]) (gs:=[(),()]) gok rfl rfl rfl ⟨rfl,rfl,trivial⟩ rfl rfl H ?_;clear H;intro h74 w88 hx H
           replace hX:=hX.trans0 hx;clear hx
           refine hold hX ?_
           have e:=o10;clear o10
           have ea1461:=e;clear e
           refine callFx (spec_dnRow_c p_ n_ [a18,a19] h24 [1,a20] h69 a32 ea1461) H ⟨Vw.own 3 rfl,Vw.own 1 rfl,trivial⟩ ?_;clear H ea1461
           rintro _ _ w89 ⟨h75,rfl,rfl⟩ hx H
           replace hX:=hX.trans0 hx;clear hx
           refine hold hX ?_
           have e:=o11;clear o11
           have ea1464:=e;clear e
           refine callFx (spec_dnRow_c p_ n_ [a21,a22] h74 [1,a23] h68 a34 ea1464) H ⟨Vw.own 1 rfl,Vw.own 3 rfl,trivial⟩ ?_;clear H ea1464
           rintro _ _ w90 ⟨h76,rfl,rfl⟩ hx H
           replace hX:=hX.trans0 hx;clear hx
           refine hold hX ?_
           replace H:=H.sel [1,0,2,3,4,5,6,7,8,9,10] rfl
           refine litN (α:=List Int) (us:=[(h75).v,(h76).v]) (xs:=[a32,a34]) (gs:=[h75,h76]) gok rfl rfl rfl ⟨rfl,rfl,trivial⟩ rfl rfl H ?_;clear H;intro h77 w91 hx H
           replace hX:=hX.trans0 hx;clear hx
           refine hold hX ?_
           exact ⟨([a32,a34],h77),⟨rfl,trivial⟩,Option.some.inj f56,H.sel [0] rfl⟩
          ·
           exact trivial
        ·
         refine both ?_ ?_
         ·
          replace H:=H.sc (α:=Int) a22
          replace H:=H.sc (α:=Int) a21
          refine litN (α:=Int) (us:=[(.int .i64 a21),(.int .i64 a22)]) (xs:=[a21,a22]) (gs:=[(),()]) gok rfl rfl rfl ⟨rfl,rfl,trivial⟩ rfl rfl H ?_;clear H;intro h78 w92 hx H
          replace hX:=hX.trans0 hx;clear hx
          refine hold hX ?_
          replace H:=H.sc (α:=Int) a20
          replace H:=H.sc (α:=Int) 1
          refine litN (α:=Int) (us:=[(.int .i64 1),(.int .i64 a20)]) (xs:=[1,a20]) (gs:=[(),()]) gok rfl rfl rfl ⟨rfl,rfl,trivial⟩ rfl rfl H ?_;clear H;intro h79 w93 hx H
          replace hX:=hX.trans0 hx;clear hx
          refine hold hX ?_
          have e:=o10;clear o10
          have ea1461:=e;clear e
          refine callFx (spec_dnRow_c p_ n_ [a18,a19] h24 [1,a20] h79 a32 ea1461) H ⟨Vw.own 3 rfl,Vw.own 0 rfl,trivial⟩ ?_;clear H ea1461
          rintro _ _ w94 ⟨h80,rfl,rfl⟩ hx H
          replace hX:=hX.trans0 hx;clear hx
          refine hold hX ?_
          have e:=o11;clear o11
          have ea1464:=e;clear e
          refine callFx (spec_dnRow_c p_ n_ [a21,a22] h78 [1,a23] h68 a34 ea1464) H ⟨Vw.own 2 rfl,Vw.own 3 rfl,trivial⟩ ?_;clear H ea1464
          rintro _ _ w95 ⟨h81,rfl,rfl⟩ hx H
          replace hX:=hX.trans0 hx;clear hx
          refine hold hX ?_
          replace H:=H.sel [1,0,2,3,4,5,6,7,8,9,10] rfl
          refine litN (α:=List Int) (us:=[(h80).v,(h81).v]) (xs:=[a32,a34]) (gs:=[h80,h81]) gok rfl rfl rfl ⟨rfl,rfl,trivial⟩ rfl rfl H ?_;clear H;intro h82 w96 hx H
          replace hX:=hX.trans0 hx;clear hx
          refine hold hX ?_
          exact ⟨([a32,a34],h82),⟨rfl,trivial⟩,Option.some.inj f56,H.sel [0] rfl⟩
         ·
          exact trivial
       ·
        exact trivial
    ·
     refine both ?_ ?_
     ·
      obtain ⟨a36,o12,f57⟩:=bindS f45;clear f45
      obtain ⟨a37,o13,f58⟩:=bindS f57;clear f57
      replace H:=H.sc (α:=Int) a20
      replace H:=H.sc (α:=Int) 1
      refine litN (α:=Int) (us:=[(.int .i64 1),(.int .i64 a20)]) (xs:=[1,a20]) (gs:=[(),()]) gok rfl rfl rfl ⟨rfl,rfl,trivial⟩ rfl rfl H ?_;clear H;intro h83 w97 hx H
      replace hX:=hX.trans0 hx;clear hx
      refine hold hX ?_
      refine both ?_ ?_
      ·
       replace H:=H.sc (α:=Int) a19
       replace H:=H.sc (α:=Int) a18
       refine litN (α:=Int) (us:=[(.int .i64 a18),(.int .i64 a19)]) (xs:=[a18,a19]) (gs:=[(),()]) gok rfl rfl rfl ⟨rfl,rfl,trivial⟩ rfl rfl H ?_;clear H;intro h84 w98 hx H
       replace hX:=hX.trans0 hx;clear hx
       refine hold hX ?_
       refine both ?_ ?_
       ·
        have e:=o12;clear o12
        have ea1512:=e;clear e
        refine callFx (spec_dnRow_c p_ n_ [a18,a19] h84 [1,a20] h83 a36 ea1512) H ⟨Vw.own 0 rfl,Vw.own 1 rfl,trivial⟩ ?_;clear H ea1512
        rintro _ _ w99 ⟨h85,rfl,rfl⟩ hx H
        replace hX:=hX.trans0 hx;clear hx
        refine hold hX ?_
        refine both ?_ ?_
        ·
         replace H:=H.sc (α:=Int) a22
         replace H:=H.sc (α:=Int) a21
         refine litN (α:=Int) (us:=[(.int .i64 a21),(.int .i64 a22)]) (xs:=[a21,a22]) (gs:=[(),()]) gok rfl rfl rfl ⟨rfl,rfl,trivial⟩ rfl rfl H ?_;clear H;intro h86 w100 hx H
         replace hX:=hX.trans0 hx;clear hx
         refine hold hX ?_
         replace H:=H.sc (α:=Int) a23
         replace H:=H.sc (α:=Int) 1
         refine litN (α:=Int) (us:=[(.int .i64 1),(.int .i64 a23)]) (xs:=[1,a23]) (gs:=[(),()]) gok rfl rfl rfl ⟨rfl,rfl,trivial⟩ rfl rfl H ?_;clear H;intro h87 w101 hx H
         replace hX:=hX.trans0 hx;clear hx
         refine hold hX ?_
         have e:=o13;clear o13
         have ea1515:=e;clear e
         refine callFx (spec_dnRow_c p_ n_ [a21,a22] h86 [1,a23] h87 a37 ea1515) H ⟨Vw.own 1 rfl,Vw.own 0 rfl,trivial⟩ ?_;clear H ea1515
         rintro _ _ w102 ⟨h88,rfl,rfl⟩ hx H
         replace hX:=hX.trans0 hx;clear hx
         refine hold hX ?_
         replace H:=H.sel [3,0,1,2,4,5,6,7,8,9,10] rfl
         refine litN (α:=List Int) (us:=[(h85).v,(h88).v]) (xs:=[a36,a37]) (gs:=[h85,h88]) gok rfl rfl rfl ⟨rfl,rfl,trivial⟩ rfl rfl H ?_;clear H;intro h89 w103 hx H
         replace hX:=hX.trans0 hx;clear hx
         refine hold hX ?_
         exact ⟨([a36,a37],h89),⟨rfl,trivial⟩,Option.some.inj f58,H.sel [0] rfl⟩
        ·
         refine both ?_ ?_
         ·
          replace H:=H.sc (α:=Int) a23
          replace H:=H.sc (α:=Int) 1
          refine litN (α:=Int) (us:=[(.int .i64 1),(.int .i64 a23)]) (xs:=[1,a23]) (gs:=[(),()]) gok rfl rfl rfl ⟨rfl,rfl,trivial⟩ rfl rfl H ?_;clear H;intro h90 w104 hx H
          replace hX:=hX.trans0 hx;clear hx
          refine hold hX ?_
          replace H:=H.sc (α:=Int) a22
          replace H:=H.sc (α:=Int) a21
          refine litN (α:=Int) (us:=[(.int .i64 a21),(.int .i64 a22)]) (xs:=[a21,a22]) (gs:=[(),()]) gok rfl rfl rfl ⟨rfl,rfl,trivial⟩ rfl rfl H ?_;clear H;intro h91 w105 hx H
          replace hX:=hX.trans0 hx;clear hx
          refine hold hX ?_
          have e:=o13;clear o13
          have ea1515:=e;clear e
          refine callFx (spec_dnRow_c p_ n_ [a21,a22] h91 [1,a23] h90 a37 ea1515) H ⟨Vw.own 0 rfl,Vw.own 1 rfl,trivial⟩ ?_;clear H ea1515
          rintro _ _ w106 ⟨h92,rfl,rfl⟩ hx H
          replace hX:=hX.trans0 hx;clear hx
          refine hold hX ?_
          replace H:=H.sel [3,0,1,2,4,5,6,7,8,9,10] rfl
          refine litN (α:=List Int) (us:=[(h85).v,(h92).v]) (xs:=[a36,a37]) (gs:=[h85,h92]) gok rfl rfl rfl ⟨rfl,rfl,trivial⟩ rfl rfl H ?_;clear H;intro h93 w107 hx H
          replace hX:=hX.trans0 hx;clear hx
          refine hold hX ?_
          exact ⟨([a36,a37],h93),⟨rfl,trivial⟩,Option.some.inj f58,H.sel [0] rfl⟩
         ·
          exact trivial
       ·
        refine both ?_ ?_
        ·
         replace H:=H.sc (α:=Int) a22
         replace H:=H.sc (α:=Int) a21
         refine litN (α:=Int) (us:=[(.int .i64 a21),(.int .i64 a22)]) (xs:=[a21,a22]) (gs:=[(),()]) gok rfl rfl rfl ⟨rfl,rfl,trivial⟩ rfl rfl H ?_;clear H;intro h94 w108 hx H
         replace hX:=hX.trans0 hx;clear hx
         refine hold hX ?_
         refine both ?_ ?_
         ·
          have e:=o12;clear o12
          have ea1512:=e;clear e
          refine callFx (spec_dnRow_c p_ n_ [a18,a19] h84 [1,a20] h83 a36 ea1512) H ⟨Vw.own 1 rfl,Vw.own 2 rfl,trivial⟩ ?_;clear H ea1512
          rintro _ _ w109 ⟨h95,rfl,rfl⟩ hx H
          replace hX:=hX.trans0 hx;clear hx
          refine hold hX ?_
          replace H:=H.sc (α:=Int) a23
          replace H:=H.sc (α:=Int) 1
          refine litN (α:=Int) (us:=[(.int .i64 1),(.int .i64 a23)]) (xs:=[1,a23]) (gs:=[(),()]) gok rfl rfl rfl ⟨rfl,rfl,trivial⟩ rfl rfl H ?_;clear H;intro h96 w110 hx H
          replace hX:=hX.trans0 hx;clear hx
          refine hold hX ?_
          have e:=o13;clear o13
          have ea1515:=e;clear e
          refine callFx (spec_dnRow_c p_ n_ [a21,a22] h94 [1,a23] h96 a37 ea1515) H ⟨Vw.own 2 rfl,Vw.own 0 rfl,trivial⟩ ?_;clear H ea1515
          rintro _ _ w111 ⟨h97,rfl,rfl⟩ hx H
          replace hX:=hX.trans0 hx;clear hx
          refine hold hX ?_
          replace H:=H.sel [2,0,1,3,4,5,6,7,8,9,10] rfl
          refine litN (α:=List Int) (us:=[(h95).v,(h97).v]) (xs:=[a36,a37]) (gs:=[h95,h97]) gok rfl rfl rfl ⟨rfl,rfl,trivial⟩ rfl rfl H ?_;clear H;intro h98 w112 hx H
          replace hX:=hX.trans0 hx;clear hx
          refine hold hX ?_
          exact ⟨([a36,a37],h98),⟨rfl,trivial⟩,Option.some.inj f58,H.sel [0] rfl⟩
         ·
          refine both ?_ ?_
          ·
           replace H:=H.sc (α:=Int) a23
           replace H:=H.sc (α:=Int) 1
           refine litN (α:=Int) (us:=[(.int .i64 1),(.int .i64 a23)]) (xs:=[1,a23]) (gs:=[(),()]) gok rfl rfl rfl ⟨rfl,rfl,trivial⟩ rfl rfl H ?_;clear H;intro h99 w113 hx H
           replace hX:=hX.trans0 hx;clear hx
           refine hold hX ?_
           have e:=o12;clear o12
           have ea1512:=e;clear e
           refine callFx (spec_dnRow_c p_ n_ [a18,a19] h84 [1,a20] h83 a36 ea1512) H ⟨Vw.own 2 rfl,Vw.own 3 rfl,trivial⟩ ?_;clear H ea1512
           rintro _ _ w114 ⟨h100,rfl,rfl⟩ hx H
           replace hX:=hX.trans0 hx;clear hx
           refine hold hX ?_
           have e:=o13;clear o13
           have ea1515:=e;clear e
           refine callFx (spec_dnRow_c p_ n_ [a21,a22] h94 [1,a23] h99 a37 ea1515) H ⟨Vw.own 2 rfl,Vw.own 1 rfl,trivial⟩ ?_;clear H ea1515
           rintro _ _ w115 ⟨h101,rfl,rfl⟩ hx H
           replace hX:=hX.trans0 hx;clear hx
           refine hold hX ?_
           replace H:=H.sel [1,0,2,3,4,5,6,7,8,9,10] rfl
           refine litN (α:=List Int) (us:=[(h100).v,(h101).v]) (xs:=[a36,a37]) (gs:=[h100,h101]) gok rfl rfl rfl ⟨rfl,rfl,trivial⟩ rfl rfl H ?_;clear H;intro h102 w116 hx H
           replace hX:=hX.trans0 hx;clear hx
           refine hold hX ?_
           exact ⟨([a36,a37],h102),⟨rfl,trivial⟩,Option.some.inj f58,H.sel [0] rfl⟩
          ·
           exact trivial
        ·
         refine both ?_ ?_
         ·
          replace H:=H.sc (α:=Int) a23
          replace H:=H.sc (α:=Int) 1
          refine litN (α:=Int) (us:=[(.int .i64 1),(.int .i64 a23)]) (xs:=[1,a23]) (gs:=[(),()]) gok rfl rfl rfl ⟨rfl,rfl,trivial⟩ rfl rfl H ?_;clear H;intro h103 w117 hx H
          replace hX:=hX.trans0 hx;clear hx
          refine hold hX ?_
          refine both ?_ ?_
          ·
           have e:=o12;clear o12
           have ea1512:=e;clear e
           refine callFx (spec_dnRow_c p_ n_ [a18,a19] h84 [1,a20] h83 a36 ea1512) H ⟨Vw.own 1 rfl,Vw.own 2 rfl,trivial⟩ ?_;clear H ea1512
           rintro _ _ w118 ⟨h104,rfl,rfl⟩ hx H
           replace hX:=hX.trans0 hx;clear hx
           refine hold hX ?_
           replace H:=H.sc (α:=Int) a22
           replace H:=H.sc (α:=Int) a21
           refine litN (α:=Int) (us:=[(.int .i64 a21),(.int .i64 a22)]) (xs:=[a21,a22]) (gs:=[(),()]) gok rfl rfl rfl ⟨rfl,rfl,trivial⟩ rfl rfl H ?_;clear H;intro h105 w119 hx H
           replace hX:=hX.trans0 hx;clear hx
           refine hold hX ?_
           have e:=o13;clear o13
           have ea1515:=e;clear e
           refine callFx (spec_dnRow_c p_ n_ [a21,a22] h105 [1,a23] h103 a37 ea1515) H ⟨Vw.own 0 rfl,Vw.own 2 rfl,trivial⟩ ?_;clear H ea1515
           rintro _ _ w120 ⟨h106,rfl,rfl⟩ hx H
           replace hX:=hX.trans0 hx;clear hx
           refine hold hX ?_
           replace H:=H.sel [2,0,1,3,4,5,6,7,8,9,10] rfl
           refine litN (α:=List Int) (us:=[(h104).v,(h106).v]) (xs:=[a36,a37]) (gs:=[h104,h106]) gok rfl rfl rfl ⟨rfl,rfl,trivial⟩ rfl rfl H ?_;clear H;intro h107 w121 hx H
           replace hX:=hX.trans0 hx;clear hx
           refine hold hX ?_
           exact ⟨([a36,a37],h107),⟨rfl,trivial⟩,Option.some.inj f58,H.sel [0] rfl⟩
          ·
           refine both ?_ ?_
           ·
            replace H:=H.sc (α:=Int) a22
            replace H:=H.sc (α:=Int) a21
            refine litN (α:=Int) (us:=[(.int .i64 a21),(.int .i64 a22)]) (xs:=[a21,a22]) (gs:=[(),()]) gok rfl rfl rfl ⟨rfl,rfl,trivial⟩ rfl rfl H ?_;clear H;intro h108 w122 hx H
            replace hX:=hX.trans0 hx;clear hx
            refine hold hX ?_
            have e:=o12;clear o12
            have ea1512:=e;clear e
            refine callFx (spec_dnRow_c p_ n_ [a18,a19] h84 [1,a20] h83 a36 ea1512) H ⟨Vw.own 2 rfl,Vw.own 3 rfl,trivial⟩ ?_;clear H ea1512
            rintro _ _ w123 ⟨h109,rfl,rfl⟩ hx H
            replace hX:=hX.trans0 hx;clear hx
            refine hold hX ?_
            have e:=o13;clear o13
            have ea1515:=e;clear e
            refine callFx (spec_dnRow_c p_ n_ [a21,a22] h108 [1,a23] h103 a37 ea1515) H ⟨Vw.own 1 rfl,Vw.own 2 rfl,trivial⟩ ?_;clear H ea1515
            rintro _ _ w124 ⟨h110,rfl,rfl⟩ hx H
            replace hX:=hX.trans0 hx;clear hx
            refine hold hX ?_
            replace H:=H.sel [1,0,2,3,4,5,6,7,8,9,10] rfl
            refine litN (α:=List Int) (us:=[(h109).v,(h110).v]) (xs:=[a36,a37]) (gs:=[h109,h110]) gok rfl rfl rfl ⟨rfl,rfl,trivial⟩ rfl rfl H ?_;clear H;intro h111 w125 hx H
            replace hX:=hX.trans0 hx;clear hx
            refine hold hX ?_
            exact ⟨([a36,a37],h111),⟨rfl,trivial⟩,Option.some.inj f58,H.sel [0] rfl⟩
           ·
            exact trivial
         ·
          exact trivial
      ·
       refine both ?_ ?_
       ·
        replace H:=H.sc (α:=Int) a22
        replace H:=H.sc (α:=Int) a21
        refine litN (α:=Int) (us:=[(.int .i64 a21),(.int .i64 a22)]) (xs:=[a21,a22]) (gs:=[(),()]) gok rfl rfl rfl ⟨rfl,rfl,trivial⟩ rfl rfl H ?_;clear H;intro h112 w126 hx H
        replace hX:=hX.trans0 hx;clear hx
        refine hold hX ?_
        refine both ?_ ?_
        ·
         replace H:=H.sc (α:=Int) a19
         replace H:=H.sc (α:=Int) a18
         refine litN (α:=Int) (us:=[(.int .i64 a18),(.int .i64 a19)]) (xs:=[a18,a19]) (gs:=[(),()]) gok rfl rfl rfl ⟨rfl,rfl,trivial⟩ rfl rfl H ?_;clear H;intro h113 w127 hx H
         replace hX:=hX.trans0 hx;clear hx
         refine hold hX ?_
         refine both ?_ ?_
         ·
          have e:=o12;clear o12
          have ea1512:=e;clear e
          refine callFx (spec_dnRow_c p_ n_ [a18,a19] h113 [1,a20] h83 a36 ea1512) H ⟨Vw.own 0 rfl,Vw.own 2 rfl,trivial⟩ ?_;clear H ea1512
          rintro _ _ w128 ⟨h114,rfl,rfl⟩ hx H
          replace hX:=hX.trans0 hx;clear hx
          refine hold hX ?_
          replace H:=H.sc (α:=Int) a23
          replace H:=H.sc (α:=Int) 1
          refine litN (α:=Int) (us:=[(.int .i64 1),(.int .i64 a23)]) (xs:=[1,a23]) (gs:=[(),()]) gok rfl rfl rfl ⟨rfl,rfl,trivial⟩ rfl rfl H ?_;clear H;intro h115 w129 hx H
          replace hX:=hX.trans0 hx;clear hx
          refine hold hX ?_
          have e:=o13;clear o13
          have ea1515:=e;clear e
          refine callFx (spec_dnRow_c p_ n_ [a21,a22] h112 [1,a23] h115 a37 ea1515) H ⟨Vw.own 3 rfl,Vw.own 0 rfl,trivial⟩ ?_;clear H ea1515
          rintro _ _ w130 ⟨h116,rfl,rfl⟩ hx H
          replace hX:=hX.trans0 hx;clear hx
          refine hold hX ?_
          replace H:=H.sel [2,0,1,3,4,5,6,7,8,9,10] rfl
          refine litN (α:=List Int) (us:=[(h114).v,(h116).v]) (xs:=[a36,a37]) (gs:=[h114,h116]) gok rfl rfl rfl ⟨rfl,rfl,trivial⟩ rfl rfl H ?_;clear H;intro h117 w131 hx H
          replace hX:=hX.trans0 hx;clear hx
          refine hold hX ?_
          exact ⟨([a36,a37],h117),⟨rfl,trivial⟩,Option.some.inj f58,H.sel [0] rfl⟩
         ·
          refine both ?_ ?_
          ·
           replace H:=H.sc (α:=Int) a23
           replace H:=H.sc (α:=Int) 1
           refine litN (α:=Int) (us:=[(.int .i64 1),(.int .i64 a23)]) (xs:=[1,a23]) (gs:=[(),()]) gok rfl rfl rfl ⟨rfl,rfl,trivial⟩ rfl rfl H ?_;clear H;intro h118 w132 hx H
           replace hX:=hX.trans0 hx;clear hx
           refine hold hX ?_
           have e:=o12;clear o12
           have ea1512:=e;clear e
           refine callFx (spec_dnRow_c p_ n_ [a18,a19] h113 [1,a20] h83 a36 ea1512) H ⟨Vw.own 1 rfl,Vw.own 3 rfl,trivial⟩ ?_;clear H ea1512
           rintro _ _ w133 ⟨h119,rfl,rfl⟩ hx H
           replace hX:=hX.trans0 hx;clear hx
           refine hold hX ?_
           have e:=o13;clear o13
           have ea1515:=e;clear e
           refine callFx (spec_dnRow_c p_ n_ [a21,a22] h112 [1,a23] h118 a37 ea1515) H ⟨Vw.own 3 rfl,Vw.own 1 rfl,trivial⟩ ?_;clear H ea1515
           rintro _ _ w134 ⟨h120,rfl,rfl⟩ hx H
           replace hX:=hX.trans0 hx;clear hx
           refine hold hX ?_
           replace H:=H.sel [1,0,2,3,4,5,6,7,8,9,10] rfl
           refine litN (α:=List Int) (us:=[(h119).v,(h120).v]) (xs:=[a36,a37]) (gs:=[h119,h120]) gok rfl rfl rfl ⟨rfl,rfl,trivial⟩ rfl rfl H ?_;clear H;intro h121 w135 hx H
           replace hX:=hX.trans0 hx;clear hx
           refine hold hX ?_
           exact ⟨([a36,a37],h121),⟨rfl,trivial⟩,Option.some.inj f58,H.sel [0] rfl⟩
          ·
           exact trivial
        ·
         refine both ?_ ?_
         ·
          replace H:=H.sc (α:=Int) a23
          replace H:=H.sc (α:=Int) 1
          refine litN (α:=Int) (us:=[(.int .i64 1),(.int .i64 a23)]) (xs:=[1,a23]) (gs:=[(),()]) gok rfl rfl rfl ⟨rfl,rfl,trivial⟩ rfl rfl H ?_;clear H;intro h122 w136 hx H
          replace hX:=hX.trans0 hx;clear hx
          refine hold hX ?_
          replace H:=H.sc (α:=Int) a19
          replace H:=H.sc (α:=Int) a18
          refine litN (α:=Int) (us:=[(.int .i64 a18),(.int .i64 a19)]) (xs:=[a18,a19]) (gs:=[(),()]) gok rfl rfl rfl ⟨rfl,rfl,trivial⟩ rfl rfl H ?_;clear H;intro h123 w137 hx H
          replace hX:=hX.trans0 hx;clear hx
          refine hold hX ?_
          have e:=o12;clear o12
          have ea1512:=e;clear e
          refine callFx (spec_dnRow_c p_ n_ [a18,a19] h123 [1,a20] h83 a36 ea1512) H ⟨Vw.own 0 rfl,Vw.own 3 rfl,trivial⟩ ?_;clear H ea1512
          rintro _ _ w138 ⟨h124,rfl,rfl⟩ hx H
          replace hX:=hX.trans0 hx;clear hx
          refine hold hX ?_
          have e:=o13;clear o13
          have ea1515:=e;clear e
          refine callFx (spec_dnRow_c p_ n_ [a21,a22] h112 [1,a23] h122 a37 ea1515) H ⟨Vw.own 3 rfl,Vw.own 2 rfl,trivial⟩ ?_;clear H ea1515
          rintro _ _ w139 ⟨h125,rfl,rfl⟩ hx H
          replace hX:=hX.trans0 hx;clear hx
          refine hold hX ?_
          replace H:=H.sel [1,0,2,3,4,5,6,7,8,9,10] rfl
          refine litN (α:=List Int) (us:=[(h124).v,(h125).v]) (xs:=[a36,a37]) (gs:=[h124,h125]) gok rfl rfl rfl ⟨rfl,rfl,trivial⟩ rfl rfl H ?_;clear H;intro h126 w140 hx H
          replace hX:=hX.trans0 hx;clear hx
          refine hold hX ?_
          exact ⟨([a36,a37],h126),⟨rfl,trivial⟩,Option.some.inj f58,H.sel [0] rfl⟩
         ·
          exact trivial
       ·
        refine both ?_ ?_
        ·
         replace H:=H.sc (α:=Int) a23
         replace H:=H.sc (α:=Int) 1
         refine litN (α:=Int) (us:=[(.int .i64 1),(.int .i64 a23)]) (xs:=[1,a23]) (gs:=[(),()]) gok rfl rfl rfl ⟨rfl,rfl,trivial⟩ rfl rfl H ?_;clear H;intro h127 w141 hx H
         replace hX:=hX.trans0 hx;clear hx
         refine hold hX ?_
         refine both ?_ ?_
         ·
          replace H:=H.sc (α:=Int) a19
          replace H:=H.sc (α:=Int) a18
          refine litN (α:=Int) (us:=[(.int .i64 a18),(.int .i64 a19)]) (xs:=[a18,a19]) (gs:=[(),()]) gok rfl rfl rfl ⟨rfl,rfl,trivial⟩ rfl rfl H ?_;clear H;intro h128 w142 hx H
          replace hX:=hX.trans0 hx;clear hx
          refine hold hX ?_
          refine both ?_ ?_
          ·
           have e:=o12;clear o12
           have ea1512:=e;clear e
           refine callFx (spec_dnRow_c p_ n_ [a18,a19] h128 [1,a20] h83 a36 ea1512) H ⟨Vw.own 0 rfl,Vw.own 2 rfl,trivial⟩ ?_;clear H ea1512
           rintro _ _ w143 ⟨h129,rfl,rfl⟩ hx H
           replace hX:=hX.trans0 hx;clear hx
           refine hold hX ?_
           replace H:=H.sc (α:=Int) a22
           replace H:=H.sc (α:=Int) a21
           refine litN (α:=Int) (us:=[(.int .i64 a21),(.int .i64 a22)]) (xs:=[a21,a22]) (gs:=[(),()]) gok rfl rfl rfl ⟨rfl,rfl,trivial⟩ rfl rfl H ?_;clear H;intro h130 w144 hx H
           replace hX:=hX.trans0 hx;clear hx
           refine hold hX ?_
           have e:=o13;clear o13
           have ea1515:=e;clear e
           refine callFx (spec_dnRow_c p_ n_ [a21,a22] h130 [1,a23] h127 a37 ea1515) H ⟨Vw.own 0 rfl,Vw.own 3 rfl,trivial⟩ ?_;clear H ea1515
           rintro _ _ w145 ⟨h131,rfl,rfl⟩ hx H
           replace hX:=hX.trans0 hx;clear hx
           refine hold hX ?_
           replace H:=H.sel [2,0,1,3,4,5,6,7,8,9,10] rfl
           refine litN (α:=List Int) (us:=[(h129).v,(h131).v]) (xs:=[a36,a37]) (gs:=[h129,h131]) gok rfl rfl rfl ⟨rfl,rfl,trivial⟩ rfl rfl H ?_;clear H;intro h132 w147 hx H
           replace hX:=hX.trans0 hx;clear hx
           refine hold hX ?_
           exact ⟨([a36,a37],h132),⟨rfl,trivial⟩,Option.some.inj f58,H.sel [0] rfl⟩
          ·
           refine both ?_ ?_
           ·
            replace H:=H.sc (α:=Int) a22
            replace H:=H.sc (α:=Int) a21
            refine litN (α:=Int) (us:=[(.int .i64 a21),(.int .i64 a22)]) (xs:=[a21,a22]) (gs:=[(),()]) gok rfl rfl rfl ⟨rfl,rfl,trivial⟩ rfl rfl H ?_;clear H;intro h133 w148 hx H
            replace hX:=hX.trans0 hx;clear hx
            refine hold hX ?_
            have e:=o12;clear o12
            have ea1512:=e;clear e
            refine callFx (spec_dnRow_c p_ n_ [a18,a19] h128 [1,a20] h83 a36 ea1512) H ⟨Vw.own 1 rfl,Vw.own 3 rfl,trivial⟩ ?_;clear H ea1512
            rintro _ _ w149 ⟨h134,rfl,rfl⟩ hx H
            replace hX:=hX.trans0 hx;clear hx
            refine hold hX ?_
            have e:=o13;clear o13
            have ea1515:=e;clear e
            refine callFx (spec_dnRow_c p_ n_ [a21,a22] h133 [1,a23] h127 a37 ea1515) H ⟨Vw.own 1 rfl,Vw.own 3 rfl,trivial⟩ ?_;clear H ea1515
            rintro _ _ w150 ⟨h135,rfl,rfl⟩ hx H
            replace hX:=hX.trans0 hx;clear hx
            refine hold hX ?_
            replace H:=H.sel [1,0,2,3,4,5,6,7,8,9,10] rfl
            refine litN (α:=List Int) (us:=[(h134).v,(h135).v]) (xs:=[a36,a37]) (gs:=[h134,h135]) gok rfl rfl rfl ⟨rfl,rfl,trivial⟩ rfl rfl H ?_;clear H;intro h136 w151 hx H
            replace hX:=hX.trans0 hx;clear hx
            refine hold hX ?_
            exact ⟨([a36,a37],h136),⟨rfl,trivial⟩,Option.some.inj f58,H.sel [0] rfl⟩
           ·
            exact trivial
         ·
          refine both ?_ ?_
          ·
           replace H:=H.sc (α:=Int) a22
           replace H:=H.sc (α:=Int) a21
           refine litN (α:=Int) (us:=[(.int .i64 a21),(.int .i64 a22)]) (xs:=[a21,a22]) (gs:=[(),()]) gok rfl rfl rfl ⟨rfl,rfl,trivial⟩ rfl rfl H ?_;clear H;intro h137 w152 hx H
           replace hX:=hX.trans0 hx;clear hx
           refine hold hX ?_
           replace H:=H.sc (α:=Int) a19
           replace H:=H.sc (α:=Int) a18
           refine litN (α:=Int) (us:=[(.int .i64 a18),(.int .i64 a19)]) (xs:=[a18,a19]) (gs:=[(),()]) gok rfl rfl rfl ⟨rfl,rfl,trivial⟩ rfl rfl H ?_;clear H;intro h138 w153 hx H
           replace hX:=hX.trans0 hx;clear hx
           refine hold hX ?_
           have e:=o12;clear o12
           have ea1512:=e;clear e
           refine callFx (spec_dnRow_c p_ n_ [a18,a19] h138 [1,a20] h83 a36 ea1512) H ⟨Vw.own 0 rfl,Vw.own 3 rfl,trivial⟩ ?_;clear H ea1512
           rintro _ _ w154 ⟨h139,rfl,rfl⟩ hx H
           replace hX:=hX.trans0 hx;clear hx
           refine hold hX ?_
           have e:=o13;clear o13
           have ea1515:=e;clear e
           refine callFx (spec_dnRow_c p_ n_ [a21,a22] h137 [1,a23] h127 a37 ea1515) H ⟨Vw.own 2 rfl,Vw.own 3 rfl,trivial⟩ ?_;clear H ea1515
           rintro _ _ w155 ⟨h140,rfl,rfl⟩ hx H
           replace hX:=hX.trans0 hx;clear hx
           refine hold hX ?_
           replace H:=H.sel [1,0,2,3,4,5,6,7,8,9,10] rfl
           refine litN (α:=List Int) (us:=[(h139).v,(h140).v]) (xs:=[a36,a37]) (gs:=[h139,h140]) gok rfl rfl rfl ⟨rfl,rfl,trivial⟩ rfl rfl H ?_;clear H;intro h141 w156 hx H
           replace hX:=hX.trans0 hx;clear hx
           refine hold hX ?_
           exact ⟨([a36,a37],h141),⟨rfl,trivial⟩,Option.some.inj f58,H.sel [0] rfl⟩
          ·
           exact trivial
        ·
         exact trivial
     ·
      refine both ?_ ?_
      ·
       obtain ⟨a38,o14,f59⟩:=bindS f45;clear f45
       obtain ⟨a39,o15,f60⟩:=bindS f59;clear f59
       replace H:=H.sc (α:=Int) a22
       replace H:=H.sc (α:=Int) a21
       refine litN (α:=Int) (us:=[(.int .i64 a21),(.int .i64 a22)]) (xs:=[a21,a22]) (gs:=[(),()]) gok rfl rfl rfl ⟨rfl,rfl,trivial⟩ rfl rfl H ?_;clear H;intro h142 w157 hx H
       replace hX:=hX.trans0 hx;clear hx
       refine hold hX ?_
       refine both ?_ ?_
       ·
        replace H:=H.sc (α:=Int) a19
        replace H:=H.sc (α:=Int) a18
        refine litN (α:=Int) (us:=[(.int .i64 a18),(.int .i64 a19)]) (xs:=[a18,a19]) (gs:=[(),()]) gok rfl rfl rfl ⟨rfl,rfl,trivial⟩ rfl rfl H ?_;clear H;intro h143 w158 hx H
        replace hX:=hX.trans0 hx;clear hx
        refine hold hX ?_
        refine both ?_ ?_
        ·
         replace H:=H.sc (α:=Int) a20
         replace H:=H.sc (α:=Int) 1
         refine litN (α:=Int) (us:=[(.int .i64 1),(.int .i64 a20)]) (xs:=[1,a20]) (gs:=[(),()]) gok rfl rfl rfl ⟨rfl,rfl,trivial⟩ rfl rfl H ?_;clear H;intro h144 w159 hx H
         replace hX:=hX.trans0 hx;clear hx
         refine hold hX ?_
         refine both ?_ ?_
         ·
          have e:=o14;clear o14
          have ea1695:=e;clear e
          refine callFx (spec_dnRow_c p_ n_ [a18,a19] h143 [1,a20] h144 a38 ea1695) H ⟨Vw.own 1 rfl,Vw.own 0 rfl,trivial⟩ ?_;clear H ea1695
          rintro _ _ w160 ⟨h145,rfl,rfl⟩ hx H
          replace hX:=hX.trans0 hx;clear hx
          refine hold hX ?_
          replace H:=H.sc (α:=Int) a23
          replace H:=H.sc (α:=Int) 1
          refine litN (α:=Int) (us:=[(.int .i64 1),(.int .i64 a23)]) (xs:=[1,a23]) (gs:=[(),()]) gok rfl rfl rfl ⟨rfl,rfl,trivial⟩ rfl rfl H ?_;clear H;intro h146 w161 hx H
          replace hX:=hX.trans0 hx;clear hx
          refine hold hX ?_
          have e:=o15;clear o15
          have ea1698:=e;clear e
          refine callFx (spec_dnRow_c p_ n_ [a21,a22] h142 [1,a23] h146 a39 ea1698) H ⟨Vw.own 4 rfl,Vw.own 0 rfl,trivial⟩ ?_;clear H ea1698
          rintro _ _ w162 ⟨h147,rfl,rfl⟩ hx H
          replace hX:=hX.trans0 hx;clear hx
          refine hold hX ?_
          replace H:=H.sel [2,0,1,3,4,5,6,7,8,9,10] rfl
          refine litN (α:=List Int) (us:=[(h145).v,(h147).v]) (xs:=[a38,a39]) (gs:=[h145,h147]) gok rfl rfl rfl ⟨rfl,rfl,trivial⟩ rfl rfl H ?_;clear H;intro h148 w163 hx H
          replace hX:=hX.trans0 hx;clear hx
          refine hold hX ?_
          exact ⟨([a38,a39],h148),⟨rfl,trivial⟩,Option.some.inj f60,H.sel [0] rfl⟩
         ·
          refine both ?_ ?_
          ·
           replace H:=H.sc (α:=Int) a23
           replace H:=H.sc (α:=Int) 1
           refine litN (α:=Int) (us:=[(.int .i64 1),(.int .i64 a23)]) (xs:=[1,a23]) (gs:=[(),()]) gok rfl rfl rfl ⟨rfl,rfl,trivial⟩ rfl rfl H ?_;clear H;intro h149 w164 hx H
           replace hX:=hX.trans0 hx;clear hx
           refine hold hX ?_
           have e:=o14;clear o14
           have ea1695:=e;clear e
           refine callFx (spec_dnRow_c p_ n_ [a18,a19] h143 [1,a20] h144 a38 ea1695) H ⟨Vw.own 2 rfl,Vw.own 1 rfl,trivial⟩ ?_;clear H ea1695
           rintro _ _ w165 ⟨h150,rfl,rfl⟩ hx H
           replace hX:=hX.trans0 hx;clear hx
           refine hold hX ?_
           have e:=o15;clear o15
           have ea1698:=e;clear e
           refine callFx (spec_dnRow_c p_ n_ [a21,a22] h142 [1,a23] h149 a39 ea1698) H ⟨Vw.own 4 rfl,Vw.own 1 rfl,trivial⟩ ?_;clear H ea1698
           rintro _ _ w166 ⟨h151,rfl,rfl⟩ hx H
           replace hX:=hX.trans0 hx;clear hx
           refine hold hX ?_
           replace H:=H.sel [1,0,2,3,4,5,6,7,8,9,10] rfl
           refine litN (α:=List Int) (us:=[(h150).v,(h151).v]) (xs:=[a38,a39]) (gs:=[h150,h151]) gok rfl rfl rfl ⟨rfl,rfl,trivial⟩ rfl rfl H ?_;clear H;intro h152 w167 hx H
           replace hX:=hX.trans0 hx;clear hx
           refine hold hX ?_
           exact ⟨([a38,a39],h152),⟨rfl,trivial⟩,Option.some.inj f60,H.sel [0] rfl⟩
          ·
           exact trivial
        ·
         refine both ?_ ?_
         ·
          replace H:=H.sc (α:=Int) a23
          replace H:=H.sc (α:=Int) 1
          refine litN (α:=Int) (us:=[(.int .i64 1),(.int .i64 a23)]) (xs:=[1,a23]) (gs:=[(),()]) gok rfl rfl rfl ⟨rfl,rfl,trivial⟩ rfl rfl H ?_;clear H;intro h153 w168 hx H
          replace hX:=hX.trans0 hx;clear hx
          refine hold hX ?_
          replace H:=H.sc (α:=Int) a20
          replace H:=H.sc (α:=Int) 1
          refine litN (α:=Int) (us:=[(.int .i64 1),(.int .i64 a20)]) (xs:=[1,a20]) (gs:=[(),()]) gok rfl rfl rfl ⟨rfl,rfl,trivial⟩ rfl rfl H ?_;clear H;intro h154 w169 hx H
          replace hX:=hX.trans0 hx;clear hx
          refine hold hX ?_
          have e:=o14;clear o14
          have ea1695:=e;clear e
          refine callFx (spec_dnRow_c p_ n_ [a18,a19] h143 [1,a20] h154 a38 ea1695) H ⟨Vw.own 2 rfl,Vw.own 0 rfl,trivial⟩ ?_;clear H ea1695
          rintro _ _ w170 ⟨h155,rfl,rfl⟩ hx H
          replace hX:=hX.trans0 hx;clear hx
          refine hold hX ?_
          have e:=o15;clear o15
          have ea1698:=e;clear e
          refine callFx (spec_dnRow_c p_ n_ [a21,a22] h142 [1,a23] h153 a39 ea1698) H ⟨Vw.own 4 rfl,Vw.own 2 rfl,trivial⟩ ?_;clear H ea1698
          rintro _ _ w171 ⟨h156,rfl,rfl⟩ hx H
          replace hX:=hX.trans0 hx;clear hx
          refine hold hX ?_
          replace H:=H.sel [1,0,2,3,4,5,6,7,8,9,10] rfl
          refine litN (α:=List Int) (us:=[(h155).v,(h156).v]) (xs:=[a38,a39]) (gs:=[h155,h156]) gok rfl rfl rfl ⟨rfl,rfl,trivial⟩ rfl rfl H ?_;clear H;intro h157 w172 hx H
          replace hX:=hX.trans0 hx;clear hx
          refine hold hX ?_
          exact ⟨([a38,a39],h157),⟨rfl,trivial⟩,Option.some.inj f60,H.sel [0] rfl⟩
         ·
          exact trivial
       ·
        refine both ?_ ?_
        ·
         replace H:=H.sc (α:=Int) a20
         replace H:=H.sc (α:=Int) 1
         refine litN (α:=Int) (us:=[(.int .i64 1),(.int .i64 a20)]) (xs:=[1,a20]) (gs:=[(),()]) gok rfl rfl rfl ⟨rfl,rfl,trivial⟩ rfl rfl H ?_;clear H;intro h158 w173 hx H
         replace hX:=hX.trans0 hx;clear hx
         refine hold hX ?_
         refine both ?_ ?_
         ·
          replace H:=H.sc (α:=Int) a19
          replace H:=H.sc (α:=Int) a18
          refine litN (α:=Int) (us:=[(.int .i64 a18),(.int .i64 a19)]) (xs:=[a18,a19]) (gs:=[(),()]) gok rfl rfl rfl ⟨rfl,rfl,trivial⟩ rfl rfl H ?_;clear H;intro h159 w174 hx H
          replace hX:=hX.trans0 hx;clear hx
          refine hold hX ?_
          refine both ?_ ?_
          ·
           have e:=o14;clear o14
           have ea1695:=e;clear e
           refine callFx (spec_dnRow_c p_ n_ [a18,a19] h159 [1,a20] h158 a38 ea1695) H ⟨Vw.own 0 rfl,Vw.own 1 rfl,trivial⟩ ?_;clear H ea1695
           rintro _ _ w175 ⟨h160,rfl,rfl⟩ hx H
           replace hX:=hX.trans0 hx;clear hx
           refine hold hX ?_
           replace H:=H.sc (α:=Int) a23
           replace H:=H.sc (α:=Int) 1
           refine litN (α:=Int) (us:=[(.int .i64 1),(.int .i64 a23)]) (xs:=[1,a23]) (gs:=[(),()]) gok rfl rfl rfl ⟨rfl,rfl,trivial⟩ rfl rfl H ?_;clear H;intro h161 w176 hx H
           replace hX:=hX.trans0 hx;clear hx
           refine hold hX ?_
           have e:=o15;clear o15
           have ea1698:=e;clear e
           refine callFx (spec_dnRow_c p_ n_ [a21,a22] h142 [1,a23] h161 a39 ea1698) H ⟨Vw.own 4 rfl,Vw.own 0 rfl,trivial⟩ ?_;clear H ea1698
           rintro _ _ w177 ⟨h162,rfl,rfl⟩ hx H
           replace hX:=hX.trans0 hx;clear hx
           refine hold hX ?_
           replace H:=H.sel [2,0,1,3,4,5,6,7,8,9,10] rfl
           refine litN (α:=List Int) (us:=[(h160).v,(h162).v]) (xs:=[a38,a39]) (gs:=[h160,h162]) gok rfl rfl rfl ⟨rfl,rfl,trivial⟩ rfl rfl H ?_;clear H;intro h163 w178 hx H
           replace hX:=hX.trans0 hx;clear hx
           refine hold hX ?_
           exact ⟨([a38,a39],h163),⟨rfl,trivial⟩,Option.some.inj f60,H.sel [0] rfl⟩
          ·
           refine both ?_ ?_
           ·
            replace H:=H.sc (α:=Int) a23
            replace H:=H.sc (α:=Int) 1
            refine litN (α:=Int) (us:=[(.int .i64 1),(.int .i64 a23)]) (xs:=[1,a23]) (gs:=[(),()]) gok rfl rfl rfl ⟨rfl,rfl,trivial⟩ rfl rfl H ?_;clear H;intro h164 w179 hx H
            replace hX:=hX.trans0 hx;clear hx
            refine hold hX ?_
            have e:=o14;clear o14
            have ea1695:=e;clear e
            refine callFx (spec_dnRow_c p_ n_ [a18,a19] h159 [1,a20] h158 a38 ea1695) H ⟨Vw.own 1 rfl,Vw.own 2 rfl,trivial⟩ ?_;clear H ea1695
            rintro _ _ w181 ⟨h165,rfl,rfl⟩ hx H
            replace hX:=hX.trans0 hx;clear hx
            refine hold hX ?_
            have e:=o15;clear o15
            have ea1698:=e;clear e
            refine callFx (spec_dnRow_c p_ n_ [a21,a22] h142 [1,a23] h164 a39 ea1698) H ⟨Vw.own 4 rfl,Vw.own 1 rfl,trivial⟩ ?_;clear H ea1698
            rintro _ _ w182 ⟨h166,rfl,rfl⟩ hx H
            replace hX:=hX.trans0 hx;clear hx
            refine hold hX ?_
            replace H:=H.sel [1,0,2,3,4,5,6,7,8,9,10] rfl
            refine litN (α:=List Int) (us:=[(h165).v,(h166).v]) (xs:=[a38,a39]) (gs:=[h165,h166]) gok rfl rfl rfl ⟨rfl,rfl,trivial⟩ rfl rfl H ?_;clear H;intro h167 w183 hx H
            replace hX:=hX.trans0 hx;clear hx
            refine hold hX ?_
            exact ⟨([a38,a39],h167),⟨rfl,trivial⟩,Option.some.inj f60,H.sel [0] rfl⟩
           ·
            exact trivial
         ·
          refine both ?_ ?_
          ·
           replace H:=H.sc (α:=Int) a23
           replace H:=H.sc (α:=Int) 1
           refine litN (α:=Int) (us:=[(.int .i64 1),(.int .i64 a23)]) (xs:=[1,a23]) (gs:=[(),()]) gok rfl rfl rfl ⟨rfl,rfl,trivial⟩ rfl rfl H ?_;clear H;intro h168 w184 hx H
           replace hX:=hX.trans0 hx;clear hx
           refine hold hX ?_
           replace H:=H.sc (α:=Int) a19
           replace H:=H.sc (α:=Int) a18
           refine litN (α:=Int) (us:=[(.int .i64 a18),(.int .i64 a19)]) (xs:=[a18,a19]) (gs:=[(),()]) gok rfl rfl rfl ⟨rfl,rfl,trivial⟩ rfl rfl H ?_;clear H;intro h169 w187 hx H
           replace hX:=hX.trans0 hx;clear hx
           refine hold hX ?_
           have e:=o14;clear o14
           have ea1695:=e;clear e
           refine callFx (spec_dnRow_c p_ n_ [a18,a19] h169 [1,a20] h158 a38 ea1695) H ⟨Vw.own 0 rfl,Vw.own 2 rfl,trivial⟩ ?_;clear H ea1695
           rintro _ _ w188 ⟨h170,rfl,rfl⟩ hx H
           replace hX:=hX.trans0 hx;clear hx
           refine hold hX ?_
           have e:=o15;clear o15
           have ea1698:=e;clear e
           refine callFx (spec_dnRow_c p_ n_ [a21,a22] h142 [1,a23] h168 a39 ea1698) H ⟨Vw.own 4 rfl,Vw.own 2 rfl,trivial⟩ ?_;clear H ea1698
           rintro _ _ w189 ⟨h171,rfl,rfl⟩ hx H
           replace hX:=hX.trans0 hx;clear hx
           refine hold hX ?_
           replace H:=H.sel [1,0,2,3,4,5,6,7,8,9,10] rfl
           refine litN (α:=List Int) (us:=[(h170).v,(h171).v]) (xs:=[a38,a39]) (gs:=[h170,h171]) gok rfl rfl rfl ⟨rfl,rfl,trivial⟩ rfl rfl H ?_;clear H;intro h172 w190 hx H
           replace hX:=hX.trans0 hx;clear hx
           refine hold hX ?_
           exact ⟨([a38,a39],h172),⟨rfl,trivial⟩,Option.some.inj f60,H.sel [0] rfl⟩
          ·
           exact trivial
        ·
         refine both ?_ ?_
         ·
          replace H:=H.sc (α:=Int) a23
          replace H:=H.sc (α:=Int) 1
          refine litN (α:=Int) (us:=[(.int .i64 1),(.int .i64 a23)]) (xs:=[1,a23]) (gs:=[(),()]) gok rfl rfl rfl ⟨rfl,rfl,trivial⟩ rfl rfl H ?_;clear H;intro h173 w192 hx H
          replace hX:=hX.trans0 hx;clear hx
          refine hold hX ?_
          refine both ?_ ?_
          ·
           replace H:=H.sc (α:=Int) a19
           replace H:=H.sc (α:=Int) a18
           refine litN (α:=Int) (us:=[(.int .i64 a18),(.int .i64 a19)]) (xs:=[a18,a19]) (gs:=[(),()]) gok rfl rfl rfl ⟨rfl,rfl,trivial⟩ rfl rfl H ?_;clear H;intro h174 w193 hx H
           replace hX:=hX.trans0 hx;clear hx
           refine hold hX ?_
           replace H:=H.sc (α:=Int) a20
           replace H:=H.sc (α:=Int) 1
           refine litN (α:=Int) (us:=[(.int .i64 1),(.int .i64 a20)]) (xs:=[1,a20]) (gs:=[(),()]) gok rfl rfl rfl ⟨rfl,rfl,trivial⟩ rfl rfl H ?_;clear H;intro h175 w195 hx H
           replace hX:=hX.trans0 hx;clear hx
           refine hold hX ?_
           have e:=o14;clear o14
           have ea1695:=e;clear e
           refine callFx (spec_dnRow_c p_ n_ [a18,a19] h174 [1,a20] h175 a38 ea1695) H ⟨Vw.own 1 rfl,Vw.own 0 rfl,trivial⟩ ?_;clear H ea1695
           rintro _ _ w196 ⟨h176,rfl,rfl⟩ hx H
           replace hX:=hX.trans0 hx;clear hx
           refine hold hX ?_
           have e:=o15;clear o15
           have ea1698:=e;clear e
           refine callFx (spec_dnRow_c p_ n_ [a21,a22] h142 [1,a23] h173 a39 ea1698) H ⟨Vw.own 4 rfl,Vw.own 3 rfl,trivial⟩ ?_;clear H ea1698
           rintro _ _ w197 ⟨h177,rfl,rfl⟩ hx H
           replace hX:=hX.trans0 hx;clear hx
           refine hold hX ?_
           replace H:=H.sel [1,0,2,3,4,5,6,7,8,9,10] rfl
           refine litN (α:=List Int) (us:=[(h176).v,(h177).v]) (xs:=[a38,a39]) (gs:=[h176,h177]) gok rfl rfl rfl ⟨rfl,rfl,trivial⟩ rfl rfl H ?_;clear H;intro h178 w198 hx H
           replace hX:=hX.trans0 hx;clear hx
           refine hold hX ?_
           exact ⟨([a38,a39],h178),⟨rfl,trivial⟩,Option.some.inj f60,H.sel [0] rfl⟩
          ·
           refine both ?_ ?_
           ·
            replace H:=H.sc (α:=Int) a20
            replace H:=H.sc (α:=Int) 1
            refine litN (α:=Int) (us:=[(.int .i64 1),(.int .i64 a20)]) (xs:=[1,a20]) (gs:=[(),()]) gok rfl rfl rfl ⟨rfl,rfl,trivial⟩ rfl rfl H ?_;clear H;intro h179 w199 hx H
            replace hX:=hX.trans0 hx;clear hx
            refine hold hX ?_
            replace H:=H.sc (α:=Int) a19
            replace H:=H.sc (α:=Int) a18
            refine litN (α:=Int) (us:=[(.int .i64 a18),(.int .i64 a19)]) (xs:=[a18,a19]) (gs:=[(),()]) gok rfl rfl rfl ⟨rfl,rfl,trivial⟩ rfl rfl H ?_;clear H;intro h180 w200 hx H
            replace hX:=hX.trans0 hx;clear hx
            refine hold hX ?_
            have e:=o14;clear o14
            have ea1695:=e;clear e
            refine callFx (spec_dnRow_c p_ n_ [a18,a19] h180 [1,a20] h179 a38 ea1695) H ⟨Vw.own 0 rfl,Vw.own 1 rfl,trivial⟩ ?_;clear H ea1695
            rintro _ _ w201 ⟨h182,rfl,rfl⟩ hx H
            replace hX:=hX.trans0 hx;clear hx
            refine hold hX ?_
            have e:=o15;clear o15
            have ea1698:=e;clear e
            refine callFx (spec_dnRow_c p_ n_ [a21,a22] h142 [1,a23] h173 a39 ea1698) H ⟨Vw.own 4 rfl,Vw.own 3 rfl,trivial⟩ ?_;clear H ea1698
            rintro _ _ w202 ⟨h183,rfl,rfl⟩ hx H
            replace hX:=hX.trans0 hx;clear hx
            refine hold hX ?_
            replace H:=H.sel [1,0,2,3,4,5,6,7,8,9,10] rfl
            refine litN (α:=List Int) (us:=[(h182).v,(h183).v]) (xs:=[a38,a39]) (gs:=[h182,h183]) gok rfl rfl rfl ⟨rfl,rfl,trivial⟩ rfl rfl H ?_;clear H;intro h184 w205 hx H
            replace hX:=hX.trans0 hx;clear hx
            refine hold hX ?_
            exact ⟨([a38,a39],h184),⟨rfl,trivial⟩,Option.some.inj f60,H.sel [0] rfl⟩
           ·
            exact trivial
         ·
          exact trivial
      ·
       refine both ?_ ?_
       ·
        obtain ⟨a40,o16,f61⟩:=bindS f45;clear f45
        obtain ⟨a41,o17,f62⟩:=bindS f61;clear f61
        replace H:=H.sc (α:=Int) a23
        replace H:=H.sc (α:=Int) 1
        refine litN (α:=Int) (us:=[(.int .i64 1),(.int .i64 a23)]) (xs:=[1,a23]) (gs:=[(),()]) gok rfl rfl rfl ⟨rfl,rfl,trivial⟩ rfl rfl H ?_;clear H;intro h185 w206 hx H
        replace hX:=hX.trans0 hx;clear hx
        refine hold hX ?_
        refine both ?_ ?_
        ·
         replace H:=H.sc (α:=Int) a19
         replace H:=H.sc (α:=Int) a18
         refine litN (α:=Int) (us:=[(.int .i64 a18),(.int .i64 a19)]) (xs:=[a18,a19]) (gs:=[(),()]) gok rfl rfl rfl ⟨rfl,rfl,trivial⟩ rfl rfl H ?_;clear H;intro h186 w208 hx H
         replace hX:=hX.trans0 hx;clear hx
         refine hold hX ?_
         refine both ?_ ?_
         ·
          replace H:=H.sc (α:=Int) a20
          replace H:=H.sc (α:=Int) 1
          refine litN (α:=Int) (us:=[(.int .i64 1),(.int .i64 a20)]) (xs:=[1,a20]) (gs:=[(),()]) gok rfl rfl rfl ⟨rfl,rfl,trivial⟩ rfl rfl H ?_;clear H;intro h188 w209 hx H
          replace hX:=hX.trans0 hx;clear hx
          refine hold hX ?_
          refine both ?_ ?_
          ·
           have e:=o16;clear o16
           have ea1827:=e;clear e
           refine callFx (spec_dnRow_c p_ n_ [a18,a19] h186 [1,a20] h188 a40 ea1827) H ⟨Vw.own 1 rfl,Vw.own 0 rfl,trivial⟩ ?_;clear H ea1827
           rintro _ _ w211 ⟨h189,rfl,rfl⟩ hx H
           replace hX:=hX.trans0 hx;clear hx
           refine hold hX ?_
           replace H:=H.sc (α:=Int) a22
           replace H:=H.sc (α:=Int) a21
           refine litN (α:=Int) (us:=[(.int .i64 a21),(.int .i64 a22)]) (xs:=[a21,a22]) (gs:=[(),()]) gok rfl rfl rfl ⟨rfl,rfl,trivial⟩ rfl rfl H ?_;clear H;intro h190 w212 hx H
           replace hX:=hX.trans0 hx;clear hx
           refine hold hX ?_
           have e:=o17;clear o17
           have ea1830:=e;clear e
           refine callFx (spec_dnRow_c p_ n_ [a21,a22] h190 [1,a23] h185 a41 ea1830) H ⟨Vw.own 0 rfl,Vw.own 4 rfl,trivial⟩ ?_;clear H ea1830
           rintro _ _ w214 ⟨h191,rfl,rfl⟩ hx H
           replace hX:=hX.trans0 hx;clear hx
           refine hold hX ?_
           replace H:=H.sel [2,0,1,3,4,5,6,7,8,9,10] rfl
           refine litN (α:=List Int) (us:=[(h189).v,(h191).v]) (xs:=[a40,a41]) (gs:=[h189,h191]) gok rfl rfl rfl ⟨rfl,rfl,trivial⟩ rfl rfl H ?_;clear H;intro h193 w215 hx H
           replace hX:=hX.trans0 hx;clear hx
           refine hold hX ?_
           exact ⟨([a40,a41],h193),⟨rfl,trivial⟩,Option.some.inj f62,H.sel [0] rfl⟩
          ·
           refine both ?_ ?_
           ·
            replace H:=H.sc (α:=Int) a22
            replace H:=H.sc (α:=Int) a21
            refine litN (α:=Int) (us:=[(.int .i64 a21),(.int .i64 a22)]) (xs:=[a21,a22]) (gs:=[(),()]) gok rfl rfl rfl ⟨rfl,rfl,trivial⟩ rfl rfl H ?_;clear H;intro h194 w217 hx H
            replace hX:=hX.trans0 hx;clear hx
            refine hold hX ?_
            have e:=o16;clear o16
            have ea1827:=e;clear e
            refine callFx (spec_dnRow_c p_ n_ [a18,a19] h186 [1,a20] h188 a40 ea1827) H ⟨Vw.own 2 rfl,Vw.own 1 rfl,trivial⟩ ?_;clear H ea1827
            rintro _ _ w218 ⟨h196,rfl,rfl⟩ hx H
            replace hX:=hX.trans0 hx;clear hx
            refine hold hX ?_
            have e:=o17;clear o17
            have ea1830:=e;clear e
            refine callFx (spec_dnRow_c p_ n_ [a21,a22] h194 [1,a23] h185 a41 ea1830) H ⟨Vw.own 1 rfl,Vw.own 4 rfl,trivial⟩ ?_;clear H ea1830
            rintro _ _ w220 ⟨h197,rfl,rfl⟩ hx H
            replace hX:=hX.trans0 hx;clear hx
            refine hold hX ?_
            replace H:=H.sel [1,0,2,3,4,5,6,7,8,9,10] rfl
            refine litN (α:=List Int) (us:=[(h196).v,(h197).v]) (xs:=[a40,a41]) (gs:=[h196,h197]) gok rfl rfl rfl ⟨rfl,rfl,trivial⟩ rfl rfl H ?_;clear H;intro h198 w221 hx H
            replace hX:=hX.trans0 hx;clear hx
            refine hold hX ?_
            exact ⟨([a40,a41],h198),⟨rfl,trivial⟩,Option.some.inj f62,H.sel [0] rfl⟩
           ·
            exact trivial
         ·
          refine both ?_ ?_
          ·
           replace H:=H.sc (α:=Int) a22
           replace H:=H.sc (α:=Int) a21
           refine litN (α:=Int) (us:=[(.int .i64 a21),(.int .i64 a22)]) (xs:=[a21,a22]) (gs:=[(),()]) gok rfl rfl rfl ⟨rfl,rfl,trivial⟩ rfl rfl H ?_;clear H;intro h199 w223 hx H
           replace hX:=hX.trans0 hx;clear hx
           refine hold hX ?_
           replace H:=H.sc (α:=Int) a20
           replace H:=H.sc (α:=Int) 1
           refine litN (α:=Int) (us:=[(.int .i64 1),(.int .i64 a20)]) (xs:=[1,a20]) (gs:=[(),()]) gok rfl rfl rfl ⟨rfl,rfl,trivial⟩ rfl rfl H ?_;clear H;intro h200 w224 hx H
           replace hX:=hX.trans0 hx;clear hx
           refine hold hX ?_
           have e:=o16;clear o16
           have ea1827:=e;clear e
           refine callFx (spec_dnRow_c p_ n_ [a18,a19] h186 [1,a20] h200 a40 ea1827) H ⟨Vw.own 2 rfl,Vw.own 0 rfl,trivial⟩ ?_;clear H ea1827
           rintro _ _ w226 ⟨h201,rfl,rfl⟩ hx H
           replace hX:=hX.trans0 hx;clear hx
           refine hold hX ?_
           have e:=o17;clear o17
           have ea1830:=e;clear e
           refine callFx (spec_dnRow_c p_ n_ [a21,a22] h199 [1,a23] h185 a41 ea1830) H ⟨Vw.own 2 rfl,Vw.own 4 rfl,trivial⟩ ?_;clear H ea1830
           rintro _ _ w227 ⟨h202,rfl,rfl⟩ hx H
           replace hX:=hX.trans0 hx;clear hx
           refine hold hX ?_
           replace H:=H.sel [1,0,2,3,4,5,6,7,8,9,10] rfl
           refine litN (α:=List Int) (us:=[(h201).v,(h202).v]) (xs:=[a40,a41]) (gs:=[h201,h202]) gok rfl rfl rfl ⟨rfl,rfl,trivial⟩ rfl rfl H ?_;clear H;intro h203 w229 hx H
           replace hX:=hX.trans0 hx;clear hx
           refine hold hX ?_
           exact ⟨([a40,a41],h203),⟨rfl,trivial⟩,Option.some.inj f62,H.sel [0] rfl⟩
          ·
           exact trivial
        ·
         refine both ?_ ?_
         ·
          replace H:=H.sc (α:=Int) a20
          replace H:=H.sc (α:=Int) 1
          refine litN (α:=Int) (us:=[(.int .i64 1),(.int .i64 a20)]) (xs:=[1,a20]) (gs:=[(),()]) gok rfl rfl rfl ⟨rfl,rfl,trivial⟩ rfl rfl H ?_;clear H;intro h204 w230 hx H
          replace hX:=hX.trans0 hx;clear hx
          refine hold hX ?_
          refine both ?_ ?_
          ·
           replace H:=H.sc (α:=Int) a19
           replace H:=H.sc (α:=Int) a18
           refine litN (α:=Int) (us:=[(.int .i64 a18),(.int .i64 a19)]) (xs:=[a18,a19]) (gs:=[(),()]) gok rfl rfl rfl ⟨rfl,rfl,trivial⟩ rfl rfl H ?_;clear H;intro h206 w231 hx H
           replace hX:=hX.trans0 hx;clear hx
           refine hold hX ?_
           refine both ?_ ?_
           ·
            have e:=o16;clear o16
            have ea1827:=e;clear e
            refine callFx (spec_dnRow_c p_ n_ [a18,a19] h206 [1,a20] h204 a40 ea1827) H ⟨Vw.own 0 rfl,Vw.own 1 rfl,trivial⟩ ?_;clear H ea1827
            rintro _ _ w232 ⟨h207,rfl,rfl⟩ hx H
            replace hX:=hX.trans0 hx;clear hx
            refine hold hX ?_
            replace H:=H.sc (α:=Int) a22
            replace H:=H.sc (α:=Int) a21
            refine litN (α:=Int) (us:=[(.int .i64 a21),(.int .i64 a22)]) (xs:=[a21,a22]) (gs:=[(),()]) gok rfl rfl rfl ⟨rfl,rfl,trivial⟩ rfl rfl H ?_;clear H;intro h209 w233 hx H
            replace hX:=hX.trans0 hx;clear hx
            refine hold hX ?_
            have e:=o17;clear o17
            have ea1830:=e;clear e
            refine callFx (spec_dnRow_c p_ n_ [a21,a22] h209 [1,a23] h185 a41 ea1830) H ⟨Vw.own 0 rfl,Vw.own 4 rfl,trivial⟩ ?_;clear H ea1830
            rintro _ _ w234 ⟨h210,rfl,rfl⟩ hx H
            replace hX:=hX.trans0 hx;clear hx
            refine hold hX ?_
            replace H:=H.sel [2,0,1,3,4,5,6,7,8,9,10] rfl
            refine litN (α:=List Int) (us:=[(h207).v,(h210).v]) (xs:=[a40,a41]) (gs:=[h207,h210]) gok rfl rfl rfl ⟨rfl,rfl,trivial⟩ rfl rfl H ?_;clear H;intro h212 w235 hx H
            replace hX:=hX.trans0 hx;clear hx
            refine hold hX ?_
            exact ⟨([a40,a41],h212),⟨rfl,trivial⟩,Option.some.inj f62,H.sel [0] rfl⟩
           ·
            refine both ?_ ?_
            ·
             replace H:=H.sc (α:=Int) a22
             replace H:=H.sc (α:=Int) a21
             refine litN (α:=Int) (us:=[(.int .i64 a21),(.int .i64 a22)]) (xs:=[a21,a22]) (gs:=[(),()]) gok rfl rfl rfl ⟨rfl,rfl,trivial⟩ rfl rfl H ?_;clear H;intro h213 w236 hx H
             replace hX:=hX.trans0 hx;clear hx
             refine hold hX ?_
             have e:=o16;clear o16
             have ea1827:=e;clear e
             refine callFx (spec_dnRow_c p_ n_ [a18,a19] h206 [1,a20] h204 a40 ea1827) H ⟨Vw.own 1 rfl,Vw.own 2 rfl,trivial⟩ ?_;clear H ea1827
             rintro _ _ w237 ⟨h215,rfl,rfl⟩ hx H
             replace hX:=hX.trans0 hx;clear hx
             refine hold hX ?_
             have e:=o17;clear o17
             have ea1830:=e;clear e
             refine callFx (spec_dnRow_c p_ n_ [a21,a22] h213 [1,a23] h185 a41 ea1830) H ⟨Vw.own 1 rfl,Vw.own 4 rfl,trivial⟩ ?_;clear H ea1830
             rintro _ _ w238 ⟨h216,rfl,rfl⟩ hx H
             replace hX:=hX.trans0 hx;clear hx
             refine hold hX ?_
             replace H:=H.sel [1,0,2,3,4,5,6,7,8,9,10] rfl
             refine litN (α:=List Int) (us:=[(h215).v,(h216).v]) (xs:=[a40,a41]) (gs:=[h215,h216]) gok rfl rfl rfl ⟨rfl,rfl,trivial⟩ rfl rfl H ?_;clear H;intro h218 w240 hx H
             replace hX:=hX.trans0 hx;clear hx
             refine hold hX ?_
             exact ⟨([a40,a41],h218),⟨rfl,trivial⟩,Option.some.inj f62,H.sel [0] rfl⟩
            ·
             exact trivial
          ·
           refine both ?_ ?_
           ·
            replace H:=H.sc (α:=Int) a22
            replace H:=H.sc (α:=Int) a21
            refine litN (α:=Int) (us:=[(.int .i64 a21),(.int .i64 a22)]) (xs:=[a21,a22]) (gs:=[(),()]) gok rfl rfl rfl ⟨rfl,rfl,trivial⟩ rfl rfl H ?_;clear H;intro h219 w241 hx H
            replace hX:=hX.trans0 hx;clear hx
            refine hold hX ?_
            replace H:=H.sc (α:=Int) a19
            replace H:=H.sc (α:=Int) a18
            refine litN (α:=Int) (us:=[(.int .i64 a18),(.int .i64 a19)]) (xs:=[a18,a19]) (gs:=[(),()]) gok rfl rfl rfl ⟨rfl,rfl,trivial⟩ rfl rfl H ?_;clear H;intro h221 w243 hx H
            replace hX:=hX.trans0 hx;clear hx
            refine hold hX ?_
            have e:=o16;clear o16
            have ea1827:=e;clear e
            refine callFx (spec_dnRow_c p_ n_ [a18,a19] h221 [1,a20] h204 a40 ea1827) H ⟨Vw.own 0 rfl,Vw.own 2 rfl,trivial⟩ ?_;clear H ea1827
            rintro _ _ w244 ⟨h222,rfl,rfl⟩ hx H
            replace hX:=hX.trans0 hx;clear hx
            refine hold hX ?_
            have e:=o17;clear o17
            have ea1830:=e;clear e
            refine callFx (spec_dnRow_c p_ n_ [a21,a22] h219 [1,a23] h185 a41 ea1830) H ⟨Vw.own 2 rfl,Vw.own 4 rfl,trivial⟩ ?_;clear H ea1830
            rintro _ _ w245 ⟨h224,rfl,rfl⟩ hx H
            replace hX:=hX.trans0 hx;clear hx
            refine hold hX ?_
            replace H:=H.sel [1,0,2,3,4,5,6,7,8,9,10] rfl
            refine litN (α:=List Int) (us:=[(h222).v,(h224).v]) (xs:=[a40,a41]) (gs:=[h222,h224]) gok rfl rfl rfl ⟨rfl,rfl,trivial⟩ rfl rfl H ?_;clear H;intro h225 w246 hx H
            replace hX:=hX.trans0 hx;clear hx
            refine hold hX ?_
            exact ⟨([a40,a41],h225),⟨rfl,trivial⟩,Option.some.inj f62,H.sel [0] rfl⟩
           ·
            exact trivial
         ·
          refine both ?_ ?_
          ·
           replace H:=H.sc (α:=Int) a22
           replace H:=H.sc (α:=Int) a21
           refine litN (α:=Int) (us:=[(.int .i64 a21),(.int .i64 a22)]) (xs:=[a21,a22]) (gs:=[(),()]) gok rfl rfl rfl ⟨rfl,rfl,trivial⟩ rfl rfl H ?_;clear H;intro h227 w248 hx H
           replace hX:=hX.trans0 hx;clear hx
           refine hold hX ?_
           refine both ?_ ?_
           ·
            replace H:=H.sc (α:=Int) a19
            replace H:=H.sc (α:=Int) a18
            refine litN (α:=Int) (us:=[(.int .i64 a18),(.int .i64 a19)]) (xs:=[a18,a19]) (gs:=[(),()]) gok rfl rfl rfl ⟨rfl,rfl,trivial⟩ rfl rfl H ?_;clear H;intro h228 w249 hx H
            replace hX:=hX.trans0 hx;clear hx
            refine hold hX ?_
            replace H:=H.sc (α:=Int) a20
            replace H:=H.sc (α:=Int) 1
            refine litN (α:=Int) (us:=[(.int .i64 1),(.int .i64 a20)]) (xs:=[1,a20]) (gs:=[(),()]) gok rfl rfl rfl ⟨rfl,rfl,trivial⟩ rfl rfl H ?_;clear H;intro h229 w251 hx H
            replace hX:=hX.trans0 hx;clear hx
            refine hold hX ?_
            have e:=o16;clear o16
            have ea1827:=e;clear e
            refine callFx (spec_dnRow_c p_ n_ [a18,a19] h228 [1,a20] h229 a40 ea1827) H ⟨Vw.own 1 rfl,Vw.own 0 rfl,trivial⟩ ?_;clear H ea1827
            rintro _ _ w252 ⟨h230,rfl,rfl⟩ hx H
            replace hX:=hX.trans0 hx;clear hx
            refine hold hX ?_
            have e:=o17;clear o17
            have ea1830:=e;clear e
            refine callFx (spec_dnRow_c p_ n_ [a21,a22] h227 [1,a23] h185 a41 ea1830) H ⟨Vw.own 3 rfl,Vw.own 4 rfl,trivial⟩ ?_;clear H ea1830
            rintro _ _ w253 ⟨h231,rfl,rfl⟩ hx H
            replace hX:=hX.trans0 hx;clear hx
            refine hold hX ?_
            replace H:=H.sel [1,0,2,3,4,5,6,7,8,9,10] rfl
            refine litN (α:=List Int) (us:=[(h230).v,(h231).v]) (xs:=[a40,a41]) (gs:=[h230,h231]) gok rfl rfl rfl ⟨rfl,rfl,trivial⟩ rfl rfl H ?_;clear H;intro h232 w254 hx H
            replace hX:=hX.trans0 hx;clear hx
            refine hold hX ?_
            exact ⟨([a40,a41],h232),⟨rfl,trivial⟩,Option.some.inj f62,H.sel [0] rfl⟩
           ·
            refine both ?_ ?_
            ·
             replace H:=H.sc (α:=Int) a20
             replace H:=H.sc (α:=Int) 1
             refine litN (α:=Int) (us:=[(.int .i64 1),(.int .i64 a20)]) (xs:=[1,a20]) (gs:=[(),()]) gok rfl rfl rfl ⟨rfl,rfl,trivial⟩ rfl rfl H ?_;clear H;intro h233 w255 hx H
             replace hX:=hX.trans0 hx;clear hx
             refine hold hX ?_
             replace H:=H.sc (α:=Int) a19
             replace H:=H.sc (α:=Int) a18
             refine litN (α:=Int) (us:=[(.int .i64 a18),(.int .i64 a19)]) (xs:=[a18,a19]) (gs:=[(),()]) gok rfl rfl rfl ⟨rfl,rfl,trivial⟩ rfl rfl H ?_;clear H;intro h234 w256 hx H
             replace hX:=hX.trans0 hx;clear hx
             refine hold hX ?_
             have e:=o16;clear o16
             have ea1827:=e;clear e
             refine callFx (spec_dnRow_c p_ n_ [a18,a19] h234 [1,a20] h233 a40 ea1827) H ⟨Vw.own 0 rfl,Vw.own 1 rfl,trivial⟩ ?_;clear H ea1827
             rintro _ _ w257 ⟨h235,rfl,rfl⟩ hx H
             replace hX:=hX.trans0 hx;clear hx
             refine hold hX ?_
             have e:=o17;clear o17
             have ea1830:=e;clear e
             refine callFx (spec_dnRow_c p_ n_ [a21,a22] h227 [1,a23] h185 a41 ea1830) H ⟨Vw.own 3 rfl,Vw.own 4 rfl,trivial⟩ ?_;clear H ea1830
             rintro _ _ w258 ⟨h236,rfl,rfl⟩ hx H
             replace hX:=hX.trans0 hx;clear hx
             refine hold hX ?_
             replace H:=H.sel [1,0,2,3,4,5,6,7,8,9,10] rfl
             refine litN (α:=List Int) (us:=[(h235).v,(h236).v]) (xs:=[a40,a41]) (gs:=[h235,h236]) gok rfl rfl rfl ⟨rfl,rfl,trivial⟩ rfl rfl H ?_;clear H;intro h237 w259 hx H
             replace hX:=hX.trans0 hx;clear hx
             refine hold hX ?_
             exact ⟨([a40,a41],h237),⟨rfl,trivial⟩,Option.some.inj f62,H.sel [0] rfl⟩
            ·
             exact trivial
          ·
           exact trivial
       ·
        exact trivial
   ·
    clear f38 H
    rintro T3 ⟨s3,g3⟩ w260 ⟨hr,(H:Cx w0 fp0 S0 w260 [E (List (List Int)) s3 g3])⟩
    subst hr
    cases f39
    exact ⟨_,_,rfl,⟨g3,rfl,rfl⟩,(H.sel [0] rfl).close ⟨cloE,trivial⟩⟩
theorem spec_fdInv_c (p_:Int) (a_:Int) (y:Int) (hF:F_spec_fdInv p_ a_ = some y) :
  ConF Tryz.prog 139 #[(.int .i64 p_),(.int .i64 a_)] [] [] (fun v Γ'=>v = (.int .i64 y) ∧ Γ' = []):=by
 intro w0 S0 fp0 hI hS
 have H:Cx w0 fp0 S0 w0 []:=Cx.start hI hS
 clear hI hS
 refine enterC (args:=[_,_]) gok Tryz.func139 rfl _ rfl rfl rfl ?_
 obtain ⟨r0,f0,f1⟩:=bindS hF;clear hF
 refine cut (fun (q0:Unit)=>[]) (fun (q0:Unit) w'=>.inl () = r0 ∧ Cx w0 fp0 S0 w' []) ?_ ?_
 ·
  refine loopW _ (fun (s0:Int) (_:Unit)=>[(0,(.int .i64 p_)),(1,(.int .i64 a_)),(5,(.int .i64 s0))]) (fun (s0:Int) (_:Unit) w'=>Cx w0 fp0 S0 w' []) 1 () f0 ⟨rfl,rfl,rfl,trivial⟩ (H.sel [] rfl) ?_
  ·
   clear H
   rintro T0 s0 _ w1 o0 (H:Cx w0 fp0 S0 w1 []) hrt f2
   refine sq ?_
   obtain ⟨a0,e,f3⟩:=bindS f2;clear f2
   refine boolO e ?_;clear e
   cases a0
   ·
    have f4:=condF f3;clear f3
    have hs:=Option.some.inj f4;subst hs;clear f4
    have f5:some _ = some _:=congrArg some (hrt _ rfl).symm
    exact ⟨(),trivial,Option.some.inj f5,H.sel [] rfl⟩
   ·
    have f6:=condT f3;clear f3
    refine sq ?_
    obtain ⟨a1,e,f7⟩:=bindS f6;clear f6
    refine arO e ?_;clear e
    obtain ⟨a2,e,f8⟩:=bindS f7;clear f7
    refine remO_ e ?_;clear e
    obtain ⟨a3,e,f9⟩:=bindS f8;clear f8
    refine boolO e ?_;clear e
    cases a3
    ·
     have f10:=condF f9;clear f9
     obtain ⟨a4,e,f11⟩:=bindS f10;clear f10
     refine arO e ?_;clear e
     have hs:=Option.some.inj f11;subst hs;clear f11
     exact ⟨a4,(),rfl,⟨rfl,rfl,rfl,trivial⟩,H.sel [] rfl⟩
    ·
     have f12:=condT f9;clear f9
     have hs:=Option.some.inj f12;subst hs;clear f12
     have f13:some _ = some _:=congrArg some (hrt _ rfl).symm
     have hs:=Option.some.inj f13;subst hs;clear f13
     have f14:some _ = some _:=f1;clear f1
     cases f14
     exact ⟨_,_,rfl,⟨rfl,rfl⟩,(H.sel [] rfl).close trivial⟩
 ·
  clear f0 H
  rintro T1 _ w2 ⟨hr,(H:Cx w0 fp0 S0 w2 [])⟩
  subst hr
  cases f1
  exact ⟨_,_,rfl,⟨rfl,rfl⟩,(H.sel [] rfl).close trivial⟩
theorem spec_fdMul_c (p_:Int) (a_:Int) (b_:Int) (y:Int) (hF:F_spec_fdMul p_ a_ b_ = some y) :
  ConF Tryz.prog 140 #[(.int .i64 p_),(.int .i64 a_),(.int .i64 b_)] [] [] (fun v Γ'=>v = (.int .i64 y) ∧ Γ' = []):=by
 intro w0 S0 fp0 hI hS
 have H:Cx w0 fp0 S0 w0 []:=Cx.start hI hS
 clear hI hS
 refine enterC (args:=[_,_,_]) gok Tryz.func140 rfl _ rfl rfl rfl ?_
 obtain ⟨a1,e,hF2⟩:=bindS hF;clear hF
 refine arO e ?_;clear e
 obtain ⟨a3,e,hF4⟩:=bindS hF2;clear hF2
 refine remO_ e ?_;clear e
 cases hF4
 exact ⟨_,_,rfl,⟨rfl,rfl⟩,(H.sel [] rfl).close trivial⟩
theorem spec_fdSub_c (p_:Int) (a_:Int) (b_:Int) (y:Int) (hF:F_spec_fdSub p_ a_ b_ = some y) :
  ConF Tryz.prog 141 #[(.int .i64 p_),(.int .i64 a_),(.int .i64 b_)] [] [] (fun v Γ'=>v = (.int .i64 y) ∧ Γ' = []):=by
 intro w0 S0 fp0 hI hS
 have H:Cx w0 fp0 S0 w0 []:=Cx.start hI hS
 clear hI hS
 refine enterC (args:=[_,_,_]) gok Tryz.func141 rfl _ rfl rfl rfl ?_
 obtain ⟨a1,e,hF2⟩:=bindS hF;clear hF
 refine arO e ?_;clear e
 obtain ⟨a3,e,hF4⟩:=bindS hF2;clear hF2
 refine arO e ?_;clear e
 obtain ⟨a5,e,hF6⟩:=bindS hF4;clear hF4
 refine remO_ e ?_;clear e
 cases hF6
 exact ⟨_,_,rfl,⟨rfl,rfl⟩,(H.sel [] rfl).close trivial⟩
theorem spec_spReduce_c (p_:Int) (size_:Int) (rows_:List (List Int)) (rows_h:Hd) (y:List (List Int)) (hF:F_spec_spReduce p_ size_ rows_ = some y) :
  ConF Tryz.prog 113 #[(.int .i64 p_),(.int .i64 size_),(rows_h).v] [Es (List (List Int)) rows_ rows_h] [] (fun v Γ'=>∃ z0:Hd,v = (z0).v ∧ Γ' = [E (List (List Int)) y z0]):=by
 intro w0 S0 fp0 hI hS
 have H:Cx w0 fp0 S0 w0 [Es (List (List Int)) rows_ rows_h]:=Cx.start hI hS
 clear hI hS
 refine enterC (args:=[_,_,_]) gok Tryz.func113 rfl _ rfl rfl rfl ?_
 refine sq ?_
 refine lenE (H.rs (α:=List (List Int)) 0 rfl).len ?_
 have x0:=(H.rs (α:=List (List Int)) 0 rfl).max
 obtain ⟨r0,e,f0⟩:=bindS hF;clear hF
 replace H:=H.nil (α:=List Int)
 refine loopS _ rows_.length (fun (k2:Nat) (s0:List (List Int)) (g0:Hd)=>[(0,(.int .i64 p_)),(1,(.int .i64 size_)),(7,(g0).v),(19,(rows_h).v),(20,(.int .i64 ((rows_.length:Nat):Int))),(21,(.int .i64 ((k2:Nat):Int)))]) (fun _ (s0:List (List Int)) (g0:Hd) w'=>Cx w0 fp0 S0 w' [E (List (List Int)) s0 g0,Es (List (List Int)) rows_ rows_h]) [] nilH e ⟨rfl,rfl,rfl,rfl,rfl,rfl,trivial⟩ (H.sel [0,1] rfl) ?_ ?_
 ·
  clear H e
  rintro T0 k2 s0 g0 w1 o0 hk (H:Cx w0 fp0 S0 w1 [E (List (List Int)) s0 g0,Es (List (List Int)) rows_ rows_h]) f1
  refine boolE (z:=true) (ltLen hk) ?_
  refine sq ?_
  refine sq ?_
  obtain ⟨a0,e,f2⟩:=bindS f1;clear f1
  have HH:=H;clear H;obtain ⟨p0,m0,h0,c0,c1,c2,c3,H⟩:=HH.elL 1 rfl e;clear HH
  clear e
  refine idxE c0 c1 c2 ?_;clear c0 c1 c2
  refine load1 c3 ?_;clear c3
  obtain ⟨y0,e,f3⟩:=bindS f2;clear f2
  have ey76:=e;clear e
  refine callF (spec_l1Own_c a0 h0 y0 ey76) (Γi:=[]) H ⟨Vw.sh 0 rfl,trivial⟩ ?_;clear H ey76
  rintro _ _ w2 ⟨h1,rfl,rfl⟩ H
  refine lit1 (α:=List Int) (g:=h1) gok rfl rfl rfl rfl rfl H ?_;clear H;intro h2 w3 hx H
  clear hx
  obtain ⟨a1,e,f4⟩:=bindS f3;clear f3
  replace H:=H.sel [2,0,1,3] rfl
  refine append_ (α:=List Int) gok rfl rfl rfl rfl H e ?_;clear e H;intro h3 w4 H
  refine arK hk x0 ?_
  have hs:=Option.some.inj f4;subst hs;clear f4
  exact ⟨h3,⟨rfl,rfl,rfl,rfl,rfl,rfl,trivial⟩,H.sel [0,2] rfl⟩
 ·
  clear H e
  rintro T1 g1 w5 (H:Cx w0 fp0 S0 w5 [E (List (List Int)) r0 g1,Es (List (List Int)) rows_ rows_h])
  refine boolE (z:=false) geLen ?_
  refine sq ?_
  obtain ⟨r1,f5,f6⟩:=bindS f0;clear f0
  refine cut (fun (q0:List (List Int) × Int)=>[(7,(g1).v),(10,(.int .i64 q0.2))]) (fun (q0:List (List Int) × Int) w'=>(q0.1,q0.2) = r1 ∧ Cx w0 fp0 S0 w' [E (List (List Int)) q0.1 g1]) ?_ ?_
  ·
   refine loopW _ (fun (s1:List (List Int) × Int × Int) (_:Unit)=>[(0,(.int .i64 p_)),(1,(.int .i64 size_)),(7,(g1).v),(10,(.int .i64 s1.2.1)),(11,(.int .i64 s1.2.2))]) (fun (s1:List (List Int) × Int × Int) (_:Unit) w'=>Cx w0 fp0 S0 w' [E (List (List Int)) s1.1 g1]) (r0,0,0) () f5 ⟨rfl,rfl,rfl,rfl,rfl,trivial⟩ (H.sel [0] rfl) ?_
   ·
    clear H
    rintro T2 ⟨s1_0,s1_1,s1_2⟩ _ w6 o1 (H:Cx w0 fp0 S0 w6 [E (List (List Int)) s1_0 g1]) hrt f7
    refine sq ?_
    obtain ⟨r2,f8,f9⟩:=bindS f7;clear f7
    refine cut (fun (q1:Bool)=>[(0,(.int .i64 p_)),(1,(.int .i64 size_)),(7,(g1).v),(10,(.int .i64 s1_1)),(11,(.int .i64 s1_2)),(39,(.bool q1))]) (fun (q1:Bool) w'=>q1 = r2 ∧ Cx w0 fp0 S0 w' [E (List (List Int)) s1_0 g1]) ?_ ?_
    ·
     obtain ⟨a2,e,f10⟩:=bindS f8;clear f8
     refine boolO e ?_;clear e
     cases a2
     ·
      have f11:=condF f10;clear f10
      exact ⟨false,⟨rfl,rfl,rfl,rfl,rfl,rfl,trivial⟩,Option.some.inj f11,H.sel [0] rfl⟩
     ·
      have f12:=condT f10;clear f10
      refine lenE (H.ro (α:=List (List Int)) 0 rfl).len ?_
      obtain ⟨a3,e,f13⟩:=bindS f12;clear f12
      refine boolO e ?_;clear e
      exact ⟨a3,⟨rfl,rfl,rfl,rfl,rfl,rfl,trivial⟩,Option.some.inj f13,H.sel [0] rfl⟩
    ·
     clear f8 H
     rintro T3 s2 w7 ⟨hr,(H:Cx w0 fp0 S0 w7 [E (List (List Int)) s1_0 g1])⟩
     subst hr
     cases s2
     ·
      have f14:=condF f9;clear f9
      have hs:=Option.some.inj f14;subst hs;clear f14
      have f15:some _ = some _:=congrArg some (hrt _ rfl).symm
      exact ⟨(s1_0,s1_1),⟨rfl,rfl,trivial⟩,Option.some.inj f15,H.sel [0] rfl⟩
     ·
      have f16:=condT f9;clear f9
      obtain ⟨r3,f17,f18⟩:=bindS f16;clear f16
      refine cut (fun (q2:List (List Int) × Int)=>[(0,(.int .i64 p_)),(1,(.int .i64 size_)),(7,(g1).v),(10,(.int .i64 q2.2)),(11,(.int .i64 s1_2))]) (fun (q2:List (List Int) × Int) w'=>(q2.1,q2.2) = r3 ∧ Cx w0 fp0 S0 w' [E (List (List Int)) q2.1 g1]) ?_ ?_
      ·
       obtain ⟨r4,f19,f20⟩:=bindS f17;clear f17
       refine cut (fun (q3:Int)=>[(0,(.int .i64 p_)),(1,(.int .i64 size_)),(7,(g1).v),(10,(.int .i64 s1_1)),(11,(.int .i64 s1_2)),(12,(.int .i64 q3))]) (fun (q3:Int) w'=>q3 = r4 ∧ Cx w0 fp0 S0 w' [E (List (List Int)) s1_0 g1]) ?_ ?_
       ·
        refine loopW _ (fun (s3:Int) (_:Unit)=>[(0,(.int .i64 p_)),(1,(.int .i64 size_)),(7,(g1).v),(10,(.int .i64 s1_1)),(11,(.int .i64 s1_2)),(12,(.int .i64 s3))]) (fun (s3:Int) (_:Unit) w'=>Cx w0 fp0 S0 w' [E (List (List Int)) s1_0 g1]) s1_1 () f19 ⟨rfl,rfl,rfl,rfl,rfl,rfl,trivial⟩ (H.sel [0] rfl) ?_
        ·
         clear H
         rintro T4 s3 _ w8 o2 (H:Cx w0 fp0 S0 w8 [E (List (List Int)) s1_0 g1]) hrt f21
         refine sq ?_
         obtain ⟨r5,f22,f23⟩:=bindS f21;clear f21
         refine cut (fun (q4:Bool)=>[(0,(.int .i64 p_)),(1,(.int .i64 size_)),(7,(g1).v),(10,(.int .i64 s1_1)),(11,(.int .i64 s1_2)),(12,(.int .i64 s3)),(56,(.bool q4))]) (fun (q4:Bool) w'=>q4 = r5 ∧ Cx w0 fp0 S0 w' [E (List (List Int)) s1_0 g1]) ?_ ?_
         ·
          refine lenE (H.ro (α:=List (List Int)) 0 rfl).len ?_
          obtain ⟨a4,e,f24⟩:=bindS f22;clear f22
          refine boolO e ?_;clear e
          cases a4
          ·
           have f25:=condF f24;clear f24
           exact ⟨false,⟨rfl,rfl,rfl,rfl,rfl,rfl,rfl,trivial⟩,Option.some.inj f25,H.sel [0] rfl⟩
          ·
           have f26:=condT f24;clear f24
           obtain ⟨a5,e,f27⟩:=bindS f26;clear f26
           replace H:=H.toEH (α:=List Int)
           have HH:=H;clear H;obtain ⟨p1,m1,h4,c4,c5,c6,c7,H⟩:=HH.peekL e;clear HH
           clear e
           refine idxE c4 c5 c6 ?_
           refine load1 c7 ?_;clear c7
           obtain ⟨a6,e,f28⟩:=bindS f27;clear f27
           obtain ⟨p2,m2,c8,c9,c10,c11⟩:=(H.rh (α:=List Int) 0 rfl 0 rfl).at1 e;clear e
           refine idxE c8 c9 c10 ?_;clear c8 c9 c10
           refine load1 c11 ?_;clear c11
           obtain ⟨a7,e,f29⟩:=bindS f28;clear f28
           refine boolO e ?_;clear e
           replace H:=H.ofEH
           exact ⟨a7,⟨rfl,rfl,rfl,rfl,rfl,rfl,rfl,trivial⟩,Option.some.inj f29,H.sel [0] rfl⟩
         ·
          clear f22 H
          rintro T5 s4 w9 ⟨hr,(H:Cx w0 fp0 S0 w9 [E (List (List Int)) s1_0 g1])⟩
          subst hr
          cases s4
          ·
           have f30:=condF f23;clear f23
           have hs:=Option.some.inj f30;subst hs;clear f30
           have f31:some _ = some _:=congrArg some (hrt _ rfl).symm
           exact ⟨s3,⟨rfl,rfl,rfl,rfl,rfl,rfl,trivial⟩,Option.some.inj f31,H.sel [0] rfl⟩
          ·
           have f32:=condT f23;clear f23
           obtain ⟨a8,e,f33⟩:=bindS f32;clear f32
           refine arO e ?_;clear e
           have hs:=Option.some.inj f33;subst hs;clear f33
           exact ⟨a8,(),rfl,⟨rfl,rfl,rfl,rfl,rfl,rfl,trivial⟩,H.sel [0] rfl⟩
       ·
        clear f19 H
        rintro T6 s5 w10 ⟨hr,(H:Cx w0 fp0 S0 w10 [E (List (List Int)) s1_0 g1])⟩
        subst hr
        refine sq ?_
        refine lenE (H.ro (α:=List (List Int)) 0 rfl).len ?_
        obtain ⟨a9,e,f34⟩:=bindS f20;clear f20
        refine boolO e ?_;clear e
        cases a9
        ·
         have f35:=condF f34;clear f34
         obtain ⟨a10,e,f36⟩:=bindS f35;clear f35
         replace H:=H.toEH (α:=List Int)
         have HH:=H;clear H;obtain ⟨p3,m3,h5,c12,c13,c14,c15,H⟩:=HH.peekL e;clear HH
         clear e
         refine idxE c12 c13 c14 ?_
         refine load1 c15 ?_;clear c15
         obtain ⟨a11,e,f37⟩:=bindS f36;clear f36
         have HH:=H;clear H;obtain ⟨p4,m4,h6,c16,c17,c18,c19,H⟩:=HH.peekL e;clear HH
         clear e
         refine idxE c16 c17 c18 ?_
         refine load1 c19 ?_;clear c19
         refine idxE c12 c13 c14 ?_
         refine stZ1 (ki:=1) (kj:=0) H rfl rfl c12 ?_;clear H;intro w11 H
         refine idxE c16 c17 c18 ?_
         obtain ⟨a12,e,f38⟩:=bindS f37;clear f37
         refine stZ2 H c13 c17 c16 e ?_;clear H e;intro w12 H
         obtain ⟨a13,e,f39⟩:=bindS f38;clear f38
         replace H:=H.toEH (α:=List Int)
         have HH:=H;clear H;obtain ⟨p5,m5,h7,c20,c21,c22,c23,H⟩:=HH.peekL e;clear HH
         clear e
         refine idxE c20 c21 c22 ?_
         refine load1 c23 ?_;clear c23
         obtain ⟨a14,e,f40⟩:=bindS f39;clear f39
         obtain ⟨p6,m6,c24,c25,c26,c27⟩:=(H.rh (α:=List Int) 0 rfl 0 rfl).at1 e;clear e
         refine idxE c24 c25 c26 ?_;clear c24 c25 c26
         refine load1 c27 ?_;clear c27
         obtain ⟨y1,e,f41⟩:=bindS f40;clear f40
         have ey26736:=e;clear e
         refine callF (spec_fdInv_c p_ a14 y1 ey26736) (Γi:=[]) H trivial ?_;clear H ey26736
         rintro _ _ w13 ⟨rfl,rfl⟩ H
         refine sq ?_
         obtain ⟨a15,e,f42⟩:=bindS f41;clear f41
         have HH:=H;clear H;obtain ⟨p7,m7,h8,c28,c29,c30,c31,H⟩:=HH.peekL e;clear HH
         clear e
         refine idxE c28 c29 c30 ?_
         refine load1 c31 ?_;clear c31
         have x1:=(H.rh (α:=List Int) 0 rfl 0 rfl).max
         refine lenE (H.rh (α:=List Int) 0 rfl 0 rfl).len ?_
         replace H:=H.ofEH
         obtain ⟨r6,e,f43⟩:=bindS f42;clear f42
         refine loopS _ a15.length (fun (k0:Nat) (s6:List (List Int)) (_:Unit)=>[(0,(.int .i64 p_)),(1,(.int .i64 size_)),(7,(g1).v),(10,(.int .i64 s1_1)),(11,(.int .i64 s1_2)),(14,(.int .i64 y1)),(91,(.int .i64 ((a15.length:Nat):Int))),(92,(.int .i64 ((k0:Nat):Int)))]) (fun _ (s6:List (List Int)) (_:Unit) w'=>Cx w0 fp0 S0 w' [E (List (List Int)) s6 g1]) a12 () e ⟨rfl,rfl,rfl,rfl,rfl,rfl,rfl,rfl,trivial⟩ (H.sel [0] rfl) ?_ ?_
         ·
          clear H e
          rintro T7 k0 s6 _ w14 o3 hk (H:Cx w0 fp0 S0 w14 [E (List (List Int)) s6 g1]) f44
          refine boolE (z:=true) (ltLen hk) ?_
          refine sq ?_
          refine sq ?_
          refine heldX H [16] (.fst 0 (.fst 1 (.fst 2 (.fst 4 (.fst 5 (.fst 6 (.fst 7 (.fst 8 (.fst 10 (.fst 13 (.fst 3 (.fst 9 (.fst 11 (.fst 12 (.act 14 (.fst 15 (.act 16 .done))))))))))))))))) mixed [] trivial (by kernel_rfl) ?_
          clear H;intro w15 H
          have hX:Ext w15 w15:=Upd.refl _ _
          have H0:=H
          obtain ⟨a16,e,f45⟩:=bindS f44;clear f44
          replace H:=H.toEH (α:=List Int)
          have HH:=H;clear H;obtain ⟨p8,m8,h9,c32,c33,c34,c35,H⟩:=HH.peekL e;clear HH
          clear e
          refine idxE c32 c33 c34 ?_
          obtain ⟨a17,e,f46⟩:=bindS f45;clear f45
          have HH:=H;clear H;obtain ⟨p9,m9,h10,c36,c37,c38,c39,H⟩:=HH.peekL e;clear HH
          clear e
          refine idxE c36 c37 c38 ?_
          refine load1X c35 ?_;clear c35
          refine load1X c39 ?_;clear c39
          obtain ⟨a18,e,f47⟩:=bindS f46;clear f46
          obtain ⟨p10,m10,c40,c41,c42,c43⟩:=(H.rh (α:=List Int) 0 rfl 0 rfl).at1 e;clear e
          refine idxE c40 c41 c42 ?_;clear c40 c41 c42
          refine load1X c43 ?_;clear c43
          obtain ⟨y2,e,f48⟩:=bindS f47;clear f47
          have ey26874:=e;clear e
          refine callFx (spec_fdMul_c p_ a18 y1 y2 ey26874) H trivial ?_;clear H ey26874
          rintro _ _ w16 ⟨rfl,rfl⟩ hx H
          replace hX:=hX.trans0 hx;clear hx
          refine hold hX ?_
          replace H:=H.takeK 1 rfl
          obtain ⟨a19,e,f49⟩:=bindS f48;clear f48
          have ea26884:=e;clear e
          obtain ⟨p11,m11,c44,c45,c46⟩:=(H.ro (α:=List Int) 0 rfl).setp ea26884
          refine idxE c44 c45 c46 ?_
          refine setS (α:=Int) H c44 c45 ea26884 ?_;clear H c44 c45 c46 ea26884;intro w17 H
          obtain ⟨a20,e,f50⟩:=bindS f49;clear f49
          replace H:=H.put c33 e;clear e
          refine hold trivial ?_
          refine arK hk x1 ?_
          have hs:=Option.some.inj f50;subst hs;clear f50
          exact ⟨(),⟨rfl,rfl,rfl,rfl,rfl,rfl,rfl,rfl,trivial⟩,H.sel [0] rfl⟩
         ·
          clear H e
          rintro T8 _ w18 (H:Cx w0 fp0 S0 w18 [E (List (List Int)) r6 g1])
          refine boolE (z:=false) geLen ?_
          refine sq ?_
          refine sq ?_
          refine lenE (H.ro (α:=List (List Int)) 0 rfl).len ?_
          have x2:=(H.ro (α:=List (List Int)) 0 rfl).max
          obtain ⟨r7,e,f51⟩:=bindS f43;clear f43
          refine loopS _ r6.length (fun (k1:Nat) (s7:List (List Int)) (_:Unit)=>[(0,(.int .i64 p_)),(1,(.int .i64 size_)),(7,(g1).v),(10,(.int .i64 s1_1)),(11,(.int .i64 s1_2)),(113,(.int .i64 ((r6.length:Nat):Int))),(114,(.int .i64 ((k1:Nat):Int)))]) (fun _ (s7:List (List Int)) (_:Unit) w'=>Cx w0 fp0 S0 w' [E (List (List Int)) s7 g1]) r6 () e ⟨rfl,rfl,rfl,rfl,rfl,rfl,rfl,trivial⟩ (H.sel [0] rfl) ?_ ?_
          ·
           clear H e
           rintro T9 k1 s7 _ w19 o4 hk (H:Cx w0 fp0 S0 w19 [E (List (List Int)) s7 g1]) f52
           refine boolE (z:=true) (ltLen hk) ?_
           refine sq ?_
           obtain ⟨r8,f53,f54⟩:=bindS f52;clear f52
           refine cut (fun (q5:List (List Int))=>[(0,(.int .i64 p_)),(1,(.int .i64 size_)),(7,(g1).v),(10,(.int .i64 s1_1)),(11,(.int .i64 s1_2)),(113,(.int .i64 ((r6.length:Nat):Int))),(114,(.int .i64 ((k1:Nat):Int)))]) (fun (q5:List (List Int)) w'=>q5 = r8 ∧ Cx w0 fp0 S0 w' [E (List (List Int)) q5 g1]) ?_ ?_
           ·
            refine sq ?_
            obtain ⟨r9,f55,f56⟩:=bindS f53;clear f53
            refine cut (fun (q6:Bool)=>[(0,(.int .i64 p_)),(1,(.int .i64 size_)),(7,(g1).v),(10,(.int .i64 s1_1)),(11,(.int .i64 s1_2)),(16,(.int .i64 ((k1:Nat):Int))),(113,(.int .i64 ((r6.length:Nat):Int))),(114,(.int .i64 ((k1:Nat):Int))),(129,(.bool q6))]) (fun (q6:Bool) w'=>q6 = r9 ∧ Cx w0 fp0 S0 w' [E (List (List Int)) s7 g1]) ?_ ?_
            ·
             obtain ⟨a21,e,f57⟩:=bindS f55;clear f55
             refine boolO e ?_;clear e
             cases a21
             ·
              have f58:=condF f57;clear f57
              obtain ⟨a22,e,f59⟩:=bindS f58;clear f58
              replace H:=H.toEH (α:=List Int)
              have HH:=H;clear H;obtain ⟨p12,m12,h11,c47,c48,c49,c50,H⟩:=HH.peekL e;clear HH
              clear e
              refine idxE c47 c48 c49 ?_
              refine load1 c50 ?_;clear c50
              obtain ⟨a23,e,f60⟩:=bindS f59;clear f59
              obtain ⟨p13,m13,c51,c52,c53,c54⟩:=(H.rh (α:=List Int) 0 rfl 0 rfl).at1 e;clear e
              refine idxE c51 c52 c53 ?_;clear c51 c52 c53
              refine load1 c54 ?_;clear c54
              obtain ⟨a24,e,f61⟩:=bindS f60;clear f60
              refine boolO e ?_;clear e
              replace H:=H.ofEH
              exact ⟨a24,⟨rfl,rfl,rfl,rfl,rfl,rfl,rfl,rfl,rfl,trivial⟩,Option.some.inj f61,H.sel [0] rfl⟩
             ·
              have f62:=condT f57;clear f57
              exact ⟨true,⟨rfl,rfl,rfl,rfl,rfl,rfl,rfl,rfl,rfl,trivial⟩,Option.some.inj f62,H.sel [0] rfl⟩
            ·
             clear f55 H
             rintro T10 s8 w20 ⟨hr,(H:Cx w0 fp0 S0 w20 [E (List (List Int)) s7 g1])⟩
             subst hr
             cases s8
             ·
              have f63:=condF f56;clear f56
              obtain ⟨a25,e,f64⟩:=bindS f63;clear f63
              replace H:=H.toEH (α:=List Int)
              have HH:=H;clear H;obtain ⟨p14,m14,h12,c55,c56,c57,c58,H⟩:=HH.peekL e;clear HH
              clear e
              refine idxE c55 c56 c57 ?_
              refine load1 c58 ?_;clear c58
              obtain ⟨a26,e,f65⟩:=bindS f64;clear f64
              obtain ⟨p15,m15,c59,c60,c61,c62⟩:=(H.rh (α:=List Int) 0 rfl 0 rfl).at1 e;clear e
              refine idxE c59 c60 c61 ?_;clear c59 c60 c61
              refine load1 c62 ?_;clear c62
              replace H:=H.ofEH
              obtain ⟨a27,e,f66⟩:=bindS f65;clear f65
              replace H:=H.toEH (α:=List Int)
              have HH:=H;clear H;obtain ⟨p16,m16,h13,c63,c64,c65,c70,H⟩:=HH.peekL e;clear HH
              clear e
              refine idxE c63 c64 c65 ?_
              refine load1 c70 ?_;clear c70
              have x3:=(H.rh (α:=List Int) 0 rfl 0 rfl).max
              refine lenE (H.rh (α:=List Int) 0 rfl 0 rfl).len ?_
              replace H:=H.ofEH
              obtain ⟨r10,e,f67⟩:=bindS f66;clear f66
              refine loopS _ a27.length (fun (k3:Nat) (s9:List (List Int)) (_:Unit)=>[(0,(.int .i64 p_)),(1,(.int .i64 size_)),(7,(g1).v),(10,(.int .i64 s1_1)),(11,(.int .i64 s1_2)),(16,(.int .i64 ((k1:Nat):Int))),(17,(.int .i64 a26)),(113,(.int .i64 ((r6.length:Nat):Int))),(114,(.int .i64 ((k1:Nat):Int))),(141,(.int .i64 ((a27.length:Nat):Int))),(142,(.int .i64 ((k3:Nat):Int)))]) (fun _ (s9:List (List Int)) (_:Unit) w'=>Cx w0 fp0 S0 w' [E (List (List Int)) s9 g1]) s7 () e ⟨rfl,rfl,rfl,rfl,rfl,rfl,rfl,rfl,rfl,rfl,rfl,trivial⟩ (H.sel [0] rfl) ?_ ?_
              ·
               clear H e
               rintro T11 k3 s9 _ w21 o5 hk (H:Cx w0 fp0 S0 w21 [E (List (List Int)) s9 g1]) f68
               refine boolE (z:=true) (ltLen hk) ?_
               refine sq ?_
               refine sq ?_
               refine heldX H [25] (.fst 0 (.fst 1 (.fst 2 (.fst 4 (.fst 5 (.fst 6 (.fst 7 (.fst 8 (.fst 10 (.fst 13 (.fst 14 (.fst 15 (.fst 16 (.fst 17 (.fst 19 (.fst 3 (.fst 9 (.fst 11 (.fst 12 (.fst 18 (.fst 20 (.fst 21 (.act 22 (.act 23 (.fst 24 (.act 25 .done)))))))))))))))))))))))))) mixed [] trivial (by kernel_rfl) ?_
               clear H;intro w22 H
               have hX:Ext w22 w22:=Upd.refl _ _
               have H0:=H
               obtain ⟨a28,e,f69⟩:=bindS f68;clear f68
               replace H:=H.toEH (α:=List Int)
               have HH:=H;clear H;obtain ⟨p17,m17,h14,c71,c72,c73,c74,H⟩:=HH.peekL e;clear HH
               clear e
               refine idxE c71 c72 c73 ?_
               obtain ⟨a29,e,f70⟩:=bindS f69;clear f69
               have HH:=H;clear H;obtain ⟨p18,m18,h15,c75,c76,c77,c78,H⟩:=HH.peekL e;clear HH
               clear e
               refine idxE c75 c76 c77 ?_
               obtain ⟨a30,e,f71⟩:=bindS f70;clear f70
               have HH:=H;clear H;obtain ⟨p19,m19,h16,c79,c80,c81,c82,H⟩:=HH.peekL e;clear HH
               clear e
               refine idxE c79 c80 c81 ?_
               refine load1X c74 ?_;clear c74
               refine load1X c78 ?_;clear c78
               obtain ⟨a31,e,f72⟩:=bindS f71;clear f71
               obtain ⟨p20,m20,c83,c84,c85,c86⟩:=(H.rh (α:=List Int) 0 rfl 1 rfl).at1 e;clear e
               refine idxE c83 c84 c85 ?_;clear c83 c84 c85
               refine load1X c86 ?_;clear c86
               refine load1X c82 ?_;clear c82
               obtain ⟨a32,e,f73⟩:=bindS f72;clear f72
               obtain ⟨p21,m21,c87,c88,c89,c90⟩:=(H.rh (α:=List Int) 0 rfl 0 rfl).at1 e;clear e
               refine idxE c87 c88 c89 ?_;clear c87 c88 c89
               refine load1X c90 ?_;clear c90
               obtain ⟨y3,e,f74⟩:=bindS f73;clear f73
               have ey28628:=e;clear e
               refine callFx (spec_fdMul_c p_ a26 a32 y3 ey28628) H trivial ?_;clear H ey28628
               rintro _ _ w23 ⟨rfl,rfl⟩ hx H
               replace hX:=hX.trans0 hx;clear hx
               refine hold hX ?_
               obtain ⟨y4,e,f75⟩:=bindS f74;clear f74
               have ey28631:=e;clear e
               refine callFx (spec_fdSub_c p_ a31 y3 y4 ey28631) H trivial ?_;clear H ey28631
               rintro _ _ w24 ⟨rfl,rfl⟩ hx H
               replace hX:=hX.trans0 hx;clear hx
               refine hold hX ?_
               replace H:=H.takeK 2 rfl
               obtain ⟨a33,e,f76⟩:=bindS f75;clear f75
               have ea28641:=e;clear e
               obtain ⟨p22,m22,c91,c92,c93⟩:=(H.ro (α:=List Int) 0 rfl).setp ea28641
               refine idxE c91 c92 c93 ?_
               refine setS (α:=Int) H c91 c92 ea28641 ?_;clear H c91 c92 c93 ea28641;intro w25 H
               obtain ⟨a34,e,f77⟩:=bindS f76;clear f76
               replace H:=H.put c72 e;clear e
               refine hold trivial ?_
               refine arK hk x3 ?_
               have hs:=Option.some.inj f77;subst hs;clear f77
               exact ⟨(),⟨rfl,rfl,rfl,rfl,rfl,rfl,rfl,rfl,rfl,rfl,rfl,trivial⟩,H.sel [0] rfl⟩
              ·
               clear H e
               rintro T12 _ w26 (H:Cx w0 fp0 S0 w26 [E (List (List Int)) r10 g1])
               refine boolE (z:=false) geLen ?_
               refine sq ?_
               exact ⟨r10,⟨rfl,rfl,rfl,rfl,rfl,rfl,rfl,trivial⟩,Option.some.inj f67,H.sel [0] rfl⟩
             ·
              have f78:=condT f56;clear f56
              exact ⟨s7,⟨rfl,rfl,rfl,rfl,rfl,rfl,rfl,trivial⟩,Option.some.inj f78,H.sel [0] rfl⟩
           ·
            clear f53 H
            rintro T13 s10 w27 ⟨hr,(H:Cx w0 fp0 S0 w27 [E (List (List Int)) s10 g1])⟩
            subst hr
            refine arK hk x2 ?_
            have hs:=Option.some.inj f54;subst hs;clear f54
            exact ⟨(),⟨rfl,rfl,rfl,rfl,rfl,rfl,rfl,trivial⟩,H.sel [0] rfl⟩
          ·
           clear H e
           rintro T14 _ w28 (H:Cx w0 fp0 S0 w28 [E (List (List Int)) r7 g1])
           refine boolE (z:=false) geLen ?_
           refine sq ?_
           obtain ⟨a35,e,f79⟩:=bindS f51;clear f51
           refine arO e ?_;clear e
           exact ⟨(r7,a35),⟨rfl,rfl,rfl,rfl,rfl,trivial⟩,Option.some.inj f79,H.sel [0] rfl⟩
        ·
         have f80:=condT f34;clear f34
         exact ⟨(s1_0,s1_1),⟨rfl,rfl,rfl,rfl,rfl,trivial⟩,Option.some.inj f80,H.sel [0] rfl⟩
      ·
       clear f17 H
       rintro T15 ⟨s11_0,s11_1⟩ w29 ⟨hr,(H:Cx w0 fp0 S0 w29 [E (List (List Int)) s11_0 g1])⟩
       subst hr
       obtain ⟨a36,e,f81⟩:=bindS f18;clear f18
       refine arO e ?_;clear e
       have hs:=Option.some.inj f81;subst hs;clear f81
       exact ⟨(s11_0,s11_1,a36),(),rfl,⟨rfl,rfl,rfl,rfl,rfl,trivial⟩,H.sel [0] rfl⟩
  ·
   clear f5 H
   rintro T16 ⟨s12_0,s12_1⟩ w30 ⟨hr,(H:Cx w0 fp0 S0 w30 [E (List (List Int)) s12_0 g1])⟩
   subst hr
   obtain ⟨a37,e,f82⟩:=bindS f6;clear f6
   refine slO (α:=List Int) gok rfl rfl H e rfl rfl ?_;clear e H;intro h17 H
   cases f82
   exact ⟨_,_,rfl,⟨h17,rfl,rfl⟩,(H.sel [0] rfl).close ⟨cloE,trivial⟩⟩
theorem spec_spLead_c (v_:List Int) (v_h:Hd) (y:Int) (hF:F_spec_spLead v_ = some y) :
  ConF Tryz.prog 73 #[(v_h).v] [Es (List Int) v_ v_h] [] (fun v Γ'=>v = (.int .i64 y) ∧ Γ' = []):=by
 intro w0 S0 fp0 hI hS
 have H:Cx w0 fp0 S0 w0 [Es (List Int) v_ v_h]:=Cx.start hI hS
 clear hI hS
 refine enterC (args:=[_]) gok Tryz.func73 rfl _ rfl rfl rfl ?_
 obtain ⟨r0,f0,f1⟩:=bindS hF;clear hF
 refine cut (fun (q0:Int)=>[(3,(.int .i64 q0))]) (fun (q0:Int) w'=>q0 = r0 ∧ Cx w0 fp0 S0 w' []) ?_ ?_
 ·
  refine loopW _ (fun (s0:Int) (_:Unit)=>[(0,(v_h).v),(3,(.int .i64 s0))]) (fun (s0:Int) (_:Unit) w'=>Cx w0 fp0 S0 w' [Es (List Int) v_ v_h]) 0 () f0 ⟨rfl,rfl,trivial⟩ (H.sel [0] rfl) ?_
  ·
   clear H
   rintro T0 s0 _ w1 o0 (H:Cx w0 fp0 S0 w1 [Es (List Int) v_ v_h]) hrt f2
   refine sq ?_
   obtain ⟨r1,f3,f4⟩:=bindS f2;clear f2
   refine cut (fun (q1:Bool)=>[(0,(v_h).v),(3,(.int .i64 s0)),(14,(.bool q1))]) (fun (q1:Bool) w'=>q1 = r1 ∧ Cx w0 fp0 S0 w' [Es (List Int) v_ v_h]) ?_ ?_
   ·
    refine lenE (H.rs (α:=List Int) 0 rfl).len ?_
    obtain ⟨a0,e,f5⟩:=bindS f3;clear f3
    refine boolO e ?_;clear e
    cases a0
    ·
     have f6:=condF f5;clear f5
     exact ⟨false,⟨rfl,rfl,rfl,trivial⟩,Option.some.inj f6,H.sel [0] rfl⟩
    ·
     have f7:=condT f5;clear f5
     obtain ⟨a1,e,f8⟩:=bindS f7;clear f7
     obtain ⟨p0,m0,c0,c1,c2,c3⟩:=(H.rs (α:=List Int) 0 rfl).at1 e;clear e
     refine idxE c0 c1 c2 ?_;clear c0 c1 c2
     refine load1 c3 ?_;clear c3
     obtain ⟨a2,e,f9⟩:=bindS f8;clear f8
     refine boolO e ?_;clear e
     exact ⟨a2,⟨rfl,rfl,rfl,trivial⟩,Option.some.inj f9,H.sel [0] rfl⟩
   ·
    clear f3 H
    rintro T1 s1 w2 ⟨hr,(H:Cx w0 fp0 S0 w2 [Es (List Int) v_ v_h])⟩
    subst hr
    cases s1
    ·
     have f10:=condF f4;clear f4
     have hs:=Option.some.inj f10;subst hs;clear f10
     have f11:some _ = some _:=congrArg some (hrt _ rfl).symm
     exact ⟨s0,⟨rfl,trivial⟩,Option.some.inj f11,H.sel [] rfl⟩
    ·
     have f12:=condT f4;clear f4
     obtain ⟨a3,e,f13⟩:=bindS f12;clear f12
     refine arO e ?_;clear e
     have hs:=Option.some.inj f13;subst hs;clear f13
     exact ⟨a3,(),rfl,⟨rfl,rfl,trivial⟩,H.sel [0] rfl⟩
 ·
  clear f0 H
  rintro T2 s2 w3 ⟨hr,(H:Cx w0 fp0 S0 w3 [])⟩
  subst hr
  cases f1
  exact ⟨_,_,rfl,⟨rfl,rfl⟩,(H.sel [] rfl).close trivial⟩
theorem spec_spNull_c (p_:Int) (size_:Int) (rows_:List (List Int)) (rows_h:Hd) (y:List (List Int)) (hF:F_spec_spNull p_ size_ rows_ = some y) :
  ConF Tryz.prog 81 #[(.int .i64 p_),(.int .i64 size_),(rows_h).v] [Es (List (List Int)) rows_ rows_h] [] (fun v Γ'=>∃ z0:Hd,v = (z0).v ∧ Γ' = [E (List (List Int)) y z0]):=by
 intro w0 S0 fp0 hI hS
 have H:Cx w0 fp0 S0 w0 [Es (List (List Int)) rows_ rows_h]:=Cx.start hI hS
 clear hI hS
 refine enterC (args:=[_,_,_]) gok Tryz.func81 rfl _ rfl rfl rfl ?_
 obtain ⟨y2,e,hF3⟩:=bindS hF;clear hF
 have ey2:=e;clear e
 refine callF (spec_spReduce_c p_ size_ rows_ rows_h y2 ey2) (Γi:=[]) H ⟨Vw.sh 0 rfl,trivial⟩ ?_;clear H ey2
 rintro _ _ w4 ⟨h5,rfl,rfl⟩ H
 obtain ⟨a7,e,hF8⟩:=bindS hF3;clear hF3
 refine make_ (α:=Int) gok rfl rfl rfl rfl (makeCO_of e) H ?_;clear e H;intro h0 w9 hx H
 clear hx
 refine sq ?_
 refine lenE (H.ro (α:=List Int) 0 rfl).len ?_
 have x0:=(H.ro (α:=List Int) 0 rfl).max
 obtain ⟨r0,e,f0⟩:=bindS hF8;clear hF8
 refine loopS _ a7.length (fun (k0:Nat) (s0:List Int) (_:Unit)=>[(0,(.int .i64 p_)),(1,(.int .i64 size_)),(7,(h5).v),(8,(h0).v),(24,(.int .i64 ((a7.length:Nat):Int))),(25,(.int .i64 ((k0:Nat):Int)))]) (fun _ (s0:List Int) (_:Unit) w'=>Cx w0 fp0 S0 w' [E (List (List Int)) y2 h5,E (List Int) s0 h0]) a7 () e ⟨rfl,rfl,rfl,rfl,rfl,rfl,trivial⟩ (H.sel [1,0] rfl) ?_ ?_
 ·
  clear H e
  rintro T0 k0 s0 _ w1 o0 hk (H:Cx w0 fp0 S0 w1 [E (List (List Int)) y2 h5,E (List Int) s0 h0]) f1
  refine boolE (z:=true) (ltLen hk) ?_
  refine sq ?_
  refine sq ?_
  obtain ⟨a0,e,f2⟩:=bindS f1;clear f1
  have ea50:=e;clear e
  obtain ⟨p0,m0,c0,c1,c2⟩:=(H.ro (α:=List Int) 1 rfl).setp ea50
  refine idxE c0 c1 c2 ?_
  replace H:=H.sel [1,0] rfl
  refine setS (α:=Int) H c0 c1 ea50 ?_;clear H c0 c1 c2 ea50;intro w2 H
  refine arK hk x0 ?_
  have hs:=Option.some.inj f2;subst hs;clear f2
  exact ⟨(),⟨rfl,rfl,rfl,rfl,rfl,rfl,trivial⟩,H.sel [1,0] rfl⟩
 ·
  clear H e
  rintro T1 _ w3 (H:Cx w0 fp0 S0 w3 [E (List (List Int)) y2 h5,E (List Int) r0 h0])
  refine boolE (z:=false) geLen ?_
  refine sq ?_
  refine sq ?_
  refine lenE (H.ro (α:=List (List Int)) 0 rfl).len ?_
  replace H:=H.frz
  have x1:=(H.rs (α:=List (List Int)) 0 rfl).max
  obtain ⟨r1,e,f3⟩:=bindS f0;clear f0
  refine loopS _ y2.length (fun (k1:Nat) (s1:List Int) (_:Unit)=>[(0,(.int .i64 p_)),(1,(.int .i64 size_)),(7,(h5).v),(8,(h0).v),(32,(h5).v),(33,(.int .i64 ((y2.length:Nat):Int))),(34,(.int .i64 ((k1:Nat):Int)))]) (fun _ (s1:List Int) (_:Unit) w'=>Cx w0 fp0 S0 w' [Es (List (List Int)) y2 h5,E (List Int) s1 h0]) r0 () e ⟨rfl,rfl,rfl,rfl,rfl,rfl,rfl,trivial⟩ (H.sel [0,1] rfl) ?_ ?_
  ·
   clear H e
   rintro T2 k1 s1 _ w5 o1 hk (H:Cx w0 fp0 S0 w5 [Es (List (List Int)) y2 h5,E (List Int) s1 h0]) f4
   refine boolE (z:=true) (ltLen hk) ?_
   refine sq ?_
   refine sq ?_
   obtain ⟨a1,e,f5⟩:=bindS f4;clear f4
   have HH:=H;clear H;obtain ⟨p1,m1,h1,c3,c4,c5,c6,H⟩:=HH.elL 0 rfl e;clear HH
   clear e
   refine idxE c3 c4 c5 ?_;clear c3 c4 c5
   refine load1 c6 ?_;clear c6
   obtain ⟨y0,e,f6⟩:=bindS f5;clear f5
   have ey149:=e;clear e
   refine callF (spec_spLead_c a1 h1 y0 ey149) (Γi:=[]) H ⟨Vw.sh 0 rfl,trivial⟩ ?_;clear H ey149
   rintro _ _ w6 ⟨rfl,rfl⟩ H
   obtain ⟨a2,e,f7⟩:=bindS f6;clear f6
   have ea158:=e;clear e
   obtain ⟨p2,m2,c7,c8,c9⟩:=(H.ro (α:=List Int) 2 rfl).setp ea158
   refine idxE c7 c8 c9 ?_
   replace H:=H.sel [2,0,1] rfl
   refine setS (α:=Int) H c7 c8 ea158 ?_;clear H c7 c8 c9 ea158;intro w7 H
   refine arK hk x1 ?_
   have hs:=Option.some.inj f7;subst hs;clear f7
   exact ⟨(),⟨rfl,rfl,rfl,rfl,rfl,rfl,rfl,trivial⟩,H.sel [2,0] rfl⟩
  ·
   clear H e
   rintro T3 _ w8 (H:Cx w0 fp0 S0 w8 [Es (List (List Int)) y2 h5,E (List Int) r1 h0])
   refine boolE (z:=false) geLen ?_
   refine sq ?_
   obtain ⟨r2,f8,f9⟩:=bindS f3;clear f3
   refine cut (fun (q0:List (List Int) × Hd)=>[(0,(.int .i64 p_)),(1,(.int .i64 size_)),(12,(q0.2).v)]) (fun (q0:List (List Int) × Hd) w'=>q0.1 = r2 ∧ Cx w0 fp0 S0 w' [E (List (List Int)) q0.1 q0.2]) ?_ ?_
   ·
    replace H:=H.nil (α:=List Int)
    refine loopW _ (fun (s2:List (List Int) × Int) (g0:Hd)=>[(0,(.int .i64 p_)),(1,(.int .i64 size_)),(7,(h5).v),(8,(h0).v),(12,(g0).v),(13,(.int .i64 s2.2))]) (fun (s2:List (List Int) × Int) (g0:Hd) w'=>Cx w0 fp0 S0 w' [Es (List (List Int)) y2 h5,E (List Int) r1 h0,E (List (List Int)) s2.1 g0]) ([],0) nilH f8 ⟨rfl,rfl,rfl,rfl,rfl,rfl,trivial⟩ (H.sel [1,2,0] rfl) ?_
    ·
     clear H
     rintro T4 ⟨s2_0,s2_1⟩ g0 w10 o2 (H:Cx w0 fp0 S0 w10 [Es (List (List Int)) y2 h5,E (List Int) r1 h0,E (List (List Int)) s2_0 g0]) hrt f10
     refine sq ?_
     obtain ⟨a3,e,f11⟩:=bindS f10;clear f10
     refine boolO e ?_;clear e
     cases a3
     ·
      have f12:=condF f11;clear f11
      have hs:=Option.some.inj f12;subst hs;clear f12
      have f13:some _ = some _:=congrArg some (hrt _ rfl).symm
      exact ⟨(s2_0,g0),⟨rfl,rfl,rfl,trivial⟩,Option.some.inj f13,H.sel [2] rfl⟩
     ·
      have f14:=condT f11;clear f11
      obtain ⟨r3,f15,f16⟩:=bindS f14;clear f14
      refine cut (fun (q1:List (List Int) × Hd)=>[(0,(.int .i64 p_)),(1,(.int .i64 size_)),(7,(h5).v),(8,(h0).v),(12,(q1.2).v),(13,(.int .i64 s2_1))]) (fun (q1:List (List Int) × Hd) w'=>q1.1 = r3 ∧ Cx w0 fp0 S0 w' [Es (List (List Int)) y2 h5,E (List Int) r1 h0,E (List (List Int)) q1.1 q1.2]) ?_ ?_
      ·
       refine sq ?_
       obtain ⟨a4,e,f17⟩:=bindS f15;clear f15
       obtain ⟨p3,m3,c10,c11,c12,c13⟩:=(H.ro (α:=List Int) 1 rfl).at1 e;clear e
       refine idxE c10 c11 c12 ?_;clear c10 c11 c12
       refine load1 c13 ?_;clear c13
       obtain ⟨a5,e,f18⟩:=bindS f17;clear f17
       refine boolO e ?_;clear e
       cases a5
       ·
        have f19:=condF f18;clear f18
        obtain ⟨a6,e,f20⟩:=bindS f19;clear f19
        refine make_ (α:=Int) gok rfl rfl rfl rfl (makeCO_of e) H ?_;clear e H;intro h2 w11 hx H
        clear hx
        obtain ⟨a8,e,f21⟩:=bindS f20;clear f20
        have ea2346:=e;clear e
        obtain ⟨p4,m4,c14,c15,c16⟩:=(H.ro (α:=List Int) 0 rfl).setp ea2346
        refine idxE c14 c15 c16 ?_
        refine setS (α:=Int) H c14 c15 ea2346 ?_;clear H c14 c15 c16 ea2346;intro w12 H
        refine sq ?_
        refine lenE (H.rs (α:=List (List Int)) 1 rfl).len ?_
        have x2:=(H.rs (α:=List (List Int)) 1 rfl).max
        obtain ⟨r4,e,f22⟩:=bindS f21;clear f21
        refine loopS _ y2.length (fun (k2:Nat) (s3:List Int) (_:Unit)=>[(0,(.int .i64 p_)),(1,(.int .i64 size_)),(7,(h5).v),(8,(h0).v),(12,(g0).v),(13,(.int .i64 s2_1)),(14,(h2).v),(60,(h5).v),(61,(.int .i64 ((y2.length:Nat):Int))),(62,(.int .i64 ((k2:Nat):Int)))]) (fun _ (s3:List Int) (_:Unit) w'=>Cx w0 fp0 S0 w' [Es (List (List Int)) y2 h5,E (List Int) r1 h0,E (List (List Int)) s2_0 g0,E (List Int) s3 h2]) a8 () e ⟨rfl,rfl,rfl,rfl,rfl,rfl,rfl,rfl,rfl,rfl,trivial⟩ (H.sel [1,2,3,0] rfl) ?_ ?_
        ·
         clear H e
         rintro T5 k2 s3 _ w13 o3 hk (H:Cx w0 fp0 S0 w13 [Es (List (List Int)) y2 h5,E (List Int) r1 h0,E (List (List Int)) s2_0 g0,E (List Int) s3 h2]) f23
         refine boolE (z:=true) (ltLen hk) ?_
         refine sq ?_
         refine sq ?_
         obtain ⟨a9,e,f24⟩:=bindS f23;clear f23
         have HH:=H;clear H;obtain ⟨p5,m5,h3,c17,c18,c19,c20,H⟩:=HH.elL 0 rfl e;clear HH
         clear e
         refine idxE c17 c18 c19 ?_;clear c17 c18 c19
         refine load1 c20 ?_;clear c20
         refine heldX H [13] (.fst 0 (.fst 1 (.fst 2 (.fst 3 (.fst 6 (.fst 7 (.fst 8 (.fst 9 (.fst 4 (.fst 10 (.act 5 (.act 11 (.fst 12 (.act 13 .done)))))))))))))) mixed [] trivial (by kernel_rfl) ?_
         clear H;intro w14 H
         have hX:Ext w14 w14:=Upd.refl _ _
         have H0:=H
         obtain ⟨a10,e,f25⟩:=bindS f24;clear f24
         have HH:=H;clear H;obtain ⟨p6,m6,h4,c21,c22,c23,c24,H⟩:=HH.elL 1 rfl e;clear HH
         clear e
         refine idxE c21 c22 c23 ?_;clear c21 c22 c23
         obtain ⟨a11,e,f26⟩:=bindS f25;clear f25
         obtain ⟨p7,m7,c25,c26,c27,c28⟩:=(H.rs (α:=List Int) 1 rfl).at1 e;clear e
         refine idxE c25 c26 c27 ?_;clear c25 c26 c27
         refine load1X c24 ?_;clear c24
         refine load1X c28 ?_;clear c28
         obtain ⟨y1,e,f27⟩:=bindS f26;clear f26
         have ey2480:=e;clear e
         refine callFx (spec_spLead_c a10 h4 y1 ey2480) H ⟨Vw.sh 0 rfl,trivial⟩ ?_;clear H ey2480
         rintro _ _ w15 ⟨rfl,rfl⟩ hx H
         replace hX:=hX.trans0 hx;clear hx
         refine hold hX ?_
         obtain ⟨y3,e,f28⟩:=bindS f27;clear f27
         have ey2483:=e;clear e
         refine callFx (spec_fdNeg_c p_ a11 y3 ey2483) H trivial ?_;clear H ey2483
         rintro _ _ w16 ⟨rfl,rfl⟩ hx H
         replace hX:=hX.trans0 hx;clear hx
         refine hold hX ?_
         obtain ⟨a12,e,f29⟩:=bindS f28;clear f28
         have ea2492:=e;clear e
         obtain ⟨p8,m8,c29,c30,c31⟩:=(H.ro (α:=List Int) 5 rfl).setp ea2492
         refine idxE c29 c30 c31 ?_
         replace H:=H.sel [5,0,1,2,3,4] rfl
         refine setS (α:=Int) H c29 c30 ea2492 ?_;clear H c29 c30 c31 ea2492;intro w17 H
         refine hold trivial ?_
         refine arK hk x2 ?_
         have hs:=Option.some.inj f29;subst hs;clear f29
         exact ⟨(),⟨rfl,rfl,rfl,rfl,rfl,rfl,rfl,rfl,rfl,rfl,trivial⟩,H.sel [3,4,5,0] rfl⟩
        ·
         clear H e
         rintro T6 _ w18 (H:Cx w0 fp0 S0 w18 [Es (List (List Int)) y2 h5,E (List Int) r1 h0,E (List (List Int)) s2_0 g0,E (List Int) r4 h2])
         refine boolE (z:=false) geLen ?_
         refine sq ?_
         replace H:=H.sel [3,0,1,2] rfl
         refine lit1 (α:=List Int) (g:=h2) gok rfl rfl rfl rfl rfl H ?_;clear H;intro h6 w19 hx H
         clear hx
         obtain ⟨a13,e,f30⟩:=bindS f22;clear f22
         replace H:=H.sel [3,0,1,2] rfl
         refine append_ (α:=List Int) gok rfl rfl rfl rfl H e ?_;clear e H;intro h7 w20 H
         exact ⟨(a13,h7),⟨rfl,rfl,rfl,rfl,rfl,rfl,trivial⟩,Option.some.inj f30,H.sel [1,2,0] rfl⟩
       ·
        have f31:=condT f18;clear f18
        exact ⟨(s2_0,g0),⟨rfl,rfl,rfl,rfl,rfl,rfl,trivial⟩,Option.some.inj f31,H.sel [0,1,2] rfl⟩
      ·
       clear f15 H
       rintro T7 ⟨s4,g1⟩ w21 ⟨hr,(H:Cx w0 fp0 S0 w21 [Es (List (List Int)) y2 h5,E (List Int) r1 h0,E (List (List Int)) s4 g1])⟩
       subst hr
       obtain ⟨a14,e,f32⟩:=bindS f16;clear f16
       refine arO e ?_;clear e
       have hs:=Option.some.inj f32;subst hs;clear f32
       exact ⟨(s4,a14),g1,rfl,⟨rfl,rfl,rfl,rfl,rfl,rfl,trivial⟩,H.sel [0,1,2] rfl⟩
   ·
    clear f8 H
    rintro T8 ⟨s5,g2⟩ w22 ⟨hr,(H:Cx w0 fp0 S0 w22 [E (List (List Int)) s5 g2])⟩
    subst hr
    obtain ⟨y4,e,f33⟩:=bindS f9;clear f9
    have ey2514:=e;clear e
    refine callF (spec_spReduce_c p_ size_ s5 g2 y4 ey2514) (Γi:=[]) H ⟨Vw.own 0 rfl,trivial⟩ ?_;clear H ey2514
    rintro _ _ w23 ⟨h8,rfl,rfl⟩ H
    cases f33
    exact ⟨_,_,rfl,⟨h8,rfl,rfl⟩,(H.sel [0] rfl).close ⟨cloE,trivial⟩⟩
theorem spec_dnValues_c (p_:Int) (g__0:Int) (g__1:List (Int × Int × List Int × List Int)) (g__1h:Hd) (g__2:List Int) (g__2h:Hd) (g__3:List Int) (g__3h:Hd) (y:List (List Int)) (hF:F_spec_dnValues p_ (g__0,g__1,g__2,g__3) = some y) :
  ConF Tryz.prog 109 #[(.int .i64 p_),(.agg #[(.int .i64 g__0),(g__1h).v,(g__2h).v,(g__3h).v])] [Es (List (Int × Int × List Int × List Int)) g__1 g__1h,Es (List Int) g__2 g__2h,Es (List Int) g__3 g__3h] [] (fun v Γ'=>∃ z0:Hd,v = (z0).v ∧ Γ' = [E (List (List Int)) y z0]):=by
 intro w0 S0 fp0 hI hS
 have H:Cx w0 fp0 S0 w0 [Es (List (Int × Int × List Int × List Int)) g__1 g__1h,Es (List Int) g__2 g__2h,Es (List Int) g__3 g__3h]:=Cx.start hI hS
 clear hI hS
 refine enterC (args:=[_,_]) gok Tryz.func109 rfl _ rfl rfl rfl ?_
 refine box_ H ?_;clear H;intro b5 w4 hx H
 clear hx
 refine sq ?_
 refine fld gok rfl rfl rfl rfl ?_
 refine load1 (H.bx 0 rfl (j:=1) rfl) ?_
 refine lenE (H.rs (α:=List (Int × Int × List Int × List Int)) 1 rfl).len ?_
 have x0:=(H.rs (α:=List (Int × Int × List Int × List Int)) 1 rfl).max
 obtain ⟨r0,e,f0⟩:=bindS hF;clear hF
 replace H:=H.nil (α:=List Int)
 refine loopS _ g__1.length (fun (k7:Nat) (s0:List (List Int)) (g0:Hd)=>[(0,(.int .i64 p_)),(3,(.pointer (some ⟨b5,0,none⟩))),(5,(g0).v),(9,(g__1h).v),(10,(.int .i64 ((g__1.length:Nat):Int))),(11,(.int .i64 ((k7:Nat):Int)))]) (fun _ (s0:List (List Int)) (g0:Hd) w'=>Cx w0 fp0 S0 w' [Bx b5 [(.int .i64 g__0),(g__1h).v,(g__2h).v,(g__3h).v],Es (List (Int × Int × List Int × List Int)) g__1 g__1h,Es (List Int) g__2 g__2h,Es (List Int) g__3 g__3h,E (List (List Int)) s0 g0]) [] nilH e ⟨rfl,rfl,rfl,rfl,rfl,rfl,trivial⟩ (H.sel [1,2,3,4,0] rfl) ?_ ?_
 ·
  clear H e
  rintro T0 k7 s0 g0 w1 o0 hk (H:Cx w0 fp0 S0 w1 [Bx b5 [(.int .i64 g__0),(g__1h).v,(g__2h).v,(g__3h).v],Es (List (Int × Int × List Int × List Int)) g__1 g__1h,Es (List Int) g__2 g__2h,Es (List Int) g__3 g__3h,E (List (List Int)) s0 g0]) f1
  refine boolE (z:=true) (ltLen hk) ?_
  refine sq ?_
  refine sq ?_
  obtain ⟨a0,e,f2⟩:=bindS f1;clear f1
  have HH:=H;clear H;obtain ⟨p0,m0,g1,c0,c1,c2,c3,H⟩:=HH.el (α:=Int × Int × List Int × List Int) 1 rfl e;clear HH
  clear e
  obtain ⟨a0_0,a0_1,a0_2,a0_3⟩:=a0
  obtain ⟨_,_,h0,h1⟩:=g1
  replace H:=H.part (β:=List Int) a0_2 (h0:Hd) 0 rfl (fun S h=>(And.left (And.right (And.right h))))
  replace H:=H.part (β:=List Int) a0_3 (h1:Hd) 1 rfl (fun S h=>(And.right (And.right (And.right h))))
  replace H:=H.sel [0,1,3,4,5,6,7] rfl
  refine idxE c0 c1 c2 ?_;clear c0 c1 c2
  refine loadN [(.int .i64 a0_0),(.int .i64 a0_1),(h0).v,(h1).v] rfl c3 ?_;clear c3
  refine alloc_ gok rfl H ?_;clear H;intro b0 w2 hx H
  clear hx
  refine stA gok [(.int .i64 a0_0),(.int .i64 a0_1),(h0).v,(h1).v] rfl H rfl rfl rfl ?_;clear H;intro w3 H
  refine fld gok rfl rfl rfl rfl ?_
  refine load1 (H.bx 3 rfl (j:=0) rfl) ?_
  refine loadN [(.int .i64 a0_0),(.int .i64 a0_1),(h0).v,(h1).v] rfl (fun j u hj=>H.bx 0 rfl hj) ?_
  obtain ⟨y0,e,f3⟩:=bindS f2;clear f2
  have ey99:=e;clear e
  refine callF (spec_dnRows_c p_ g__0 a0_0 a0_1 a0_2 h0 a0_3 h1 y0 ey99) (Γi:=[]) H ⟨Vw.sh 2 rfl,Vw.sh 1 rfl,trivial⟩ ?_;clear H ey99
  rintro _ _ w5 ⟨h2,rfl,rfl⟩ H
  obtain ⟨a1,e,f4⟩:=bindS f3;clear f3
  replace H:=H.sel [8,0,1,2,3,4,5,6,7] rfl
  refine append_ (α:=List Int) gok rfl rfl rfl rfl H e ?_;clear e H;intro h3 w6 H
  refine arK hk x0 ?_
  have hs:=Option.some.inj f4;subst hs;clear f4
  exact ⟨h3,⟨rfl,rfl,rfl,rfl,rfl,rfl,trivial⟩,H.sel [4,5,6,7,0] rfl⟩
 ·
  clear H e
  rintro T1 g2 w7 (H:Cx w0 fp0 S0 w7 [Bx b5 [(.int .i64 g__0),(g__1h).v,(g__2h).v,(g__3h).v],Es (List (Int × Int × List Int × List Int)) g__1 g__1h,Es (List Int) g__2 g__2h,Es (List Int) g__3 g__3h,E (List (List Int)) r0 g2])
  refine boolE (z:=false) geLen ?_
  refine sq ?_
  refine fld gok rfl rfl rfl rfl ?_
  refine load1 (H.bx 0 rfl (j:=0) rfl) ?_
  obtain ⟨y1,e,f5⟩:=bindS f0;clear f0
  have ey114:=e;clear e
  refine callF (spec_spNull_c p_ g__0 r0 g2 y1 ey114) (Γi:=[]) H ⟨Vw.own 4 rfl,trivial⟩ ?_;clear H ey114
  rintro _ _ w8 ⟨h4,rfl,rfl⟩ H
  cases f5
  exact ⟨_,_,rfl,⟨h4,rfl,rfl⟩,(H.sel [0] rfl).close ⟨cloE,trivial⟩⟩
theorem spec_hgList_c (l_:List Int) (l_h:Hd) (to_:List Int) (to_h:Hd) (y:List Int) (hF:F_spec_hgList l_ to_ = some y) :
  ConF Tryz.prog 110 #[(l_h).v,(to_h).v] [Es (List Int) l_ l_h,Es (List Int) to_ to_h] [] (fun v Γ'=>∃ z0:Hd,v = (z0).v ∧ Γ' = [E (List Int) y z0]):=by
 intro w0 S0 fp0 hI hS
 have H:Cx w0 fp0 S0 w0 [Es (List Int) l_ l_h,Es (List Int) to_ to_h]:=Cx.start hI hS
 clear hI hS
 refine enterC (args:=[_,_]) gok Tryz.func110 rfl _ rfl rfl rfl ?_
 refine sq ?_
 refine lenE (H.rs (α:=List Int) 0 rfl).len ?_
 have x0:=(H.rs (α:=List Int) 0 rfl).max
 obtain ⟨r0,e,f0⟩:=bindS hF;clear hF
 replace H:=H.nil (α:=Int)
 refine loopS _ l_.length (fun (k3:Nat) (s0:List Int) (g0:Hd)=>[(1,(to_h).v),(5,(g0).v),(8,(l_h).v),(9,(.int .i64 ((l_.length:Nat):Int))),(10,(.int .i64 ((k3:Nat):Int)))]) (fun _ (s0:List Int) (g0:Hd) w'=>Cx w0 fp0 S0 w' [Es (List Int) to_ to_h,E (List Int) s0 g0,Es (List Int) l_ l_h]) [] nilH e ⟨rfl,rfl,rfl,rfl,rfl,trivial⟩ (H.sel [2,0,1] rfl) ?_ ?_
 ·
  clear H e
  rintro T0 k3 s0 g0 w1 o0 hk (H:Cx w0 fp0 S0 w1 [Es (List Int) to_ to_h,E (List Int) s0 g0,Es (List Int) l_ l_h]) f1
  refine boolE (z:=true) (ltLen hk) ?_
  refine sq ?_
  refine sq ?_
  obtain ⟨a0,e,f2⟩:=bindS f1;clear f1
  obtain ⟨p0,m0,c0,c1,c2,c3⟩:=(H.rs (α:=List Int) 2 rfl).at1 e;clear e
  refine idxE c0 c1 c2 ?_;clear c0 c1 c2
  refine load1 c3 ?_;clear c3
  obtain ⟨a1,e,f3⟩:=bindS f2;clear f2
  obtain ⟨p1,m1,c4,c5,c6,c7⟩:=(H.rs (α:=List Int) 0 rfl).at1 e;clear e
  refine idxE c4 c5 c6 ?_;clear c4 c5 c6
  refine load1 c7 ?_;clear c7
  refine lit1S (α:=Int) gok rfl rfl rfl rfl H ?_;clear H;intro h0 w2 hx H
  clear hx
  obtain ⟨a2,e,f4⟩:=bindS f3;clear f3
  replace H:=H.sel [2,0,1,3] rfl
  refine append_ (α:=Int) gok rfl rfl rfl rfl H e ?_;clear e H;intro h1 w3 H
  refine arK hk x0 ?_
  have hs:=Option.some.inj f4;subst hs;clear f4
  exact ⟨h1,⟨rfl,rfl,rfl,rfl,rfl,trivial⟩,H.sel [1,0,2] rfl⟩
 ·
  clear H e
  rintro T1 g1 w4 (H:Cx w0 fp0 S0 w4 [Es (List Int) to_ to_h,E (List Int) r0 g1,Es (List Int) l_ l_h])
  refine boolE (z:=false) geLen ?_
  refine sq ?_
  cases f0
  exact ⟨_,_,rfl,⟨g1,rfl,rfl⟩,(H.sel [1] rfl).close ⟨cloE,trivial⟩⟩
theorem spec_rlOf_c (p_:Int) (left_:Int) (right_:Int) (rows_:List (List Int)) (rows_h:Hd) (y_0:Int) (y_1:Int) (y_2:List (List Int)) (hF:F_spec_rlOf p_ left_ right_ rows_ = some (y_0,y_1,y_2)) :
  ConF Tryz.prog 82 #[(.int .i64 p_),(.int .i64 left_),(.int .i64 right_),(rows_h).v] [Es (List (List Int)) rows_ rows_h] [] (fun v Γ'=>∃ z0:Hd,v = (.agg #[(.int .i64 y_0),(.int .i64 y_1),(z0).v]) ∧ Γ' = [E (List (List Int)) y_2 z0]):=by
 intro w0 S0 fp0 hI hS
 have H:Cx w0 fp0 S0 w0 [Es (List (List Int)) rows_ rows_h]:=Cx.start hI hS
 clear hI hS
 refine enterC (args:=[_,_,_,_]) gok Tryz.func82 rfl _ rfl rfl rfl ?_
 refine alloc_ gok rfl H ?_;clear H;intro b3 w2 hx H
 clear hx
 obtain ⟨a5,e,hF6⟩:=bindS hF;clear hF
 refine arO e ?_;clear e
 obtain ⟨y7,e,hF8⟩:=bindS hF6;clear hF6
 have ey7:=e;clear e
 refine callF (spec_spReduce_c p_ a5 rows_ rows_h y7 ey7) (Γi:=[]) H ⟨Vw.sh 1 rfl,trivial⟩ ?_;clear H ey7
 rintro _ _ w9 ⟨h0,rfl,rfl⟩ H
 refine build_ (cs:=#[(.int .i64 left_),(.int .i64 right_),(h0).v]) gok rfl rfl rfl ?_
 replace H:=H.sel [1,0,2] rfl
 refine stA gok [(.int .i64 left_),(.int .i64 right_),(h0).v] rfl H rfl rfl rfl ?_;clear H;intro w1 H
 refine loadN [(.int .i64 left_),(.int .i64 right_),(h0).v] rfl (fun j u hj=>H.bx 0 rfl hj) ?_
 cases hF8
 exact ⟨_,_,rfl,⟨h0,rfl,rfl⟩,(H.sel [1] rfl).close ⟨cloE,trivial⟩⟩
theorem spec_dnGraph_c (p_:Int) (g__0:Int) (g__1:List (Int × Int × List Int × List Int)) (g__1h:Hd) (g__2:List Int) (g__2h:Hd) (g__3:List Int) (g__3h:Hd) (y0_0:Int) (y0_1:Int) (y0_2:List (List Int)) (y1:Bool) (hF:F_spec_dnGraph p_ (g__0,g__1,g__2,g__3) = some ((y0_0,y0_1,y0_2),y1)) :
  ConF Tryz.prog 78 #[(.int .i64 p_),(.agg #[(.int .i64 g__0),(g__1h).v,(g__2h).v,(g__3h).v])] [Es (List (Int × Int × List Int × List Int)) g__1 g__1h,Es (List Int) g__2 g__2h,Es (List Int) g__3 g__3h] [] (fun v Γ'=>∃ z0:Hd,v = (.tuple #[(.agg #[(.int .i64 y0_0),(.int .i64 y0_1),(z0).v]),(.bool y1)]) ∧ Γ' = [E (List (List Int)) y0_2 z0]):=by
 intro w0 S0 fp0 hI hS
 have H:Cx w0 fp0 S0 w0 [Es (List (Int × Int × List Int × List Int)) g__1 g__1h,Es (List Int) g__2 g__2h,Es (List Int) g__3 g__3h]:=Cx.start hI hS
 clear hI hS
 refine enterC (args:=[_,_]) gok Tryz.func78 rfl _ rfl rfl rfl ?_
 refine box_ H ?_;clear H;intro b5 w4 hx H
 clear hx
 refine alloc_ gok rfl H ?_;clear H;intro b8 w7 hx H
 clear hx
 refine sq ?_
 refine loadN [(.int .i64 g__0),(g__1h).v,(g__2h).v,(g__3h).v] rfl (fun j u hj=>H.bx 1 rfl hj) ?_
 obtain ⟨y0,e,f0⟩:=bindS hF;clear hF
 have ey10:=e;clear e
 refine callF (spec_dnAsked_c p_ g__0 g__1 g__1h g__2 g__2h g__3 g__3h y0 ey10) (Γi:=[]) H ⟨Vw.sh 2 rfl,Vw.sh 3 rfl,Vw.sh 4 rfl,trivial⟩ ?_;clear H ey10
 rintro _ _ w1 ⟨rfl,rfl⟩ H
 obtain ⟨a0,e,f1⟩:=bindS f0;clear f0
 refine boolO e ?_;clear e
 cases a0
 ·
  have f2:=condF f1;clear f1
  refine heldX H [5,6] (.fst 0 (.fst 3 (.fst 1 (.fst 4 (.act 2 (.act 5 (.act 6 .done))))))) mixed [] trivial (by kernel_rfl) ?_
  clear H;intro w2 H
  have hX:Ext w2 w2:=Upd.refl _ _
  have H0:=H
  refine anyH (fun _=>fld gok rfl rfl rfl rfl ⟨rfl,rfl⟩) ?_
  refine anyH (fun _=>fld gok rfl rfl rfl rfl ⟨rfl,rfl⟩) ?_
  refine load1X (H.bx 1 rfl (j:=2) rfl) ?_
  refine load1X (H.bx 1 rfl (j:=3) rfl) ?_
  obtain ⟨y2,e,f3⟩:=bindS f2;clear f2
  have ey17:=e;clear e
  refine callFx (spec_l1Own_c g__2 g__2h y2 ey17) H ⟨Vw.sh 3 rfl,trivial⟩ ?_;clear H ey17
  rintro _ _ w3 ⟨h0,rfl,rfl⟩ hx H
  replace hX:=hX.trans0 hx;clear hx
  refine hold hX ?_
  obtain ⟨a1,e,f4⟩:=bindS f3;clear f3
  refine appendS (α:=Int) gok rfl rfl rfl rfl H (Vw.sh 4 rfl) e ?_;clear e H;intro h1 w5 H
  refine hold trivial ?_
  refine hold trivial ?_
  refine sq ?_
  refine loadN [(.int .i64 g__0),(g__1h).v,(g__2h).v,(g__3h).v] rfl (fun j u hj=>H.bx 2 rfl hj) ?_
  obtain ⟨y3,e,f5⟩:=bindS f4;clear f4
  have ey27:=e;clear e
  refine callF (spec_dnValues_c p_ g__0 g__1 g__1h g__2 g__2h g__3 g__3h y3 ey27) (Γi:=[]) H ⟨Vw.sh 3 rfl,Vw.sh 4 rfl,Vw.sh 5 rfl,trivial⟩ ?_;clear H ey27
  rintro _ _ w6 ⟨h2,rfl,rfl⟩ H
  refine lenE (H.ro (α:=List (List Int)) 0 rfl).len ?_
  replace H:=H.frz
  have x0:=(H.rs (α:=List (List Int)) 0 rfl).max
  obtain ⟨r0,e,f6⟩:=bindS f5;clear f5
  replace H:=H.nil (α:=List Int)
  refine loopS _ y3.length (fun (k0:Nat) (s0:List (List Int)) (g0:Hd)=>[(0,(.int .i64 p_)),(3,(.pointer (some ⟨b5,0,none⟩))),(4,(.pointer (some ⟨b8,0,none⟩))),(6,(h1).v),(7,(g0).v),(23,(h2).v),(24,(.int .i64 ((y3.length:Nat):Int))),(25,(.int .i64 ((k0:Nat):Int)))]) (fun _ (s0:List (List Int)) (g0:Hd) w'=>Cx w0 fp0 S0 w' [Bx b5 [(.int .i64 g__0),(g__1h).v,(g__2h).v,(g__3h).v],Es (List (Int × Int × List Int × List Int)) g__1 g__1h,Es (List Int) g__2 g__2h,Es (List Int) g__3 g__3h,Bx b8 [(.int .i64 0),(.int .i64 0),(.slice none 0 0)],E (List Int) a1 h1,E (List (List Int)) s0 g0,Es (List (List Int)) y3 h2]) [] nilH e ⟨rfl,rfl,rfl,rfl,rfl,rfl,rfl,rfl,trivial⟩ (H.sel [4,5,6,7,3,2,0,1] rfl) ?_ ?_
  ·
   clear H e
   rintro T0 k0 s0 g0 w8 o0 hk (H:Cx w0 fp0 S0 w8 [Bx b5 [(.int .i64 g__0),(g__1h).v,(g__2h).v,(g__3h).v],Es (List (Int × Int × List Int × List Int)) g__1 g__1h,Es (List Int) g__2 g__2h,Es (List Int) g__3 g__3h,Bx b8 [(.int .i64 0),(.int .i64 0),(.slice none 0 0)],E (List Int) a1 h1,E (List (List Int)) s0 g0,Es (List (List Int)) y3 h2]) f7
   refine boolE (z:=true) (ltLen hk) ?_
   refine sq ?_
   refine sq ?_
   obtain ⟨a2,e,f8⟩:=bindS f7;clear f7
   have HH:=H;clear H;obtain ⟨p0,m0,h3,c0,c1,c2,c3,H⟩:=HH.elL 7 rfl e;clear HH
   clear e
   refine idxE c0 c1 c2 ?_;clear c0 c1 c2
   refine load1 c3 ?_;clear c3
   obtain ⟨y4,e,f9⟩:=bindS f8;clear f8
   have ey132:=e;clear e
   refine callF (spec_hgList_c a1 h1 a2 h3 y4 ey132) (Γi:=[]) H ⟨Vw.own 6 rfl,Vw.sh 0 rfl,trivial⟩ ?_;clear H ey132
   rintro _ _ w9 ⟨h4,rfl,rfl⟩ H
   refine lit1 (α:=List Int) (g:=h4) gok rfl rfl rfl rfl rfl H ?_;clear H;intro h5 w10 hx H
   clear hx
   obtain ⟨a3,e,f10⟩:=bindS f9;clear f9
   replace H:=H.sel [8,0,1,2,3,4,5,6,7,9] rfl
   refine append_ (α:=List Int) gok rfl rfl rfl rfl H e ?_;clear e H;intro h6 w11 H
   refine arK hk x0 ?_
   have hs:=Option.some.inj f10;subst hs;clear f10
   exact ⟨h6,⟨rfl,rfl,rfl,rfl,rfl,rfl,rfl,rfl,trivial⟩,H.sel [2,3,4,5,6,7,0,8] rfl⟩
  ·
   clear H e
   rintro T1 g1 w13 (H:Cx w0 fp0 S0 w13 [Bx b5 [(.int .i64 g__0),(g__1h).v,(g__2h).v,(g__3h).v],Es (List (Int × Int × List Int × List Int)) g__1 g__1h,Es (List Int) g__2 g__2h,Es (List Int) g__3 g__3h,Bx b8 [(.int .i64 0),(.int .i64 0),(.slice none 0 0)],E (List Int) a1 h1,E (List (List Int)) r0 g1,Es (List (List Int)) y3 h2])
   refine boolE (z:=false) geLen ?_
   refine sq ?_
   refine fld gok rfl rfl rfl rfl ?_
   refine load1 (H.bx 0 rfl (j:=2) rfl) ?_
   refine lenE (H.rs (α:=List Int) 2 rfl).len ?_
   refine fld gok rfl rfl rfl rfl ?_
   refine load1 (H.bx 0 rfl (j:=3) rfl) ?_
   refine lenE (H.rs (α:=List Int) 3 rfl).len ?_
   obtain ⟨y5,e,f11⟩:=bindS f6;clear f6
   obtain ⟨y5_0,y5_1,y5_2⟩:=y5
   have ey150:=e;clear e
   refine callF (spec_rlOf_c p_ ((g__2.length:Nat):Int) ((g__3.length:Nat):Int) r0 g1 y5_0 y5_1 y5_2 ey150) (Γi:=[]) H ⟨Vw.own 6 rfl,trivial⟩ ?_;clear H ey150
   rintro _ _ w14 ⟨h7,rfl,rfl⟩ H
   replace H:=H.sel [5,0,1,2,3,4,6,7,8] rfl
   refine stA gok [(.int .i64 y5_0),(.int .i64 y5_1),(h7).v] rfl H rfl rfl rfl ?_;clear H;intro w15 H
   refine loadN [(.int .i64 y5_0),(.int .i64 y5_1),(h7).v] rfl (fun j u hj=>H.bx 0 rfl hj) ?_
   cases f11
   exact ⟨_,_,rfl,⟨h7,rfl,rfl⟩,(H.sel [1] rfl).close ⟨cloE,trivial⟩⟩
 ·
  have f12:=condT f1;clear f1
  refine build_ (cs:=#[(.int .i64 0),(.int .i64 0),(.slice none 0 0)]) gok rfl rfl rfl ?_
  refine stA gok [(.int .i64 0),(.int .i64 0),(.slice none 0 0)] rfl H rfl rfl rfl ?_;clear H;intro w17 H
  refine loadN [(.int .i64 0),(.int .i64 0),(.slice none 0 0)] rfl (fun j u hj=>H.bx 0 rfl hj) ?_
  replace H:=H.nil (α:=List Int)
  cases f12
  exact ⟨_,_,rfl,⟨nilH,rfl,rfl⟩,(H.sel [0] rfl).close ⟨cloE,trivial⟩⟩
theorem spec_dnLeaf_c (p_:Int) (n__0:Int) (n__1:Int) (n__2:ByteArray) (y_0:Int) (y_1:Int) (y_2:List (List Int)) (hF:F_spec_dnLeaf p_ (n__0,n__1,n__2) = some (y_0,y_1,y_2)) :
  ConF Tryz.prog 64 #[(.int .i64 p_),(.agg #[(.int .i64 n__0),(.int .i64 n__1),(.string n__2)])] [] [] (fun v Γ'=>∃ z0:Hd,v = (.agg #[(.int .i64 y_0),(.int .i64 y_1),(z0).v]) ∧ Γ' = [E (List (List Int)) y_2 z0]):=by
 intro w0 S0 fp0 hI hS
 have H:Cx w0 fp0 S0 w0 []:=Cx.start hI hS
 clear hI hS
 refine enterC (args:=[_,_]) gok Tryz.func64 rfl _ rfl rfl rfl ?_
 refine box_ H ?_;clear H;intro b2 w1 hx H
 clear hx
 refine alloc_ gok rfl H ?_;clear H;intro b5 w4 hx H
 clear hx
 refine loadN [(.int .i64 n__0),(.int .i64 n__1),(.string n__2)] rfl (fun j u hj=>H.bx 1 rfl hj) ?_
 obtain ⟨y7,e,hF8⟩:=bindS hF;clear hF
 obtain ⟨y7_0,y7_1,y7_2,y7_3⟩:=y7
 have ey7:=e;clear e
 refine callF (spec_hgLeaf_c n__0 n__1 n__2 y7_0 y7_1 y7_2 y7_3 ey7) (Γi:=[]) H trivial ?_;clear H ey7
 rintro _ _ w9 ⟨h0,h1,h2,rfl,rfl⟩ H
 obtain ⟨y0,e,f0⟩:=bindS hF8;clear hF8
 obtain ⟨⟨y0_0_0,y0_0_1,y0_0_2⟩,y0_1⟩:=y0
 have ey16:=e;clear e
 refine callF (spec_dnGraph_c p_ y7_0 y7_1 h0 y7_2 h1 y7_3 h2 y0_0_0 y0_0_1 y0_0_2 y0_1 ey16) (Γi:=[]) H ⟨Vw.own 0 rfl,Vw.own 1 rfl,Vw.own 2 rfl,trivial⟩ ?_;clear H ey16
 rintro _ _ w2 ⟨h3,rfl,rfl⟩ H
 refine alloc_ gok rfl H ?_;clear H;intro b0 w3 hx H
 clear hx
 refine stA gok [(.int .i64 y0_0_0),(.int .i64 y0_0_1),(h3).v] rfl H rfl rfl rfl ?_;clear H;intro w5 H
 refine loadN [(.int .i64 y0_0_0),(.int .i64 y0_0_1),(h3).v] rfl (fun j u hj=>H.bx 0 rfl hj) ?_
 replace H:=H.sel [5,0,1,2,3,4,6] rfl
 refine stA gok [(.int .i64 y0_0_0),(.int .i64 y0_0_1),(h3).v] rfl H rfl rfl rfl ?_;clear H;intro w6 H
 refine loadN [(.int .i64 y0_0_0),(.int .i64 y0_0_1),(h3).v] rfl (fun j u hj=>H.bx 0 rfl hj) ?_
 cases f0
 exact ⟨_,_,rfl,⟨h3,rfl,rfl⟩,(H.sel [2] rfl).close ⟨cloE,trivial⟩⟩
theorem spec_spSum_c (p_:Int) (size_:Int) (rows_:List (List Int)) (rows_h:Hd) (coefs_:List Int) (coefs_h:Hd) (y:List Int) (hF:F_spec_spSum p_ size_ rows_ coefs_ = some y) :
  ConF Tryz.prog 55 #[(.int .i64 p_),(.int .i64 size_),(rows_h).v,(coefs_h).v] [Es (List (List Int)) rows_ rows_h,Es (List Int) coefs_ coefs_h] [] (fun v Γ'=>∃ z0:Hd,v = (z0).v ∧ Γ' = [E (List Int) y z0]):=by
 intro w0 S0 fp0 hI hS
 have H:Cx w0 fp0 S0 w0 [Es (List (List Int)) rows_ rows_h,Es (List Int) coefs_ coefs_h]:=Cx.start hI hS
 clear hI hS
 refine enterC (args:=[_,_,_,_]) gok Tryz.func55 rfl _ rfl rfl rfl ?_
 obtain ⟨a3,e,hF4⟩:=bindS hF;clear hF
 refine make_ (α:=Int) gok rfl rfl rfl rfl (makeCO_of e) H ?_;clear e H;intro h6 w5 hx H
 clear hx
 refine sq ?_
 refine lenE (H.rs (α:=List (List Int)) 1 rfl).len ?_
 have x0:=(H.rs (α:=List (List Int)) 1 rfl).max
 obtain ⟨r0,e,f0⟩:=bindS hF4;clear hF4
 refine loopS _ rows_.length (fun (k8:Nat) (s0:List Int) (_:Unit)=>[(0,(.int .i64 p_)),(3,(coefs_h).v),(9,(h6).v),(16,(rows_h).v),(17,(.int .i64 ((rows_.length:Nat):Int))),(18,(.int .i64 ((k8:Nat):Int)))]) (fun _ (s0:List Int) (_:Unit) w'=>Cx w0 fp0 S0 w' [Es (List Int) coefs_ coefs_h,E (List Int) s0 h6,Es (List (List Int)) rows_ rows_h]) a3 () e ⟨rfl,rfl,rfl,rfl,rfl,rfl,trivial⟩ (H.sel [2,0,1] rfl) ?_ ?_
 ·
  clear H e
  rintro T0 k8 s0 _ w1 o0 hk (H:Cx w0 fp0 S0 w1 [Es (List Int) coefs_ coefs_h,E (List Int) s0 h6,Es (List (List Int)) rows_ rows_h]) f1
  refine boolE (z:=true) (ltLen hk) ?_
  refine sq ?_
  refine sq ?_
  obtain ⟨a0,e,f2⟩:=bindS f1;clear f1
  have HH:=H;clear H;obtain ⟨p0,m0,h0,c0,c1,c2,c3,H⟩:=HH.elL 2 rfl e;clear HH
  clear e
  refine idxE c0 c1 c2 ?_;clear c0 c1 c2
  refine load1 c3 ?_;clear c3
  refine lenE (H.rs (α:=List Int) 0 rfl).len ?_
  have x1:=(H.rs (α:=List Int) 0 rfl).max
  obtain ⟨r1,e,f3⟩:=bindS f2;clear f2
  refine loopS _ a0.length (fun (k0:Nat) (s1:List Int) (_:Unit)=>[(0,(.int .i64 p_)),(3,(coefs_h).v),(9,(h6).v),(10,(.int .i64 ((k8:Nat):Int))),(16,(rows_h).v),(17,(.int .i64 ((rows_.length:Nat):Int))),(18,(.int .i64 ((k8:Nat):Int))),(23,(h0).v),(24,(.int .i64 ((a0.length:Nat):Int))),(25,(.int .i64 ((k0:Nat):Int)))]) (fun _ (s1:List Int) (_:Unit) w'=>Cx w0 fp0 S0 w' [Es (List Int) coefs_ coefs_h,E (List Int) s1 h6,Es (List (List Int)) rows_ rows_h,Es (List Int) a0 h0]) s0 () e ⟨rfl,rfl,rfl,rfl,rfl,rfl,rfl,rfl,rfl,rfl,trivial⟩ (H.sel [1,2,3,0] rfl) ?_ ?_
  ·
   clear H e
   rintro T1 k0 s1 _ w2 o1 hk (H:Cx w0 fp0 S0 w2 [Es (List Int) coefs_ coefs_h,E (List Int) s1 h6,Es (List (List Int)) rows_ rows_h,Es (List Int) a0 h0]) f4
   refine boolE (z:=true) (ltLen hk) ?_
   refine sq ?_
   refine sq ?_
   obtain ⟨a1,e,f5⟩:=bindS f4;clear f4
   obtain ⟨p1,m1,c4,c5,c6,c7⟩:=(H.rs (α:=List Int) 3 rfl).at1 e;clear e
   refine idxE c4 c5 c6 ?_;clear c4 c5 c6
   refine load1 c7 ?_;clear c7
   refine heldX H [16] (.fst 0 (.fst 1 (.fst 2 (.fst 3 (.fst 4 (.fst 6 (.fst 7 (.fst 8 (.fst 10 (.fst 13 (.fst 5 (.fst 9 (.fst 11 (.fst 12 (.fst 14 (.fst 15 (.act 16 .done))))))))))))))))) mixed [] trivial (by kernel_rfl) ?_
   clear H;intro w3 H
   have hX:Ext w3 w3:=Upd.refl _ _
   have H0:=H
   obtain ⟨a2,e,f6⟩:=bindS f5;clear f5
   obtain ⟨p2,m2,c8,c9,c10,c11⟩:=(H.ro (α:=List Int) 1 rfl).at1 e;clear e
   refine idxE c8 c9 c10 ?_;clear c8 c9 c10
   obtain ⟨a4,e,f7⟩:=bindS f6;clear f6
   obtain ⟨p3,m3,c12,c13,c14,c15⟩:=(H.rs (α:=List Int) 0 rfl).at1 e;clear e
   refine idxE c12 c13 c14 ?_;clear c12 c13 c14
   refine load1X c11 ?_;clear c11
   refine load1X c15 ?_;clear c15
   obtain ⟨a5,e,f8⟩:=bindS f7;clear f7
   refine arO e ?_;clear e
   obtain ⟨a6,e,f9⟩:=bindS f8;clear f8
   refine arO e ?_;clear e
   obtain ⟨a7,e,f10⟩:=bindS f9;clear f9
   refine remO_ e ?_;clear e
   obtain ⟨a8,e,f11⟩:=bindS f10;clear f10
   have ea459:=e;clear e
   obtain ⟨p4,m4,c16,c17,c18⟩:=(H.ro (α:=List Int) 1 rfl).setp ea459
   refine idxE c16 c17 c18 ?_
   replace H:=H.sel [1,0,2,3] rfl
   refine setS (α:=Int) H c16 c17 ea459 ?_;clear H c16 c17 c18 ea459;intro w4 H
   refine hold trivial ?_
   refine arK hk x1 ?_
   have hs:=Option.some.inj f11;subst hs;clear f11
   exact ⟨(),⟨rfl,rfl,rfl,rfl,rfl,rfl,rfl,rfl,rfl,rfl,trivial⟩,H.sel [1,0,2,3] rfl⟩
  ·
   clear H e
   rintro T2 _ w6 (H:Cx w0 fp0 S0 w6 [Es (List Int) coefs_ coefs_h,E (List Int) r1 h6,Es (List (List Int)) rows_ rows_h,Es (List Int) a0 h0])
   refine boolE (z:=false) geLen ?_
   refine sq ?_
   refine arK hk x0 ?_
   have hs:=Option.some.inj f3;subst hs;clear f3
   exact ⟨(),⟨rfl,rfl,rfl,rfl,rfl,rfl,trivial⟩,H.sel [0,1,2] rfl⟩
 ·
  clear H e
  rintro T3 _ w7 (H:Cx w0 fp0 S0 w7 [Es (List Int) coefs_ coefs_h,E (List Int) r0 h6,Es (List (List Int)) rows_ rows_h])
  refine boolE (z:=false) geLen ?_
  refine sq ?_
  cases f0
  exact ⟨_,_,rfl,⟨h6,rfl,rfl⟩,(H.sel [1] rfl).close ⟨cloE,trivial⟩⟩
end Go.Proofs.YtlggnmkelgplnaaGreatDoor
