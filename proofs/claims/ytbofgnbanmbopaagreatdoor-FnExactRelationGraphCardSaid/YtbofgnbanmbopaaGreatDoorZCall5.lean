/-
 Contracts, printed by a program (wip/y/gen.py): each function of Go computes its partial function. Condition of each: its partial function yields a value.
-/
import Derived.Test.YtbofgnbanmbopaaGreatDoorZCall4
namespace Go.Proofs.YtbofgnbanmbopaaGreatDoor
open Go Go.Proofs.YtbofgnbanmbopaaGreatDoor.RW
set_option maxRecDepth 100000
set_option maxHeartbeats 1000000
set_option linter.unusedVariables false
theorem A6_ (aP_:Int) (aR__0:Int) (aR__1:Int) (aR__2:List (List Int)) (aR__2h:Hd) (y:Bool) (hF:iV aP_ (aR__0,aR__1,aR__2)=some y) :
  nA Tryz.prog 3 #[(.int .i64 aP_),(.agg #[(.int .i64 aR__0),(.int .i64 aR__1),(aR__2h).v])] [Es (List (List Int)) aR__2 aR__2h,Gl 0 [.int .i64 2,.int .i64 3,.int .i64 5,.int .i64 7]] [] (fun v Γ'=>v=(.bool y)∧Γ'=[]):=by
 intro w0 S0 fp0 hI hS
 have H:Cx w0 fp0 S0 w0 [Es (List (List Int)) aR__2 aR__2h,Gl 0 [.int .i64 2,.int .i64 3,.int .i64 5,.int .i64 7]]:=Cx.start hI hS
 clear hI hS
 refine lA (args:=[_,_]) gok Tryz.func3 rfl _ rfl rfl rfl ?_
 refine jB H ?_;clear H;intro b4 w3 hx H
 clear hx
 refine vA [(.int .i64 aR__0),(.int .i64 aR__1),(aR__2h).v] rfl (fun j u hj=>H.bx 0 rfl hj) ?_
 obtain ⟨y6,e,hF7⟩:=aA hF;clear hF
 have ey6:=e;clear e
 refine iA (BH_ aR__0 aR__1 aR__2 aR__2h 1048576 y6 ey6) (Γi:=[]) H ⟨Vw.sh 1 rfl,trivial⟩ ?_;clear H ey6
 rintro _ _ w8 ⟨rfl,rfl⟩ H
 refine sq ?_
 obtain ⟨a9,e,f0⟩:=aA hF7;clear hF7
 refine gA e ?_;clear e
 cases a9
 ·
  have f1:=fA f0;clear f0
  refine vA [(.int .i64 aR__0),(.int .i64 aR__1),(aR__2h).v] rfl (fun j u hj=>H.bx 0 rfl hj) ?_
  obtain ⟨y0,e,f2⟩:=aA f1;clear f1
  obtain ⟨y0_0,y0_1,y0_2⟩:=y0
  have i0:=e;clear e
  refine iA (bN aR__0 aR__1 aR__2 aR__2h y0_0 y0_1 y0_2 i0) (Γi:=[]) H ⟨Vw.sh 1 rfl,trivial⟩ ?_;clear H i0
  rintro _ _ w1 ⟨h0,rfl,rfl⟩ H
  obtain ⟨y1,e,f3⟩:=aA f2;clear f2
  obtain ⟨⟨y1_0_0,y1_0_1,y1_0_2,y1_0_3⟩,y1_1⟩:=y1
  have i1:=e;clear e
  replace H:=H.frz
  refine aB (Bl_ aP_ y0_0 y0_1 y0_2 h0 y1_0_0 y1_0_1 y1_0_2 y1_0_3 y1_1 i1) (Γi:=[]) H [0] rfl (wA qA zA) ?_;clear H i1
  rintro _ _ w2 ⟨h1,h2,h3,rfl,rfl⟩ H
  refine sB gok rfl H ?_;clear H;intro b0 w4 hx H
  clear hx
  refine stA gok [(.int .i64 y1_0_0),(h1).v,(h2).v,(h3).v] rfl H rfl rfl rfl ?_;clear H;intro w5 H
  refine vA [(.int .i64 aR__0),(.int .i64 aR__1),(aR__2h).v] rfl (fun j u hj=>H.bx 5 rfl hj) ?_
  obtain ⟨y2,e,f4⟩:=aA f3;clear f3
  obtain ⟨y2_0,y2_1,y2_2⟩:=y2
  have i2:=e;clear e
  refine iA (bN aR__0 aR__1 aR__2 aR__2h y2_0 y2_1 y2_2 i2) (Γi:=[]) H ⟨Vw.sh 6 rfl,trivial⟩ ?_;clear H i2
  rintro _ _ w6 ⟨h4,rfl,rfl⟩ H
  refine sB gok rfl H ?_;clear H;intro b1 w7 hx H
  clear hx
  refine stA gok [(.int .i64 y2_0),(.int .i64 y2_1),(h4).v] rfl H rfl rfl rfl ?_;clear H;intro w9 H
  refine vA [(.int .i64 y2_0),(.int .i64 y2_1),(h4).v] rfl (fun j u hj=>H.bx 0 rfl hj) ?_
  obtain ⟨y3,e,f5⟩:=aA f4;clear f4
  obtain ⟨⟨y3_0_0,y3_0_1,y3_0_2,y3_0_3⟩,y3_1⟩:=y3
  have i3:=e;clear e
  refine iA (lV aP_ y2_0 y2_1 y2_2 h4 y3_0_0 y3_0_1 y3_0_2 y3_0_3 y3_1 i3) (Γi:=[]) H ⟨Vw.own 1 rfl,Vw.gl 9 rfl,trivial⟩ ?_;clear H i3
  rintro _ _ w10 ⟨h5,h6,h7,rfl,rfl⟩ H
  refine sB gok rfl H ?_;clear H;intro b2 w11 hx H
  clear hx
  refine stA gok [(.int .i64 y3_0_0),(h5).v,(h6).v,(h7).v] rfl H rfl rfl rfl ?_;clear H;intro w12 H
  refine sq ?_
  obtain ⟨r0,f6,f7⟩:=aA f5;clear f5
  refine cut (fun (q0:Bool)=>[(0,(.int .i64 aP_)),(3,(.pointer (some ⟨b4,0,none⟩))),(6,(.pointer (some ⟨b0,0,none⟩))),(7,(.bool y1_1)),(8,(.pointer (some ⟨b1,0,none⟩))),(9,(.pointer (some ⟨b2,0,none⟩))),(10,(.bool y3_1)),(44,(.bool q0))]) (fun (q0:Bool) w'=>q0=r0∧Cx w0 fp0 S0 w' [Bx b4 [(.int .i64 aR__0),(.int .i64 aR__1),(aR__2h).v],Es (List (List Int)) aR__2 aR__2h,Bx b0 [(.int .i64 y1_0_0),(h1).v,(h2).v,(h3).v],Es (List (Int×Int×List Int×List Int)) y1_0_1 h1,Es (List Int) y1_0_2 h2,Es (List Int) y1_0_3 h3,Bx b1 [(.int .i64 y2_0),(.int .i64 y2_1),(h4).v],E (List (List Int)) y2_2 h4,Bx b2 [(.int .i64 y3_0_0),(h5).v,(h6).v,(h7).v],E (List (Int×Int×List Int×List Int)) y3_0_1 h5,E (List Int) y3_0_2 h6,E (List Int) y3_0_3 h7,Gl 0 [.int .i64 2,.int .i64 3,.int .i64 5,.int .i64 7]]) ?_ ?_
  ·
   refine vA [(.int .i64 y3_0_0),(h5).v,(h6).v,(h7).v] rfl (fun j u hj=>H.bx 0 rfl hj) ?_
   refine vA [(.int .i64 y1_0_0),(h1).v,(h2).v,(h3).v] rfl (fun j u hj=>H.bx 6 rfl hj) ?_
   obtain ⟨y4,e,f8⟩:=aA f6;clear f6
   have i4:=e;clear e
   refine iA (xR y3_0_0 y3_0_1 h5 y3_0_2 h6 y3_0_3 h7 y1_0_0 y1_0_1 h1 y1_0_2 h2 y1_0_3 h3 y4 i4) (Γi:=[]) H ⟨Vw.own 1 rfl,Vw.own 2 rfl,Vw.own 3 rfl,Vw.sh 7 rfl,Vw.sh 8 rfl,Vw.sh 9 rfl,trivial⟩ ?_;clear H i4
   rintro _ _ w13 ⟨rfl,rfl⟩ H
   obtain ⟨a0,e,f9⟩:=aA f8;clear f8
   refine gA e ?_;clear e
   cases a0
   ·
    have f10:=fA f9;clear f9
    obtain ⟨a1,e,f11⟩:=aA f10;clear f10
    refine gA e ?_;clear e
    exact ⟨a1,⟨rfl,rfl,rfl,rfl,rfl,rfl,rfl,rfl,trivial⟩,Option.some.inj f11,H.sel [11,12,6,7,8,9,4,5,0,1,2,3,13] rfl⟩
   ·
    have f12:=eA f9;clear f9
    exact ⟨true,⟨rfl,rfl,rfl,rfl,rfl,rfl,rfl,rfl,trivial⟩,Option.some.inj f12,H.sel [11,12,6,7,8,9,4,5,0,1,2,3,13] rfl⟩
  ·
   clear f6 H
   rintro T0 s0 w15 ⟨hr,(H:Cx w0 fp0 S0 w15 [Bx b4 [(.int .i64 aR__0),(.int .i64 aR__1),(aR__2h).v],Es (List (List Int)) aR__2 aR__2h,Bx b0 [(.int .i64 y1_0_0),(h1).v,(h2).v,(h3).v],Es (List (Int×Int×List Int×List Int)) y1_0_1 h1,Es (List Int) y1_0_2 h2,Es (List Int) y1_0_3 h3,Bx b1 [(.int .i64 y2_0),(.int .i64 y2_1),(h4).v],E (List (List Int)) y2_2 h4,Bx b2 [(.int .i64 y3_0_0),(h5).v,(h6).v,(h7).v],E (List (Int×Int×List Int×List Int)) y3_0_1 h5,E (List Int) y3_0_2 h6,E (List Int) y3_0_3 h7,Gl 0 [.int .i64 2,.int .i64 3,.int .i64 5,.int .i64 7]])⟩
   subst hr
   cases s0
   ·
    have f13:=fA f7;clear f7
    refine sq ?_
    refine aC H [] (.fst 0 (.fst 1 (.act 2 (.act 3 (.fst 4 .done))))) vB [] trivial (by kernel_rfl) ?_
    clear H;intro w16 H
    have hX:Ext w16 w16:=Upd.refl _ _
    have H0:=H
    refine eF [(.int .i64 y2_0),(.int .i64 y2_1),(h4).v] rfl (fun j u hj=>H.bx 6 rfl hj) ?_
    refine eF [(.int .i64 aR__0),(.int .i64 aR__1),(aR__2h).v] rfl (fun j u hj=>H.bx 0 rfl hj) ?_
    obtain ⟨y5,e,f14⟩:=aA f13;clear f13
    obtain ⟨y5_0,y5_1,y5_2⟩:=y5
    have i5:=e;clear e
    refine eB (bN aR__0 aR__1 aR__2 aR__2h y5_0 y5_1 y5_2 i5) H ⟨Vw.sh 1 rfl,trivial⟩ ?_;clear H i5
    rintro _ _ w17 ⟨h8,rfl,rfl⟩ hx H
    replace hX:=hX.trans0 hx;clear hx
    refine hold hX ?_
    obtain ⟨y7,e,f15⟩:=aA f14;clear f14
    have i6:=e;clear e
    refine eB (BI_ y2_0 y2_1 y2_2 h4 y5_0 y5_1 y5_2 h8 y7 i6) H ⟨Vw.own 8 rfl,Vw.own 0 rfl,trivial⟩ ?_;clear H i6
    rintro _ _ w18 ⟨rfl,rfl⟩ hx H
    replace hX:=hX.trans0 hx;clear hx
    refine hold hX ?_
    obtain ⟨a2,e,f16⟩:=aA f15;clear f15
    refine gA e ?_;clear e
    cases a2
    ·
     have f17:=fA f16;clear f16
     refine vA [(.int .i64 y2_0),(.int .i64 y2_1),(h4).v] rfl (fun j u hj=>H.bx 7 rfl hj) ?_
     obtain ⟨y8,e,f18⟩:=aA f17;clear f17
     obtain ⟨⟨y8_0_0,y8_0_1,y8_0_2⟩,y8_1⟩:=y8
     have i7:=e;clear e
     replace H:=H.sel [8,0,1,2,3,4,5,6,7,9,10,11,12,13] rfl
     refine iA (Br_ y2_0 y2_1 y2_2 h4 1 y8_0_0 y8_0_1 y8_0_2 y8_1 i7) (Γi:=[E (List (List Int)) y2_2 h4]) H trivial ?_;clear H i7
     rintro _ _ w20 ⟨rfl,rfl⟩ H
     refine sq ?_
     obtain ⟨r1,f19,f20⟩:=aA f18;clear f18
     refine cut (fun (q1:Bool)=>[(0,(.int .i64 aP_)),(3,(.pointer (some ⟨b4,0,none⟩))),(6,(.pointer (some ⟨b0,0,none⟩))),(7,(.bool y1_1)),(9,(.pointer (some ⟨b2,0,none⟩))),(65,(.bool q1))]) (fun (q1:Bool) w'=>q1=r1∧Cx w0 fp0 S0 w' [Bx b4 [(.int .i64 aR__0),(.int .i64 aR__1),(aR__2h).v],Es (List (List Int)) aR__2 aR__2h,Bx b0 [(.int .i64 y1_0_0),(h1).v,(h2).v,(h3).v],Es (List (Int×Int×List Int×List Int)) y1_0_1 h1,Es (List Int) y1_0_2 h2,Es (List Int) y1_0_3 h3,Bx b2 [(.int .i64 y3_0_0),(h5).v,(h6).v,(h7).v],E (List (Int×Int×List Int×List Int)) y3_0_1 h5,E (List Int) y3_0_2 h6,E (List Int) y3_0_3 h7,Gl 0 [.int .i64 2,.int .i64 3,.int .i64 5,.int .i64 7]]) ?_ ?_
     ·
      obtain ⟨a3,e,f21⟩:=aA f19;clear f19
      refine gA e ?_;clear e
      cases a3
      ·
       have f22:=fA f21;clear f21
       refine vA [(.int .i64 y3_0_0),(h5).v,(h6).v,(h7).v] rfl (fun j u hj=>H.bx 9 rfl hj) ?_
       refine vA [(.int .i64 y1_0_0),(h1).v,(h2).v,(h3).v] rfl (fun j u hj=>H.bx 4 rfl hj) ?_
       obtain ⟨y9,e,f23⟩:=aA f22;clear f22
       have i8:=e;clear e
       refine iA (xR y3_0_0 y3_0_1 h5 y3_0_2 h6 y3_0_3 h7 y1_0_0 y1_0_1 h1 y1_0_2 h2 y1_0_3 h3 y9 i8) (Γi:=[]) H ⟨Vw.own 10 rfl,Vw.own 11 rfl,Vw.own 12 rfl,Vw.sh 5 rfl,Vw.sh 6 rfl,Vw.sh 7 rfl,trivial⟩ ?_;clear H i8
       rintro _ _ w21 ⟨rfl,rfl⟩ H
       obtain ⟨a4,e,f24⟩:=aA f23;clear f23
       refine gA e ?_;clear e
       cases a4
       ·
        have f25:=fA f24;clear f24
        obtain ⟨a5,e,f26⟩:=aA f25;clear f25
        refine gA e ?_;clear e
        exact ⟨a5,⟨rfl,rfl,rfl,rfl,rfl,rfl,trivial⟩,Option.some.inj f26,H.sel [2,3,4,5,6,7,9,10,11,12,13] rfl⟩
       ·
        have f27:=eA f24;clear f24
        exact ⟨true,⟨rfl,rfl,rfl,rfl,rfl,rfl,trivial⟩,Option.some.inj f27,H.sel [2,3,4,5,6,7,9,10,11,12,13] rfl⟩
      ·
       have f28:=eA f21;clear f21
       exact ⟨true,⟨rfl,rfl,rfl,rfl,rfl,rfl,trivial⟩,Option.some.inj f28,H.sel [2,3,4,5,6,7,9,10,11,12,13] rfl⟩
     ·
      clear f19 H
      rintro T1 s1 w22 ⟨hr,(H:Cx w0 fp0 S0 w22 [Bx b4 [(.int .i64 aR__0),(.int .i64 aR__1),(aR__2h).v],Es (List (List Int)) aR__2 aR__2h,Bx b0 [(.int .i64 y1_0_0),(h1).v,(h2).v,(h3).v],Es (List (Int×Int×List Int×List Int)) y1_0_1 h1,Es (List Int) y1_0_2 h2,Es (List Int) y1_0_3 h3,Bx b2 [(.int .i64 y3_0_0),(h5).v,(h6).v,(h7).v],E (List (Int×Int×List Int×List Int)) y3_0_1 h5,E (List Int) y3_0_2 h6,E (List Int) y3_0_3 h7,Gl 0 [.int .i64 2,.int .i64 3,.int .i64 5,.int .i64 7]])⟩
      subst hr
      cases s1
      ·
       have f29:=fA f20;clear f20
       refine vA [(.int .i64 y3_0_0),(h5).v,(h6).v,(h7).v] rfl (fun j u hj=>H.bx 6 rfl hj) ?_
       obtain ⟨y10,e,f30⟩:=aA f29;clear f29
       obtain ⟨⟨y10_0_0,y10_0_1,y10_0_2,y10_0_3⟩,y10_1⟩:=y10
       have i9:=e;clear e
       replace H:=H.sel [7,8,9,0,1,2,3,4,5,6,10] rfl
       refine iA (BQ_ y3_0_0 y3_0_1 h5 y3_0_2 h6 y3_0_3 h7 1 y10_0_0 y10_0_1 y10_0_2 y10_0_3 y10_1 i9) (Γi:=[E (List (Int×Int×List Int×List Int)) y3_0_1 h5,E (List Int) y3_0_2 h6,E (List Int) y3_0_3 h7]) H trivial ?_;clear H i9
       rintro _ _ w23 ⟨rfl,rfl⟩ H
       refine vA [(.int .i64 y3_0_0),(h5).v,(h6).v,(h7).v] rfl (fun j u hj=>H.bx 9 rfl hj) ?_
       obtain ⟨y11,e,f31⟩:=aA f30;clear f30
       have i10:=e;clear e
       refine iA (tV y3_0_0 y10_0_1 h5 y10_0_2 h6 y10_0_3 h7 1 y11 i10) (Γi:=[]) H ⟨Vw.own 0 rfl,Vw.own 1 rfl,Vw.own 2 rfl,trivial⟩ ?_;clear H i10
       rintro _ _ w24 ⟨rfl,rfl⟩ H
       refine sq ?_
       obtain ⟨a6,e,f32⟩:=aA f31;clear f31
       refine gA e ?_;clear e
       cases a6
       ·
        have f33:=fA f32;clear f32
        refine sq ?_
        obtain ⟨a7,e,f34⟩:=aA f33;clear f33
        refine gA e ?_;clear e
        cases a7
        ·
         have f35:=fA f34;clear f34
         refine vA [(.int .i64 aR__0),(.int .i64 aR__1),(aR__2h).v] rfl (fun j u hj=>H.bx 3 rfl hj) ?_
         obtain ⟨y13,e,f36⟩:=aA f35;clear f35
         obtain ⟨y13_0,y13_1,y13_2⟩:=y13
         have i11:=e;clear e
         refine iA (bN aR__0 aR__1 aR__2 aR__2h y13_0 y13_1 y13_2 i11) (Γi:=[]) H ⟨Vw.sh 4 rfl,trivial⟩ ?_;clear H i11
         rintro _ _ w25 ⟨h9,rfl,rfl⟩ H
         obtain ⟨y14,e,f37⟩:=aA f36;clear f36
         obtain ⟨⟨y14_0_0,y14_0_1,y14_0_2,y14_0_3⟩,y14_1⟩:=y14
         have i12:=e;clear e
         refine iA (lV aP_ y13_0 y13_1 y13_2 h9 y14_0_0 y14_0_1 y14_0_2 y14_0_3 y14_1 i12) (Γi:=[]) H ⟨Vw.own 0 rfl,Vw.gl 11 rfl,trivial⟩ ?_;clear H i12
         rintro _ _ w27 ⟨h10,h11,h12,rfl,rfl⟩ H
         refine sB gok rfl H ?_;clear H;intro b3 w28 hx H
         clear hx
         refine stA gok [(.int .i64 y14_0_0),(h10).v,(h11).v,(h12).v] rfl H rfl rfl rfl ?_;clear H;intro w30 H
         refine sq ?_
         obtain ⟨r2,f38,f39⟩:=aA f37;clear f37
         refine cut (fun (q2:Bool)=>[(9,(.pointer (some ⟨b2,0,none⟩))),(12,(.int .i64 y10_1)),(92,(.bool q2))]) (fun (q2:Bool) w'=>q2=r2∧Cx w0 fp0 S0 w' [Bx b2 [(.int .i64 y3_0_0),(h5).v,(h6).v,(h7).v],E (List (Int×Int×List Int×List Int)) y10_0_1 h5,E (List Int) y10_0_2 h6,E (List Int) y10_0_3 h7,Gl 0 [.int .i64 2,.int .i64 3,.int .i64 5,.int .i64 7]]) ?_ ?_
         ·
          refine vA [(.int .i64 y14_0_0),(h10).v,(h11).v,(h12).v] rfl (fun j u hj=>H.bx 0 rfl hj) ?_
          refine vA [(.int .i64 y1_0_0),(h1).v,(h2).v,(h3).v] rfl (fun j u hj=>H.bx 10 rfl hj) ?_
          obtain ⟨y15,e,f40⟩:=aA f38;clear f38
          have i13:=e;clear e
          refine iA (xR y14_0_0 y14_0_1 h10 y14_0_2 h11 y14_0_3 h12 y1_0_0 y1_0_1 h1 y1_0_2 h2 y1_0_3 h3 y15 i13) (Γi:=[]) H ⟨Vw.own 1 rfl,Vw.own 2 rfl,Vw.own 3 rfl,Vw.sh 11 rfl,Vw.sh 12 rfl,Vw.sh 13 rfl,trivial⟩ ?_;clear H i13
          rintro _ _ w31 ⟨rfl,rfl⟩ H
          obtain ⟨a8,e,f41⟩:=aA f40;clear f40
          refine gA e ?_;clear e
          cases a8
          ·
           have f42:=fA f41;clear f41
           obtain ⟨a10,e,f43⟩:=aA f42;clear f42
           refine gA e ?_;clear e
           exact ⟨a10,⟨rfl,rfl,rfl,trivial⟩,Option.some.inj f43,H.sel [14,5,6,7,15] rfl⟩
          ·
           have f44:=eA f41;clear f41
           exact ⟨true,⟨rfl,rfl,rfl,trivial⟩,Option.some.inj f44,H.sel [14,5,6,7,15] rfl⟩
         ·
          clear f38 H
          rintro T2 s2 w33 ⟨hr,(H:Cx w0 fp0 S0 w33 [Bx b2 [(.int .i64 y3_0_0),(h5).v,(h6).v,(h7).v],E (List (Int×Int×List Int×List Int)) y10_0_1 h5,E (List Int) y10_0_2 h6,E (List Int) y10_0_3 h7,Gl 0 [.int .i64 2,.int .i64 3,.int .i64 5,.int .i64 7]])⟩
          subst hr
          cases s2
          ·
           have f45:=fA f39;clear f39
           refine vA [(.int .i64 y3_0_0),(h5).v,(h6).v,(h7).v] rfl (fun j u hj=>H.bx 0 rfl hj) ?_
           obtain ⟨y16,e,f46⟩:=aA f45;clear f45
           have i14:=e;clear e
           refine iA (tV y3_0_0 y10_0_1 h5 y10_0_2 h6 y10_0_3 h7 1 y16 i14) (Γi:=[]) H ⟨Vw.own 1 rfl,Vw.own 2 rfl,Vw.own 3 rfl,trivial⟩ ?_;clear H i14
           rintro _ _ w34 ⟨rfl,rfl⟩ H
           refine sq ?_
           obtain ⟨a11,e,f47⟩:=aA f46;clear f46
           refine gA e ?_;clear e
           cases a11
           ·
            have f48:=fA f47;clear f47
            refine sq ?_
            obtain ⟨a12,e,f49⟩:=aA f48;clear f48
            refine gA e ?_;clear e
            cases a12
            ·
             have f50:=fA f49;clear f49
             cases f50
             exact ⟨_,_,rfl,⟨rfl,rfl⟩,(H.sel [] rfl).close trivial⟩
            ·
             have f51:=eA f49;clear f49
             cases f51
             exact ⟨_,_,rfl,⟨rfl,rfl⟩,(H.sel [] rfl).close trivial⟩
           ·
            have f52:=eA f47;clear f47
            cases f52
            exact ⟨_,_,rfl,⟨rfl,rfl⟩,(H.sel [] rfl).close trivial⟩
          ·
           have f53:=eA f39;clear f39
           cases f53
           exact ⟨_,_,rfl,⟨rfl,rfl⟩,(H.sel [] rfl).close trivial⟩
        ·
         have f54:=eA f34;clear f34
         cases f54
         exact ⟨_,_,rfl,⟨rfl,rfl⟩,(H.sel [] rfl).close trivial⟩
       ·
        have f55:=eA f32;clear f32
        cases f55
        exact ⟨_,_,rfl,⟨rfl,rfl⟩,(H.sel [] rfl).close trivial⟩
      ·
       have f56:=eA f20;clear f20
       cases f56
       exact ⟨_,_,rfl,⟨rfl,rfl⟩,(H.sel [] rfl).close trivial⟩
    ·
     have f57:=eA f16;clear f16
     cases f57
     exact ⟨_,_,rfl,⟨rfl,rfl⟩,(H.sel [] rfl).close trivial⟩
   ·
    have f58:=eA f7;clear f7
    cases f58
    exact ⟨_,_,rfl,⟨rfl,rfl⟩,(H.sel [] rfl).close trivial⟩
 ·
  have f59:=eA f0;clear f0
  cases f59
  exact ⟨_,_,rfl,⟨rfl,rfl⟩,(H.sel [] rfl).close trivial⟩
end Go.Proofs.YtbofgnbanmbopaaGreatDoor
