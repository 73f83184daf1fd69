/-
 Contracts, printed by a program (wip/y/gen.py): each function of Go computes its partial function. Condition of each: its partial function yields a value.
-/
import Derived.Test.YtlggnmkelgplnaaGreatDoorZCall4
namespace Go.Proofs.YtlggnmkelgplnaaGreatDoor
open Go Go.Proofs.YtlggnmkelgplnaaGreatDoor.RW
set_option maxRecDepth 100000
set_option linter.unusedVariables false
theorem laws_FnExactMissingPair_c (aP_:Int) (aA__0:List (Int × Int × ByteArray)) (aA__0h:Hd) (aB__0:List (Int × Int × ByteArray)) (aB__0h:Hd) (y:Bool) (hF:F_laws_FnExactMissingPair aP_ aA__0 aB__0 = some y) :
  ConF Tryz.prog 5 #[(.int .i64 aP_),(.agg #[(aA__0h).v]),(.agg #[(aB__0h).v])] [Es (List (Int × Int × ByteArray)) aA__0 aA__0h,Es (List (Int × Int × ByteArray)) aB__0 aB__0h,Gl 0 [.int .i64 2,.int .i64 3,.int .i64 5,.int .i64 7]] [] (fun v Γ'=>v = (.bool y) ∧ Γ' = []):=by
 intro w0 S0 fp0 hI hS
 have H:Cx w0 fp0 S0 w0 [Es (List (Int × Int × ByteArray)) aA__0 aA__0h,Es (List (Int × Int × ByteArray)) aB__0 aB__0h,Gl 0 [.int .i64 2,.int .i64 3,.int .i64 5,.int .i64 7]]:=Cx.start hI hS
 clear hI hS
 refine enterC (args:=[_,_,_]) gok Tryz.func5 rfl _ rfl rfl rfl ?_
 refine box_ H ?_;clear H;intro b5 w4 hx H
 clear hx
 refine box_ H ?_;clear H;intro b8 w7 hx H
 clear hx
 refine loadN [(aA__0h).v] rfl (fun j u hj=>H.bx 1 rfl hj) ?_
 obtain ⟨y0,e,f0⟩:=bindS hF;clear hF
 have ey10:=e;clear e
 refine callF (laws_szTerm_c aA__0 aA__0h 1048576 y0 ey10) (Γi:=[]) H ⟨Vw.sh 2 rfl,trivial⟩ ?_;clear H ey10
 rintro _ _ w1 ⟨rfl,rfl⟩ H
 refine sq ?_
 obtain ⟨a0,e,f1⟩:=bindS f0;clear f0
 refine boolO e ?_;clear e
 cases a0
 ·
  have f2:=condF f1;clear f1
  refine loadN [(aB__0h).v] rfl (fun j u hj=>H.bx 0 rfl hj) ?_
  obtain ⟨y1,e,f3⟩:=bindS f2;clear f2
  have ey16:=e;clear e
  refine callF (laws_szTerm_c aB__0 aB__0h y0 y1 ey16) (Γi:=[]) H ⟨Vw.sh 3 rfl,trivial⟩ ?_;clear H ey16
  rintro _ _ w2 ⟨rfl,rfl⟩ H
  refine sq ?_
  obtain ⟨a1,e,f4⟩:=bindS f3;clear f3
  refine boolO e ?_;clear e
  cases a1
  ·
   have f5:=condF f4;clear f4
   refine heldX H [] (.fst 0 (.fst 1 (.fst 3 (.act 2 (.act 4 (.act 5 (.fst 6 (.fst 7 (.fst 8 (.fst 9 (.fst 10 (.fst 11 (.fst 12 .done))))))))))))) mixed [] trivial (by kernel_rfl) ?_
   clear H;intro w3 H
   have hX:Ext w3 w3:=Upd.refl _ _
   have H0:=H
   refine loadNX [(aA__0h).v] rfl (fun j u hj=>H.bx 1 rfl hj) ?_
   refine loadNX [(aB__0h).v] rfl (fun j u hj=>H.bx 0 rfl hj) ?_
   obtain ⟨y2,e,f6⟩:=bindS f5;clear f5
   obtain ⟨y2_0,rfl⟩:∃ z,z = y2:=⟨_,rfl⟩
   have ey23:=e;clear e
   refine callFx (laws_toTerm_c aA__0 aA__0h y2_0 ey23) H ⟨Vw.sh 2 rfl,trivial⟩ ?_;clear H ey23
   rintro _ _ w5 ⟨h0,rfl,rfl⟩ hx H
   replace hX:=hX.trans0 hx;clear hx
   refine hold hX ?_
   obtain ⟨y3,e,f7⟩:=bindS f6;clear f6
   obtain ⟨y3_0,rfl⟩:∃ z,z = y3:=⟨_,rfl⟩
   have ey28:=e;clear e
   refine callFx (laws_toTerm_c aB__0 aB__0h y3_0 ey28) H ⟨Vw.sh 4 rfl,trivial⟩ ?_;clear H ey28
   rintro _ _ w6 ⟨h1,rfl,rfl⟩ hx H
   replace hX:=hX.trans0 hx;clear hx
   refine hold hX ?_
   obtain ⟨y4,e,f8⟩:=bindS f7;clear f7
   obtain ⟨y4_0,y4_1,y4_2⟩:=y4
   have ey33:=e;clear e
   refine callFx (spec_MissingPair_c aP_ y2_0 h0 y3_0 h1 y4_0 y4_1 y4_2 ey33) H ⟨Vw.own 1 rfl,Vw.own 0 rfl,trivial⟩ ?_;clear H ey33
   rintro _ _ w8 ⟨h2,h3,rfl,rfl⟩ hx H
   replace hX:=hX.trans0 hx;clear hx
   refine hold hX ?_
   refine loadN [(aA__0h).v] rfl (fun j u hj=>H.bx 5 rfl hj) ?_
   obtain ⟨y5,e,f9⟩:=bindS f8;clear f8
   obtain ⟨y5_0,rfl⟩:∃ z,z = y5:=⟨_,rfl⟩
   have ey40:=e;clear e
   refine callF (laws_toTerm_c aA__0 aA__0h y5_0 ey40) (Γi:=[]) H ⟨Vw.sh 6 rfl,trivial⟩ ?_;clear H ey40
   rintro _ _ w9 ⟨h4,rfl,rfl⟩ H
   refine alloc_ gok rfl H ?_;clear H;intro b0 w10 hx H
   clear hx
   refine stA gok [(h4).v] rfl H rfl rfl rfl ?_;clear H;intro w11 H
   refine loadN [(aB__0h).v] rfl (fun j u hj=>H.bx 6 rfl hj) ?_
   obtain ⟨y6,e,f10⟩:=bindS f9;clear f9
   obtain ⟨y6_0,rfl⟩:∃ z,z = y6:=⟨_,rfl⟩
   have ey49:=e;clear e
   refine callF (laws_toTerm_c aB__0 aB__0h y6_0 ey49) (Γi:=[]) H ⟨Vw.sh 9 rfl,trivial⟩ ?_;clear H ey49
   rintro _ _ w13 ⟨h5,rfl,rfl⟩ H
   refine alloc_ gok rfl H ?_;clear H;intro b1 w14 hx H
   clear hx
   refine stA gok [(h5).v] rfl H rfl rfl rfl ?_;clear H;intro w15 H
   refine loadN [(h4).v] rfl (fun j u hj=>H.bx 2 rfl hj) ?_
   refine loadN [(h5).v] rfl (fun j u hj=>H.bx 0 rfl hj) ?_
   obtain ⟨y7,e,f11⟩:=bindS f10;clear f10
   obtain ⟨y7_0,y7_1,y7_2⟩:=y7
   have ey58:=e;clear e
   refine callF (impl_MissingPair_c aP_ y5_0 h4 y6_0 h5 y7_0 y7_1 y7_2 ey58) (Γi:=[]) H ⟨Vw.own 3 rfl,Vw.own 1 rfl,Vw.gl 12 rfl,trivial⟩ ?_;clear H ey58
   rintro _ _ w16 ⟨h6,h7,rfl,rfl⟩ H
   refine sq ?_
   obtain ⟨r0,f12,f13⟩:=bindS f11;clear f11
   refine cut (fun (q0:Bool)=>[(0,(.int .i64 aP_)),(4,(.pointer (some ⟨b5,0,none⟩))),(5,(.pointer (some ⟨b8,0,none⟩))),(8,(h2).v),(9,(h3).v),(10,(.bool y4_2)),(11,(.pointer (some ⟨b0,0,none⟩))),(12,(.pointer (some ⟨b1,0,none⟩))),(13,(h6).v),(14,(h7).v),(15,(.bool y7_2)),(68,(.bool q0))]) (fun (q0:Bool) w'=>q0 = r0 ∧ Cx w0 fp0 S0 w' [Bx b5 [(aA__0h).v],Es (List (Int × Int × ByteArray)) aA__0 aA__0h,Bx b8 [(aB__0h).v],Es (List (Int × Int × ByteArray)) aB__0 aB__0h,E (List Int) y4_0 h2,E (List Int) y4_1 h3,Bx b0 [(h4).v],E (List (Int × Int × ByteArray)) y5_0 h4,Bx b1 [(h5).v],E (List (Int × Int × ByteArray)) y6_0 h5,E (List Int) y7_0 h6,E (List Int) y7_1 h7,Gl 0 [.int .i64 2,.int .i64 3,.int .i64 5,.int .i64 7]]) ?_ ?_
   ·
    obtain ⟨y8,e,f14⟩:=bindS f12;clear f12
    have ey87:=e;clear e
    refine callF (laws_eqIntS_c y7_0 h6 y4_0 h2 y8 ey87) (Γi:=[]) H ⟨Vw.own 0 rfl,Vw.own 6 rfl,trivial⟩ ?_;clear H ey87
    rintro _ _ w17 ⟨rfl,rfl⟩ H
    obtain ⟨a2,e,f15⟩:=bindS f14;clear f14
    refine boolO e ?_;clear e
    cases a2
    ·
     have f16:=condF f15;clear f15
     obtain ⟨y9,e,f17⟩:=bindS f16;clear f16
     have ey93:=e;clear e
     refine callF (laws_eqIntS_c y7_1 h7 y4_1 h3 y9 ey93) (Γi:=[]) H ⟨Vw.own 1 rfl,Vw.own 7 rfl,trivial⟩ ?_;clear H ey93
     rintro _ _ w19 ⟨rfl,rfl⟩ H
     obtain ⟨a3,e,f18⟩:=bindS f17;clear f17
     refine boolO e ?_;clear e
     cases a3
     ·
      have f19:=condF f18;clear f18
      obtain ⟨a4,e,f20⟩:=bindS f19;clear f19
      refine boolO e ?_;clear e
      exact ⟨a4,⟨rfl,rfl,rfl,rfl,rfl,rfl,rfl,rfl,rfl,rfl,rfl,rfl,trivial⟩,Option.some.inj f20,H.sel [11,12,10,13,6,7,4,5,2,3,0,1,14] rfl⟩
     ·
      have f21:=condT f18;clear f18
      exact ⟨true,⟨rfl,rfl,rfl,rfl,rfl,rfl,rfl,rfl,rfl,rfl,rfl,rfl,trivial⟩,Option.some.inj f21,H.sel [11,12,10,13,6,7,4,5,2,3,0,1,14] rfl⟩
    ·
     have f22:=condT f15;clear f15
     exact ⟨true,⟨rfl,rfl,rfl,rfl,rfl,rfl,rfl,rfl,rfl,rfl,rfl,rfl,trivial⟩,Option.some.inj f22,H.sel [11,12,10,13,6,7,4,5,2,3,0,1,14] rfl⟩
   ·
    clear f12 H
    rintro T0 s0 w20 ⟨hr,(H:Cx w0 fp0 S0 w20 [Bx b5 [(aA__0h).v],Es (List (Int × Int × ByteArray)) aA__0 aA__0h,Bx b8 [(aB__0h).v],Es (List (Int × Int × ByteArray)) aB__0 aB__0h,E (List Int) y4_0 h2,E (List Int) y4_1 h3,Bx b0 [(h4).v],E (List (Int × Int × ByteArray)) y5_0 h4,Bx b1 [(h5).v],E (List (Int × Int × ByteArray)) y6_0 h5,E (List Int) y7_0 h6,E (List Int) y7_1 h7,Gl 0 [.int .i64 2,.int .i64 3,.int .i64 5,.int .i64 7]])⟩
    subst hr
    cases s0
    ·
     have f23:=condF f13;clear f13
     refine sq ?_
     refine heldX H [] (.fst 0 (.fst 1 (.act 2 (.act 3 (.fst 4 .done))))) mixed [] trivial (by kernel_rfl) ?_
     clear H;intro w21 H
     have hX:Ext w21 w21:=Upd.refl _ _
     have H0:=H
     refine loadNX [(h4).v] rfl (fun j u hj=>H.bx 6 rfl hj) ?_
     refine loadNX [(aA__0h).v] rfl (fun j u hj=>H.bx 0 rfl hj) ?_
     obtain ⟨y11,e,f24⟩:=bindS f23;clear f23
     obtain ⟨y11_0,rfl⟩:∃ z,z = y11:=⟨_,rfl⟩
     have ey107:=e;clear e
     refine callFx (laws_toTerm_c aA__0 aA__0h y11_0 ey107) H ⟨Vw.sh 1 rfl,trivial⟩ ?_;clear H ey107
     rintro _ _ w23 ⟨h8,rfl,rfl⟩ hx H
     replace hX:=hX.trans0 hx;clear hx
     refine hold hX ?_
     obtain ⟨y12,e,f25⟩:=bindS f24;clear f24
     have ey112:=e;clear e
     refine callFx (laws_eqTerm_c y5_0 h4 y11_0 h8 y12 ey112) H ⟨Vw.own 8 rfl,Vw.own 0 rfl,trivial⟩ ?_;clear H ey112
     rintro _ _ w24 ⟨rfl,rfl⟩ hx H
     replace hX:=hX.trans0 hx;clear hx
     refine hold hX ?_
     obtain ⟨a5,e,f26⟩:=bindS f25;clear f25
     refine boolO e ?_;clear e
     cases a5
     ·
      have f27:=condF f26;clear f26
      refine sq ?_
      refine heldX H [] (.fst 0 (.fst 1 (.act 2 (.act 3 (.fst 4 .done))))) mixed [] trivial (by kernel_rfl) ?_
      clear H;intro w26 H
      have hX:Ext w26 w26:=Upd.refl _ _
      have H0:=H
      refine loadNX [(h5).v] rfl (fun j u hj=>H.bx 9 rfl hj) ?_
      refine loadNX [(aB__0h).v] rfl (fun j u hj=>H.bx 3 rfl hj) ?_
      obtain ⟨y13,e,f28⟩:=bindS f27;clear f27
      obtain ⟨y13_0,rfl⟩:∃ z,z = y13:=⟨_,rfl⟩
      have ey119:=e;clear e
      refine callFx (laws_toTerm_c aB__0 aB__0h y13_0 ey119) H ⟨Vw.sh 4 rfl,trivial⟩ ?_;clear H ey119
      rintro _ _ w27 ⟨h9,rfl,rfl⟩ hx H
      replace hX:=hX.trans0 hx;clear hx
      refine hold hX ?_
      obtain ⟨y14,e,f29⟩:=bindS f28;clear f28
      have ey124:=e;clear e
      refine callFx (laws_eqTerm_c y6_0 h5 y13_0 h9 y14 ey124) H ⟨Vw.own 11 rfl,Vw.own 0 rfl,trivial⟩ ?_;clear H ey124
      rintro _ _ w28 ⟨rfl,rfl⟩ hx H
      replace hX:=hX.trans0 hx;clear hx
      refine hold hX ?_
      obtain ⟨a6,e,f30⟩:=bindS f29;clear f29
      refine boolO e ?_;clear e
      cases a6
      ·
       have f31:=condF f30;clear f30
       refine loadN [(h4).v] rfl (fun j u hj=>H.bx 8 rfl hj) ?_
       obtain ⟨y15,e,f32⟩:=bindS f31;clear f31
       obtain ⟨y15_0_0,y15_1⟩:=y15
       have ey130:=e;clear e
       replace H:=H.sel [9,0,1,2,3,4,5,6,7,8,10,11,12,13,14] rfl
       refine callF (laws_markTerm_c y5_0 h4 1 y15_0_0 y15_1 ey130) (Γi:=[E (List (Int × Int × ByteArray)) y5_0 h4]) H trivial ?_;clear H ey130
       rintro _ _ w29 ⟨rfl,rfl⟩ H
       refine loadN [(h5).v] rfl (fun j u hj=>H.bx 10 rfl hj) ?_
       obtain ⟨y17,e,f33⟩:=bindS f32;clear f32
       obtain ⟨y17_0_0,y17_1⟩:=y17
       have ey133:=e;clear e
       replace H:=H.sel [11,0,1,2,3,4,5,6,7,8,9,10,12,13,14] rfl
       refine callF (laws_markTerm_c y6_0 h5 y15_1 y17_0_0 y17_1 ey133) (Γi:=[E (List (Int × Int × ByteArray)) y6_0 h5]) H trivial ?_;clear H ey133
       rintro _ _ w31 ⟨rfl,rfl⟩ H
       refine sq ?_
       obtain ⟨r1,f34,f35⟩:=bindS f33;clear f33
       refine cut (fun (q1:Bool)=>[(0,(.int .i64 aP_)),(4,(.pointer (some ⟨b5,0,none⟩))),(5,(.pointer (some ⟨b8,0,none⟩))),(8,(h2).v),(9,(h3).v),(10,(.bool y4_2)),(13,(h6).v),(14,(h7).v),(103,(.bool q1))]) (fun (q1:Bool) w'=>q1 = r1 ∧ Cx w0 fp0 S0 w' [Bx b5 [(aA__0h).v],Es (List (Int × Int × ByteArray)) aA__0 aA__0h,Bx b8 [(aB__0h).v],Es (List (Int × Int × ByteArray)) aB__0 aB__0h,E (List Int) y4_0 h2,E (List Int) y4_1 h3,E (List Int) y7_0 h6,E (List Int) y7_1 h7,Gl 0 [.int .i64 2,.int .i64 3,.int .i64 5,.int .i64 7]]) ?_ ?_
       ·
        obtain ⟨a7,e,f36⟩:=bindS f34;clear f34
        refine boolO e ?_;clear e
        cases a7
        ·
         have f37:=condF f36;clear f36
         obtain ⟨y18,e,f38⟩:=bindS f37;clear f37
         have ey165:=e;clear e
         refine callF (laws_eqIntS_c y7_0 h6 y4_0 h2 y18 ey165) (Γi:=[]) H ⟨Vw.own 12 rfl,Vw.own 8 rfl,trivial⟩ ?_;clear H ey165
         rintro _ _ w32 ⟨rfl,rfl⟩ H
         obtain ⟨a8,e,f39⟩:=bindS f38;clear f38
         refine boolO e ?_;clear e
         cases a8
         ·
          have f40:=condF f39;clear f39
          obtain ⟨y19,e,f41⟩:=bindS f40;clear f40
          have ey171:=e;clear e
          refine callF (laws_eqIntS_c y7_1 h7 y4_1 h3 y19 ey171) (Γi:=[]) H ⟨Vw.own 13 rfl,Vw.own 9 rfl,trivial⟩ ?_;clear H ey171
          rintro _ _ w33 ⟨rfl,rfl⟩ H
          obtain ⟨a9,e,f42⟩:=bindS f41;clear f41
          refine boolO e ?_;clear e
          cases a9
          ·
           have f43:=condF f42;clear f42
           obtain ⟨a10,e,f44⟩:=bindS f43;clear f43
           refine boolO e ?_;clear e
           exact ⟨a10,⟨rfl,rfl,rfl,rfl,rfl,rfl,rfl,rfl,rfl,trivial⟩,Option.some.inj f44,H.sel [4,5,6,7,8,9,12,13,14] rfl⟩
          ·
           have f45:=condT f42;clear f42
           exact ⟨true,⟨rfl,rfl,rfl,rfl,rfl,rfl,rfl,rfl,rfl,trivial⟩,Option.some.inj f45,H.sel [4,5,6,7,8,9,12,13,14] rfl⟩
         ·
          have f46:=condT f39;clear f39
          exact ⟨true,⟨rfl,rfl,rfl,rfl,rfl,rfl,rfl,rfl,rfl,trivial⟩,Option.some.inj f46,H.sel [4,5,6,7,8,9,12,13,14] rfl⟩
        ·
         have f47:=condT f36;clear f36
         exact ⟨true,⟨rfl,rfl,rfl,rfl,rfl,rfl,rfl,rfl,rfl,trivial⟩,Option.some.inj f47,H.sel [4,5,6,7,8,9,12,13,14] rfl⟩
       ·
        clear f34 H
        rintro T1 s1 w34 ⟨hr,(H:Cx w0 fp0 S0 w34 [Bx b5 [(aA__0h).v],Es (List (Int × Int × ByteArray)) aA__0 aA__0h,Bx b8 [(aB__0h).v],Es (List (Int × Int × ByteArray)) aB__0 aB__0h,E (List Int) y4_0 h2,E (List Int) y4_1 h3,E (List Int) y7_0 h6,E (List Int) y7_1 h7,Gl 0 [.int .i64 2,.int .i64 3,.int .i64 5,.int .i64 7]])⟩
        subst hr
        cases s1
        ·
         have f48:=condF f35;clear f35
         obtain ⟨y20,e,f49⟩:=bindS f48;clear f48
         obtain ⟨y20_0,y20_1⟩:=y20
         have ey185:=e;clear e
         replace H:=H.sel [6,0,1,2,3,4,5,7,8] rfl
         refine callF (laws_markIntS_c y7_0 h6 1 y20_0 y20_1 ey185) (Γi:=[E (List Int) y7_0 h6]) H trivial ?_;clear H ey185
         rintro _ _ w36 ⟨rfl,rfl⟩ H
         obtain ⟨y21,e,f50⟩:=bindS f49;clear f49
         obtain ⟨y21_0,y21_1⟩:=y21
         have ey188:=e;clear e
         replace H:=H.sel [7,0,1,2,3,4,5,6,8] rfl
         refine callF (laws_markIntS_c y7_1 h7 y20_1 y21_0 y21_1 ey188) (Γi:=[E (List Int) y7_1 h7]) H trivial ?_;clear H ey188
         rintro _ _ w37 ⟨rfl,rfl⟩ H
         obtain ⟨y22,e,f51⟩:=bindS f50;clear f50
         have ey191:=e;clear e
         refine callF (laws_heldIntS_c y20_0 h6 1 y22 ey191) (Γi:=[]) H ⟨Vw.own 1 rfl,trivial⟩ ?_;clear H ey191
         rintro _ _ w38 ⟨rfl,rfl⟩ H
         refine sq ?_
         obtain ⟨a11,e,f52⟩:=bindS f51;clear f51
         refine boolO e ?_;clear e
         cases a11
         ·
          have f53:=condF f52;clear f52
          obtain ⟨y24,e,f54⟩:=bindS f53;clear f53
          have ey197:=e;clear e
          refine callF (laws_heldIntS_c y21_0 h7 y22 y24 ey197) (Γi:=[]) H ⟨Vw.own 0 rfl,trivial⟩ ?_;clear H ey197
          rintro _ _ w39 ⟨rfl,rfl⟩ H
          refine sq ?_
          obtain ⟨a12,e,f55⟩:=bindS f54;clear f54
          refine boolO e ?_;clear e
          cases a12
          ·
           have f56:=condF f55;clear f55
           refine sq ?_
           obtain ⟨a14,e,f57⟩:=bindS f56;clear f56
           refine boolO e ?_;clear e
           cases a14
           ·
            have f58:=condF f57;clear f57
            refine heldX H [] (.fst 0 (.fst 1 (.fst 3 (.act 2 (.act 4 (.act 5 (.fst 6 (.fst 7 (.fst 8 (.fst 9 (.fst 10 (.fst 11 (.fst 12 .done))))))))))))) mixed [] trivial (by kernel_rfl) ?_
            clear H;intro w40 H
            have hX:Ext w40 w40:=Upd.refl _ _
            have H0:=H
            refine loadNX [(aA__0h).v] rfl (fun j u hj=>H.bx 2 rfl hj) ?_
            refine loadNX [(aB__0h).v] rfl (fun j u hj=>H.bx 4 rfl hj) ?_
            obtain ⟨y25,e,f59⟩:=bindS f58;clear f58
            obtain ⟨y25_0,rfl⟩:∃ z,z = y25:=⟨_,rfl⟩
            have ey207:=e;clear e
            refine callFx (laws_toTerm_c aA__0 aA__0h y25_0 ey207) H ⟨Vw.sh 3 rfl,trivial⟩ ?_;clear H ey207
            rintro _ _ w41 ⟨h10,rfl,rfl⟩ hx H
            replace hX:=hX.trans0 hx;clear hx
            refine hold hX ?_
            obtain ⟨y26,e,f60⟩:=bindS f59;clear f59
            obtain ⟨y26_0,rfl⟩:∃ z,z = y26:=⟨_,rfl⟩
            have ey212:=e;clear e
            refine callFx (laws_toTerm_c aB__0 aB__0h y26_0 ey212) H ⟨Vw.sh 6 rfl,trivial⟩ ?_;clear H ey212
            rintro _ _ w43 ⟨h11,rfl,rfl⟩ hx H
            replace hX:=hX.trans0 hx;clear hx
            refine hold hX ?_
            obtain ⟨y27,e,f61⟩:=bindS f60;clear f60
            obtain ⟨y27_0,y27_1,y27_2⟩:=y27
            have ey217:=e;clear e
            refine callFx (impl_MissingPair_c aP_ y25_0 h10 y26_0 h11 y27_0 y27_1 y27_2 ey217) H ⟨Vw.own 1 rfl,Vw.own 0 rfl,Vw.gl 10 rfl,trivial⟩ ?_;clear H ey217
            rintro _ _ w44 ⟨h12,h13,rfl,rfl⟩ hx H
            replace hX:=hX.trans0 hx;clear hx
            refine hold hX ?_
            refine sq ?_
            obtain ⟨r2,f62,f63⟩:=bindS f61;clear f61
            refine cut (fun (q2:Bool)=>[(13,(h6).v),(14,(h7).v),(17,(.int .i64 y21_1)),(147,(.bool q2))]) (fun (q2:Bool) w'=>q2 = r2 ∧ Cx w0 fp0 S0 w' [E (List Int) y20_0 h6,E (List Int) y21_0 h7,Gl 0 [.int .i64 2,.int .i64 3,.int .i64 5,.int .i64 7]]) ?_ ?_
            ·
             obtain ⟨y29,e,f64⟩:=bindS f62;clear f62
             have ey246:=e;clear e
             refine callF (laws_eqIntS_c y27_0 h12 y4_0 h2 y29 ey246) (Γi:=[]) H ⟨Vw.own 0 rfl,Vw.own 10 rfl,trivial⟩ ?_;clear H ey246
             rintro _ _ w46 ⟨rfl,rfl⟩ H
             obtain ⟨a15,e,f65⟩:=bindS f64;clear f64
             refine boolO e ?_;clear e
             cases a15
             ·
              have f66:=condF f65;clear f65
              obtain ⟨y30,e,f67⟩:=bindS f66;clear f66
              have ey252:=e;clear e
              refine callF (laws_eqIntS_c y27_1 h13 y4_1 h3 y30 ey252) (Γi:=[]) H ⟨Vw.own 1 rfl,Vw.own 11 rfl,trivial⟩ ?_;clear H ey252
              rintro _ _ w47 ⟨rfl,rfl⟩ H
              obtain ⟨a16,e,f68⟩:=bindS f67;clear f67
              refine boolO e ?_;clear e
              cases a16
              ·
               have f69:=condF f68;clear f68
               obtain ⟨a17,e,f70⟩:=bindS f69;clear f69
               refine boolO e ?_;clear e
               exact ⟨a17,⟨rfl,rfl,rfl,rfl,trivial⟩,Option.some.inj f70,H.sel [5,4,12] rfl⟩
              ·
               have f71:=condT f68;clear f68
               exact ⟨true,⟨rfl,rfl,rfl,rfl,trivial⟩,Option.some.inj f71,H.sel [5,4,12] rfl⟩
             ·
              have f72:=condT f65;clear f65
              exact ⟨true,⟨rfl,rfl,rfl,rfl,trivial⟩,Option.some.inj f72,H.sel [5,4,12] rfl⟩
            ·
             clear f62 H
             rintro T2 s2 w49 ⟨hr,(H:Cx w0 fp0 S0 w49 [E (List Int) y20_0 h6,E (List Int) y21_0 h7,Gl 0 [.int .i64 2,.int .i64 3,.int .i64 5,.int .i64 7]])⟩
             subst hr
             cases s2
             ·
              have f73:=condF f63;clear f63
              obtain ⟨y31,e,f74⟩:=bindS f73;clear f73
              have ey265:=e;clear e
              refine callF (laws_heldIntS_c y20_0 h6 1 y31 ey265) (Γi:=[]) H ⟨Vw.own 0 rfl,trivial⟩ ?_;clear H ey265
              rintro _ _ w50 ⟨rfl,rfl⟩ H
              refine sq ?_
              obtain ⟨a18,e,f75⟩:=bindS f74;clear f74
              refine boolO e ?_;clear e
              cases a18
              ·
               have f76:=condF f75;clear f75
               obtain ⟨y32,e,f77⟩:=bindS f76;clear f76
               have ey271:=e;clear e
               refine callF (laws_heldIntS_c y21_0 h7 y31 y32 ey271) (Γi:=[]) H ⟨Vw.own 1 rfl,trivial⟩ ?_;clear H ey271
               rintro _ _ w52 ⟨rfl,rfl⟩ H
               refine sq ?_
               obtain ⟨a20,e,f78⟩:=bindS f77;clear f77
               refine boolO e ?_;clear e
               cases a20
               ·
                have f79:=condF f78;clear f78
                refine sq ?_
                obtain ⟨a21,e,f80⟩:=bindS f79;clear f79
                refine boolO e ?_;clear e
                cases a21
                ·
                 have f81:=condF f80;clear f80
                 cases f81
                 exact ⟨_,_,rfl,⟨rfl,rfl⟩,(H.sel [] rfl).close trivial⟩
                ·
                 have f82:=condT f80;clear f80
                 cases f82
                 exact ⟨_,_,rfl,⟨rfl,rfl⟩,(H.sel [] rfl).close trivial⟩
               ·
                have f83:=condT f78;clear f78
                cases f83
                exact ⟨_,_,rfl,⟨rfl,rfl⟩,(H.sel [] rfl).close trivial⟩
              ·
               have f84:=condT f75;clear f75
               cases f84
               exact ⟨_,_,rfl,⟨rfl,rfl⟩,(H.sel [] rfl).close trivial⟩
             ·
              have f85:=condT f63;clear f63
              cases f85
              exact ⟨_,_,rfl,⟨rfl,rfl⟩,(H.sel [] rfl).close trivial⟩
           ·
            have f86:=condT f57;clear f57
            cases f86
            exact ⟨_,_,rfl,⟨rfl,rfl⟩,(H.sel [] rfl).close trivial⟩
          ·
           have f87:=condT f55;clear f55
           cases f87
           exact ⟨_,_,rfl,⟨rfl,rfl⟩,(H.sel [] rfl).close trivial⟩
         ·
          have f88:=condT f52;clear f52
          cases f88
          exact ⟨_,_,rfl,⟨rfl,rfl⟩,(H.sel [] rfl).close trivial⟩
        ·
         have f89:=condT f35;clear f35
         cases f89
         exact ⟨_,_,rfl,⟨rfl,rfl⟩,(H.sel [] rfl).close trivial⟩
      ·
       have f90:=condT f30;clear f30
       cases f90
       exact ⟨_,_,rfl,⟨rfl,rfl⟩,(H.sel [] rfl).close trivial⟩
     ·
      have f91:=condT f26;clear f26
      cases f91
      exact ⟨_,_,rfl,⟨rfl,rfl⟩,(H.sel [] rfl).close trivial⟩
    ·
     have f92:=condT f13;clear f13
     cases f92
     exact ⟨_,_,rfl,⟨rfl,rfl⟩,(H.sel [] rfl).close trivial⟩
  ·
   have f93:=condT f4;clear f4
   cases f93
   exact ⟨_,_,rfl,⟨rfl,rfl⟩,(H.sel [] rfl).close trivial⟩
 ·
  have f94:=condT f1;clear f1
  cases f94
  exact ⟨_,_,rfl,⟨rfl,rfl⟩,(H.sel [] rfl).close trivial⟩
end Go.Proofs.YtlggnmkelgplnaaGreatDoor
