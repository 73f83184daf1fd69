/-
 Contracts, printed by a program (wip/y/gen.py): each function of Go computes its partial function. Condition of each: its partial function yields a value.
-/
import Derived.Test.YtbofgnbanmbopaaGreatDoorZCall2
namespace Go.Proofs.YtbofgnbanmbopaaGreatDoor
open Go Go.Proofs.YtbofgnbanmbopaaGreatDoor.RW
set_option maxRecDepth 100000
set_option maxHeartbeats 1000000
set_option linter.unusedVariables false
theorem Bs_:∀ (fuel:Nat) (d_b:Nat) (d__0_0:Int) (d__0_1:List (Int×Int×List Int×List Int)) (d__0_1h:Hd) (d__0_2:List Int) (d__0_2v:Value) (d__0_3:List Int) (d__0_3v:Value) (list_:List Int) (list_h:Hd) (y0_0_0:Int) (y0_0_1:List (Int×Int×List Int×List Int)) (y0_0_2:List Int) (y0_0_3:List Int) (y1:Int) (hF:wM fuel (d__0_0,d__0_1,d__0_2,d__0_3) list_=some ((y0_0_0,y0_0_1,y0_0_2,y0_0_3),y1)),
  uD Tryz.prog 65 #[(.pointer (some ⟨d_b,0,none⟩)),(list_h).v] [Es (List Int) list_ list_h] [Bx d_b [(.int .i64 d__0_0),(d__0_1h).v,d__0_2v,d__0_3v],E (List (Sh (Int×Int×List Int×List Int))) d__0_1 d__0_1h] (fun v Γ'=>∃ z0:Hd,v=(.int .i64 y1)∧Γ'=[Bx d_b [(.int .i64 y0_0_0),(z0).v,d__0_2v,d__0_3v],E (List (Sh (Int×Int×List Int×List Int))) y0_0_1 z0]):=by
 intro fuel
 induction fuel with
 | zero=>intro d_b d__0_0 d__0_1 d__0_1h d__0_2 d__0_2v d__0_3 d__0_3v list_ list_h y0_0_0 y0_0_1 y0_0_2 y0_0_3 y1 hF;cases hF
 | succ fuel ih=>
 intro d_b d__0_0 d__0_1 d__0_1h d__0_2 d__0_2v d__0_3 d__0_3v list_ list_h y0_0_0 y0_0_1 y0_0_2 y0_0_3 y1 hF
 intro w0 S0 fp0 hI hS
 have H:Cx w0 fp0 S0 w0 [Es (List Int) list_ list_h,Bx d_b [(.int .i64 d__0_0),(d__0_1h).v,d__0_2v,d__0_3v],E (List (Sh (Int×Int×List Int×List Int))) d__0_1 d__0_1h]:=Cx.start hI hS
 clear hI hS
 refine lA (args:=[_,_]) gok Tryz.func65 rfl _ rfl rfl rfl ?_
 refine kA (H.rs (α:=List Int) 0 rfl).len ?_
 obtain ⟨a4,e,hF5⟩:=aA hF;clear hF
 refine arO e ?_;clear e
 refine sq ?_
 obtain ⟨a6,e,hF7⟩:=aA hF5;clear hF5
 refine gA e ?_;clear e
 cases a6
 ·
  have hF8:=fA hF7;clear hF7
  obtain ⟨y9,e,f0⟩:=aA hF8;clear hF8
  obtain ⟨⟨y9_0_0_0,y9_0_0_1,y9_0_0_2,y9_0_0_3⟩,y9_1⟩:=y9
  have ey9:=e;clear e
  replace H:=H.sel [1,0,2] rfl
  refine iA (zK d_b d__0_0 d__0_1 ((d__0_1h).v) d__0_2 d__0_2v d__0_3 d__0_3v y9_0_0_0 y9_0_0_1 y9_0_0_2 y9_0_0_3 y9_1 ey9) (Γi:=[Bx d_b [(.int .i64 d__0_0),(d__0_1h).v,d__0_2v,d__0_3v]]) H trivial ?_;clear H ey9
  rintro _ _ w1 ⟨rfl,rfl⟩ H
  refine sq ?_
  obtain ⟨a0,e,f1⟩:=aA f0;clear f0
  refine gA e ?_;clear e
  cases a0
  ·
   have f2:=fA f1;clear f1
   obtain ⟨r0,f3,f4⟩:=aA f2;clear f2
   refine lH H [5,13,8,12,9,10,0,1,2,3,4,6,7,11] (.pure 0 (.pure 1 (.pure 2 (.pure 3 (.pure 4 (.pure 6 (.pure 7 (.pure 11 (.alts (.alt 5 (.alts (.alt 8 (.alts (.alt 9 (.alts (.alt 10 (.act 12 (.act 13 .done)) (.alt 12 (.act 10 (.act 13 .done)) .no))) (.alt 12 (.act 9 (.act 10 (.act 13 .done))) .no))) (.alt 12 (.act 8 (.act 9 (.act 10 (.act 13 .done)))) .no))) (.alt 8 (.alts (.alt 5 (.alts (.alt 9 (.alts (.alt 10 (.act 12 (.act 13 .done)) (.alt 12 (.act 10 (.act 13 .done)) .no))) (.alt 12 (.act 9 (.act 10 (.act 13 .done))) .no))) (.alt 9 (.alts (.alt 5 (.alts (.alt 10 (.act 12 (.act 13 .done)) (.alt 12 (.act 10 (.act 13 .done)) .no))) (.alt 12 (.act 5 (.act 10 (.act 13 .done))) .no))) (.alt 12 (.alts (.alt 5 (.act 9 (.act 10 (.act 13 .done))) (.alt 9 (.act 5 (.act 10 (.act 13 .done))) .no))) .no)))) (.alt 12 (.alts (.alt 5 (.act 8 (.act 9 (.act 10 (.act 13 .done)))) (.alt 8 (.alts (.alt 5 (.act 9 (.act 10 (.act 13 .done))) (.alt 9 (.act 5 (.act 10 (.act 13 .done))) .no))) .no))) .no)))))))))))) vB [] trivial (by kernel_rfl) (fun (q0:(Int×(List (Int×Int×List Int×List Int)))×Hd)=>[(6,(.int .i64 y9_1))]) (fun (q0:(Int×(List (Int×Int×List Int×List Int)))×Hd) w'=>(q0.1.1,q0.1.2)=r0∧Cx w0 fp0 S0 w' [Bx d_b [(.int .i64 q0.1.1),(q0.2).v,d__0_2v,d__0_3v],E (List (Sh (Int×Int×List Int×List Int))) q0.1.2 q0.2]) ?_ ?_
   ·
    clear H;intro w2 H
    have hX:Ext w2 w2:=Upd.refl _ _
    have H0:=H
    obtain ⟨a1,e,f5⟩:=aA f3;clear f3
    refine slSX (α:=Int) gok rfl rfl H 1 rfl e rfl rfl ?_;clear e;intro h0 HH;clear H;have H:=HH;clear HH
    refine pA ?_ ?_
    ·
     obtain ⟨y0,e,f6⟩:=aA f5;clear f5
     obtain ⟨⟨y0_0_0_0,y0_0_0_1,y0_0_0_2,y0_0_0_3⟩,y0_1⟩:=y0
     have i0:=e;clear e
     replace H:=H.sel [1,3,0,2] rfl
     refine aB (ih d_b y9_0_0_0 d__0_1 d__0_1h d__0_2 d__0_2v d__0_3 d__0_3v a1 h0 y0_0_0_0 y0_0_0_1 y0_0_0_2 y0_0_0_3 y0_1 i0) (Γi:=[Bx d_b [(.int .i64 y9_0_0_0),(d__0_1h).v,d__0_2v,d__0_3v],E (List (Sh (Int×Int×List Int×List Int))) d__0_1 d__0_1h]) H [0] rfl (wA qA zA) ?_;clear H i0
     rintro _ _ w3 ⟨h1,rfl,rfl⟩ H
     refine hold trivial ?_
     refine pA ?_ ?_
     ·
      obtain ⟨a2,e,f7⟩:=aA f6;clear f6
      have d0:=e;clear e
      obtain ⟨p0,m0,c0,c1,c2,c3⟩:=(H.rs (α:=List Int) 3 rfl).at1 d0;clear c3
      refine dA c0 c1 c2 ?_;clear c2
      refine hold trivial ?_
      refine pA ?_ ?_
      ·
       refine cA ((H.rs (α:=List Int) 3 rfl).at1' c0 c1 d0) ?_;clear c0 c1 d0
       refine hold trivial ?_
       refine pA ?_ ?_
       ·
        replace H:=H.sc (α:=Int) a2
        replace H:=H.sc (α:=Int) y0_1
        refine rC (α:=Int) (us:=[(.int .i64 y0_1),(.int .i64 a2)]) (xs:=[y0_1,a2]) (gs:=[(),()]) gok rfl rfl rfl ⟨rfl,rfl,trivial⟩ rfl rfl H ?_;clear H;intro h2 w4 hx H
        clear hx
        refine hold trivial ?_
        refine bB (α:=Int) gok rfl rfl rfl rfl H ?_;clear H;intro h3 w5 hx H
        clear hx
        refine hold trivial ?_
        obtain ⟨y2,e,f8⟩:=aA f7;clear f7
        obtain ⟨y2_0_0,y2_0_1,y2_0_2,y2_0_3⟩:=y2
        have i1:=e;clear e
        replace H:=H.sel [1,0,2,3,4,5] rfl
        replace H:=H.frz
        replace H:=H.sel [1,0,2,3,4,5] rfl
        replace H:=H.frz
        replace H:=H.sel [2,3,0,1,4,5] rfl
        refine aB (tC d_b y0_0_0_0 y0_0_0_1 h1 d__0_2 d__0_2v d__0_3 d__0_3v 5 0 [y0_1,a2] h2 [y9_1] h3 y2_0_0 y2_0_1 y2_0_2 y2_0_3 i1) (Γi:=[Bx d_b [(.int .i64 y0_0_0_0),(h1).v,d__0_2v,d__0_3v],E (List (Sh (Int×Int×List Int×List Int))) y0_0_0_1 h1]) H [1,0] rfl (wA qA (wA qA zA)) ?_;clear H i1
        rintro _ _ w6 ⟨h4,rfl,rfl⟩ H
        refine hold trivial ?_
        exact ⟨((y2_0_0,y2_0_1),h4),⟨rfl,trivial⟩,Option.some.inj f8,H.sel [0,1] rfl⟩
       ·
        refine pA ?_ ?_
        ·
         obtain ⟨a3,o0,f9⟩:=aA f7;clear f7
         refine bB (α:=Int) gok rfl rfl rfl rfl H ?_;clear H;intro h5 w7 hx H
         clear hx
         refine hold trivial ?_
         replace H:=H.sc (α:=Int) a2
         replace H:=H.sc (α:=Int) y0_1
         refine rC (α:=Int) (us:=[(.int .i64 y0_1),(.int .i64 a2)]) (xs:=[y0_1,a2]) (gs:=[(),()]) gok rfl rfl rfl ⟨rfl,rfl,trivial⟩ rfl rfl H ?_;clear H;intro h6 w8 hx H
         clear hx
         refine hold trivial ?_
         have e:=o0;clear o0
         obtain ⟨a3_0_0,a3_0_1,a3_0_2,a3_0_3⟩:=a3
         have i2:=e;clear e
         replace H:=H.frz
         replace H:=H.sel [1,0,2,3,4,5] rfl
         replace H:=H.frz
         replace H:=H.sel [2,3,0,1,4,5] rfl
         refine aB (tC d_b y0_0_0_0 y0_0_0_1 h1 d__0_2 d__0_2v d__0_3 d__0_3v 5 0 [y0_1,a2] h6 [y9_1] h5 a3_0_0 a3_0_1 a3_0_2 a3_0_3 i2) (Γi:=[Bx d_b [(.int .i64 y0_0_0_0),(h1).v,d__0_2v,d__0_3v],E (List (Sh (Int×Int×List Int×List Int))) y0_0_0_1 h1]) H [1,0] rfl (wA qA (wA qA zA)) ?_;clear H i2
         rintro _ _ w9 ⟨h7,rfl,rfl⟩ H
         refine hold trivial ?_
         exact ⟨((a3_0_0,a3_0_1),h7),⟨rfl,trivial⟩,Option.some.inj f9,H.sel [0,1] rfl⟩
        ·
         exact trivial
      ·
       refine pA ?_ ?_
       ·
        obtain ⟨a5,o1,f10⟩:=aA f7;clear f7
        refine bB (α:=Int) gok rfl rfl rfl rfl H ?_;clear H;intro h8 w10 hx H
        clear hx
        refine hold trivial ?_
        refine cA ((H.rs (α:=List Int) 4 rfl).at1' c0 c1 d0) ?_;clear c0 c1 d0
        refine hold trivial ?_
        replace H:=H.sc (α:=Int) a2
        replace H:=H.sc (α:=Int) y0_1
        refine rC (α:=Int) (us:=[(.int .i64 y0_1),(.int .i64 a2)]) (xs:=[y0_1,a2]) (gs:=[(),()]) gok rfl rfl rfl ⟨rfl,rfl,trivial⟩ rfl rfl H ?_;clear H;intro h9 w12 hx H
        clear hx
        refine hold trivial ?_
        have e:=o1;clear o1
        obtain ⟨a5_0_0,a5_0_1,a5_0_2,a5_0_3⟩:=a5
        have i3:=e;clear e
        replace H:=H.frz
        replace H:=H.sel [1,0,2,3,4,5] rfl
        replace H:=H.frz
        replace H:=H.sel [2,3,0,1,4,5] rfl
        refine aB (tC d_b y0_0_0_0 y0_0_0_1 h1 d__0_2 d__0_2v d__0_3 d__0_3v 5 0 [y0_1,a2] h9 [y9_1] h8 a5_0_0 a5_0_1 a5_0_2 a5_0_3 i3) (Γi:=[Bx d_b [(.int .i64 y0_0_0_0),(h1).v,d__0_2v,d__0_3v],E (List (Sh (Int×Int×List Int×List Int))) y0_0_0_1 h1]) H [1,0] rfl (wA qA (wA qA zA)) ?_;clear H i3
        rintro _ _ w13 ⟨h10,rfl,rfl⟩ H
        refine hold trivial ?_
        exact ⟨((a5_0_0,a5_0_1),h10),⟨rfl,trivial⟩,Option.some.inj f10,H.sel [0,1] rfl⟩
       ·
        exact trivial
     ·
      refine pA ?_ ?_
      ·
       obtain ⟨a7,o2,f11⟩:=aA f6;clear f6
       obtain ⟨a8,o3,f12⟩:=aA f11;clear f11
       refine bB (α:=Int) gok rfl rfl rfl rfl H ?_;clear H;intro h11 w14 hx H
       clear hx
       refine hold trivial ?_
       have e:=o2;clear o2
       have d1:=e;clear e
       obtain ⟨p1,m1,c4,c5,c6,c7⟩:=(H.rs (α:=List Int) 4 rfl).at1 d1;clear c7
       refine dA c4 c5 c6 ?_;clear c6
       refine hold trivial ?_
       refine cA ((H.rs (α:=List Int) 4 rfl).at1' c4 c5 d1) ?_;clear c4 c5 d1
       refine hold trivial ?_
       replace H:=H.sc (α:=Int) a7
       replace H:=H.sc (α:=Int) y0_1
       refine rC (α:=Int) (us:=[(.int .i64 y0_1),(.int .i64 a7)]) (xs:=[y0_1,a7]) (gs:=[(),()]) gok rfl rfl rfl ⟨rfl,rfl,trivial⟩ rfl rfl H ?_;clear H;intro h12 w15 hx H
       clear hx
       refine hold trivial ?_
       have e:=o3;clear o3
       obtain ⟨a8_0_0,a8_0_1,a8_0_2,a8_0_3⟩:=a8
       have i4:=e;clear e
       replace H:=H.frz
       replace H:=H.sel [1,0,2,3,4,5] rfl
       replace H:=H.frz
       replace H:=H.sel [2,3,0,1,4,5] rfl
       refine aB (tC d_b y0_0_0_0 y0_0_0_1 h1 d__0_2 d__0_2v d__0_3 d__0_3v 5 0 [y0_1,a7] h12 [y9_1] h11 a8_0_0 a8_0_1 a8_0_2 a8_0_3 i4) (Γi:=[Bx d_b [(.int .i64 y0_0_0_0),(h1).v,d__0_2v,d__0_3v],E (List (Sh (Int×Int×List Int×List Int))) y0_0_0_1 h1]) H [1,0] rfl (wA qA (wA qA zA)) ?_;clear H i4
       rintro _ _ w16 ⟨h13,rfl,rfl⟩ H
       refine hold trivial ?_
       exact ⟨((a8_0_0,a8_0_1),h13),⟨rfl,trivial⟩,Option.some.inj f12,H.sel [0,1] rfl⟩
      ·
       exact trivial
    ·
     refine pA ?_ ?_
     ·
      obtain ⟨a9,o4,f13⟩:=aA f5;clear f5
      obtain ⟨a10,o5,f14⟩:=aA f13;clear f13
      obtain ⟨a11,o6,f15⟩:=aA f14;clear f14
      have e:=o5;clear o5
      have d2:=e;clear e
      obtain ⟨p2,m2,c8,c9,c10,c11⟩:=(H.rs (α:=List Int) 2 rfl).at1 d2;clear c11
      refine dA c8 c9 c10 ?_;clear c10
      refine hold trivial ?_
      refine pA ?_ ?_
      ·
       have e:=o4;clear o4
       obtain ⟨⟨a9_0_0_0,a9_0_0_1,a9_0_0_2,a9_0_0_3⟩,a9_1⟩:=a9
       have i5:=e;clear e
       replace H:=H.sel [1,3,0,2] rfl
       refine aB (ih d_b y9_0_0_0 d__0_1 d__0_1h d__0_2 d__0_2v d__0_3 d__0_3v a1 h0 a9_0_0_0 a9_0_0_1 a9_0_0_2 a9_0_0_3 a9_1 i5) (Γi:=[Bx d_b [(.int .i64 y9_0_0_0),(d__0_1h).v,d__0_2v,d__0_3v],E (List (Sh (Int×Int×List Int×List Int))) d__0_1 d__0_1h]) H [0] rfl (wA qA zA) ?_;clear H i5
       rintro _ _ w17 ⟨h14,rfl,rfl⟩ H
       refine hold trivial ?_
       refine pA ?_ ?_
       ·
        refine cA ((H.rs (α:=List Int) 3 rfl).at1' c8 c9 d2) ?_;clear c8 c9 d2
        refine hold trivial ?_
        refine pA ?_ ?_
        ·
         replace H:=H.sc (α:=Int) a10
         replace H:=H.sc (α:=Int) a9_1
         refine rC (α:=Int) (us:=[(.int .i64 a9_1),(.int .i64 a10)]) (xs:=[a9_1,a10]) (gs:=[(),()]) gok rfl rfl rfl ⟨rfl,rfl,trivial⟩ rfl rfl H ?_;clear H;intro h15 w18 hx H
         clear hx
         refine hold trivial ?_
         refine bB (α:=Int) gok rfl rfl rfl rfl H ?_;clear H;intro h16 w19 hx H
         clear hx
         refine hold trivial ?_
         have e:=o6;clear o6
         obtain ⟨a11_0_0,a11_0_1,a11_0_2,a11_0_3⟩:=a11
         have i6:=e;clear e
         replace H:=H.sel [1,0,2,3,4,5] rfl
         replace H:=H.frz
         replace H:=H.sel [1,0,2,3,4,5] rfl
         replace H:=H.frz
         replace H:=H.sel [2,3,0,1,4,5] rfl
         refine aB (tC d_b a9_0_0_0 a9_0_0_1 h14 d__0_2 d__0_2v d__0_3 d__0_3v 5 0 [a9_1,a10] h15 [y9_1] h16 a11_0_0 a11_0_1 a11_0_2 a11_0_3 i6) (Γi:=[Bx d_b [(.int .i64 a9_0_0_0),(h14).v,d__0_2v,d__0_3v],E (List (Sh (Int×Int×List Int×List Int))) a9_0_0_1 h14]) H [1,0] rfl (wA qA (wA qA zA)) ?_;clear H i6
         rintro _ _ w20 ⟨h17,rfl,rfl⟩ H
         refine hold trivial ?_
         exact ⟨((a11_0_0,a11_0_1),h17),⟨rfl,trivial⟩,Option.some.inj f15,H.sel [0,1] rfl⟩
        ·
         refine pA ?_ ?_
         ·
          refine bB (α:=Int) gok rfl rfl rfl rfl H ?_;clear H;intro h18 w21 hx H
          clear hx
          refine hold trivial ?_
          replace H:=H.sc (α:=Int) a10
          replace H:=H.sc (α:=Int) a9_1
          refine rC (α:=Int) (us:=[(.int .i64 a9_1),(.int .i64 a10)]) (xs:=[a9_1,a10]) (gs:=[(),()]) gok rfl rfl rfl ⟨rfl,rfl,trivial⟩ rfl rfl H ?_;clear H;intro h19 w22 hx H
          clear hx
          refine hold trivial ?_
          have e:=o6;clear o6
          obtain ⟨a11_0_0,a11_0_1,a11_0_2,a11_0_3⟩:=a11
          have i6:=e;clear e
          replace H:=H.frz
          replace H:=H.sel [1,0,2,3,4,5] rfl
          replace H:=H.frz
          replace H:=H.sel [2,3,0,1,4,5] rfl
          refine aB (tC d_b a9_0_0_0 a9_0_0_1 h14 d__0_2 d__0_2v d__0_3 d__0_3v 5 0 [a9_1,a10] h19 [y9_1] h18 a11_0_0 a11_0_1 a11_0_2 a11_0_3 i6) (Γi:=[Bx d_b [(.int .i64 a9_0_0_0),(h14).v,d__0_2v,d__0_3v],E (List (Sh (Int×Int×List Int×List Int))) a9_0_0_1 h14]) H [1,0] rfl (wA qA (wA qA zA)) ?_;clear H i6
          rintro _ _ w23 ⟨h20,rfl,rfl⟩ H
          refine hold trivial ?_
          exact ⟨((a11_0_0,a11_0_1),h20),⟨rfl,trivial⟩,Option.some.inj f15,H.sel [0,1] rfl⟩
         ·
          exact trivial
       ·
        refine pA ?_ ?_
        ·
         refine bB (α:=Int) gok rfl rfl rfl rfl H ?_;clear H;intro h21 w24 hx H
         clear hx
         refine hold trivial ?_
         refine cA ((H.rs (α:=List Int) 4 rfl).at1' c8 c9 d2) ?_;clear c8 c9 d2
         refine hold trivial ?_
         replace H:=H.sc (α:=Int) a10
         replace H:=H.sc (α:=Int) a9_1
         refine rC (α:=Int) (us:=[(.int .i64 a9_1),(.int .i64 a10)]) (xs:=[a9_1,a10]) (gs:=[(),()]) gok rfl rfl rfl ⟨rfl,rfl,trivial⟩ rfl rfl H ?_;clear H;intro h22 w25 hx H
         clear hx
         refine hold trivial ?_
         have e:=o6;clear o6
         obtain ⟨a11_0_0,a11_0_1,a11_0_2,a11_0_3⟩:=a11
         have i6:=e;clear e
         replace H:=H.frz
         replace H:=H.sel [1,0,2,3,4,5] rfl
         replace H:=H.frz
         replace H:=H.sel [2,3,0,1,4,5] rfl
         refine aB (tC d_b a9_0_0_0 a9_0_0_1 h14 d__0_2 d__0_2v d__0_3 d__0_3v 5 0 [a9_1,a10] h22 [y9_1] h21 a11_0_0 a11_0_1 a11_0_2 a11_0_3 i6) (Γi:=[Bx d_b [(.int .i64 a9_0_0_0),(h14).v,d__0_2v,d__0_3v],E (List (Sh (Int×Int×List Int×List Int))) a9_0_0_1 h14]) H [1,0] rfl (wA qA (wA qA zA)) ?_;clear H i6
         rintro _ _ w26 ⟨h23,rfl,rfl⟩ H
         refine hold trivial ?_
         exact ⟨((a11_0_0,a11_0_1),h23),⟨rfl,trivial⟩,Option.some.inj f15,H.sel [0,1] rfl⟩
        ·
         exact trivial
      ·
       refine pA ?_ ?_
       ·
        refine cA ((H.rs (α:=List Int) 2 rfl).at1' c8 c9 d2) ?_;clear c8 c9 d2
        refine hold trivial ?_
        refine pA ?_ ?_
        ·
         have e:=o4;clear o4
         obtain ⟨⟨a9_0_0_0,a9_0_0_1,a9_0_0_2,a9_0_0_3⟩,a9_1⟩:=a9
         have i5:=e;clear e
         replace H:=H.sel [1,3,0,2] rfl
         refine aB (ih d_b y9_0_0_0 d__0_1 d__0_1h d__0_2 d__0_2v d__0_3 d__0_3v a1 h0 a9_0_0_0 a9_0_0_1 a9_0_0_2 a9_0_0_3 a9_1 i5) (Γi:=[Bx d_b [(.int .i64 y9_0_0_0),(d__0_1h).v,d__0_2v,d__0_3v],E (List (Sh (Int×Int×List Int×List Int))) d__0_1 d__0_1h]) H [0] rfl (wA qA zA) ?_;clear H i5
         rintro _ _ w27 ⟨h24,rfl,rfl⟩ H
         refine hold trivial ?_
         refine pA ?_ ?_
         ·
          replace H:=H.sc (α:=Int) a10
          replace H:=H.sc (α:=Int) a9_1
          refine rC (α:=Int) (us:=[(.int .i64 a9_1),(.int .i64 a10)]) (xs:=[a9_1,a10]) (gs:=[(),()]) gok rfl rfl rfl ⟨rfl,rfl,trivial⟩ rfl rfl H ?_;clear H;intro h25 w28 hx H
          clear hx
          refine hold trivial ?_
          refine bB (α:=Int) gok rfl rfl rfl rfl H ?_;clear H;intro h26 w29 hx H
          clear hx
          refine hold trivial ?_
          have e:=o6;clear o6
          obtain ⟨a11_0_0,a11_0_1,a11_0_2,a11_0_3⟩:=a11
          have i6:=e;clear e
          replace H:=H.sel [1,0,2,3,4,5] rfl
          replace H:=H.frz
          replace H:=H.sel [1,0,2,3,4,5] rfl
          replace H:=H.frz
          replace H:=H.sel [2,3,0,1,4,5] rfl
          refine aB (tC d_b a9_0_0_0 a9_0_0_1 h24 d__0_2 d__0_2v d__0_3 d__0_3v 5 0 [a9_1,a10] h25 [y9_1] h26 a11_0_0 a11_0_1 a11_0_2 a11_0_3 i6) (Γi:=[Bx d_b [(.int .i64 a9_0_0_0),(h24).v,d__0_2v,d__0_3v],E (List (Sh (Int×Int×List Int×List Int))) a9_0_0_1 h24]) H [1,0] rfl (wA qA (wA qA zA)) ?_;clear H i6
          rintro _ _ w30 ⟨h27,rfl,rfl⟩ H
          refine hold trivial ?_
          exact ⟨((a11_0_0,a11_0_1),h27),⟨rfl,trivial⟩,Option.some.inj f15,H.sel [0,1] rfl⟩
         ·
          refine pA ?_ ?_
          ·
           refine bB (α:=Int) gok rfl rfl rfl rfl H ?_;clear H;intro h28 w31 hx H
           clear hx
           refine hold trivial ?_
           replace H:=H.sc (α:=Int) a10
           replace H:=H.sc (α:=Int) a9_1
           refine rC (α:=Int) (us:=[(.int .i64 a9_1),(.int .i64 a10)]) (xs:=[a9_1,a10]) (gs:=[(),()]) gok rfl rfl rfl ⟨rfl,rfl,trivial⟩ rfl rfl H ?_;clear H;intro h29 w32 hx H
           clear hx
           refine hold trivial ?_
           have e:=o6;clear o6
           obtain ⟨a11_0_0,a11_0_1,a11_0_2,a11_0_3⟩:=a11
           have i6:=e;clear e
           replace H:=H.frz
           replace H:=H.sel [1,0,2,3,4,5] rfl
           replace H:=H.frz
           replace H:=H.sel [2,3,0,1,4,5] rfl
           refine aB (tC d_b a9_0_0_0 a9_0_0_1 h24 d__0_2 d__0_2v d__0_3 d__0_3v 5 0 [a9_1,a10] h29 [y9_1] h28 a11_0_0 a11_0_1 a11_0_2 a11_0_3 i6) (Γi:=[Bx d_b [(.int .i64 a9_0_0_0),(h24).v,d__0_2v,d__0_3v],E (List (Sh (Int×Int×List Int×List Int))) a9_0_0_1 h24]) H [1,0] rfl (wA qA (wA qA zA)) ?_;clear H i6
           rintro _ _ w33 ⟨h30,rfl,rfl⟩ H
           refine hold trivial ?_
           exact ⟨((a11_0_0,a11_0_1),h30),⟨rfl,trivial⟩,Option.some.inj f15,H.sel [0,1] rfl⟩
          ·
           exact trivial
        ·
         refine pA ?_ ?_
         ·
          refine bB (α:=Int) gok rfl rfl rfl rfl H ?_;clear H;intro h31 w34 hx H
          clear hx
          refine hold trivial ?_
          have e:=o4;clear o4
          obtain ⟨⟨a9_0_0_0,a9_0_0_1,a9_0_0_2,a9_0_0_3⟩,a9_1⟩:=a9
          have i5:=e;clear e
          replace H:=H.sel [2,4,0,1,3] rfl
          refine aB (ih d_b y9_0_0_0 d__0_1 d__0_1h d__0_2 d__0_2v d__0_3 d__0_3v a1 h0 a9_0_0_0 a9_0_0_1 a9_0_0_2 a9_0_0_3 a9_1 i5) (Γi:=[Bx d_b [(.int .i64 y9_0_0_0),(d__0_1h).v,d__0_2v,d__0_3v],E (List (Sh (Int×Int×List Int×List Int))) d__0_1 d__0_1h]) H [1] rfl (wA qA zA) ?_;clear H i5
          rintro _ _ w35 ⟨h32,rfl,rfl⟩ H
          refine hold trivial ?_
          replace H:=H.sc (α:=Int) a10
          replace H:=H.sc (α:=Int) a9_1
          refine rC (α:=Int) (us:=[(.int .i64 a9_1),(.int .i64 a10)]) (xs:=[a9_1,a10]) (gs:=[(),()]) gok rfl rfl rfl ⟨rfl,rfl,trivial⟩ rfl rfl H ?_;clear H;intro h33 w36 hx H
          clear hx
          refine hold trivial ?_
          have e:=o6;clear o6
          obtain ⟨a11_0_0,a11_0_1,a11_0_2,a11_0_3⟩:=a11
          have i6:=e;clear e
          replace H:=H.frz
          replace H:=H.sel [3,0,1,2,4,5] rfl
          replace H:=H.frz
          replace H:=H.sel [2,3,0,1,4,5] rfl
          refine aB (tC d_b a9_0_0_0 a9_0_0_1 h32 d__0_2 d__0_2v d__0_3 d__0_3v 5 0 [a9_1,a10] h33 [y9_1] h31 a11_0_0 a11_0_1 a11_0_2 a11_0_3 i6) (Γi:=[Bx d_b [(.int .i64 a9_0_0_0),(h32).v,d__0_2v,d__0_3v],E (List (Sh (Int×Int×List Int×List Int))) a9_0_0_1 h32]) H [1,0] rfl (wA qA (wA qA zA)) ?_;clear H i6
          rintro _ _ w37 ⟨h34,rfl,rfl⟩ H
          refine hold trivial ?_
          exact ⟨((a11_0_0,a11_0_1),h34),⟨rfl,trivial⟩,Option.some.inj f15,H.sel [0,1] rfl⟩
         ·
          exact trivial
       ·
        refine pA ?_ ?_
        ·
         refine bB (α:=Int) gok rfl rfl rfl rfl H ?_;clear H;intro h35 w38 hx H
         clear hx
         refine hold trivial ?_
         refine pA ?_ ?_
         ·
          have e:=o4;clear o4
          obtain ⟨⟨a9_0_0_0,a9_0_0_1,a9_0_0_2,a9_0_0_3⟩,a9_1⟩:=a9
          have i5:=e;clear e
          replace H:=H.sel [2,4,0,1,3] rfl
          refine aB (ih d_b y9_0_0_0 d__0_1 d__0_1h d__0_2 d__0_2v d__0_3 d__0_3v a1 h0 a9_0_0_0 a9_0_0_1 a9_0_0_2 a9_0_0_3 a9_1 i5) (Γi:=[Bx d_b [(.int .i64 y9_0_0_0),(d__0_1h).v,d__0_2v,d__0_3v],E (List (Sh (Int×Int×List Int×List Int))) d__0_1 d__0_1h]) H [1] rfl (wA qA zA) ?_;clear H i5
          rintro _ _ w39 ⟨h36,rfl,rfl⟩ H
          refine hold trivial ?_
          refine cA ((H.rs (α:=List Int) 4 rfl).at1' c8 c9 d2) ?_;clear c8 c9 d2
          refine hold trivial ?_
          replace H:=H.sc (α:=Int) a10
          replace H:=H.sc (α:=Int) a9_1
          refine rC (α:=Int) (us:=[(.int .i64 a9_1),(.int .i64 a10)]) (xs:=[a9_1,a10]) (gs:=[(),()]) gok rfl rfl rfl ⟨rfl,rfl,trivial⟩ rfl rfl H ?_;clear H;intro h37 w40 hx H
          clear hx
          refine hold trivial ?_
          have e:=o6;clear o6
          obtain ⟨a11_0_0,a11_0_1,a11_0_2,a11_0_3⟩:=a11
          have i6:=e;clear e
          replace H:=H.frz
          replace H:=H.sel [3,0,1,2,4,5] rfl
          replace H:=H.frz
          replace H:=H.sel [2,3,0,1,4,5] rfl
          refine aB (tC d_b a9_0_0_0 a9_0_0_1 h36 d__0_2 d__0_2v d__0_3 d__0_3v 5 0 [a9_1,a10] h37 [y9_1] h35 a11_0_0 a11_0_1 a11_0_2 a11_0_3 i6) (Γi:=[Bx d_b [(.int .i64 a9_0_0_0),(h36).v,d__0_2v,d__0_3v],E (List (Sh (Int×Int×List Int×List Int))) a9_0_0_1 h36]) H [1,0] rfl (wA qA (wA qA zA)) ?_;clear H i6
          rintro _ _ w41 ⟨h38,rfl,rfl⟩ H
          refine hold trivial ?_
          exact ⟨((a11_0_0,a11_0_1),h38),⟨rfl,trivial⟩,Option.some.inj f15,H.sel [0,1] rfl⟩
         ·
          refine pA ?_ ?_
          ·
           refine cA ((H.rs (α:=List Int) 3 rfl).at1' c8 c9 d2) ?_;clear c8 c9 d2
           refine hold trivial ?_
           have e:=o4;clear o4
           obtain ⟨⟨a9_0_0_0,a9_0_0_1,a9_0_0_2,a9_0_0_3⟩,a9_1⟩:=a9
           have i5:=e;clear e
           replace H:=H.sel [2,4,0,1,3] rfl
           refine aB (ih d_b y9_0_0_0 d__0_1 d__0_1h d__0_2 d__0_2v d__0_3 d__0_3v a1 h0 a9_0_0_0 a9_0_0_1 a9_0_0_2 a9_0_0_3 a9_1 i5) (Γi:=[Bx d_b [(.int .i64 y9_0_0_0),(d__0_1h).v,d__0_2v,d__0_3v],E (List (Sh (Int×Int×List Int×List Int))) d__0_1 d__0_1h]) H [1] rfl (wA qA zA) ?_;clear H i5
           rintro _ _ w42 ⟨h39,rfl,rfl⟩ H
           refine hold trivial ?_
           replace H:=H.sc (α:=Int) a10
           replace H:=H.sc (α:=Int) a9_1
           refine rC (α:=Int) (us:=[(.int .i64 a9_1),(.int .i64 a10)]) (xs:=[a9_1,a10]) (gs:=[(),()]) gok rfl rfl rfl ⟨rfl,rfl,trivial⟩ rfl rfl H ?_;clear H;intro h40 w43 hx H
           clear hx
           refine hold trivial ?_
           have e:=o6;clear o6
           obtain ⟨a11_0_0,a11_0_1,a11_0_2,a11_0_3⟩:=a11
           have i6:=e;clear e
           replace H:=H.frz
           replace H:=H.sel [3,0,1,2,4,5] rfl
           replace H:=H.frz
           replace H:=H.sel [2,3,0,1,4,5] rfl
           refine aB (tC d_b a9_0_0_0 a9_0_0_1 h39 d__0_2 d__0_2v d__0_3 d__0_3v 5 0 [a9_1,a10] h40 [y9_1] h35 a11_0_0 a11_0_1 a11_0_2 a11_0_3 i6) (Γi:=[Bx d_b [(.int .i64 a9_0_0_0),(h39).v,d__0_2v,d__0_3v],E (List (Sh (Int×Int×List Int×List Int))) a9_0_0_1 h39]) H [1,0] rfl (wA qA (wA qA zA)) ?_;clear H i6
           rintro _ _ w44 ⟨h41,rfl,rfl⟩ H
           refine hold trivial ?_
           exact ⟨((a11_0_0,a11_0_1),h41),⟨rfl,trivial⟩,Option.some.inj f15,H.sel [0,1] rfl⟩
          ·
           exact trivial
        ·
         exact trivial
     ·
      refine pA ?_ ?_
      ·
       obtain ⟨a13,o7,f16⟩:=aA f5;clear f5
       obtain ⟨a14,o8,f17⟩:=aA f16;clear f16
       obtain ⟨a15,o9,f18⟩:=aA f17;clear f17
       refine bB (α:=Int) gok rfl rfl rfl rfl H ?_;clear H;intro h42 w45 hx H
       clear hx
       refine hold trivial ?_
       refine pA ?_ ?_
       ·
        have e:=o7;clear o7
        obtain ⟨⟨a13_0_0_0,a13_0_0_1,a13_0_0_2,a13_0_0_3⟩,a13_1⟩:=a13
        have i7:=e;clear e
        replace H:=H.sel [2,4,0,1,3] rfl
        refine aB (ih d_b y9_0_0_0 d__0_1 d__0_1h d__0_2 d__0_2v d__0_3 d__0_3v a1 h0 a13_0_0_0 a13_0_0_1 a13_0_0_2 a13_0_0_3 a13_1 i7) (Γi:=[Bx d_b [(.int .i64 y9_0_0_0),(d__0_1h).v,d__0_2v,d__0_3v],E (List (Sh (Int×Int×List Int×List Int))) d__0_1 d__0_1h]) H [1] rfl (wA qA zA) ?_;clear H i7
        rintro _ _ w46 ⟨h43,rfl,rfl⟩ H
        refine hold trivial ?_
        have e:=o8;clear o8
        have d3:=e;clear e
        obtain ⟨p3,m3,c12,c13,c14,c15⟩:=(H.rs (α:=List Int) 4 rfl).at1 d3;clear c15
        refine dA c12 c13 c14 ?_;clear c14
        refine hold trivial ?_
        refine cA ((H.rs (α:=List Int) 4 rfl).at1' c12 c13 d3) ?_;clear c12 c13 d3
        refine hold trivial ?_
        replace H:=H.sc (α:=Int) a14
        replace H:=H.sc (α:=Int) a13_1
        refine rC (α:=Int) (us:=[(.int .i64 a13_1),(.int .i64 a14)]) (xs:=[a13_1,a14]) (gs:=[(),()]) gok rfl rfl rfl ⟨rfl,rfl,trivial⟩ rfl rfl H ?_;clear H;intro h44 w47 hx H
        clear hx
        refine hold trivial ?_
        have e:=o9;clear o9
        obtain ⟨a15_0_0,a15_0_1,a15_0_2,a15_0_3⟩:=a15
        have i8:=e;clear e
        replace H:=H.frz
        replace H:=H.sel [3,0,1,2,4,5] rfl
        replace H:=H.frz
        replace H:=H.sel [2,3,0,1,4,5] rfl
        refine aB (tC d_b a13_0_0_0 a13_0_0_1 h43 d__0_2 d__0_2v d__0_3 d__0_3v 5 0 [a13_1,a14] h44 [y9_1] h42 a15_0_0 a15_0_1 a15_0_2 a15_0_3 i8) (Γi:=[Bx d_b [(.int .i64 a13_0_0_0),(h43).v,d__0_2v,d__0_3v],E (List (Sh (Int×Int×List Int×List Int))) a13_0_0_1 h43]) H [1,0] rfl (wA qA (wA qA zA)) ?_;clear H i8
        rintro _ _ w48 ⟨h45,rfl,rfl⟩ H
        refine hold trivial ?_
        exact ⟨((a15_0_0,a15_0_1),h45),⟨rfl,trivial⟩,Option.some.inj f18,H.sel [0,1] rfl⟩
       ·
        refine pA ?_ ?_
        ·
         have e:=o8;clear o8
         have d4:=e;clear e
         obtain ⟨p4,m4,c16,c17,c18,c19⟩:=(H.rs (α:=List Int) 3 rfl).at1 d4;clear c19
         refine dA c16 c17 c18 ?_;clear c18
         refine hold trivial ?_
         refine pA ?_ ?_
         ·
          have e:=o7;clear o7
          obtain ⟨⟨a13_0_0_0,a13_0_0_1,a13_0_0_2,a13_0_0_3⟩,a13_1⟩:=a13
          have i7:=e;clear e
          replace H:=H.sel [2,4,0,1,3] rfl
          refine aB (ih d_b y9_0_0_0 d__0_1 d__0_1h d__0_2 d__0_2v d__0_3 d__0_3v a1 h0 a13_0_0_0 a13_0_0_1 a13_0_0_2 a13_0_0_3 a13_1 i7) (Γi:=[Bx d_b [(.int .i64 y9_0_0_0),(d__0_1h).v,d__0_2v,d__0_3v],E (List (Sh (Int×Int×List Int×List Int))) d__0_1 d__0_1h]) H [1] rfl (wA qA zA) ?_;clear H i7
          rintro _ _ w49 ⟨h46,rfl,rfl⟩ H
          refine hold trivial ?_
          refine cA ((H.rs (α:=List Int) 4 rfl).at1' c16 c17 d4) ?_;clear c16 c17 d4
          refine hold trivial ?_
          replace H:=H.sc (α:=Int) a14
          replace H:=H.sc (α:=Int) a13_1
          refine rC (α:=Int) (us:=[(.int .i64 a13_1),(.int .i64 a14)]) (xs:=[a13_1,a14]) (gs:=[(),()]) gok rfl rfl rfl ⟨rfl,rfl,trivial⟩ rfl rfl H ?_;clear H;intro h47 w50 hx H
          clear hx
          refine hold trivial ?_
          have e:=o9;clear o9
          obtain ⟨a15_0_0,a15_0_1,a15_0_2,a15_0_3⟩:=a15
          have i8:=e;clear e
          replace H:=H.frz
          replace H:=H.sel [3,0,1,2,4,5] rfl
          replace H:=H.frz
          replace H:=H.sel [2,3,0,1,4,5] rfl
          refine aB (tC d_b a13_0_0_0 a13_0_0_1 h46 d__0_2 d__0_2v d__0_3 d__0_3v 5 0 [a13_1,a14] h47 [y9_1] h42 a15_0_0 a15_0_1 a15_0_2 a15_0_3 i8) (Γi:=[Bx d_b [(.int .i64 a13_0_0_0),(h46).v,d__0_2v,d__0_3v],E (List (Sh (Int×Int×List Int×List Int))) a13_0_0_1 h46]) H [1,0] rfl (wA qA (wA qA zA)) ?_;clear H i8
          rintro _ _ w51 ⟨h48,rfl,rfl⟩ H
          refine hold trivial ?_
          exact ⟨((a15_0_0,a15_0_1),h48),⟨rfl,trivial⟩,Option.some.inj f18,H.sel [0,1] rfl⟩
         ·
          refine pA ?_ ?_
          ·
           refine cA ((H.rs (α:=List Int) 3 rfl).at1' c16 c17 d4) ?_;clear c16 c17 d4
           refine hold trivial ?_
           have e:=o7;clear o7
           obtain ⟨⟨a13_0_0_0,a13_0_0_1,a13_0_0_2,a13_0_0_3⟩,a13_1⟩:=a13
           have i7:=e;clear e
           replace H:=H.sel [2,4,0,1,3] rfl
           refine aB (ih d_b y9_0_0_0 d__0_1 d__0_1h d__0_2 d__0_2v d__0_3 d__0_3v a1 h0 a13_0_0_0 a13_0_0_1 a13_0_0_2 a13_0_0_3 a13_1 i7) (Γi:=[Bx d_b [(.int .i64 y9_0_0_0),(d__0_1h).v,d__0_2v,d__0_3v],E (List (Sh (Int×Int×List Int×List Int))) d__0_1 d__0_1h]) H [1] rfl (wA qA zA) ?_;clear H i7
           rintro _ _ w52 ⟨h49,rfl,rfl⟩ H
           refine hold trivial ?_
           replace H:=H.sc (α:=Int) a14
           replace H:=H.sc (α:=Int) a13_1
           refine rC (α:=Int) (us:=[(.int .i64 a13_1),(.int .i64 a14)]) (xs:=[a13_1,a14]) (gs:=[(),()]) gok rfl rfl rfl ⟨rfl,rfl,trivial⟩ rfl rfl H ?_;clear H;intro h50 w53 hx H
           clear hx
           refine hold trivial ?_
           have e:=o9;clear o9
           obtain ⟨a15_0_0,a15_0_1,a15_0_2,a15_0_3⟩:=a15
           have i8:=e;clear e
           replace H:=H.frz
           replace H:=H.sel [3,0,1,2,4,5] rfl
           replace H:=H.frz
           replace H:=H.sel [2,3,0,1,4,5] rfl
           refine aB (tC d_b a13_0_0_0 a13_0_0_1 h49 d__0_2 d__0_2v d__0_3 d__0_3v 5 0 [a13_1,a14] h50 [y9_1] h42 a15_0_0 a15_0_1 a15_0_2 a15_0_3 i8) (Γi:=[Bx d_b [(.int .i64 a13_0_0_0),(h49).v,d__0_2v,d__0_3v],E (List (Sh (Int×Int×List Int×List Int))) a13_0_0_1 h49]) H [1,0] rfl (wA qA (wA qA zA)) ?_;clear H i8
           rintro _ _ w54 ⟨h51,rfl,rfl⟩ H
           refine hold trivial ?_
           exact ⟨((a15_0_0,a15_0_1),h51),⟨rfl,trivial⟩,Option.some.inj f18,H.sel [0,1] rfl⟩
          ·
           exact trivial
        ·
         exact trivial
      ·
       exact trivial
   ·
    clear f3 H
    rintro T0 ⟨⟨s0_0,s0_1⟩,g0⟩ w55 ⟨hr,(H:Cx w0 fp0 S0 w55 [Bx d_b [(.int .i64 s0_0),(g0).v,d__0_2v,d__0_3v],E (List (Sh (Int×Int×List Int×List Int))) s0_1 g0])⟩
    subst hr
    cases f4
    exact ⟨_,_,rfl,⟨g0,rfl,rfl⟩,(H.sel [0,1] rfl)⟩
  ·
   have f19:=eA f1;clear f1
   refine bB (α:=Int) gok rfl rfl rfl rfl H ?_;clear H;intro h52 w56 hx H
   clear hx
   replace H:=H.nil (α:=Int)
   obtain ⟨y3,e,f20⟩:=aA f19;clear f19
   obtain ⟨y3_0_0,y3_0_1,y3_0_2,y3_0_3⟩:=y3
   have i9:=e;clear e
   replace H:=H.frz
   replace H:=H.sel [1,0,2,3,4] rfl
   replace H:=H.frz
   replace H:=H.sel [2,4,0,1,3] rfl
   refine aB (tC d_b y9_0_0_0 d__0_1 d__0_1h d__0_2 d__0_2v d__0_3 d__0_3v 6 0 [] nilH [y9_1] h52 y3_0_0 y3_0_1 y3_0_2 y3_0_3 i9) (Γi:=[Bx d_b [(.int .i64 y9_0_0_0),(d__0_1h).v,d__0_2v,d__0_3v],E (List (Sh (Int×Int×List Int×List Int))) d__0_1 d__0_1h]) H [1,0] rfl (wA qA (wA qA zA)) ?_;clear H i9
   rintro _ _ w57 ⟨h53,rfl,rfl⟩ H
   cases f20
   exact ⟨_,_,rfl,⟨h53,rfl,rfl⟩,(H.sel [0,1] rfl)⟩
 ·
  have f21:=eA hF7;clear hF7
  obtain ⟨a16,e,f22⟩:=aA f21;clear f21
  obtain ⟨p5,m5,c20,c21,c22,c23⟩:=(H.rs (α:=List Int) 0 rfl).at1 e;clear e
  refine dA c20 c21 c22 ?_;clear c20 c21 c22
  refine cA c23 ?_;clear c23
  cases f22
  exact ⟨_,_,rfl,⟨d__0_1h,rfl,rfl⟩,(H.sel [1,2] rfl)⟩
theorem BA_ (d_b:Nat) (d__0_0:Int) (d__0_1:List (Int×Int×List Int×List Int)) (d__0_1h:Hd) (d__0_2:List Int) (d__0_2v:Value) (d__0_3:List Int) (d__0_3v:Value) (list_:List Int) (list_h:Hd) (y0_0_0:Int) (y0_0_1:List (Int×Int×List Int×List Int)) (y0_0_2:List Int) (y0_0_3:List Int) (y1:Int) (hF:zQ (d__0_0,d__0_1,d__0_2,d__0_3) list_=some ((y0_0_0,y0_0_1,y0_0_2,y0_0_3),y1)) :
  uD Tryz.prog 65 #[(.pointer (some ⟨d_b,0,none⟩)),(list_h).v] [Es (List Int) list_ list_h] [Bx d_b [(.int .i64 d__0_0),(d__0_1h).v,d__0_2v,d__0_3v],E (List (Sh (Int×Int×List Int×List Int))) d__0_1 d__0_1h] (fun v Γ'=>∃ z0:Hd,v=(.int .i64 y1)∧Γ'=[Bx d_b [(.int .i64 y0_0_0),(z0).v,d__0_2v,d__0_3v],E (List (Sh (Int×Int×List Int×List Int))) y0_0_1 z0]):=Bs_ _ d_b d__0_0 d__0_1 d__0_1h d__0_2 d__0_2v d__0_3 d__0_3v list_ list_h y0_0_0 y0_0_1 y0_0_2 y0_0_3 y1 hF
theorem Bf_ (d_b:Nat) (d__0_0:Int) (d__0_1:List (Int×Int×List Int×List Int)) (d__0_1h:Hd) (d__0_2:List Int) (d__0_2v:Value) (d__0_3:List Int) (d__0_3v:Value) (ins_:List Int) (ins_h:Hd) (rows_:List (List Int)) (rows_h:Hd) (cols_:Int) (y0_0_0:Int) (y0_0_1:List (Int×Int×List Int×List Int)) (y0_0_2:List Int) (y0_0_3:List Int) (y1:List Int) (hF:mQ (d__0_0,d__0_1,d__0_2,d__0_3) ins_ rows_ cols_=some ((y0_0_0,y0_0_1,y0_0_2,y0_0_3),y1)) :
  uD Tryz.prog 41 #[(.pointer (some ⟨d_b,0,none⟩)),(ins_h).v,(rows_h).v,(.int .i64 cols_)] [Es (List Int) ins_ ins_h,Es (List (List Int)) rows_ rows_h] [Bx d_b [(.int .i64 d__0_0),(d__0_1h).v,d__0_2v,d__0_3v],E (List (Sh (Int×Int×List Int×List Int))) d__0_1 d__0_1h] (fun v Γ'=>∃ z0 z1:Hd,v=(z1).v∧Γ'=[Bx d_b [(.int .i64 y0_0_0),(z0).v,d__0_2v,d__0_3v],E (List (Sh (Int×Int×List Int×List Int))) y0_0_1 z0,Es (List Int) y1 z1]):=by
 intro w0 S0 fp0 hI hS
 have H:Cx w0 fp0 S0 w0 [Es (List Int) ins_ ins_h,Es (List (List Int)) rows_ rows_h,Bx d_b [(.int .i64 d__0_0),(d__0_1h).v,d__0_2v,d__0_3v],E (List (Sh (Int×Int×List Int×List Int))) d__0_1 d__0_1h]:=Cx.start hI hS
 clear hI hS
 refine lA (args:=[_,_,_,_]) gok Tryz.func41 rfl _ rfl rfl rfl ?_
 obtain ⟨a5,e,hF6⟩:=aA hF;clear hF
 refine qD (α:=List Int) gok rfl rfl rfl rfl (cE e) H ?_;clear e H;intro h8 w7 hx H
 clear hx
 refine sq ?_
 refine kA (H.rs (α:=List (List Int)) 2 rfl).len ?_
 have x0:=(H.rs (α:=List (List Int)) 2 rfl).max
 obtain ⟨r0,e,f0⟩:=aA hF6;clear hF6
 refine fB _ rows_.length (fun (k0:Nat) (s0:Int×(List (Int×Int×List Int×List Int))×List (List Int)) (g0:Hd)=>[(0,(.pointer (some ⟨d_b,0,none⟩))),(1,(ins_h).v),(9,(h8).v),(25,(rows_h).v),(26,(.int .i64 ((rows_.length:Nat):Int))),(27,(.int .i64 ((k0:Nat):Int)))]) (fun _ (s0:Int×(List (Int×Int×List Int×List Int))×List (List Int)) (g0:Hd) w'=>Cx w0 fp0 S0 w' [Bx d_b [(.int .i64 s0.1),(g0).v,d__0_2v,d__0_3v],E (List (Sh (Int×Int×List Int×List Int))) s0.2.1 g0,Es (List Int) ins_ ins_h,E (List (List Int)) s0.2.2 h8,Es (List (List Int)) rows_ rows_h]) (d__0_0,d__0_1,a5) d__0_1h e ⟨rfl,rfl,rfl,rfl,rfl,rfl,trivial⟩ (H.sel [3,4,1,0,2] rfl) ?_ ?_
 ·
  clear H e
  rintro T0 k0 ⟨s0_0,s0_1,s0_2⟩ g0 w1 o0 hk (H:Cx w0 fp0 S0 w1 [Bx d_b [(.int .i64 s0_0),(g0).v,d__0_2v,d__0_3v],E (List (Sh (Int×Int×List Int×List Int))) s0_1 g0,Es (List Int) ins_ ins_h,E (List (List Int)) s0_2 h8,Es (List (List Int)) rows_ rows_h]) f1
  refine jA (z:=true) (cB hk) ?_
  refine sq ?_
  refine sq ?_
  obtain ⟨a0,e,f2⟩:=aA f1;clear f1
  have HH:=H;clear H;obtain ⟨p0,m0,h0,c0,c1,c2,c3,H⟩:=HH.elL 4 rfl e;clear HH
  clear e
  refine dA c0 c1 c2 ?_;clear c0 c1 c2
  refine cA c3 ?_;clear c3
  refine lit0 (α:=Int) gok rfl rfl H ?_;clear H;intro h1 w2 hx H
  clear hx
  refine sq ?_
  refine kA (H.rs (α:=List Int) 1 rfl).len ?_
  have x1:=(H.rs (α:=List Int) 1 rfl).max
  obtain ⟨r1,e,f3⟩:=aA f2;clear f2
  refine fB _ a0.length (fun (k1:Nat) (s1:List Int) (g1:Hd)=>[(0,(.pointer (some ⟨d_b,0,none⟩))),(1,(ins_h).v),(9,(h8).v),(10,(.int .i64 ((k0:Nat):Int))),(11,(h0).v),(12,(g1).v),(25,(rows_h).v),(26,(.int .i64 ((rows_.length:Nat):Int))),(27,(.int .i64 ((k0:Nat):Int))),(33,(h0).v),(34,(.int .i64 ((a0.length:Nat):Int))),(35,(.int .i64 ((k1:Nat):Int)))]) (fun _ (s1:List Int) (g1:Hd) w'=>Cx w0 fp0 S0 w' [Bx d_b [(.int .i64 s0_0),(g0).v,d__0_2v,d__0_3v],E (List (Sh (Int×Int×List Int×List Int))) s0_1 g0,Es (List Int) ins_ ins_h,E (List (List Int)) s0_2 h8,Es (List Int) a0 h0,E (List Int) s1 g1,Es (List (List Int)) rows_ rows_h]) ([]:List Int) h1 e ⟨rfl,rfl,rfl,rfl,rfl,rfl,rfl,rfl,rfl,rfl,rfl,rfl,trivial⟩ (H.sel [2,3,4,5,1,0,6] rfl) ?_ ?_
  ·
   clear H e
   rintro T1 k1 s1 g1 w3 o1 hk (H:Cx w0 fp0 S0 w3 [Bx d_b [(.int .i64 s0_0),(g0).v,d__0_2v,d__0_3v],E (List (Sh (Int×Int×List Int×List Int))) s0_1 g0,Es (List Int) ins_ ins_h,E (List (List Int)) s0_2 h8,Es (List Int) a0 h0,E (List Int) s1 g1,Es (List (List Int)) rows_ rows_h]) f4
   refine jA (z:=true) (cB hk) ?_
   refine sq ?_
   refine sq ?_
   obtain ⟨a1,e,f5⟩:=aA f4;clear f4
   obtain ⟨p1,m1,c4,c5,c6,c7⟩:=(H.rs (α:=List Int) 4 rfl).at1 e;clear e
   refine dA c4 c5 c6 ?_;clear c4 c5 c6
   refine cA c7 ?_;clear c7
   obtain ⟨a2,e,f6⟩:=aA f5;clear f5
   refine gA e ?_;clear e
   cases a2
   ·
    have f7:=fA f6;clear f6
    refine arK hk x1 ?_
    have hs:=Option.some.inj f7;subst hs;clear f7
    exact ⟨g1,⟨rfl,rfl,rfl,rfl,rfl,rfl,rfl,rfl,rfl,rfl,rfl,rfl,trivial⟩,H.sel [0,1,2,3,4,5,6] rfl⟩
   ·
    have f8:=eA f6;clear f6
    refine bB (α:=Int) gok rfl rfl rfl rfl H ?_;clear H;intro h2 w4 hx H
    clear hx
    obtain ⟨a3,e,f9⟩:=aA f8;clear f8
    replace H:=H.sel [6,0,1,2,3,4,5,7] rfl
    refine append_ (α:=Int) gok rfl rfl rfl rfl H e ?_;clear e H;intro h3 w5 H
    refine arK hk x1 ?_
    have hs:=Option.some.inj f9;subst hs;clear f9
    exact ⟨h3,⟨rfl,rfl,rfl,rfl,rfl,rfl,rfl,rfl,rfl,rfl,rfl,rfl,trivial⟩,H.sel [1,2,3,4,5,0,6] rfl⟩
  ·
   clear H e
   rintro T2 g2 w6 (H:Cx w0 fp0 S0 w6 [Bx d_b [(.int .i64 s0_0),(g0).v,d__0_2v,d__0_3v],E (List (Sh (Int×Int×List Int×List Int))) s0_1 g0,Es (List Int) ins_ ins_h,E (List (List Int)) s0_2 h8,Es (List Int) a0 h0,E (List Int) r1 g2,Es (List (List Int)) rows_ rows_h])
   refine jA (z:=false) dB ?_
   refine sq ?_
   obtain ⟨a4,e,f10⟩:=aA f3;clear f3
   obtain ⟨p2,m2,c8,c9,c10,c11⟩:=(H.rs (α:=List Int) 2 rfl).at1 e;clear e
   refine dA c8 c9 c10 ?_;clear c8 c9 c10
   refine cA c11 ?_;clear c11
   refine kA (H.ro (α:=List Int) 5 rfl).len ?_
   obtain ⟨y0,e,f11⟩:=aA f10;clear f10
   obtain ⟨⟨y0_0_0_0,y0_0_0_1,y0_0_0_2,y0_0_0_3⟩,y0_1⟩:=y0
   have i0:=e;clear e
   refine aB (Bh_ d_b s0_0 s0_1 g0 d__0_2 d__0_2v d__0_3 d__0_3v a4 ((r1.length:Nat):Int) y0_0_0_0 y0_0_0_1 y0_0_0_2 y0_0_0_3 y0_1 i0) (Γi:=[Bx d_b [(.int .i64 s0_0),(g0).v,d__0_2v,d__0_3v],E (List (Sh (Int×Int×List Int×List Int))) s0_1 g0]) H [] rfl zA ?_;clear H i0
   rintro _ _ w8 ⟨h4,h5,rfl,rfl⟩ H
   refine kA (H.rs (α:=List Int) 2 rfl).len ?_
   have x2:=(H.rs (α:=List Int) 2 rfl).max
   obtain ⟨r2,e,f12⟩:=aA f11;clear f11
   refine fB _ y0_1.length (fun (k2:Nat) (s2:Int×(List (Int×Int×List Int×List Int))×List (List Int)) (g3:Hd)=>[(0,(.pointer (some ⟨d_b,0,none⟩))),(1,(ins_h).v),(9,(h8).v),(11,(h0).v),(12,(g2).v),(25,(rows_h).v),(26,(.int .i64 ((rows_.length:Nat):Int))),(27,(.int .i64 ((k0:Nat):Int))),(54,(h5).v),(55,(.int .i64 ((y0_1.length:Nat):Int))),(56,(.int .i64 ((k2:Nat):Int)))]) (fun _ (s2:Int×(List (Int×Int×List Int×List Int))×List (List Int)) (g3:Hd) w'=>Cx w0 fp0 S0 w' [Bx d_b [(.int .i64 s2.1),(g3).v,d__0_2v,d__0_3v],E (List (Sh (Int×Int×List Int×List Int))) s2.2.1 g3,Es (List Int) ins_ ins_h,E (List (List Int)) s2.2.2 h8,Es (List Int) a0 h0,E (List Int) r1 g2,Es (List (List Int)) rows_ rows_h,Es (List Int) y0_1 h5]) (y0_0_0_0,y0_0_0_1,s0_2) h4 e ⟨rfl,rfl,rfl,rfl,rfl,rfl,rfl,rfl,rfl,rfl,rfl,trivial⟩ (H.sel [0,1,3,4,5,6,7,2] rfl) ?_ ?_
   ·
    clear H e
    rintro T3 k2 ⟨s2_0,s2_1,s2_2⟩ g3 w9 o2 hk (H:Cx w0 fp0 S0 w9 [Bx d_b [(.int .i64 s2_0),(g3).v,d__0_2v,d__0_3v],E (List (Sh (Int×Int×List Int×List Int))) s2_1 g3,Es (List Int) ins_ ins_h,E (List (List Int)) s2_2 h8,Es (List Int) a0 h0,E (List Int) r1 g2,Es (List (List Int)) rows_ rows_h,Es (List Int) y0_1 h5]) f13
    refine jA (z:=true) (cB hk) ?_
    refine sq ?_
    refine sq ?_
    obtain ⟨a6,e,f14⟩:=aA f13;clear f13
    obtain ⟨p3,m3,c12,c13,c14,c15⟩:=(H.rs (α:=List Int) 7 rfl).at1 e;clear e
    refine dA c12 c13 c14 ?_;clear c12 c13 c14
    refine cA c15 ?_;clear c15
    obtain ⟨a7,e,f15⟩:=aA f14;clear f14
    obtain ⟨p4,m4,c16,c17,c18,c19⟩:=(H.ro (α:=List Int) 5 rfl).at1 e;clear e
    refine dA c16 c17 c18 ?_;clear c16 c17 c18
    refine cA c19 ?_;clear c19
    obtain ⟨r3,f16,f17⟩:=aA f15;clear f15
    refine cut (fun (q0:(Int×(List (Int×Int×List Int×List Int))×Int)×Hd)=>[(0,(.pointer (some ⟨d_b,0,none⟩))),(1,(ins_h).v),(9,(h8).v),(11,(h0).v),(12,(g2).v),(16,(.int .i64 q0.1.2.2)),(17,(.int .i64 a7)),(25,(rows_h).v),(26,(.int .i64 ((rows_.length:Nat):Int))),(27,(.int .i64 ((k0:Nat):Int))),(54,(h5).v),(55,(.int .i64 ((y0_1.length:Nat):Int))),(56,(.int .i64 ((k2:Nat):Int)))]) (fun (q0:(Int×(List (Int×Int×List Int×List Int))×Int)×Hd) w'=>(q0.1.1,q0.1.2.1,q0.1.2.2)=r3∧Cx w0 fp0 S0 w' [Bx d_b [(.int .i64 q0.1.1),(q0.2).v,d__0_2v,d__0_3v],E (List (Sh (Int×Int×List Int×List Int))) q0.1.2.1 q0.2,Es (List Int) ins_ ins_h,E (List (List Int)) s2_2 h8,Es (List Int) a0 h0,E (List Int) r1 g2,Es (List (List Int)) rows_ rows_h,Es (List Int) y0_1 h5]) ?_ ?_
    ·
     obtain ⟨a8,e,f18⟩:=aA f16;clear f16
     obtain ⟨p5,m5,c20,c21,c22,c23⟩:=(H.rs (α:=List Int) 4 rfl).at1 e;clear e
     refine dA c20 c21 c22 ?_;clear c20 c21 c22
     refine cA c23 ?_;clear c23
     obtain ⟨a9,e,f19⟩:=aA f18;clear f18
     refine gA e ?_;clear e
     cases a9
     ·
      have f20:=fA f19;clear f19
      exact ⟨((s2_0,s2_1,a6),g3),⟨rfl,rfl,rfl,rfl,rfl,rfl,rfl,rfl,rfl,rfl,rfl,rfl,rfl,trivial⟩,Option.some.inj f20,H.sel [0,1,2,3,4,5,6,7] rfl⟩
     ·
      have f21:=eA f19;clear f19
      obtain ⟨y2,e,f22⟩:=aA f21;clear f21
      obtain ⟨⟨y2_0_0_0,y2_0_0_1,y2_0_0_2,y2_0_0_3⟩,y2_1⟩:=y2
      have i1:=e;clear e
      refine iA (zK d_b s2_0 s2_1 ((g3).v) d__0_2 d__0_2v d__0_3 d__0_3v y2_0_0_0 y2_0_0_1 y2_0_0_2 y2_0_0_3 y2_1 i1) (Γi:=[Bx d_b [(.int .i64 s2_0),(g3).v,d__0_2v,d__0_3v]]) H trivial ?_;clear H i1
      rintro _ _ w10 ⟨rfl,rfl⟩ H
      refine bB (α:=Int) gok rfl rfl rfl rfl H ?_;clear H;intro h6 w11 hx H
      clear hx
      refine bB (α:=Int) gok rfl rfl rfl rfl H ?_;clear H;intro h7 w12 hx H
      clear hx
      obtain ⟨y3,e,f23⟩:=aA f22;clear f22
      obtain ⟨y3_0_0,y3_0_1,y3_0_2,y3_0_3⟩:=y3
      have i2:=e;clear e
      replace H:=H.sel [1,0,2,3,4,5,6,7,8,9] rfl
      replace H:=H.frz
      replace H:=H.sel [1,0,2,3,4,5,6,7,8,9] rfl
      replace H:=H.frz
      replace H:=H.sel [2,3,0,1,4,5,6,7,8,9] rfl
      refine aB (tC d_b y2_0_0_0 s2_1 g3 d__0_2 d__0_2v d__0_3 d__0_3v 7 a8 [a6] h6 [y2_1] h7 y3_0_0 y3_0_1 y3_0_2 y3_0_3 i2) (Γi:=[Bx d_b [(.int .i64 y2_0_0_0),(g3).v,d__0_2v,d__0_3v],E (List (Sh (Int×Int×List Int×List Int))) s2_1 g3]) H [1,0] rfl (wA qA (wA qA zA)) ?_;clear H i2
      rintro _ _ w13 ⟨h9,rfl,rfl⟩ H
      exact ⟨((y3_0_0,y3_0_1,y2_1),h9),⟨rfl,rfl,rfl,rfl,rfl,rfl,rfl,rfl,rfl,rfl,rfl,rfl,rfl,trivial⟩,Option.some.inj f23,H.sel [0,1,4,5,6,7,8,9] rfl⟩
    ·
     clear f16 H
     rintro T4 ⟨⟨s3_0,s3_1,s3_2⟩,g4⟩ w14 ⟨hr,(H:Cx w0 fp0 S0 w14 [Bx d_b [(.int .i64 s3_0),(g4).v,d__0_2v,d__0_3v],E (List (Sh (Int×Int×List Int×List Int))) s3_1 g4,Es (List Int) ins_ ins_h,E (List (List Int)) s2_2 h8,Es (List Int) a0 h0,E (List Int) r1 g2,Es (List (List Int)) rows_ rows_h,Es (List Int) y0_1 h5])⟩
     subst hr
     obtain ⟨a10,e,f24⟩:=aA f17;clear f17
     replace H:=H.sel [3,0,1,2,4,5,6,7] rfl
     replace H:=H.toEH (α:=List Int)
     have HH:=H;clear H;obtain ⟨p6,m6,h10,c24,c25,c26,c27,H⟩:=HH.peekL e;clear HH
     clear e
     refine dA c24 c25 c26 ?_
     refine cA c27 ?_;clear c27
     refine bB (α:=Int) gok rfl rfl rfl rfl H ?_;clear H;intro h11 w15 hx H
     clear hx
     replace H:=H.sel [1,0,2,3,4,5,6,7,8] rfl
     replace H:=H.takeK 0 rfl
     obtain ⟨a11,e,f25⟩:=aA f24;clear f24
     replace H:=H.sel [0,2,1,3,4,5,6,7,8,9] rfl
     refine append_ (α:=Int) gok rfl rfl rfl rfl H e ?_;clear e H;intro h12 w16 H
     refine dA c24 c25 c26 ?_
     replace H:=H.sel [1,0,2,3,4,5,6,7,8] rfl
     refine stX0 H c24 rfl rfl ?_;clear H;intro w17 H
     obtain ⟨a12,e,f26⟩:=aA f25;clear f25
     replace H:=H.sel [1,0,2,3,4,5,6,7,8] rfl
     replace H:=H.put c25 e;clear e
     refine arK hk x2 ?_
     have hs:=Option.some.inj f26;subst hs;clear f26
     exact ⟨g4,⟨rfl,rfl,rfl,rfl,rfl,rfl,rfl,rfl,rfl,rfl,rfl,trivial⟩,H.sel [1,2,3,0,4,5,6,7] rfl⟩
   ·
    clear H e
    obtain ⟨s4_0,s4_1,s4_2⟩:=r2
    rintro T5 g5 w18 (H:Cx w0 fp0 S0 w18 [Bx d_b [(.int .i64 s4_0),(g5).v,d__0_2v,d__0_3v],E (List (Sh (Int×Int×List Int×List Int))) s4_1 g5,Es (List Int) ins_ ins_h,E (List (List Int)) s4_2 h8,Es (List Int) a0 h0,E (List Int) r1 g2,Es (List (List Int)) rows_ rows_h,Es (List Int) y0_1 h5])
    refine jA (z:=false) dB ?_
    refine sq ?_
    refine arK hk x0 ?_
    have hs:=Option.some.inj f12;subst hs;clear f12
    exact ⟨g5,⟨rfl,rfl,rfl,rfl,rfl,rfl,trivial⟩,H.sel [0,1,2,3,6] rfl⟩
 ·
  clear H e
  obtain ⟨s5_0,s5_1,s5_2⟩:=r0
  rintro T6 g6 w19 (H:Cx w0 fp0 S0 w19 [Bx d_b [(.int .i64 s5_0),(g6).v,d__0_2v,d__0_3v],E (List (Sh (Int×Int×List Int×List Int))) s5_1 g6,Es (List Int) ins_ ins_h,E (List (List Int)) s5_2 h8,Es (List (List Int)) rows_ rows_h])
  refine jA (z:=false) dB ?_
  refine sq ?_
  refine lit0 (α:=Int) gok rfl rfl H ?_;clear H;intro h13 w20 hx H
  clear hx
  refine sq ?_
  refine kA (H.ro (α:=List (List Int)) 4 rfl).len ?_
  replace H:=H.sel [4,0,1,2,3,5] rfl
  replace H:=H.frz
  have x3:=(H.rs (α:=List (List Int)) 0 rfl).max
  obtain ⟨r4,e,f27⟩:=aA f0;clear f0
  refine fB _ s5_2.length (fun (k3:Nat) (s6:Int×(List (Int×Int×List Int×List Int))×List Int) (g7:Hd×Hd)=>[(0,(.pointer (some ⟨d_b,0,none⟩))),(20,(g7.2).v),(94,(h8).v),(95,(.int .i64 ((s5_2.length:Nat):Int))),(96,(.int .i64 ((k3:Nat):Int)))]) (fun _ (s6:Int×(List (Int×Int×List Int×List Int))×List Int) (g7:Hd×Hd) w'=>Cx w0 fp0 S0 w' [Bx d_b [(.int .i64 s6.1),(g7.1).v,d__0_2v,d__0_3v],E (List (Sh (Int×Int×List Int×List Int))) s6.2.1 g7.1,E (List Int) s6.2.2 g7.2,Es (List (List Int)) s5_2 h8]) (s5_0,s5_1,([]:List Int)) (g6,h13) e ⟨rfl,rfl,rfl,rfl,rfl,trivial⟩ (H.sel [2,3,1,0] rfl) ?_ ?_
  ·
   clear H e
   rintro T7 k3 ⟨s6_0,s6_1,s6_2⟩ ⟨g7_0,g7_1⟩ w21 o3 hk (H:Cx w0 fp0 S0 w21 [Bx d_b [(.int .i64 s6_0),(g7_0).v,d__0_2v,d__0_3v],E (List (Sh (Int×Int×List Int×List Int))) s6_1 g7_0,E (List Int) s6_2 g7_1,Es (List (List Int)) s5_2 h8]) f28
   refine jA (z:=true) (cB hk) ?_
   refine sq ?_
   refine sq ?_
   obtain ⟨a13,e,f29⟩:=aA f28;clear f28
   have HH:=H;clear H;obtain ⟨p7,m7,h14,c28,c29,c30,c31,H⟩:=HH.elL 3 rfl e;clear HH
   clear e
   refine dA c28 c29 c30 ?_;clear c28 c29 c30
   refine cA c31 ?_;clear c31
   obtain ⟨y4,e,f30⟩:=aA f29;clear f29
   obtain ⟨⟨y4_0_0_0,y4_0_0_1,y4_0_0_2,y4_0_0_3⟩,y4_1⟩:=y4
   have i3:=e;clear e
   replace H:=H.sel [1,2,0,3,4] rfl
   refine aB (BA_ d_b s6_0 s6_1 g7_0 d__0_2 d__0_2v d__0_3 d__0_3v a13 h14 y4_0_0_0 y4_0_0_1 y4_0_0_2 y4_0_0_3 y4_1 i3) (Γi:=[Bx d_b [(.int .i64 s6_0),(g7_0).v,d__0_2v,d__0_3v],E (List (Sh (Int×Int×List Int×List Int))) s6_1 g7_0]) H [0] rfl (wA qA zA) ?_;clear H i3
   rintro _ _ w22 ⟨h15,rfl,rfl⟩ H
   refine bB (α:=Int) gok rfl rfl rfl rfl H ?_;clear H;intro h16 w23 hx H
   clear hx
   obtain ⟨a14,e,f31⟩:=aA f30;clear f30
   replace H:=H.sel [4,0,1,2,3,5] rfl
   refine append_ (α:=Int) gok rfl rfl rfl rfl H e ?_;clear e H;intro h17 w24 H
   refine arK hk x3 ?_
   have hs:=Option.some.inj f31;subst hs;clear f31
   exact ⟨(h15,h17),⟨rfl,rfl,rfl,rfl,rfl,trivial⟩,H.sel [1,2,0,4] rfl⟩
  ·
   clear H e
   obtain ⟨s7_0,s7_1,s7_2⟩:=r4
   rintro T8 ⟨g8_0,g8_1⟩ w25 (H:Cx w0 fp0 S0 w25 [Bx d_b [(.int .i64 s7_0),(g8_0).v,d__0_2v,d__0_3v],E (List (Sh (Int×Int×List Int×List Int))) s7_1 g8_0,E (List Int) s7_2 g8_1,Es (List (List Int)) s5_2 h8])
   refine jA (z:=false) dB ?_
   refine sq ?_
   replace H:=H.sel [2,0,1,3] rfl
   replace H:=H.frz
   cases f27
   exact ⟨_,_,rfl,⟨g8_0,g8_1,rfl,rfl⟩,(H.sel [1,2,0] rfl)⟩
theorem Bz_ (kind_:Int) (y:Bool) (hF:yQ kind_=some y) :
  nA Tryz.prog 116 #[(.int .i64 kind_)] [] [] (fun v Γ'=>v=(.bool y)∧Γ'=[]):=by
 intro w0 S0 fp0 hI hS
 have H:Cx w0 fp0 S0 w0 []:=Cx.start hI hS
 clear hI hS
 refine lA (args:=[_]) gok Tryz.func116 rfl _ rfl rfl rfl ?_
 obtain ⟨y1,e,hF2⟩:=aA hF;clear hF
 have ey1:=e;clear e
 refine iA (uI kind_ 3 14 y1 ey1) (Γi:=[]) H trivial ?_;clear H ey1
 rintro _ _ w3 ⟨rfl,rfl⟩ H
 cases hF2
 exact ⟨_,_,rfl,⟨rfl,rfl⟩,(H.sel [] rfl).close trivial⟩
theorem B2_ (kind_:Int) (y:Bool) (hF:vR kind_=some y) :
  nA Tryz.prog 134 #[(.int .i64 kind_)] [] [] (fun v Γ'=>v=(.bool y)∧Γ'=[]):=by
 intro w0 S0 fp0 hI hS
 have H:Cx w0 fp0 S0 w0 []:=Cx.start hI hS
 clear hI hS
 refine lA (args:=[_]) gok Tryz.func134 rfl _ rfl rfl rfl ?_
 obtain ⟨r9,f0,f1⟩:=aA hF;clear hF
 refine cut (fun (q0:Bool)=>[(2,(.bool q0))]) (fun (q0:Bool) w'=>q0=r9∧Cx w0 fp0 S0 w' []) ?_ ?_
 ·
  obtain ⟨a0,e,f2⟩:=aA f0;clear f0
  refine gA e ?_;clear e
  cases a0
  ·
   have f3:=fA f2;clear f2
   obtain ⟨a1,e,f4⟩:=aA f3;clear f3
   refine gA e ?_;clear e
   exact ⟨a1,⟨rfl,trivial⟩,Option.some.inj f4,H.sel [] rfl⟩
  ·
   have f5:=eA f2;clear f2
   exact ⟨true,⟨rfl,trivial⟩,Option.some.inj f5,H.sel [] rfl⟩
 ·
  clear f0 H
  rintro T0 s7 w1 ⟨hr,(H:Cx w0 fp0 S0 w1 [])⟩
  subst hr
  cases f1
  exact ⟨_,_,rfl,⟨rfl,rfl⟩,(H.sel [] rfl).close trivial⟩
theorem A9_ (kind_:Int) (value_:Int) (y:Bool) (hF:sM kind_ value_=some y) :
  nA Tryz.prog 117 #[(.int .i64 kind_),(.int .i64 value_)] [] [] (fun v Γ'=>v=(.bool y)∧Γ'=[]):=by
 intro w0 S0 fp0 hI hS
 have H:Cx w0 fp0 S0 w0 []:=Cx.start hI hS
 clear hI hS
 refine lA (args:=[_,_]) gok Tryz.func117 rfl _ rfl rfl rfl ?_
 refine sq ?_
 obtain ⟨y1,e,hF2⟩:=aA hF;clear hF
 have ey1:=e;clear e
 refine iA (B2_ kind_ y1 ey1) (Γi:=[]) H trivial ?_;clear H ey1
 rintro _ _ w3 ⟨rfl,rfl⟩ H
 cases y1
 ·
  have hF4:=fA hF2;clear hF2
  obtain ⟨a5,e,hF6⟩:=aA hF4;clear hF4
  refine gA e ?_;clear e
  cases hF6
  exact ⟨_,_,rfl,⟨rfl,rfl⟩,(H.sel [] rfl).close trivial⟩
 ·
  have hF7:=eA hF2;clear hF2
  obtain ⟨y8,e,hF9⟩:=aA hF7;clear hF7
  have ey8:=e;clear e
  refine iA (uI value_ 0 96 y8 ey8) (Γi:=[]) H trivial ?_;clear H ey8
  rintro _ _ w1 ⟨rfl,rfl⟩ H
  cases hF9
  exact ⟨_,_,rfl,⟨rfl,rfl⟩,(H.sel [] rfl).close trivial⟩
theorem Be_ (kind_:Int) (y_0:Int) (y_1:Int) (hF:lQ kind_=some (y_0,y_1)) :
  nA Tryz.prog 118 #[(.int .i64 kind_)] [] [] (fun v Γ'=>v=(.agg #[(.int .i64 y_0),(.int .i64 y_1)])∧Γ'=[]):=by
 intro w0 S0 fp0 hI hS
 have H:Cx w0 fp0 S0 w0 []:=Cx.start hI hS
 clear hI hS
 refine lA (args:=[_]) gok Tryz.func118 rfl _ rfl rfl rfl ?_
 refine sB gok rfl H ?_;clear H;intro b2 w1 hx H
 clear hx
 refine tB (cs:=#[(.int .i64 1),(.int .i64 2)]) gok rfl rfl rfl ?_
 refine tB (cs:=#[(.int .i64 1),(.int .i64 0)]) gok rfl rfl rfl ?_
 refine tB (cs:=#[(.int .i64 2),(.int .i64 1)]) gok rfl rfl rfl ?_
 refine tB (cs:=#[(.int .i64 0),(.int .i64 1)]) gok rfl rfl rfl ?_
 refine tB (cs:=#[(.int .i64 1),(.int .i64 1)]) gok rfl rfl rfl ?_
 refine tB (cs:=#[(.int .i64 1),(.int .i64 1)]) gok rfl rfl rfl ?_
 refine buildAr (cs:=#[(.int .i64 1),(.int .i64 2),(.int .i64 1),(.int .i64 0),(.int .i64 2),(.int .i64 1),(.int .i64 0),(.int .i64 1),(.int .i64 1),(.int .i64 1),(.int .i64 1),(.int .i64 1)]) gok rfl rfl rfl ?_
 refine sB gok rfl H ?_;clear H;intro b5 w4 hx H
 clear hx
 refine stA gok [(.int .i64 1),(.int .i64 2),(.int .i64 1),(.int .i64 0),(.int .i64 2),(.int .i64 1),(.int .i64 0),(.int .i64 1),(.int .i64 1),(.int .i64 1),(.int .i64 1),(.int .i64 1)] rfl H rfl rfl rfl ?_;clear H;intro w7 H
 refine sq ?_
 obtain ⟨a8,e,hF9⟩:=aA hF;clear hF
 refine gA e ?_;clear e
 cases a8
 ·
  have f0:=fA hF9;clear hF9
  obtain ⟨a0,e,f1⟩:=aA f0;clear f0
  refine arO e ?_;clear e
  obtain ⟨a1,e,f2⟩:=aA f1;clear f1
  obtain ⟨p0,c0,c1,c2⟩:=H.bxV (s:=2) 0 rfl [(1,2),(1,0),(2,1),(0,1),(1,1),(1,1)] (fun x=>[.int .i64 x.1,.int .i64 x.2]) rfl (fun _=>rfl) e;clear e
  obtain ⟨a1_0,a1_1⟩:=a1
  refine idxAr gok rfl rfl c0 c1 ?_;clear c0 c1
  refine vA [(.int .i64 a1_0),(.int .i64 a1_1)] rfl c2 ?_;clear c2
  refine sB gok rfl H ?_;clear H;intro b0 w2 hx H
  clear hx
  refine stA gok [(.int .i64 a1_0),(.int .i64 a1_1)] rfl H rfl rfl rfl ?_;clear H;intro w3 H
  refine fld gok rfl rfl rfl rfl ?_
  refine cA (H.bx 0 rfl (j:=1) rfl) ?_
  refine fld gok rfl rfl rfl rfl ?_
  refine cA (H.bx 0 rfl (j:=0) rfl) ?_
  refine tB (cs:=#[(.int .i64 a1_1),(.int .i64 a1_0)]) gok rfl rfl rfl ?_
  replace H:=H.sel [2,0,1] rfl
  refine stA gok [(.int .i64 a1_1),(.int .i64 a1_0)] rfl H rfl rfl rfl ?_;clear H;intro w5 H
  refine vA [(.int .i64 a1_1),(.int .i64 a1_0)] rfl (fun j u hj=>H.bx 0 rfl hj) ?_
  cases f2
  exact ⟨_,_,rfl,⟨rfl,rfl⟩,(H.sel [] rfl).close trivial⟩
 ·
  have f3:=eA hF9;clear hF9
  obtain ⟨a2,e,f4⟩:=aA f3;clear f3
  refine arO e ?_;clear e
  obtain ⟨a3,e,f5⟩:=aA f4;clear f4
  obtain ⟨p1,c3,c4,c5⟩:=H.bxV (s:=2) 0 rfl [(1,2),(1,0),(2,1),(0,1),(1,1),(1,1)] (fun x=>[.int .i64 x.1,.int .i64 x.2]) rfl (fun _=>rfl) e;clear e
  obtain ⟨a3_0,a3_1⟩:=a3
  refine idxAr gok rfl rfl c3 c4 ?_;clear c3 c4
  refine vA [(.int .i64 a3_0),(.int .i64 a3_1)] rfl c5 ?_;clear c5
  replace H:=H.sel [1,0] rfl
  refine stA gok [(.int .i64 a3_0),(.int .i64 a3_1)] rfl H rfl rfl rfl ?_;clear H;intro w6 H
  refine vA [(.int .i64 a3_0),(.int .i64 a3_1)] rfl (fun j u hj=>H.bx 0 rfl hj) ?_
  cases f5
  exact ⟨_,_,rfl,⟨rfl,rfl⟩,(H.sel [] rfl).close trivial⟩
theorem BC_ (e__0:Int) (e__1:Int) (e__2:List Int) (e__2h:Hd) (e__3:List Int) (e__3h:Hd) (y:Bool) (hF:aN (e__0,e__1,e__2,e__3)=some y) :
  nA Tryz.prog 95 #[(.agg #[(.int .i64 e__0),(.int .i64 e__1),(e__2h).v,(e__3h).v])] [Es (List Int) e__2 e__2h,Es (List Int) e__3 e__3h] [] (fun v Γ'=>v=(.bool y)∧Γ'=[]):=by
 intro w0 S0 fp0 hI hS
 have H:Cx w0 fp0 S0 w0 [Es (List Int) e__2 e__2h,Es (List Int) e__3 e__3h]:=Cx.start hI hS
 clear hI hS
 refine lA (args:=[_]) gok Tryz.func95 rfl _ rfl rfl rfl ?_
 refine jB H ?_;clear H;intro b4 w3 hx H
 clear hx
 refine sq ?_
 obtain ⟨r0,f0,f1⟩:=aA hF;clear hF
 refine cut (fun (q0:Bool)=>[(1,(.pointer (some ⟨b4,0,none⟩))),(14,(.bool q0))]) (fun (q0:Bool) w'=>q0=r0∧Cx w0 fp0 S0 w' [Bx b4 [(.int .i64 e__0),(.int .i64 e__1),(e__2h).v,(e__3h).v],Es (List Int) e__2 e__2h,Es (List Int) e__3 e__3h]) ?_ ?_
 ·
  refine fld gok rfl rfl rfl rfl ?_
  refine cA (H.bx 0 rfl (j:=0) rfl) ?_
  obtain ⟨y0,e,f2⟩:=aA f0;clear f0
  have i0:=e;clear e
  refine iA (Bz_ e__0 y0 i0) (Γi:=[]) H trivial ?_;clear H i0
  rintro _ _ w1 ⟨rfl,rfl⟩ H
  obtain ⟨a0,e,f3⟩:=aA f2;clear f2
  refine gA e ?_;clear e
  cases a0
  ·
   have f4:=fA f3;clear f3
   refine fld gok rfl rfl rfl rfl ?_
   refine cA (H.bx 0 rfl (j:=0) rfl) ?_
   refine fld gok rfl rfl rfl rfl ?_
   refine cA (H.bx 0 rfl (j:=1) rfl) ?_
   obtain ⟨y1,e,f5⟩:=aA f4;clear f4
   have i1:=e;clear e
   refine iA (A9_ e__0 e__1 y1 i1) (Γi:=[]) H trivial ?_;clear H i1
   rintro _ _ w2 ⟨rfl,rfl⟩ H
   obtain ⟨a1,e,f6⟩:=aA f5;clear f5
   refine gA e ?_;clear e
   exact ⟨a1,⟨rfl,rfl,trivial⟩,Option.some.inj f6,H.sel [0,1,2] rfl⟩
  ·
   have f7:=eA f3;clear f3
   exact ⟨true,⟨rfl,rfl,trivial⟩,Option.some.inj f7,H.sel [0,1,2] rfl⟩
 ·
  clear f0 H
  rintro T0 s0 w4 ⟨hr,(H:Cx w0 fp0 S0 w4 [Bx b4 [(.int .i64 e__0),(.int .i64 e__1),(e__2h).v,(e__3h).v],Es (List Int) e__2 e__2h,Es (List Int) e__3 e__3h])⟩
  subst hr
  cases s0
  ·
   have f8:=fA f1;clear f1
   refine aC H [] (.fst 0 (.fst 3 (.fst 6 (.fst 1 (.fst 4 (.fst 5 (.fst 7 (.fst 8 (.fst 9 (.act 2 (.act 10 (.fst 11 .done)))))))))))) vB [] trivial (by kernel_rfl) ?_
   clear H;intro w5 H
   have hX:Ext w5 w5:=Upd.refl _ _
   have H0:=H
   refine xA (fun _=>fld gok rfl rfl rfl rfl ⟨rfl,rfl⟩) ?_
   refine xA (fun _=>fld gok rfl rfl rfl rfl ⟨rfl,rfl⟩) ?_
   refine xA (fun _=>fld gok rfl rfl rfl rfl ⟨rfl,rfl⟩) ?_
   refine uA (H.bx 0 rfl (j:=0) rfl) ?_
   refine uA (H.bx 0 rfl (j:=2) rfl) ?_
   refine kA (H.rs (α:=List Int) 1 rfl).len ?_
   refine uA (H.bx 0 rfl (j:=3) rfl) ?_
   refine kA (H.rs (α:=List Int) 2 rfl).len ?_
   refine xA (fun _=>tB (cs:=#[(.int .i64 ((e__2.length:Nat):Int)),(.int .i64 ((e__3.length:Nat):Int))]) gok rfl rfl rfl ⟨rfl,rfl⟩) ?_
   obtain ⟨y2,e,f9⟩:=aA f8;clear f8
   obtain ⟨y2_0,y2_1⟩:=y2
   have i2:=e;clear e
   refine eB (Be_ e__0 y2_0 y2_1 i2) H trivial ?_;clear H i2
   rintro _ _ w6 ⟨rfl,rfl⟩ hx H
   replace hX:=hX.trans0 hx;clear hx
   refine hold hX ?_
   obtain ⟨a2,e,f10⟩:=aA f9;clear f9
   refine eqA gok rfl Tryz.underlying148 (by kernel_rfl) (by kernel_rfl) (by kernel_rfl) (by refine ⟨rfl,⟨_,_,rfl⟩,rfl,⟨_,_,rfl⟩,trivial⟩) (ls:=[y2_0,y2_1]) (bs:=[((e__2.length:Nat):Int),((e__3.length:Nat):Int)]) rfl rfl rfl rfl e ?_;clear e
   refine hold hX ?_
   cases f10
   exact ⟨_,_,rfl,⟨rfl,rfl⟩,(H.sel [] rfl).close trivial⟩
  ·
   have f11:=eA f1;clear f1
   cases f11
   exact ⟨_,_,rfl,⟨rfl,rfl⟩,(H.sel [] rfl).close trivial⟩
theorem tM (list_:List Int) (list_h:Hd) (c0_b:Nat) (c0__0:Int) (c0__1:List (Int×Int×List Int×List Int)) (c0__1h:Hd) (c0__2:List Int) (c0__2h:Hd) (c0__3:List Int) (c0__3h:Hd) (c1_b:Nat) (c1_:Bool) (c2_b:Nat) (c2_:List Bool) (c2_h:Hd) (c3_b:Nat) (c3_:Int) (y0:Bool) (y1:List Bool) (y2:Int) (hF:rG list_ (c0__0,c0__1,c0__2,c0__3) c1_ c2_ c3_=some (y0,y1,y2)) :
  nA Tryz.prog 97 #[(list_h).v,(.pointer (some ⟨c0_b,0,none⟩)),(.pointer (some ⟨c1_b,0,none⟩)),(.pointer (some ⟨c2_b,0,none⟩)),(.pointer (some ⟨c3_b,0,none⟩))] [Es (List Int) list_ list_h,Es (List (Int×Int×List Int×List Int)) c0__1 c0__1h,Es (List Int) c0__2 c0__2h,Es (List Int) c0__3 c0__3h] [Bx c0_b [(.int .i64 c0__0),(c0__1h).v,(c0__2h).v,(c0__3h).v],Bx c1_b [(.bool c1_)],Bx c2_b [(c2_h).v],E (List Bool) c2_ c2_h,Bx c3_b [(.int .i64 c3_)]] (fun v Γ'=>v=(.tuple #[])∧Γ'=[Bx c0_b [(.int .i64 c0__0),(c0__1h).v,(c0__2h).v,(c0__3h).v],Bx c1_b [(.bool y0)],Bx c2_b [(c2_h).v],E (List Bool) y1 c2_h,Bx c3_b [(.int .i64 y2)]]):=by
 intro w0 S0 fp0 hI hS
 have H:Cx w0 fp0 S0 w0 [Es (List Int) list_ list_h,Es (List (Int×Int×List Int×List Int)) c0__1 c0__1h,Es (List Int) c0__2 c0__2h,Es (List Int) c0__3 c0__3h,Bx c0_b [(.int .i64 c0__0),(c0__1h).v,(c0__2h).v,(c0__3h).v],Bx c1_b [(.bool c1_)],Bx c2_b [(c2_h).v],E (List Bool) c2_ c2_h,Bx c3_b [(.int .i64 c3_)]]:=Cx.start hI hS
 clear hI hS
 refine lA (args:=[_,_,_,_,_]) gok Tryz.func97 rfl _ rfl rfl rfl ?_
 refine kA (H.rs (α:=List Int) 0 rfl).len ?_
 have x0:=(H.rs (α:=List Int) 0 rfl).max
 obtain ⟨r0,e,f0⟩:=aA hF;clear hF
 refine fB _ list_.length (fun (k0:Nat) (s0:Bool×Int×List Bool) (_:Unit)=>[(1,(.pointer (some ⟨c0_b,0,none⟩))),(2,(.pointer (some ⟨c1_b,0,none⟩))),(3,(.pointer (some ⟨c2_b,0,none⟩))),(4,(.pointer (some ⟨c3_b,0,none⟩))),(8,(list_h).v),(9,(.int .i64 ((list_.length:Nat):Int))),(10,(.int .i64 ((k0:Nat):Int)))]) (fun _ (s0:Bool×Int×List Bool) (_:Unit) w'=>Cx w0 fp0 S0 w' [Bx c0_b [(.int .i64 c0__0),(c0__1h).v,(c0__2h).v,(c0__3h).v],Es (List (Int×Int×List Int×List Int)) c0__1 c0__1h,Es (List Int) c0__2 c0__2h,Es (List Int) c0__3 c0__3h,Bx c1_b [(.bool s0.1)],Bx c2_b [(c2_h).v],E (List Bool) s0.2.2 c2_h,Bx c3_b [(.int .i64 s0.2.1)],Es (List Int) list_ list_h]) (c1_,c3_,c2_) () e ⟨rfl,rfl,rfl,rfl,rfl,rfl,rfl,trivial⟩ (H.sel [4,1,2,3,5,6,7,8,0] rfl) ?_ ?_
 ·
  clear H e
  rintro T0 k0 ⟨s0_0,s0_1,s0_2⟩ _ w1 o0 hk (H:Cx w0 fp0 S0 w1 [Bx c0_b [(.int .i64 c0__0),(c0__1h).v,(c0__2h).v,(c0__3h).v],Es (List (Int×Int×List Int×List Int)) c0__1 c0__1h,Es (List Int) c0__2 c0__2h,Es (List Int) c0__3 c0__3h,Bx c1_b [(.bool s0_0)],Bx c2_b [(c2_h).v],E (List Bool) s0_2 c2_h,Bx c3_b [(.int .i64 s0_1)],Es (List Int) list_ list_h]) f1
  refine jA (z:=true) (cB hk) ?_
  refine sq ?_
  obtain ⟨r1,f2,f3⟩:=aA f1;clear f1
  refine cut (fun (q0:Bool×Int×List Bool)=>[(1,(.pointer (some ⟨c0_b,0,none⟩))),(2,(.pointer (some ⟨c1_b,0,none⟩))),(3,(.pointer (some ⟨c2_b,0,none⟩))),(4,(.pointer (some ⟨c3_b,0,none⟩))),(8,(list_h).v),(9,(.int .i64 ((list_.length:Nat):Int))),(10,(.int .i64 ((k0:Nat):Int)))]) (fun (q0:Bool×Int×List Bool) w'=>(q0.1,q0.2.1,q0.2.2)=r1∧Cx w0 fp0 S0 w' [Bx c0_b [(.int .i64 c0__0),(c0__1h).v,(c0__2h).v,(c0__3h).v],Es (List (Int×Int×List Int×List Int)) c0__1 c0__1h,Es (List Int) c0__2 c0__2h,Es (List Int) c0__3 c0__3h,Bx c1_b [(.bool q0.1)],Bx c2_b [(c2_h).v],E (List Bool) q0.2.2 c2_h,Bx c3_b [(.int .i64 q0.2.1)],Es (List Int) list_ list_h]) ?_ ?_
  ·
   obtain ⟨a0,e,f4⟩:=aA f2;clear f2
   obtain ⟨p0,m0,c0,c1,c2,c3⟩:=(H.rs (α:=List Int) 8 rfl).at1 e;clear e
   refine dA c0 c1 c2 ?_;clear c0 c1 c2
   refine cA c3 ?_;clear c3
   refine sq ?_
   refine fld gok rfl rfl rfl rfl ?_
   refine cA (H.bx 0 rfl (j:=0) rfl) ?_
   obtain ⟨a1,e,f5⟩:=aA f4;clear f4
   refine arO e ?_;clear e
   obtain ⟨y3,e,f6⟩:=aA f5;clear f5
   have i0:=e;clear e
   refine iA (uI a0 0 a1 y3 i0) (Γi:=[]) H trivial ?_;clear H i0
   rintro _ _ w2 ⟨rfl,rfl⟩ H
   obtain ⟨a2,e,f7⟩:=aA f6;clear f6
   refine gA e ?_;clear e
   cases a2
   ·
    have f8:=fA f7;clear f7
    refine cA (H.bx0 5 rfl) ?_
    obtain ⟨a3,e,f9⟩:=aA f8;clear f8
    obtain ⟨p1,m1,c4,c5,c6,c7⟩:=(H.ro (α:=List Bool) 6 rfl).at1 e;clear e
    refine dA c4 c5 c6 ?_;clear c4 c5 c6
    refine cA c7 ?_;clear c7
    obtain ⟨a4,e,f10⟩:=aA f9;clear f9
    refine gA e ?_;clear e
    cases a4
    ·
     have f11:=fA f10;clear f10
     exact ⟨(s0_0,s0_1,s0_2),⟨rfl,rfl,rfl,rfl,rfl,rfl,rfl,trivial⟩,Option.some.inj f11,H.sel [0,1,2,3,4,5,6,7,8] rfl⟩
    ·
     have f12:=eA f10;clear f10
     refine cA (H.bx0 5 rfl) ?_
     obtain ⟨a5,e,f13⟩:=aA f12;clear f12
     have i1:=e;clear e
     obtain ⟨p2,m2,c8,c9,c10⟩:=(H.ro (α:=List Bool) 6 rfl).setp i1
     refine dA c8 c9 c10 ?_
     replace H:=H.sel [6,0,1,2,3,4,5,7,8] rfl
     refine gC (α:=Bool) H c8 c9 i1 ?_;clear H c8 c9 c10 i1;intro w3 H
     refine cA (H.bx0 7 rfl) ?_
     obtain ⟨a6,e,f14⟩:=aA f13;clear f13
     refine arO e ?_;clear e
     replace H:=H.sel [7,0,1,2,3,4,5,6,8] rfl
     refine mH H rfl ?_;clear H;intro w4 H
     exact ⟨(s0_0,a6,a5),⟨rfl,rfl,rfl,rfl,rfl,rfl,rfl,trivial⟩,Option.some.inj f14,H.sel [2,3,4,5,6,7,1,0,8] rfl⟩
   ·
    have f15:=eA f7;clear f7
    replace H:=H.sel [4,0,1,2,3,5,6,7,8] rfl
    refine mH H rfl ?_;clear H;intro w5 H
    exact ⟨(false,s0_1,s0_2),⟨rfl,rfl,rfl,rfl,rfl,rfl,rfl,trivial⟩,Option.some.inj f15,H.sel [1,2,3,4,0,5,6,7,8] rfl⟩
  ·
   clear f2 H
   rintro T1 ⟨s1_0,s1_1,s1_2⟩ w6 ⟨hr,(H:Cx w0 fp0 S0 w6 [Bx c0_b [(.int .i64 c0__0),(c0__1h).v,(c0__2h).v,(c0__3h).v],Es (List (Int×Int×List Int×List Int)) c0__1 c0__1h,Es (List Int) c0__2 c0__2h,Es (List Int) c0__3 c0__3h,Bx c1_b [(.bool s1_0)],Bx c2_b [(c2_h).v],E (List Bool) s1_2 c2_h,Bx c3_b [(.int .i64 s1_1)],Es (List Int) list_ list_h])⟩
   subst hr
   refine arK hk x0 ?_
   have hs:=Option.some.inj f3;subst hs;clear f3
   exact ⟨(),⟨rfl,rfl,rfl,rfl,rfl,rfl,rfl,trivial⟩,H.sel [0,1,2,3,4,5,6,7,8] rfl⟩
 ·
  clear H e
  obtain ⟨s2_0,s2_1,s2_2⟩:=r0
  rintro T2 _ w7 (H:Cx w0 fp0 S0 w7 [Bx c0_b [(.int .i64 c0__0),(c0__1h).v,(c0__2h).v,(c0__3h).v],Es (List (Int×Int×List Int×List Int)) c0__1 c0__1h,Es (List Int) c0__2 c0__2h,Es (List Int) c0__3 c0__3h,Bx c1_b [(.bool s2_0)],Bx c2_b [(c2_h).v],E (List Bool) s2_2 c2_h,Bx c3_b [(.int .i64 s2_1)],Es (List Int) list_ list_h])
  refine jA (z:=false) dB ?_
  refine sq ?_
  cases f0
  exact ⟨_,_,rfl,⟨rfl,rfl⟩,(H.sel [0,4,5,6,7] rfl).close ⟨cloB,cloB,cloB,cloE,cloB,trivial⟩⟩
theorem A3_ (g__0:Int) (g__1:List (Int×Int×List Int×List Int)) (g__1h:Hd) (g__2:List Int) (g__2h:Hd) (g__3:List Int) (g__3h:Hd) (d0_b:Nat) (d0__0:Int) (d0__1:List (Int×Int×List Int×List Int)) (d0__1h:Hd) (d0__2:List Int) (d0__2h:Hd) (d0__3:List Int) (d0__3h:Hd) (d1_b:Nat) (d1_:Bool) (d2_b:Nat) (d2_:List Bool) (d2_h:Hd) (d3_b:Nat) (d3_:Int) (y0:Bool) (y1:List Bool) (y2:Int) (hF:rM (g__0,g__1,g__2,g__3) (d0__0,d0__1,d0__2,d0__3) d1_ d2_ d3_=some (y0,y1,y2)) :
  nA Tryz.prog 96 #[(.agg #[(.int .i64 g__0),(g__1h).v,(g__2h).v,(g__3h).v]),(.func (.func 97) #[] #[(.pointer (some ⟨d0_b,0,none⟩)),(.pointer (some ⟨d1_b,0,none⟩)),(.pointer (some ⟨d2_b,0,none⟩)),(.pointer (some ⟨d3_b,0,none⟩))])] [Es (List (Int×Int×List Int×List Int)) g__1 g__1h,Es (List Int) g__2 g__2h,Es (List Int) g__3 g__3h,Es (List (Int×Int×List Int×List Int)) d0__1 d0__1h,Es (List Int) d0__2 d0__2h,Es (List Int) d0__3 d0__3h] [Bx d0_b [(.int .i64 d0__0),(d0__1h).v,(d0__2h).v,(d0__3h).v],Bx d1_b [(.bool d1_)],Bx d2_b [(d2_h).v],E (List Bool) d2_ d2_h,Bx d3_b [(.int .i64 d3_)]] (fun v Γ'=>v=(.tuple #[])∧Γ'=[Bx d0_b [(.int .i64 d0__0),(d0__1h).v,(d0__2h).v,(d0__3h).v],Bx d1_b [(.bool y0)],Bx d2_b [(d2_h).v],E (List Bool) y1 d2_h,Bx d3_b [(.int .i64 y2)]]):=by
 intro w0 S0 fp0 hI hS
 have H:Cx w0 fp0 S0 w0 [Es (List (Int×Int×List Int×List Int)) g__1 g__1h,Es (List Int) g__2 g__2h,Es (List Int) g__3 g__3h,Es (List (Int×Int×List Int×List Int)) d0__1 d0__1h,Es (List Int) d0__2 d0__2h,Es (List Int) d0__3 d0__3h,Bx d0_b [(.int .i64 d0__0),(d0__1h).v,(d0__2h).v,(d0__3h).v],Bx d1_b [(.bool d1_)],Bx d2_b [(d2_h).v],E (List Bool) d2_ d2_h,Bx d3_b [(.int .i64 d3_)]]:=Cx.start hI hS
 clear hI hS
 refine lA (args:=[_,_]) gok Tryz.func96 rfl _ rfl rfl rfl ?_
 refine jB H ?_;clear H;intro b0 w1 hx H
 clear hx
 refine fld gok rfl rfl rfl rfl ?_
 refine cA (H.bx 0 rfl (j:=2) rfl) ?_
 obtain ⟨y3,e,f0⟩:=aA hF;clear hF
 obtain ⟨y3_0,y3_1,y3_2⟩:=y3
 have i0:=e;clear e
 replace H:=H.sel [7,8,9,10,11,0,1,2,3,4,5,6] rfl
 refine iA (tM g__2 g__2h d0_b d0__0 d0__1 d0__1h d0__2 d0__2h d0__3 d0__3h d1_b d1_ d2_b d2_ d2_h d3_b d3_ y3_0 y3_1 y3_2 i0) (Γi:=[Bx d0_b [(.int .i64 d0__0),(d0__1h).v,(d0__2h).v,(d0__3h).v],Bx d1_b [(.bool d1_)],Bx d2_b [(d2_h).v],E (List Bool) d2_ d2_h,Bx d3_b [(.int .i64 d3_)]]) H ⟨Vw.sh 2 rfl,Vw.sh 4 rfl,Vw.sh 5 rfl,Vw.sh 6 rfl,trivial⟩ ?_;clear H i0
 rintro _ _ w2 ⟨rfl,rfl⟩ H
 refine fld gok rfl rfl rfl rfl ?_
 refine cA (H.bx 5 rfl (j:=3) rfl) ?_
 obtain ⟨y4,e,f1⟩:=aA f0;clear f0
 obtain ⟨y4_0,y4_1,y4_2⟩:=y4
 have i1:=e;clear e
 refine iA (tM g__3 g__3h d0_b d0__0 d0__1 d0__1h d0__2 d0__2h d0__3 d0__3h d1_b y3_0 d2_b y3_1 d2_h d3_b y3_2 y4_0 y4_1 y4_2 i1) (Γi:=[Bx d0_b [(.int .i64 d0__0),(d0__1h).v,(d0__2h).v,(d0__3h).v],Bx d1_b [(.bool y3_0)],Bx d2_b [(d2_h).v],E (List Bool) y3_1 d2_h,Bx d3_b [(.int .i64 y3_2)]]) H ⟨Vw.sh 3 rfl,Vw.sh 4 rfl,Vw.sh 5 rfl,Vw.sh 6 rfl,trivial⟩ ?_;clear H i1
 rintro _ _ w3 ⟨rfl,rfl⟩ H
 refine fld gok rfl rfl rfl rfl ?_
 refine cA (H.bx 5 rfl (j:=1) rfl) ?_
 refine kA (H.rs (α:=List (Int×Int×List Int×List Int)) 6 rfl).len ?_
 have x0:=(H.rs (α:=List (Int×Int×List Int×List Int)) 6 rfl).max
 obtain ⟨r0,e,f2⟩:=aA f1;clear f1
 refine fB _ g__1.length (fun (k0:Nat) (s0:Int×Bool×List Bool) (_:Unit)=>[(1,(.func (.func 97) #[] #[(.pointer (some ⟨d0_b,0,none⟩)),(.pointer (some ⟨d1_b,0,none⟩)),(.pointer (some ⟨d2_b,0,none⟩)),(.pointer (some ⟨d3_b,0,none⟩))])),(15,(g__1h).v),(16,(.int .i64 ((g__1.length:Nat):Int))),(17,(.int .i64 ((k0:Nat):Int)))]) (fun _ (s0:Int×Bool×List Bool) (_:Unit) w'=>Cx w0 fp0 S0 w' [Bx d0_b [(.int .i64 d0__0),(d0__1h).v,(d0__2h).v,(d0__3h).v],Es (List (Int×Int×List Int×List Int)) d0__1 d0__1h,Es (List Int) d0__2 d0__2h,Es (List Int) d0__3 d0__3h,Bx d1_b [(.bool s0.2.1)],Bx d2_b [(d2_h).v],E (List Bool) s0.2.2 d2_h,Bx d3_b [(.int .i64 s0.1)],Es (List (Int×Int×List Int×List Int)) g__1 g__1h]) (y4_2,y4_0,y4_1) () e ⟨rfl,rfl,rfl,rfl,trivial⟩ (H.sel [0,9,10,11,1,2,3,4,6] rfl) ?_ ?_
 ·
  clear H e
  rintro T0 k0 ⟨s0_0,s0_1,s0_2⟩ _ w4 o0 hk (H:Cx w0 fp0 S0 w4 [Bx d0_b [(.int .i64 d0__0),(d0__1h).v,(d0__2h).v,(d0__3h).v],Es (List (Int×Int×List Int×List Int)) d0__1 d0__1h,Es (List Int) d0__2 d0__2h,Es (List Int) d0__3 d0__3h,Bx d1_b [(.bool s0_1)],Bx d2_b [(d2_h).v],E (List Bool) s0_2 d2_h,Bx d3_b [(.int .i64 s0_0)],Es (List (Int×Int×List Int×List Int)) g__1 g__1h]) f3
  refine jA (z:=true) (cB hk) ?_
  refine sq ?_
  refine sq ?_
  obtain ⟨a0,e,f4⟩:=aA f3;clear f3
  have HH:=H;clear H;obtain ⟨p0,m0,g0,c0,c1,c2,c3,H⟩:=HH.el (α:=Int×Int×List Int×List Int) 8 rfl e;clear HH
  clear e
  obtain ⟨a0_0,a0_1,a0_2,a0_3⟩:=a0
  obtain ⟨_,_,h0,h1⟩:=g0
  replace H:=H.part (β:=List Int) a0_2 (h0:Hd) 0 rfl (fun S h=>(And.left (And.right (And.right h))))
  replace H:=H.part (β:=List Int) a0_3 (h1:Hd) 1 rfl (fun S h=>(And.right (And.right (And.right h))))
  replace H:=H.sel [0,1,3,4,5,6,7,8,9,10,11] rfl
  refine dA c0 c1 c2 ?_;clear c0 c1 c2
  refine vA [(.int .i64 a0_0),(.int .i64 a0_1),(h0).v,(h1).v] rfl c3 ?_;clear c3
  refine sB gok rfl H ?_;clear H;intro b1 w5 hx H
  clear hx
  refine stA gok [(.int .i64 a0_0),(.int .i64 a0_1),(h0).v,(h1).v] rfl H rfl rfl rfl ?_;clear H;intro w6 H
  refine fld gok rfl rfl rfl rfl ?_
  refine cA (H.bx 0 rfl (j:=2) rfl) ?_
  obtain ⟨y5,e,f5⟩:=aA f4;clear f4
  obtain ⟨y5_0,y5_1,y5_2⟩:=y5
  have i2:=e;clear e
  replace H:=H.sel [3,7,8,9,10,0,1,2,4,5,6,11] rfl
  refine iA (tM a0_2 h0 d0_b d0__0 d0__1 d0__1h d0__2 d0__2h d0__3 d0__3h d1_b s0_1 d2_b s0_2 d2_h d3_b s0_0 y5_0 y5_1 y5_2 i2) (Γi:=[Bx d0_b [(.int .i64 d0__0),(d0__1h).v,(d0__2h).v,(d0__3h).v],Bx d1_b [(.bool s0_1)],Bx d2_b [(d2_h).v],E (List Bool) s0_2 d2_h,Bx d3_b [(.int .i64 s0_0)]]) H ⟨Vw.sh 2 rfl,Vw.sh 3 rfl,Vw.sh 4 rfl,Vw.sh 5 rfl,trivial⟩ ?_;clear H i2
  rintro _ _ w7 ⟨rfl,rfl⟩ H
  refine fld gok rfl rfl rfl rfl ?_
  refine cA (H.bx 5 rfl (j:=3) rfl) ?_
  obtain ⟨y6,e,f6⟩:=aA f5;clear f5
  obtain ⟨y6_0,y6_1,y6_2⟩:=y6
  have i3:=e;clear e
  refine iA (tM a0_3 h1 d0_b d0__0 d0__1 d0__1h d0__2 d0__2h d0__3 d0__3h d1_b y5_0 d2_b y5_1 d2_h d3_b y5_2 y6_0 y6_1 y6_2 i3) (Γi:=[Bx d0_b [(.int .i64 d0__0),(d0__1h).v,(d0__2h).v,(d0__3h).v],Bx d1_b [(.bool y5_0)],Bx d2_b [(d2_h).v],E (List Bool) y5_1 d2_h,Bx d3_b [(.int .i64 y5_2)]]) H ⟨Vw.sh 1 rfl,Vw.sh 3 rfl,Vw.sh 4 rfl,Vw.sh 5 rfl,trivial⟩ ?_;clear H i3
  rintro _ _ w8 ⟨rfl,rfl⟩ H
  refine arK hk x0 ?_
  have hs:=Option.some.inj f6;subst hs;clear f6
  exact ⟨(),⟨rfl,rfl,rfl,rfl,trivial⟩,H.sel [0,8,9,10,1,2,3,4,11] rfl⟩
 ·
  clear H e
  obtain ⟨s1_0,s1_1,s1_2⟩:=r0
  rintro T1 _ w9 (H:Cx w0 fp0 S0 w9 [Bx d0_b [(.int .i64 d0__0),(d0__1h).v,(d0__2h).v,(d0__3h).v],Es (List (Int×Int×List Int×List Int)) d0__1 d0__1h,Es (List Int) d0__2 d0__2h,Es (List Int) d0__3 d0__3h,Bx d1_b [(.bool s1_1)],Bx d2_b [(d2_h).v],E (List Bool) s1_2 d2_h,Bx d3_b [(.int .i64 s1_0)],Es (List (Int×Int×List Int×List Int)) g__1 g__1h])
  refine jA (z:=false) dB ?_
  refine sq ?_
  cases f2
  exact ⟨_,_,rfl,⟨rfl,rfl⟩,(H.sel [0,4,5,6,7] rfl).close ⟨cloB,cloB,cloB,cloE,cloB,trivial⟩⟩
theorem Bp_ (g__0:Int) (g__1:List (Int×Int×List Int×List Int)) (g__1h:Hd) (g__2:List Int) (g__2h:Hd) (g__3:List Int) (g__3h:Hd) (y:Bool) (hF:xM (g__0,g__1,g__2,g__3)=some y) :
  nA Tryz.prog 79 #[(.agg #[(.int .i64 g__0),(g__1h).v,(g__2h).v,(g__3h).v])] [Es (List (Int×Int×List Int×List Int)) g__1 g__1h,Es (List Int) g__2 g__2h,Es (List Int) g__3 g__3h] [] (fun v Γ'=>v=(.bool y)∧Γ'=[]):=by
 intro w0 S0 fp0 hI hS
 have H:Cx w0 fp0 S0 w0 [Es (List (Int×Int×List Int×List Int)) g__1 g__1h,Es (List Int) g__2 g__2h,Es (List Int) g__3 g__3h]:=Cx.start hI hS
 clear hI hS
 refine lA (args:=[_]) gok Tryz.func79 rfl _ rfl rfl rfl ?_
 refine jB H ?_;clear H;intro b5 w4 hx H
 clear hx
 refine sq ?_
 obtain ⟨r0,f0,f1⟩:=aA hF;clear hF
 refine cut (fun (q0:Bool)=>[(1,(.pointer (some ⟨b5,0,none⟩))),(29,(.bool q0))]) (fun (q0:Bool) w'=>q0=r0∧Cx w0 fp0 S0 w' [Bx b5 [(.int .i64 g__0),(g__1h).v,(g__2h).v,(g__3h).v],Es (List (Int×Int×List Int×List Int)) g__1 g__1h,Es (List Int) g__2 g__2h,Es (List Int) g__3 g__3h]) ?_ ?_
 ·
  refine fld gok rfl rfl rfl rfl ?_
  refine cA (H.bx 0 rfl (j:=0) rfl) ?_
  obtain ⟨y0,e,f2⟩:=aA f0;clear f0
  have i0:=e;clear e
  refine iA (uI g__0 0 100 y0 i0) (Γi:=[]) H trivial ?_;clear H i0
  rintro _ _ w1 ⟨rfl,rfl⟩ H
  obtain ⟨a0,e,f3⟩:=aA f2;clear f2
  refine gA e ?_;clear e
  cases a0
  ·
   have f4:=fA f3;clear f3
   refine fld gok rfl rfl rfl rfl ?_
   refine cA (H.bx 0 rfl (j:=1) rfl) ?_
   refine kA (H.rs (α:=List (Int×Int×List Int×List Int)) 1 rfl).len ?_
   obtain ⟨a1,e,f5⟩:=aA f4;clear f4
   refine gA e ?_;clear e
   cases a1
   ·
    have f6:=fA f5;clear f5
    refine fld gok rfl rfl rfl rfl ?_
    refine cA (H.bx 0 rfl (j:=2) rfl) ?_
    refine kA (H.rs (α:=List Int) 2 rfl).len ?_
    obtain ⟨a2,e,f7⟩:=aA f6;clear f6
    refine gA e ?_;clear e
    cases a2
    ·
     have f8:=fA f7;clear f7
     refine fld gok rfl rfl rfl rfl ?_
     refine cA (H.bx 0 rfl (j:=3) rfl) ?_
     refine kA (H.rs (α:=List Int) 3 rfl).len ?_
     obtain ⟨a3,e,f9⟩:=aA f8;clear f8
     refine gA e ?_;clear e
     exact ⟨a3,⟨rfl,rfl,trivial⟩,Option.some.inj f9,H.sel [0,1,2,3] rfl⟩
    ·
     have f10:=eA f7;clear f7
     exact ⟨true,⟨rfl,rfl,trivial⟩,Option.some.inj f10,H.sel [0,1,2,3] rfl⟩
   ·
    have f11:=eA f5;clear f5
    exact ⟨true,⟨rfl,rfl,trivial⟩,Option.some.inj f11,H.sel [0,1,2,3] rfl⟩
  ·
   have f12:=eA f3;clear f3
   exact ⟨true,⟨rfl,rfl,trivial⟩,Option.some.inj f12,H.sel [0,1,2,3] rfl⟩
 ·
  clear f0 H
  rintro T0 s0 w2 ⟨hr,(H:Cx w0 fp0 S0 w2 [Bx b5 [(.int .i64 g__0),(g__1h).v,(g__2h).v,(g__3h).v],Es (List (Int×Int×List Int×List Int)) g__1 g__1h,Es (List Int) g__2 g__2h,Es (List Int) g__3 g__3h])⟩
  subst hr
  cases s0
  ·
   have f13:=fA f1;clear f1
   refine sq ?_
   refine fld gok rfl rfl rfl rfl ?_
   refine cA (H.bx 0 rfl (j:=1) rfl) ?_
   refine kA (H.rs (α:=List (Int×Int×List Int×List Int)) 1 rfl).len ?_
   have x0:=(H.rs (α:=List (Int×Int×List Int×List Int)) 1 rfl).max
   obtain ⟨r1,e,f14⟩:=aA f13;clear f13
   refine qF _ g__1.length (fun (k0:Nat) (_:Unit) (_:Unit)=>[(1,(.pointer (some ⟨b5,0,none⟩))),(31,(g__1h).v),(32,(.int .i64 ((g__1.length:Nat):Int))),(33,(.int .i64 ((k0:Nat):Int)))]) (fun _ (_:Unit) (_:Unit) w'=>Cx w0 fp0 S0 w' [Bx b5 [(.int .i64 g__0),(g__1h).v,(g__2h).v,(g__3h).v],Es (List (Int×Int×List Int×List Int)) g__1 g__1h,Es (List Int) g__2 g__2h,Es (List Int) g__3 g__3h]) () () e ⟨rfl,rfl,rfl,rfl,trivial⟩ (H.sel [0,1,2,3] rfl) ?_ ?_
   ·
    clear H e
    rintro T1 k0 _ _ w3 o0 hk (H:Cx w0 fp0 S0 w3 [Bx b5 [(.int .i64 g__0),(g__1h).v,(g__2h).v,(g__3h).v],Es (List (Int×Int×List Int×List Int)) g__1 g__1h,Es (List Int) g__2 g__2h,Es (List Int) g__3 g__3h]) hrt f15
    refine jA (z:=true) (cB hk) ?_
    refine sq ?_
    refine sq ?_
    obtain ⟨a4,e,f16⟩:=aA f15;clear f15
    have HH:=H;clear H;obtain ⟨p0,m0,g0,c0,c1,c2,c3,H⟩:=HH.el (α:=Int×Int×List Int×List Int) 1 rfl e;clear HH
    clear e
    obtain ⟨a4_0,a4_1,a4_2,a4_3⟩:=a4
    obtain ⟨_,_,h0,h1⟩:=g0
    replace H:=H.part (β:=List Int) a4_2 (h0:Hd) 0 rfl (fun S h=>(And.left (And.right (And.right h))))
    replace H:=H.part (β:=List Int) a4_3 (h1:Hd) 1 rfl (fun S h=>(And.right (And.right (And.right h))))
    replace H:=H.sel [0,1,3,4,5,6] rfl
    refine dA c0 c1 c2 ?_;clear c0 c1 c2
    refine vA [(.int .i64 a4_0),(.int .i64 a4_1),(h0).v,(h1).v] rfl c3 ?_;clear c3
    refine sB gok rfl H ?_;clear H;intro b0 w5 hx H
    clear hx
    refine stA gok [(.int .i64 a4_0),(.int .i64 a4_1),(h0).v,(h1).v] rfl H rfl rfl rfl ?_;clear H;intro w6 H
    refine vA [(.int .i64 a4_0),(.int .i64 a4_1),(h0).v,(h1).v] rfl (fun j u hj=>H.bx 0 rfl hj) ?_
    obtain ⟨y1,e,f17⟩:=aA f16;clear f16
    have i1:=e;clear e
    refine iA (BC_ a4_0 a4_1 a4_2 h0 a4_3 h1 y1 i1) (Γi:=[]) H ⟨Vw.sh 2 rfl,Vw.sh 1 rfl,trivial⟩ ?_;clear H i1
    rintro _ _ w7 ⟨rfl,rfl⟩ H
    obtain ⟨a5,e,f18⟩:=aA f17;clear f17
    refine gA e ?_;clear e
    cases a5
    ·
     have f19:=fA f18;clear f18
     refine arK hk x0 ?_
     have hs:=Option.some.inj f19;subst hs;clear f19
     exact ⟨(),(),rfl,⟨rfl,rfl,rfl,rfl,trivial⟩,H.sel [3,4,5,6] rfl⟩
    ·
     have f20:=eA f18;clear f18
     have hs:=Option.some.inj f20;subst hs;clear f20
     have hr:=hrt _ rfl;subst hr
     have f21:some _=some _:=f14
     cases f21
     exact ⟨_,_,rfl,⟨rfl,rfl⟩,(H.sel [] rfl).close trivial⟩
   ·
    clear H e
    rintro T2 _ _ w8 hr (H:Cx w0 fp0 S0 w8 [Bx b5 [(.int .i64 g__0),(g__1h).v,(g__2h).v,(g__3h).v],Es (List (Int×Int×List Int×List Int)) g__1 g__1h,Es (List Int) g__2 g__2h,Es (List Int) g__3 g__3h])
    subst hr
    refine jA (z:=false) dB ?_
    refine sq ?_
    refine fld gok rfl rfl rfl rfl ?_
    refine cA (H.bx 0 rfl (j:=0) rfl) ?_
    obtain ⟨a6,e,f22⟩:=aA f14;clear f14
    refine qD (α:=Bool) gok rfl rfl rfl rfl (cE e) H ?_;clear e H;intro h2 w9 hx H
    clear hx
    refine sB gok rfl H ?_;clear H;intro b1 w10 hx H
    clear hx
    refine sB gok rfl H ?_;clear H;intro b2 w11 hx H
    clear hx
    refine sB gok rfl H ?_;clear H;intro b3 w12 hx H
    clear hx
    replace H:=H.sel [2,0,1,3,4,5,6,7] rfl
    refine mH H rfl ?_;clear H;intro w13 H
    replace H:=H.sel [2,0,1,3,4,5,6,7] rfl
    refine mH H rfl ?_;clear H;intro w14 H
    replace H:=H.sel [2,0,1,3,4,5,6,7] rfl
    refine mH H rfl ?_;clear H;intro w15 H
    refine vA [(.int .i64 g__0),(g__1h).v,(g__2h).v,(g__3h).v] rfl (fun j u hj=>H.bx 4 rfl hj) ?_
    obtain ⟨y2,e,f23⟩:=aA f22;clear f22
    obtain ⟨y2_0,y2_1,y2_2⟩:=y2
    have i2:=e;clear e
    replace H:=H.sel [4,1,2,3,0,5,6,7] rfl
    refine iA (A3_ g__0 g__1 g__1h g__2 g__2h g__3 g__3h b5 g__0 g__1 g__1h g__2 g__2h g__3 g__3h b2 true b1 a6 h2 b3 0 y2_0 y2_1 y2_2 i2) (Γi:=[Bx b5 [(.int .i64 g__0),(g__1h).v,(g__2h).v,(g__3h).v],Bx b2 [(.bool true)],Bx b1 [(h2).v],E (List Bool) a6 h2,Bx b3 [(.int .i64 0)]]) H ⟨Vw.sh 0 rfl,Vw.sh 1 rfl,Vw.sh 2 rfl,Vw.sh 0 rfl,Vw.sh 1 rfl,Vw.sh 2 rfl,trivial⟩ ?_;clear H i2
    rintro _ _ w16 ⟨rfl,rfl⟩ H
    obtain ⟨r2,f24,f25⟩:=aA f23;clear f23
    refine cut (fun (q1:Bool×Bool)=>[(2,(.bool q1.2))]) (fun (q1:Bool×Bool) w'=>(q1.1,q1.2)=r2∧Cx w0 fp0 S0 w' []) ?_ ?_
    ·
     refine cA (H.bx0 1 rfl) ?_
     cases y2_0
     ·
      have f26:=fA f24;clear f24
      exact ⟨(false,false),⟨rfl,trivial⟩,Option.some.inj f26,H.sel [] rfl⟩
     ·
      have f27:=eA f24;clear f24
      refine cA (H.bx0 4 rfl) ?_
      refine fld gok rfl rfl rfl rfl ?_
      refine cA (H.bx 0 rfl (j:=0) rfl) ?_
      obtain ⟨a7,e,f28⟩:=aA f27;clear f27
      refine gA e ?_;clear e
      exact ⟨(true,a7),⟨rfl,trivial⟩,Option.some.inj f28,H.sel [] rfl⟩
    ·
     clear f24 H
     rintro T3 ⟨s1_0,s1_1⟩ w17 ⟨hr,(H:Cx w0 fp0 S0 w17 [])⟩
     subst hr
     cases f25
     exact ⟨_,_,rfl,⟨rfl,rfl⟩,(H.sel [] rfl).close trivial⟩
  ·
   have f29:=eA f1;clear f1
   cases f29
   exact ⟨_,_,rfl,⟨rfl,rfl⟩,(H.sel [] rfl).close trivial⟩
theorem jL (lists_:List (List Int)) (lists_h:Hd) (y:List Int) (hF:fG lists_=some y) :
  nA Tryz.prog 99 #[(lists_h).v] [Es (List (List Int)) lists_ lists_h] [] (fun v Γ'=>∃ z0:Hd,v=(z0).v∧Γ'=[E (List Int) y z0]):=by
 intro w0 S0 fp0 hI hS
 have H:Cx w0 fp0 S0 w0 [Es (List (List Int)) lists_ lists_h]:=Cx.start hI hS
 clear hI hS
 refine lA (args:=[_]) gok Tryz.func99 rfl _ rfl rfl rfl ?_
 refine lit0 (α:=Int) gok rfl rfl H ?_;clear H;intro h3 w2 hx H
 clear hx
 refine sq ?_
 refine kA (H.rs (α:=List (List Int)) 1 rfl).len ?_
 have x0:=(H.rs (α:=List (List Int)) 1 rfl).max
 obtain ⟨r0,e,f0⟩:=aA hF;clear hF
 refine fB _ lists_.length (fun (k5:Nat) (s0:List Int) (g0:Hd)=>[(3,(g0).v),(7,(lists_h).v),(8,(.int .i64 ((lists_.length:Nat):Int))),(9,(.int .i64 ((k5:Nat):Int)))]) (fun _ (s0:List Int) (g0:Hd) w'=>Cx w0 fp0 S0 w' [E (List Int) s0 g0,Es (List (List Int)) lists_ lists_h]) ([]:List Int) h3 e ⟨rfl,rfl,rfl,rfl,trivial⟩ (H.sel [0,1] rfl) ?_ ?_
 ·
  clear H e
  rintro T0 k5 s0 g0 w1 o0 hk (H:Cx w0 fp0 S0 w1 [E (List Int) s0 g0,Es (List (List Int)) lists_ lists_h]) f1
  refine jA (z:=true) (cB hk) ?_
  refine sq ?_
  refine sq ?_
  obtain ⟨a0,e,f2⟩:=aA f1;clear f1
  have HH:=H;clear H;obtain ⟨p0,m0,h0,c0,c1,c2,c3,H⟩:=HH.elL 1 rfl e;clear HH
  clear e
  refine dA c0 c1 c2 ?_;clear c0 c1 c2
  refine cA c3 ?_;clear c3
  obtain ⟨a1,e,f3⟩:=aA f2;clear f2
  replace H:=H.sel [1,0,2] rfl
  refine nC (α:=Int) gok rfl rfl rfl rfl H (Vw.sh 0 rfl) e ?_;clear e H;intro h1 w3 H
  refine arK hk x0 ?_
  have hs:=Option.some.inj f3;subst hs;clear f3
  exact ⟨h1,⟨rfl,rfl,rfl,rfl,trivial⟩,H.sel [0,2] rfl⟩
 ·
  clear H e
  rintro T1 g1 w4 (H:Cx w0 fp0 S0 w4 [E (List Int) r0 g1,Es (List (List Int)) lists_ lists_h])
  refine jA (z:=false) dB ?_
  refine sq ?_
  cases f0
  exact ⟨_,_,rfl,⟨g1,rfl,rfl⟩,(H.sel [0] rfl).close ⟨cloE,trivial⟩⟩
theorem Bn_ (list_:List Int) (list_h:Hd) (n_:Int) (y:Bool) (hF:sQ list_ n_=some y) :
  nA Tryz.prog 98 #[(list_h).v,(.int .i64 n_)] [Es (List Int) list_ list_h] [] (fun v Γ'=>v=(.bool y)∧Γ'=[]):=by
 intro w0 S0 fp0 hI hS
 have H:Cx w0 fp0 S0 w0 [Es (List Int) list_ list_h]:=Cx.start hI hS
 clear hI hS
 refine lA (args:=[_,_]) gok Tryz.func98 rfl _ rfl rfl rfl ?_
 refine sq ?_
 refine kA (H.rs (α:=List Int) 0 rfl).len ?_
 obtain ⟨a2,e,hF3⟩:=aA hF;clear hF
 refine gA e ?_;clear e
 cases a2
 ·
  have hF4:=fA hF3;clear hF3
  obtain ⟨a5,e,hF6⟩:=aA hF4;clear hF4
  refine qD (α:=Bool) gok rfl rfl rfl rfl (cE e) H ?_;clear e H;intro h8 w7 hx H
  clear hx
  refine sq ?_
  refine kA (H.rs (α:=List Int) 1 rfl).len ?_
  have x0:=(H.rs (α:=List Int) 1 rfl).max
  obtain ⟨r0,e,f0⟩:=aA hF6;clear hF6
  refine qF _ list_.length (fun (k0:Nat) (s0:List Bool) (_:Unit)=>[(1,(.int .i64 n_)),(5,(h8).v),(14,(list_h).v),(15,(.int .i64 ((list_.length:Nat):Int))),(16,(.int .i64 ((k0:Nat):Int)))]) (fun _ (s0:List Bool) (_:Unit) w'=>Cx w0 fp0 S0 w' [E (List Bool) s0 h8,Es (List Int) list_ list_h]) a5 () e ⟨rfl,rfl,rfl,rfl,rfl,trivial⟩ (H.sel [0,1] rfl) ?_ ?_
  ·
   clear H e
   rintro T0 k0 s0 _ w1 o0 hk (H:Cx w0 fp0 S0 w1 [E (List Bool) s0 h8,Es (List Int) list_ list_h]) hrt f1
   refine jA (z:=true) (cB hk) ?_
   refine sq ?_
   refine sq ?_
   obtain ⟨a0,e,f2⟩:=aA f1;clear f1
   obtain ⟨p0,m0,c0,c1,c2,c3⟩:=(H.rs (α:=List Int) 1 rfl).at1 e;clear e
   refine dA c0 c1 c2 ?_;clear c0 c1 c2
   refine cA c3 ?_;clear c3
   refine sq ?_
   obtain ⟨r1,f3,f4⟩:=aA f2;clear f2
   refine cut (fun (q0:Bool)=>[(1,(.int .i64 n_)),(5,(h8).v),(7,(.int .i64 a0)),(14,(list_h).v),(15,(.int .i64 ((list_.length:Nat):Int))),(16,(.int .i64 ((k0:Nat):Int))),(30,(.bool q0))]) (fun (q0:Bool) w'=>q0=r1∧Cx w0 fp0 S0 w' [E (List Bool) s0 h8,Es (List Int) list_ list_h]) ?_ ?_
   ·
    obtain ⟨a1,e,f5⟩:=aA f3;clear f3
    refine arO e ?_;clear e
    obtain ⟨y0,e,f6⟩:=aA f5;clear f5
    have i0:=e;clear e
    refine iA (uI a0 0 a1 y0 i0) (Γi:=[]) H trivial ?_;clear H i0
    rintro _ _ w2 ⟨rfl,rfl⟩ H
    obtain ⟨a3,e,f7⟩:=aA f6;clear f6
    refine gA e ?_;clear e
    cases a3
    ·
     have f8:=fA f7;clear f7
     obtain ⟨a4,e,f9⟩:=aA f8;clear f8
     obtain ⟨p1,m1,c4,c5,c6,c7⟩:=(H.ro (α:=List Bool) 0 rfl).at1 e;clear e
     refine dA c4 c5 c6 ?_;clear c4 c5 c6
     refine cA c7 ?_;clear c7
     exact ⟨a4,⟨rfl,rfl,rfl,rfl,rfl,rfl,rfl,trivial⟩,Option.some.inj f9,H.sel [0,1] rfl⟩
    ·
     have f10:=eA f7;clear f7
     exact ⟨true,⟨rfl,rfl,rfl,rfl,rfl,rfl,rfl,trivial⟩,Option.some.inj f10,H.sel [0,1] rfl⟩
   ·
    clear f3 H
    rintro T1 s1 w3 ⟨hr,(H:Cx w0 fp0 S0 w3 [E (List Bool) s0 h8,Es (List Int) list_ list_h])⟩
    subst hr
    cases s1
    ·
     have f11:=fA f4;clear f4
     obtain ⟨a6,e,f12⟩:=aA f11;clear f11
     have i1:=e;clear e
     obtain ⟨p2,m2,c8,c9,c10⟩:=(H.ro (α:=List Bool) 0 rfl).setp i1
     refine dA c8 c9 c10 ?_
     refine gC (α:=Bool) H c8 c9 i1 ?_;clear H c8 c9 c10 i1;intro w4 H
     refine arK hk x0 ?_
     have hs:=Option.some.inj f12;subst hs;clear f12
     exact ⟨a6,(),rfl,⟨rfl,rfl,rfl,rfl,rfl,trivial⟩,H.sel [0,1] rfl⟩
    ·
     have f13:=eA f4;clear f4
     have hs:=Option.some.inj f13;subst hs;clear f13
     have hr:=hrt _ rfl;subst hr
     have f14:some _=some _:=f0
     cases f14
     exact ⟨_,_,rfl,⟨rfl,rfl⟩,(H.sel [] rfl).close trivial⟩
  ·
   clear H e
   rintro T2 s2 _ w5 hr (H:Cx w0 fp0 S0 w5 [E (List Bool) s2 h8,Es (List Int) list_ list_h])
   subst hr
   refine jA (z:=false) dB ?_
   refine sq ?_
   cases f0
   exact ⟨_,_,rfl,⟨rfl,rfl⟩,(H.sel [] rfl).close trivial⟩
 ·
  have f15:=eA hF3;clear hF3
  cases f15
  exact ⟨_,_,rfl,⟨rfl,rfl⟩,(H.sel [] rfl).close trivial⟩
theorem sV (n_:Int) (lists_:List (List Int)) (lists_h:Hd) (y:Bool) (hF:iR n_ lists_=some y) :
  nA Tryz.prog 80 #[(.int .i64 n_),(lists_h).v] [Es (List (List Int)) lists_ lists_h] [] (fun v Γ'=>v=(.bool y)∧Γ'=[]):=by
 intro w0 S0 fp0 hI hS
 have H:Cx w0 fp0 S0 w0 [Es (List (List Int)) lists_ lists_h]:=Cx.start hI hS
 clear hI hS
 refine lA (args:=[_,_]) gok Tryz.func80 rfl _ rfl rfl rfl ?_
 obtain ⟨y2,e,hF3⟩:=aA hF;clear hF
 have ey2:=e;clear e
 refine iA (jL lists_ lists_h y2 ey2) (Γi:=[]) H ⟨Vw.sh 0 rfl,trivial⟩ ?_;clear H ey2
 rintro _ _ w4 ⟨h5,rfl,rfl⟩ H
 obtain ⟨y7,e,hF8⟩:=aA hF3;clear hF3
 have ey7:=e;clear e
 refine iA (Bn_ y2 h5 n_ y7 ey7) (Γi:=[]) H ⟨Vw.own 0 rfl,trivial⟩ ?_;clear H ey7
 rintro _ _ w9 ⟨rfl,rfl⟩ H
 cases hF8
 exact ⟨_,_,rfl,⟨rfl,rfl⟩,(H.sel [] rfl).close trivial⟩
theorem A7_ (g__0:Int) (g__1:List (Int×Int×List Int×List Int)) (g__1h:Hd) (g__2:List Int) (g__2h:Hd) (g__3:List Int) (g__3h:Hd) (y:Bool) (hF:gQ (g__0,g__1,g__2,g__3)=some y) :
  nA Tryz.prog 66 #[(.agg #[(.int .i64 g__0),(g__1h).v,(g__2h).v,(g__3h).v])] [Es (List (Int×Int×List Int×List Int)) g__1 g__1h,Es (List Int) g__2 g__2h,Es (List Int) g__3 g__3h] [] (fun v Γ'=>v=(.bool y)∧Γ'=[]):=by
 intro w0 S0 fp0 hI hS
 have H:Cx w0 fp0 S0 w0 [Es (List (Int×Int×List Int×List Int)) g__1 g__1h,Es (List Int) g__2 g__2h,Es (List Int) g__3 g__3h]:=Cx.start hI hS
 clear hI hS
 refine lA (args:=[_]) gok Tryz.func66 rfl _ rfl rfl rfl ?_
 refine jB H ?_;clear H;intro b5 w4 hx H
 clear hx
 refine sq ?_
 refine vA [(.int .i64 g__0),(g__1h).v,(g__2h).v,(g__3h).v] rfl (fun j u hj=>H.bx 0 rfl hj) ?_
 obtain ⟨y7,e,hF8⟩:=aA hF;clear hF
 have ey7:=e;clear e
 refine iA (Bp_ g__0 g__1 g__1h g__2 g__2h g__3 g__3h y7 ey7) (Γi:=[]) H ⟨Vw.sh 1 rfl,Vw.sh 2 rfl,Vw.sh 3 rfl,trivial⟩ ?_;clear H ey7
 rintro _ _ w9 ⟨rfl,rfl⟩ H
 obtain ⟨a0,e,f0⟩:=aA hF8;clear hF8
 refine gA e ?_;clear e
 cases a0
 ·
  have f1:=fA f0;clear f0
  obtain ⟨r0,f2,f3⟩:=aA f1;clear f1
  refine lH H [] (.fst 0 (.fst 3 (.fst 1 (.fst 4 (.alts (.alt 2 (.fst 6 (.act 5 (.fst 7 .done))) (.alt 5 (.act 2 (.fst 6 (.fst 7 .done))) .no))))))) vB [] trivial (by kernel_rfl) (fun (q0:(List (List Int)×List (List Int))×(Hd×Hd))=>[(1,(.pointer (some ⟨b5,0,none⟩))),(3,(q0.2.1).v),(4,(q0.2.2).v)]) (fun (q0:(List (List Int)×List (List Int))×(Hd×Hd)) w'=>(q0.1.1,q0.1.2)=r0∧Cx w0 fp0 S0 w' [Bx b5 [(.int .i64 g__0),(g__1h).v,(g__2h).v,(g__3h).v],Es (List (Int×Int×List Int×List Int)) g__1 g__1h,Es (List Int) g__2 g__2h,Es (List Int) g__3 g__3h,E (List (Sh (List Int))) q0.1.1 q0.2.1,E (List (Sh (List Int))) q0.1.2 q0.2.2]) ?_ ?_
  ·
   clear H;intro w1 H
   have hX:Ext w1 w1:=Upd.refl _ _
   have H0:=H
   refine xA (fun _=>fld gok rfl rfl rfl rfl ⟨rfl,rfl⟩) ?_
   refine xA (fun _=>fld gok rfl rfl rfl rfl ⟨rfl,rfl⟩) ?_
   refine uA (H.bx 0 rfl (j:=2) rfl) ?_
   refine uA (H.bx 0 rfl (j:=3) rfl) ?_
   refine pA ?_ ?_
   ·
    replace H:=H.dup 2 rfl qA
    refine gF (α:=Sh (List Int)) gok rfl rfl rfl rfl (by rfl) H ?_;clear H;intro h0 w2 hx H
    replace hX:=hX.trans0 hx;clear hx
    refine hold hX ?_
    replace H:=H.dup 4 rfl qA
    refine gF (α:=Sh (List Int)) gok rfl rfl rfl rfl (by rfl) H ?_;clear H;intro h1 w3 hx H
    replace hX:=hX.trans0 hx;clear hx
    refine hold hX ?_
    exact ⟨(([g__2],[g__3]),(h0,h1)),⟨rfl,rfl,rfl,trivial⟩,Option.some.inj f2,H.sel [2,3,4,5,1,0] rfl⟩
   ·
    refine pA ?_ ?_
    ·
     replace H:=H.dup 3 rfl qA
     refine gF (α:=Sh (List Int)) gok rfl rfl rfl rfl (by rfl) H ?_;clear H;intro h2 w5 hx H
     replace hX:=hX.trans0 hx;clear hx
     refine hold hX ?_
     replace H:=H.dup 3 rfl qA
     refine gF (α:=Sh (List Int)) gok rfl rfl rfl rfl (by rfl) H ?_;clear H;intro h3 w6 hx H
     replace hX:=hX.trans0 hx;clear hx
     refine hold hX ?_
     exact ⟨(([g__2],[g__3]),(h3,h2)),⟨rfl,rfl,rfl,trivial⟩,Option.some.inj f2,H.sel [2,3,4,5,0,1] rfl⟩
    ·
     exact trivial
  ·
   clear f2 H
   rintro T0 ⟨⟨s0_0,s0_1⟩,⟨g0_0,g0_1⟩⟩ w7 ⟨hr,(H:Cx w0 fp0 S0 w7 [Bx b5 [(.int .i64 g__0),(g__1h).v,(g__2h).v,(g__3h).v],Es (List (Int×Int×List Int×List Int)) g__1 g__1h,Es (List Int) g__2 g__2h,Es (List Int) g__3 g__3h,E (List (Sh (List Int))) s0_0 g0_0,E (List (Sh (List Int))) s0_1 g0_1])⟩
   subst hr
   refine sq ?_
   refine fld gok rfl rfl rfl rfl ?_
   refine cA (H.bx 0 rfl (j:=1) rfl) ?_
   refine kA (H.rs (α:=List (Int×Int×List Int×List Int)) 1 rfl).len ?_
   have x0:=(H.rs (α:=List (Int×Int×List Int×List Int)) 1 rfl).max
   obtain ⟨r1,e,f4⟩:=aA f3;clear f3
   refine fB _ g__1.length (fun (k0:Nat) (s1:List (List Int)×List (List Int)) (g1:Hd×Hd)=>[(1,(.pointer (some ⟨b5,0,none⟩))),(3,(g1.1).v),(4,(g1.2).v),(17,(g__1h).v),(18,(.int .i64 ((g__1.length:Nat):Int))),(19,(.int .i64 ((k0:Nat):Int)))]) (fun _ (s1:List (List Int)×List (List Int)) (g1:Hd×Hd) w'=>Cx w0 fp0 S0 w' [Bx b5 [(.int .i64 g__0),(g__1h).v,(g__2h).v,(g__3h).v],Es (List (Int×Int×List Int×List Int)) g__1 g__1h,Es (List Int) g__2 g__2h,Es (List Int) g__3 g__3h,E (List (Sh (List Int))) s1.1 g1.1,E (List (Sh (List Int))) s1.2 g1.2]) (s0_0,s0_1) (g0_0,g0_1) e ⟨rfl,rfl,rfl,rfl,rfl,rfl,trivial⟩ (H.sel [0,1,2,3,4,5] rfl) ?_ ?_
   ·
    clear H e
    rintro T1 k0 ⟨s1_0,s1_1⟩ ⟨g1_0,g1_1⟩ w8 o0 hk (H:Cx w0 fp0 S0 w8 [Bx b5 [(.int .i64 g__0),(g__1h).v,(g__2h).v,(g__3h).v],Es (List (Int×Int×List Int×List Int)) g__1 g__1h,Es (List Int) g__2 g__2h,Es (List Int) g__3 g__3h,E (List (Sh (List Int))) s1_0 g1_0,E (List (Sh (List Int))) s1_1 g1_1]) f5
    refine jA (z:=true) (cB hk) ?_
    refine sq ?_
    refine sq ?_
    obtain ⟨a1,e,f6⟩:=aA f5;clear f5
    have HH:=H;clear H;obtain ⟨p0,m0,g2,c0,c1,c2,c3,H⟩:=HH.el (α:=Int×Int×List Int×List Int) 1 rfl e;clear HH
    clear e
    obtain ⟨a1_0,a1_1,a1_2,a1_3⟩:=a1
    obtain ⟨_,_,h4,h5⟩:=g2
    replace H:=H.part (β:=List Int) a1_2 (h4:Hd) 0 rfl (fun S h=>(And.left (And.right (And.right h))))
    replace H:=H.part (β:=List Int) a1_3 (h5:Hd) 1 rfl (fun S h=>(And.right (And.right (And.right h))))
    replace H:=H.sel [0,1,3,4,5,6,7,8] rfl
    refine dA c0 c1 c2 ?_;clear c0 c1 c2
    refine vA [(.int .i64 a1_0),(.int .i64 a1_1),(h4).v,(h5).v] rfl c3 ?_;clear c3
    refine sB gok rfl H ?_;clear H;intro b0 w10 hx H
    clear hx
    refine stA gok [(.int .i64 a1_0),(.int .i64 a1_1),(h4).v,(h5).v] rfl H rfl rfl rfl ?_;clear H;intro w11 H
    refine fld gok rfl rfl rfl rfl ?_
    refine cA (H.bx 0 rfl (j:=3) rfl) ?_
    replace H:=H.dup 1 rfl qA
    refine gF (α:=Sh (List Int)) gok rfl rfl rfl rfl (by rfl) H ?_;clear H;intro h6 w12 hx H
    clear hx
    obtain ⟨a2,e,f7⟩:=aA f6;clear f6
    replace H:=H.sel [8,0,1,2,3,4,5,6,7,9] rfl
    refine append_ (α:=Sh (List Int)) gok rfl rfl rfl rfl H e ?_;clear e H;intro h7 w13 H
    refine fld gok rfl rfl rfl rfl ?_
    refine cA (H.bx 1 rfl (j:=2) rfl) ?_
    replace H:=H.dup 3 rfl qA
    refine gF (α:=Sh (List Int)) gok rfl rfl rfl rfl (by rfl) H ?_;clear H;intro h8 w14 hx H
    clear hx
    obtain ⟨a3,e,f8⟩:=aA f7;clear f7
    replace H:=H.sel [9,0,1,2,3,4,5,6,7,8] rfl
    refine append_ (α:=Sh (List Int)) gok rfl rfl rfl rfl H e ?_;clear e H;intro h9 w15 H
    refine arK hk x0 ?_
    have hs:=Option.some.inj f8;subst hs;clear f8
    exact ⟨(h7,h9),⟨rfl,rfl,rfl,rfl,rfl,rfl,trivial⟩,H.sel [5,6,7,8,1,0] rfl⟩
   ·
    clear H e
    obtain ⟨s2_0,s2_1⟩:=r1
    rintro T2 ⟨g3_0,g3_1⟩ w16 (H:Cx w0 fp0 S0 w16 [Bx b5 [(.int .i64 g__0),(g__1h).v,(g__2h).v,(g__3h).v],Es (List (Int×Int×List Int×List Int)) g__1 g__1h,Es (List Int) g__2 g__2h,Es (List Int) g__3 g__3h,E (List (Sh (List Int))) s2_0 g3_0,E (List (Sh (List Int))) s2_1 g3_1])
    refine jA (z:=false) dB ?_
    refine sq ?_
    obtain ⟨r2,f9,f10⟩:=aA f4;clear f4
    refine cut (fun (q1:Bool)=>[(2,(.bool q1))]) (fun (q1:Bool) w'=>q1=r2∧Cx w0 fp0 S0 w' []) ?_ ?_
    ·
     refine fld gok rfl rfl rfl rfl ?_
     refine cA (H.bx 0 rfl (j:=0) rfl) ?_
     obtain ⟨y0,e,f11⟩:=aA f9;clear f9
     have i0:=e;clear e
     refine iA (sV g__0 s2_0 g3_0 y0 i0) (Γi:=[]) H ⟨Vw.part (β:=List (List Int)) (Vw.own (α:=List (Sh (List Int))) 4 rfl) s2_0 g3_0 (fun S h=>h),trivial⟩ ?_;clear H i0
     rintro _ _ w17 ⟨rfl,rfl⟩ H
     cases y0
     ·
      have f12:=fA f11;clear f11
      exact ⟨false,⟨rfl,trivial⟩,Option.some.inj f12,H.sel [] rfl⟩
     ·
      have f13:=eA f11;clear f11
      refine fld gok rfl rfl rfl rfl ?_
      refine cA (H.bx 0 rfl (j:=0) rfl) ?_
      obtain ⟨y1,e,f14⟩:=aA f13;clear f13
      have i1:=e;clear e
      refine iA (sV g__0 s2_1 g3_1 y1 i1) (Γi:=[]) H ⟨Vw.part (β:=List (List Int)) (Vw.own (α:=List (Sh (List Int))) 5 rfl) s2_1 g3_1 (fun S h=>h),trivial⟩ ?_;clear H i1
      rintro _ _ w18 ⟨rfl,rfl⟩ H
      exact ⟨y1,⟨rfl,trivial⟩,Option.some.inj f14,H.sel [] rfl⟩
    ·
     clear f9 H
     rintro T3 s3 w19 ⟨hr,(H:Cx w0 fp0 S0 w19 [])⟩
     subst hr
     cases f10
     exact ⟨_,_,rfl,⟨rfl,rfl⟩,(H.sel [] rfl).close trivial⟩
 ·
  have f15:=eA f0;clear f0
  cases f15
  exact ⟨_,_,rfl,⟨rfl,rfl⟩,(H.sel [] rfl).close trivial⟩
theorem nS (n_:Int) (y:List Int) (hF:nL n_=some y) :
  nA Tryz.prog 123 #[(.int .i64 n_)] [] [] (fun v Γ'=>∃ z0:Hd,v=(z0).v∧Γ'=[E (List Int) y z0]):=by
 intro w0 S0 fp0 hI hS
 have H:Cx w0 fp0 S0 w0 []:=Cx.start hI hS
 clear hI hS
 refine lA (args:=[_]) gok Tryz.func123 rfl _ rfl rfl rfl ?_
 obtain ⟨a1,e,hF2⟩:=aA hF;clear hF
 refine qD (α:=Int) gok rfl rfl rfl rfl (cE e) H ?_;clear e H;intro h4 w3 hx H
 clear hx
 cases hF2
 exact ⟨_,_,rfl,⟨h4,rfl,rfl⟩,(H.sel [0] rfl).close ⟨cloE,trivial⟩⟩
theorem yC (a_:Int) (n_:Int) (y:List Int) (hF:qJ a_ n_=some y) :
  nA Tryz.prog 102 #[(.int .i64 a_),(.int .i64 n_)] [] [] (fun v Γ'=>∃ z0:Hd,v=(z0).v∧Γ'=[E (List Int) y z0]):=by
 intro w0 S0 fp0 hI hS
 have H:Cx w0 fp0 S0 w0 []:=Cx.start hI hS
 clear hI hS
 refine lA (args:=[_,_]) gok Tryz.func102 rfl _ rfl rfl rfl ?_
 obtain ⟨y1,e,hF2⟩:=aA hF;clear hF
 have ey1:=e;clear e
 refine iA (nS n_ y1 ey1) (Γi:=[]) H trivial ?_;clear H ey1
 rintro _ _ w3 ⟨h4,rfl,rfl⟩ H
 refine sq ?_
 refine kA (H.ro (α:=List Int) 0 rfl).len ?_
 have x0:=(H.ro (α:=List Int) 0 rfl).max
 obtain ⟨r0,e,f0⟩:=aA hF2;clear hF2
 refine fB _ y1.length (fun (k6:Nat) (s0:List Int) (_:Unit)=>[(0,(.int .i64 a_)),(5,(h4).v),(10,(.int .i64 ((y1.length:Nat):Int))),(11,(.int .i64 ((k6:Nat):Int)))]) (fun _ (s0:List Int) (_:Unit) w'=>Cx w0 fp0 S0 w' [E (List Int) s0 h4]) y1 () e ⟨rfl,rfl,rfl,rfl,trivial⟩ (H.sel [0] rfl) ?_ ?_
 ·
  clear H e
  rintro T0 k6 s0 _ w1 o0 hk (H:Cx w0 fp0 S0 w1 [E (List Int) s0 h4]) f1
  refine jA (z:=true) (cB hk) ?_
  refine sq ?_
  refine sq ?_
  obtain ⟨a0,e,f2⟩:=aA f1;clear f1
  have i0:=e;clear e
  obtain ⟨p0,m0,c0,c1,c2⟩:=(H.ro (α:=List Int) 0 rfl).setp i0
  refine dA c0 c1 c2 ?_
  refine gC (α:=Int) H c0 c1 i0 ?_;clear H c0 c1 c2 i0;intro w2 H
  refine arK hk x0 ?_
  have hs:=Option.some.inj f2;subst hs;clear f2
  exact ⟨(),⟨rfl,rfl,rfl,rfl,trivial⟩,H.sel [0] rfl⟩
 ·
  clear H e
  rintro T1 _ w4 (H:Cx w0 fp0 S0 w4 [E (List Int) r0 h4])
  refine jA (z:=false) dB ?_
  refine sq ?_
  cases f0
  exact ⟨_,_,rfl,⟨h4,rfl,rfl⟩,(H.sel [0] rfl).close ⟨cloE,trivial⟩⟩
theorem aL (g__0:Int) (g__1:List (Int×Int×List Int×List Int)) (g__1h:Hd) (g__2:List Int) (g__2h:Hd) (g__3:List Int) (g__3h:Hd) (y_0:List Int) (y_1:List Int) (hF:lR (g__0,g__1,g__2,g__3)=some (y_0,y_1)) :
  nA Tryz.prog 136 #[(.agg #[(.int .i64 g__0),(g__1h).v,(g__2h).v,(g__3h).v])] [Es (List (Int×Int×List Int×List Int)) g__1 g__1h,Es (List Int) g__2 g__2h,Es (List Int) g__3 g__3h] [] (fun v Γ'=>∃ z0 z1:Hd,v=(.agg #[(z0).v,(z1).v])∧Γ'=[E (List Int) y_0 z0,E (List Int) y_1 z1]):=by
 intro w0 S0 fp0 hI hS
 have H:Cx w0 fp0 S0 w0 [Es (List (Int×Int×List Int×List Int)) g__1 g__1h,Es (List Int) g__2 g__2h,Es (List Int) g__3 g__3h]:=Cx.start hI hS
 clear hI hS
 refine lA (args:=[_]) gok Tryz.func136 rfl _ rfl rfl rfl ?_
 refine jB H ?_;clear H;intro b5 w4 hx H
 clear hx
 refine sB gok rfl H ?_;clear H;intro b8 w7 hx H
 clear hx
 obtain ⟨r0,f0,f1⟩:=aA hF;clear hF
 refine lH H [] (.fst 0 (.fst 3 (.fst 1 (.fst 4 (.alts (.alt 2 (.alts (.alt 5 (.fst 6 (.act 7 (.act 8 .done))) (.alt 7 (.act 5 (.fst 6 (.act 8 .done))) .no))) (.alt 7 (.act 2 (.act 5 (.fst 6 (.act 8 .done)))) .no))))))) vB [] trivial (by kernel_rfl) (fun (q0:(List Int×List Int)×(Hd×Hd×Nat))=>[(1,(.pointer (some ⟨b5,0,none⟩))),(2,(.pointer (some ⟨b8,0,none⟩))),(3,(.pointer (some ⟨q0.2.2.2,0,none⟩)))]) (fun (q0:(List Int×List Int)×(Hd×Hd×Nat)) w'=>(q0.1.1,q0.1.2)=r0∧Cx w0 fp0 S0 w' [Bx b5 [(.int .i64 g__0),(g__1h).v,(g__2h).v,(g__3h).v],Es (List (Int×Int×List Int×List Int)) g__1 g__1h,Es (List Int) g__2 g__2h,Es (List Int) g__3 g__3h,Bx b8 [(.slice none 0 0),(.slice none 0 0)],Bx q0.2.2.2 [(q0.2.1).v,(q0.2.2.1).v],E (List Int) q0.1.1 q0.2.1,E (List Int) q0.1.2 q0.2.2.1]) ?_ ?_
 ·
  clear H;intro w1 H
  have hX:Ext w1 w1:=Upd.refl _ _
  have H0:=H
  refine xA (fun _=>fld gok rfl rfl rfl rfl ⟨rfl,rfl⟩) ?_
  refine xA (fun _=>fld gok rfl rfl rfl rfl ⟨rfl,rfl⟩) ?_
  refine uA (H.bx 1 rfl (j:=0) rfl) ?_
  refine uA (H.bx 1 rfl (j:=0) rfl) ?_
  refine pA ?_ ?_
  ·
   obtain ⟨y0,e,f2⟩:=aA f0;clear f0
   have i0:=e;clear e
   refine eB (yC (-1) g__0 y0 i0) H trivial ?_;clear H i0
   rintro _ _ w2 ⟨h0,rfl,rfl⟩ hx H
   replace hX:=hX.trans0 hx;clear hx
   refine hold hX ?_
   refine pA ?_ ?_
   ·
    obtain ⟨y1,e,f3⟩:=aA f2;clear f2
    have i1:=e;clear e
    refine eB (yC (-1) g__0 y1 i1) H trivial ?_;clear H i1
    rintro _ _ w3 ⟨h1,rfl,rfl⟩ hx H
    replace hX:=hX.trans0 hx;clear hx
    refine hold hX ?_
    refine xA (fun _=>tB (cs:=#[(h0).v,(h1).v]) gok rfl rfl rfl ⟨rfl,rfl⟩) ?_
    refine dC gok rfl H ?_;clear H;intro b0 w5 hx v0 H;replace v0:=Nat.le_trans hX.size v0
    replace hX:=hX.trans0 hx;clear hx
    refine hold hX ?_
    refine cG gok [(h0).v,(h1).v] rfl H rfl rfl rfl ?_;clear H;intro w6 hu H
    replace hX:=hX.fresh hu v0;clear hu
    refine hold hX ?_
    exact ⟨((y0,y1),(h0,h1,b0)),⟨rfl,rfl,rfl,trivial⟩,Option.some.inj f3,H.sel [4,5,6,7,3,0,2,1] rfl⟩
   ·
    refine pA ?_ ?_
    ·
     obtain ⟨a0,o0,f4⟩:=aA f2;clear f2
     refine dC gok rfl H ?_;clear H;intro b1 w8 hx v1 H;replace v1:=Nat.le_trans hX.size v1
     replace hX:=hX.trans0 hx;clear hx
     refine hold hX ?_
     have e:=o0;clear o0
     have i2:=e;clear e
     refine eB (yC (-1) g__0 a0 i2) H trivial ?_;clear H i2
     rintro _ _ w9 ⟨h2,rfl,rfl⟩ hx H
     replace hX:=hX.trans0 hx;clear hx
     refine hold hX ?_
     refine xA (fun _=>tB (cs:=#[(h0).v,(h2).v]) gok rfl rfl rfl ⟨rfl,rfl⟩) ?_
     replace H:=H.sel [1,0,2,3,4,5,6,7] rfl
     refine cG gok [(h0).v,(h2).v] rfl H rfl rfl rfl ?_;clear H;intro w10 hu H
     replace hX:=hX.fresh hu v1;clear hu
     refine hold hX ?_
     exact ⟨((y0,a0),(h0,h2,b1)),⟨rfl,rfl,rfl,trivial⟩,Option.some.inj f4,H.sel [4,5,6,7,3,0,2,1] rfl⟩
    ·
     exact trivial
  ·
   refine pA ?_ ?_
   ·
    obtain ⟨a1,o1,f5⟩:=aA f0;clear f0
    obtain ⟨a2,o2,f6⟩:=aA f5;clear f5
    refine dC gok rfl H ?_;clear H;intro b2 w11 hx v2 H;replace v2:=Nat.le_trans hX.size v2
    replace hX:=hX.trans0 hx;clear hx
    refine hold hX ?_
    have e:=o1;clear o1
    have i3:=e;clear e
    refine eB (yC (-1) g__0 a1 i3) H trivial ?_;clear H i3
    rintro _ _ w12 ⟨h3,rfl,rfl⟩ hx H
    replace hX:=hX.trans0 hx;clear hx
    refine hold hX ?_
    have e:=o2;clear o2
    have i4:=e;clear e
    refine eB (yC (-1) g__0 a2 i4) H trivial ?_;clear H i4
    rintro _ _ w13 ⟨h4,rfl,rfl⟩ hx H
    replace hX:=hX.trans0 hx;clear hx
    refine hold hX ?_
    refine xA (fun _=>tB (cs:=#[(h3).v,(h4).v]) gok rfl rfl rfl ⟨rfl,rfl⟩) ?_
    replace H:=H.sel [2,0,1,3,4,5,6,7] rfl
    refine cG gok [(h3).v,(h4).v] rfl H rfl rfl rfl ?_;clear H;intro w14 hu H
    replace hX:=hX.fresh hu v2;clear hu
    refine hold hX ?_
    exact ⟨((a1,a2),(h3,h4,b2)),⟨rfl,rfl,rfl,trivial⟩,Option.some.inj f6,H.sel [4,5,6,7,3,0,2,1] rfl⟩
   ·
    exact trivial
 ·
  clear f0 H
  rintro T0 ⟨⟨s0_0,s0_1⟩,⟨g0_0,g0_1,g0_2⟩⟩ w15 ⟨hr,(H:Cx w0 fp0 S0 w15 [Bx b5 [(.int .i64 g__0),(g__1h).v,(g__2h).v,(g__3h).v],Es (List (Int×Int×List Int×List Int)) g__1 g__1h,Es (List Int) g__2 g__2h,Es (List Int) g__3 g__3h,Bx b8 [(.slice none 0 0),(.slice none 0 0)],Bx g0_2 [(g0_0).v,(g0_1).v],E (List Int) s0_0 g0_0,E (List Int) s0_1 g0_1])⟩
  subst hr
  refine sq ?_
  refine fld gok rfl rfl rfl rfl ?_
  refine cA (H.bx 0 rfl (j:=1) rfl) ?_
  refine kA (H.rs (α:=List (Int×Int×List Int×List Int)) 1 rfl).len ?_
  have x0:=(H.rs (α:=List (Int×Int×List Int×List Int)) 1 rfl).max
  obtain ⟨r1,e,f7⟩:=aA f1;clear f1
  refine fB _ g__1.length (fun (k0:Nat) (s1:List Int×List Int) (_:Unit)=>[(2,(.pointer (some ⟨b8,0,none⟩))),(3,(.pointer (some ⟨g0_2,0,none⟩))),(18,(g__1h).v),(19,(.int .i64 ((g__1.length:Nat):Int))),(20,(.int .i64 ((k0:Nat):Int)))]) (fun _ (s1:List Int×List Int) (_:Unit) w'=>Cx w0 fp0 S0 w' [Bx b8 [(.slice none 0 0),(.slice none 0 0)],Bx g0_2 [(g0_0).v,(g0_1).v],E (List Int) s1.1 g0_0,E (List Int) s1.2 g0_1,Es (List (Int×Int×List Int×List Int)) g__1 g__1h]) (s0_0,s0_1) () e ⟨rfl,rfl,rfl,rfl,rfl,trivial⟩ (H.sel [4,5,6,7,1] rfl) ?_ ?_
  ·
   clear H e
   rintro T1 k0 ⟨s1_0,s1_1⟩ _ w16 o3 hk (H:Cx w0 fp0 S0 w16 [Bx b8 [(.slice none 0 0),(.slice none 0 0)],Bx g0_2 [(g0_0).v,(g0_1).v],E (List Int) s1_0 g0_0,E (List Int) s1_1 g0_1,Es (List (Int×Int×List Int×List Int)) g__1 g__1h]) f8
   refine jA (z:=true) (cB hk) ?_
   refine sq ?_
   refine sq ?_
   obtain ⟨a3,e,f9⟩:=aA f8;clear f8
   have HH:=H;clear H;obtain ⟨p0,m0,g1,c0,c1,c2,c3,H⟩:=HH.el (α:=Int×Int×List Int×List Int) 4 rfl e;clear HH
   clear e
   obtain ⟨a3_0,a3_1,a3_2,a3_3⟩:=a3
   obtain ⟨_,_,h5,h6⟩:=g1
   replace H:=H.part (β:=List Int) a3_2 (h5:Hd) 0 rfl (fun S h=>(And.left (And.right (And.right h))))
   replace H:=H.part (β:=List Int) a3_3 (h6:Hd) 1 rfl (fun S h=>(And.right (And.right (And.right h))))
   replace H:=H.sel [0,1,3,4,5,6,7] rfl
   refine dA c0 c1 c2 ?_;clear c0 c1 c2
   refine vA [(.int .i64 a3_0),(.int .i64 a3_1),(h5).v,(h6).v] rfl c3 ?_;clear c3
   refine sB gok rfl H ?_;clear H;intro b3 w17 hx H
   clear hx
   refine stA gok [(.int .i64 a3_0),(.int .i64 a3_1),(h5).v,(h6).v] rfl H rfl rfl rfl ?_;clear H;intro w18 H
   refine sq ?_
   refine fld gok rfl rfl rfl rfl ?_
   refine cA (H.bx 0 rfl (j:=3) rfl) ?_
   refine kA (H.rs (α:=List Int) 1 rfl).len ?_
   have x1:=(H.rs (α:=List Int) 1 rfl).max
   obtain ⟨r2,e,f10⟩:=aA f9;clear f9
   refine fB _ a3_3.length (fun (k1:Nat) (s2:List Int) (_:Unit)=>[(2,(.pointer (some ⟨b8,0,none⟩))),(3,(.pointer (some ⟨g0_2,0,none⟩))),(4,(.int .i64 ((k0:Nat):Int))),(5,(.pointer (some ⟨b3,0,none⟩))),(18,(g__1h).v),(19,(.int .i64 ((g__1.length:Nat):Int))),(20,(.int .i64 ((k0:Nat):Int))),(26,(h6).v),(27,(.int .i64 ((a3_3.length:Nat):Int))),(28,(.int .i64 ((k1:Nat):Int)))]) (fun _ (s2:List Int) (_:Unit) w'=>Cx w0 fp0 S0 w' [Bx b8 [(.slice none 0 0),(.slice none 0 0)],Bx g0_2 [(g0_0).v,(g0_1).v],E (List Int) s2 g0_0,E (List Int) s1_1 g0_1,Bx b3 [(.int .i64 a3_0),(.int .i64 a3_1),(h5).v,(h6).v],Es (List Int) a3_2 h5,Es (List Int) a3_3 h6,Es (List (Int×Int×List Int×List Int)) g__1 g__1h]) s1_0 () e ⟨rfl,rfl,rfl,rfl,rfl,rfl,rfl,rfl,rfl,rfl,trivial⟩ (H.sel [3,4,5,6,0,2,1,7] rfl) ?_ ?_
   ·
    clear H e
    rintro T2 k1 s2 _ w19 o4 hk (H:Cx w0 fp0 S0 w19 [Bx b8 [(.slice none 0 0),(.slice none 0 0)],Bx g0_2 [(g0_0).v,(g0_1).v],E (List Int) s2 g0_0,E (List Int) s1_1 g0_1,Bx b3 [(.int .i64 a3_0),(.int .i64 a3_1),(h5).v,(h6).v],Es (List Int) a3_2 h5,Es (List Int) a3_3 h6,Es (List (Int×Int×List Int×List Int)) g__1 g__1h]) f11
    refine jA (z:=true) (cB hk) ?_
    refine sq ?_
    refine sq ?_
    obtain ⟨a4,e,f12⟩:=aA f11;clear f11
    obtain ⟨p1,m1,c4,c5,c6,c7⟩:=(H.rs (α:=List Int) 6 rfl).at1 e;clear e
    refine dA c4 c5 c6 ?_;clear c4 c5 c6
    refine cA c7 ?_;clear c7
    refine fld gok rfl rfl rfl rfl ?_
    refine cA (H.bx 1 rfl (j:=0) rfl) ?_
    obtain ⟨a5,e,f13⟩:=aA f12;clear f12
    have i5:=e;clear e
    obtain ⟨p2,m2,c8,c9,c10⟩:=(H.ro (α:=List Int) 2 rfl).setp i5
    refine dA c8 c9 c10 ?_
    replace H:=H.sel [2,0,1,3,4,5,6,7] rfl
    refine gC (α:=Int) H c8 c9 i5 ?_;clear H c8 c9 c10 i5;intro w20 H
    refine arK hk x1 ?_
    have hs:=Option.some.inj f13;subst hs;clear f13
    exact ⟨(),⟨rfl,rfl,rfl,rfl,rfl,rfl,rfl,rfl,rfl,rfl,trivial⟩,H.sel [1,2,0,3,4,5,6,7] rfl⟩
   ·
    clear H e
    rintro T3 _ w21 (H:Cx w0 fp0 S0 w21 [Bx b8 [(.slice none 0 0),(.slice none 0 0)],Bx g0_2 [(g0_0).v,(g0_1).v],E (List Int) r2 g0_0,E (List Int) s1_1 g0_1,Bx b3 [(.int .i64 a3_0),(.int .i64 a3_1),(h5).v,(h6).v],Es (List Int) a3_2 h5,Es (List Int) a3_3 h6,Es (List (Int×Int×List Int×List Int)) g__1 g__1h])
    refine jA (z:=false) dB ?_
    refine sq ?_
    refine fld gok rfl rfl rfl rfl ?_
    refine cA (H.bx 4 rfl (j:=2) rfl) ?_
    refine kA (H.rs (α:=List Int) 5 rfl).len ?_
    have x2:=(H.rs (α:=List Int) 5 rfl).max
    obtain ⟨r3,e,f14⟩:=aA f10;clear f10
    refine fB _ a3_2.length (fun (k2:Nat) (s3:List Int) (_:Unit)=>[(2,(.pointer (some ⟨b8,0,none⟩))),(3,(.pointer (some ⟨g0_2,0,none⟩))),(4,(.int .i64 ((k0:Nat):Int))),(18,(g__1h).v),(19,(.int .i64 ((g__1.length:Nat):Int))),(20,(.int .i64 ((k0:Nat):Int))),(39,(h5).v),(40,(.int .i64 ((a3_2.length:Nat):Int))),(41,(.int .i64 ((k2:Nat):Int)))]) (fun _ (s3:List Int) (_:Unit) w'=>Cx w0 fp0 S0 w' [Bx b8 [(.slice none 0 0),(.slice none 0 0)],Bx g0_2 [(g0_0).v,(g0_1).v],E (List Int) r2 g0_0,E (List Int) s3 g0_1,Es (List (Int×Int×List Int×List Int)) g__1 g__1h,Es (List Int) a3_2 h5]) s1_1 () e ⟨rfl,rfl,rfl,rfl,rfl,rfl,rfl,rfl,rfl,trivial⟩ (H.sel [0,1,2,3,7,5] rfl) ?_ ?_
    ·
     clear H e
     rintro T4 k2 s3 _ w22 o5 hk (H:Cx w0 fp0 S0 w22 [Bx b8 [(.slice none 0 0),(.slice none 0 0)],Bx g0_2 [(g0_0).v,(g0_1).v],E (List Int) r2 g0_0,E (List Int) s3 g0_1,Es (List (Int×Int×List Int×List Int)) g__1 g__1h,Es (List Int) a3_2 h5]) f15
     refine jA (z:=true) (cB hk) ?_
     refine sq ?_
     refine sq ?_
     obtain ⟨a6,e,f16⟩:=aA f15;clear f15
     obtain ⟨p3,m3,c11,c12,c13,c14⟩:=(H.rs (α:=List Int) 5 rfl).at1 e;clear e
     refine dA c11 c12 c13 ?_;clear c11 c12 c13
     refine cA c14 ?_;clear c14
     refine fld gok rfl rfl rfl rfl ?_
     refine cA (H.bx 1 rfl (j:=1) rfl) ?_
     obtain ⟨a7,e,f17⟩:=aA f16;clear f16
     have i6:=e;clear e
     obtain ⟨p4,m4,c15,c16,c17⟩:=(H.ro (α:=List Int) 3 rfl).setp i6
     refine dA c15 c16 c17 ?_
     replace H:=H.sel [3,0,1,2,4,5] rfl
     refine gC (α:=Int) H c15 c16 i6 ?_;clear H c15 c16 c17 i6;intro w23 H
     refine arK hk x2 ?_
     have hs:=Option.some.inj f17;subst hs;clear f17
     exact ⟨(),⟨rfl,rfl,rfl,rfl,rfl,rfl,rfl,rfl,rfl,trivial⟩,H.sel [1,2,3,0,4,5] rfl⟩
    ·
     clear H e
     rintro T5 _ w24 (H:Cx w0 fp0 S0 w24 [Bx b8 [(.slice none 0 0),(.slice none 0 0)],Bx g0_2 [(g0_0).v,(g0_1).v],E (List Int) r2 g0_0,E (List Int) r3 g0_1,Es (List (Int×Int×List Int×List Int)) g__1 g__1h,Es (List Int) a3_2 h5])
     refine jA (z:=false) dB ?_
     refine sq ?_
     refine arK hk x0 ?_
     have hs:=Option.some.inj f14;subst hs;clear f14
     exact ⟨(),⟨rfl,rfl,rfl,rfl,rfl,trivial⟩,H.sel [0,1,2,3,4] rfl⟩
  ·
   clear H e
   obtain ⟨s4_0,s4_1⟩:=r1
   rintro T6 _ w25 (H:Cx w0 fp0 S0 w25 [Bx b8 [(.slice none 0 0),(.slice none 0 0)],Bx g0_2 [(g0_0).v,(g0_1).v],E (List Int) s4_0 g0_0,E (List Int) s4_1 g0_1,Es (List (Int×Int×List Int×List Int)) g__1 g__1h])
   refine jA (z:=false) dB ?_
   refine sq ?_
   refine vA [(g0_0).v,(g0_1).v] rfl (fun j u hj=>H.bx 1 rfl hj) ?_
   refine stA gok [(g0_0).v,(g0_1).v] rfl H rfl rfl rfl ?_;clear H;intro w26 H
   refine vA [(g0_0).v,(g0_1).v] rfl (fun j u hj=>H.bx 0 rfl hj) ?_
   cases f7
   exact ⟨_,_,rfl,⟨g0_0,g0_1,rfl,rfl⟩,(H.sel [2,3] rfl).close ⟨cloE,cloE,trivial⟩⟩
theorem B0_ (g__0:Int) (g__1:List (Int×Int×List Int×List Int)) (g__1h:Hd) (g__2:List Int) (g__2h:Hd) (g__3:List Int) (g__3h:Hd) (y_0_0:Int) (y_0_1:List (Int×Int×List Int×List Int)) (y_0_2:List Int) (y_0_3:List Int) (y_1_0:List Int) (y_1_1:List Int) (y_2:MI) (y_3:MI) (y_4:List Int) (y_5:List Int) (hF:uV (g__0,g__1,g__2,g__3)=some ((y_0_0,y_0_1,y_0_2,y_0_3),(y_1_0,y_1_1),y_2,y_3,y_4,y_5)) :
  nA Tryz.prog 120 #[(.agg #[(.int .i64 g__0),(g__1h).v,(g__2h).v,(g__3h).v])] [Es (List (Int×Int×List Int×List Int)) g__1 g__1h,Es (List Int) g__2 g__2h,Es (List Int) g__3 g__3h] [] (fun v Γ'=>∃ (z0:Nat) (z1:Hd) (z2:Hd) (z3:Mh) (z4:Mh) (z5:Hd) (z6:Hd),v=(.pointer (some ⟨z0,0,none⟩))∧Γ'=[Bx z0 [(.int .i64 y_0_0),(g__1h).v,(g__2h).v,(g__3h).v,(z1).v,(z2).v,(z3).v,(z4).v,(z5).v,(z6).v],E (List Int) y_1_0 z1,E (List Int) y_1_1 z2,E MI y_2 z3,E MI y_3 z4,E (List Int) y_4 z5,E (List Int) y_5 z6]):=by
 intro w0 S0 fp0 hI hS
 have H:Cx w0 fp0 S0 w0 [Es (List (Int×Int×List Int×List Int)) g__1 g__1h,Es (List Int) g__2 g__2h,Es (List Int) g__3 g__3h]:=Cx.start hI hS
 clear hI hS
 refine lA (args:=[_]) gok Tryz.func120 rfl _ rfl rfl rfl ?_
 refine jB H ?_;clear H;intro b5 w4 hx H
 clear hx
 obtain ⟨r0,f0,f1⟩:=aA hF;clear hF
 refine lH H [] (.fst 0 (.fst 1 (.alts (.alt 2 (.alts (.alt 3 (.act 4 (.fst 5 (.act 6 (.fst 7 .done)))) (.alt 4 (.act 3 (.fst 5 (.act 6 (.fst 7 .done)))) .no))) (.alt 3 (.alts (.alt 2 (.act 4 (.fst 5 (.act 6 (.fst 7 .done)))) (.alt 4 (.act 2 (.fst 5 (.act 6 (.fst 7 .done)))) .no))) (.alt 4 (.alts (.alt 2 (.act 3 (.fst 5 (.act 6 (.fst 7 .done)))) (.alt 3 (.act 2 (.fst 5 (.act 6 (.fst 7 .done)))) .no))) .no)))))) vB [] trivial (by kernel_rfl) (fun (q0:(Int×List Int×List Int×MI×MI)×(Hd×Hd×Mh×Mh×Nat))=>[(2,(.pointer (some ⟨q0.2.2.2.2.2,0,none⟩)))]) (fun (q0:(Int×List Int×List Int×MI×MI)×(Hd×Hd×Mh×Mh×Nat)) w'=>(q0.1.1,q0.1.2.1,q0.1.2.2.1,q0.1.2.2.2.1,q0.1.2.2.2.2)=r0∧Cx w0 fp0 S0 w' [Bx q0.2.2.2.2.2 [(.int .i64 q0.1.1),(g__1h).v,(g__2h).v,(g__3h).v,(q0.2.1).v,(q0.2.2.1).v,(q0.2.2.2.1).v,(q0.2.2.2.2.1).v,(.slice none 0 0),(.slice none 0 0)],Es (List (Int×Int×List Int×List Int)) g__1 g__1h,Es (List Int) g__2 g__2h,Es (List Int) g__3 g__3h,E (List Int) q0.1.2.1 q0.2.1,E (List Int) q0.1.2.2.1 q0.2.2.1,E MI q0.1.2.2.2.1 q0.2.2.2.1,E MI q0.1.2.2.2.2 q0.2.2.2.2.1]) ?_ ?_
 ·
  clear H;intro w1 H
  have hX:Ext w1 w1:=Upd.refl _ _
  have H0:=H
  refine eF [(.int .i64 g__0),(g__1h).v,(g__2h).v,(g__3h).v] rfl (fun j u hj=>H.bx 0 rfl hj) ?_
  refine eF [(.int .i64 g__0),(g__1h).v,(g__2h).v,(g__3h).v] rfl (fun j u hj=>H.bx 0 rfl hj) ?_
  refine pA ?_ ?_
  ·
   obtain ⟨y0,e,f2⟩:=aA f0;clear f0
   obtain ⟨y0_0,y0_1⟩:=y0
   have i0:=e;clear e
   refine eB (aL g__0 g__1 g__1h g__2 g__2h g__3 g__3h y0_0 y0_1 i0) H ⟨Vw.sh 1 rfl,Vw.sh 2 rfl,Vw.sh 3 rfl,trivial⟩ ?_;clear H i0
   rintro _ _ w2 ⟨h0,h1,rfl,rfl⟩ hx H
   replace hX:=hX.trans0 hx;clear hx
   refine hold hX ?_
   refine pA ?_ ?_
   ·
    refine mkM H ?_;clear H;intro h2 w3 hx H
    replace hX:=hX.trans0 hx;clear hx
    refine hold hX ?_
    refine mkM H ?_;clear H;intro h3 w5 hx H
    replace hX:=hX.trans0 hx;clear hx
    refine hold hX ?_
    refine xA (fun _=>tB (cs:=#[(.int .i64 g__0),(g__1h).v,(g__2h).v,(g__3h).v,(h0).v,(h1).v,(h2).v,(h3).v,(.slice none 0 0),(.slice none 0 0)]) gok rfl rfl (by kernel_rfl) ⟨rfl,rfl⟩) ?_
    refine boxX H ?_;clear H;intro b0 w6 hx v0 H;replace v0:=Nat.le_trans hX.size v0
    replace hX:=hX.trans0 hx;clear hx
    refine hold hX ?_
    exact ⟨((g__0,y0_0,y0_1,(⟨[]⟩:MI),(⟨[]⟩:MI)),(h0,h1,h2,h3,b0)),⟨rfl,trivial⟩,Option.some.inj f2,H.sel [0,6,7,8,3,4,2,1] rfl⟩
   ·
    refine pA ?_ ?_
    ·
     refine mkM H ?_;clear H;intro h4 w7 hx H
     replace hX:=hX.trans0 hx;clear hx
     refine hold hX ?_
     refine mkM H ?_;clear H;intro h5 w8 hx H
     replace hX:=hX.trans0 hx;clear hx
     refine hold hX ?_
     refine xA (fun _=>tB (cs:=#[(.int .i64 g__0),(g__1h).v,(g__2h).v,(g__3h).v,(h0).v,(h1).v,(h5).v,(h4).v,(.slice none 0 0),(.slice none 0 0)]) gok rfl rfl (by kernel_rfl) ⟨rfl,rfl⟩) ?_
     refine boxX H ?_;clear H;intro b1 w9 hx v1 H;replace v1:=Nat.le_trans hX.size v1
     replace hX:=hX.trans0 hx;clear hx
     refine hold hX ?_
     exact ⟨((g__0,y0_0,y0_1,(⟨[]⟩:MI),(⟨[]⟩:MI)),(h0,h1,h5,h4,b1)),⟨rfl,trivial⟩,Option.some.inj f2,H.sel [0,6,7,8,3,4,1,2] rfl⟩
    ·
     exact trivial
  ·
   refine pA ?_ ?_
   ·
    obtain ⟨a0,o0,f3⟩:=aA f0;clear f0
    refine mkM H ?_;clear H;intro h6 w10 hx H
    replace hX:=hX.trans0 hx;clear hx
    refine hold hX ?_
    refine pA ?_ ?_
    ·
     have e:=o0;clear o0
     obtain ⟨a0_0,a0_1⟩:=a0
     have i1:=e;clear e
     refine eB (aL g__0 g__1 g__1h g__2 g__2h g__3 g__3h a0_0 a0_1 i1) H ⟨Vw.sh 2 rfl,Vw.sh 3 rfl,Vw.sh 4 rfl,trivial⟩ ?_;clear H i1
     rintro _ _ w11 ⟨h7,h8,rfl,rfl⟩ hx H
     replace hX:=hX.trans0 hx;clear hx
     refine hold hX ?_
     refine mkM H ?_;clear H;intro h9 w12 hx H
     replace hX:=hX.trans0 hx;clear hx
     refine hold hX ?_
     refine xA (fun _=>tB (cs:=#[(.int .i64 g__0),(g__1h).v,(g__2h).v,(g__3h).v,(h7).v,(h8).v,(h6).v,(h9).v,(.slice none 0 0),(.slice none 0 0)]) gok rfl rfl (by kernel_rfl) ⟨rfl,rfl⟩) ?_
     refine boxX H ?_;clear H;intro b2 w13 hx v2 H;replace v2:=Nat.le_trans hX.size v2
     replace hX:=hX.trans0 hx;clear hx
     refine hold hX ?_
     exact ⟨((g__0,a0_0,a0_1,(⟨[]⟩:MI),(⟨[]⟩:MI)),(h7,h8,h6,h9,b2)),⟨rfl,trivial⟩,Option.some.inj f3,H.sel [0,6,7,8,2,3,4,1] rfl⟩
    ·
     refine pA ?_ ?_
     ·
      refine mkM H ?_;clear H;intro h10 w14 hx H
      replace hX:=hX.trans0 hx;clear hx
      refine hold hX ?_
      have e:=o0;clear o0
      obtain ⟨a0_0,a0_1⟩:=a0
      have i1:=e;clear e
      refine eB (aL g__0 g__1 g__1h g__2 g__2h g__3 g__3h a0_0 a0_1 i1) H ⟨Vw.sh 3 rfl,Vw.sh 4 rfl,Vw.sh 5 rfl,trivial⟩ ?_;clear H i1
      rintro _ _ w15 ⟨h11,h12,rfl,rfl⟩ hx H
      replace hX:=hX.trans0 hx;clear hx
      refine hold hX ?_
      refine xA (fun _=>tB (cs:=#[(.int .i64 g__0),(g__1h).v,(g__2h).v,(g__3h).v,(h11).v,(h12).v,(h6).v,(h10).v,(.slice none 0 0),(.slice none 0 0)]) gok rfl rfl (by kernel_rfl) ⟨rfl,rfl⟩) ?_
      refine boxX H ?_;clear H;intro b3 w16 hx v3 H;replace v3:=Nat.le_trans hX.size v3
      replace hX:=hX.trans0 hx;clear hx
      refine hold hX ?_
      exact ⟨((g__0,a0_0,a0_1,(⟨[]⟩:MI),(⟨[]⟩:MI)),(h11,h12,h6,h10,b3)),⟨rfl,trivial⟩,Option.some.inj f3,H.sel [0,6,7,8,1,2,4,3] rfl⟩
     ·
      exact trivial
   ·
    refine pA ?_ ?_
    ·
     obtain ⟨a1,o1,f4⟩:=aA f0;clear f0
     refine mkM H ?_;clear H;intro h13 w17 hx H
     replace hX:=hX.trans0 hx;clear hx
     refine hold hX ?_
     refine pA ?_ ?_
     ·
      have e:=o1;clear o1
      obtain ⟨a1_0,a1_1⟩:=a1
      have i2:=e;clear e
      refine eB (aL g__0 g__1 g__1h g__2 g__2h g__3 g__3h a1_0 a1_1 i2) H ⟨Vw.sh 2 rfl,Vw.sh 3 rfl,Vw.sh 4 rfl,trivial⟩ ?_;clear H i2
      rintro _ _ w18 ⟨h14,h15,rfl,rfl⟩ hx H
      replace hX:=hX.trans0 hx;clear hx
      refine hold hX ?_
      refine mkM H ?_;clear H;intro h16 w19 hx H
      replace hX:=hX.trans0 hx;clear hx
      refine hold hX ?_
      refine xA (fun _=>tB (cs:=#[(.int .i64 g__0),(g__1h).v,(g__2h).v,(g__3h).v,(h14).v,(h15).v,(h16).v,(h13).v,(.slice none 0 0),(.slice none 0 0)]) gok rfl rfl (by kernel_rfl) ⟨rfl,rfl⟩) ?_
      refine boxX H ?_;clear H;intro b4 w20 hx v4 H;replace v4:=Nat.le_trans hX.size v4
      replace hX:=hX.trans0 hx;clear hx
      refine hold hX ?_
      exact ⟨((g__0,a1_0,a1_1,(⟨[]⟩:MI),(⟨[]⟩:MI)),(h14,h15,h16,h13,b4)),⟨rfl,trivial⟩,Option.some.inj f4,H.sel [0,6,7,8,2,3,1,4] rfl⟩
     ·
      refine pA ?_ ?_
      ·
       refine mkM H ?_;clear H;intro h17 w21 hx H
       replace hX:=hX.trans0 hx;clear hx
       refine hold hX ?_
       have e:=o1;clear o1
       obtain ⟨a1_0,a1_1⟩:=a1
       have i2:=e;clear e
       refine eB (aL g__0 g__1 g__1h g__2 g__2h g__3 g__3h a1_0 a1_1 i2) H ⟨Vw.sh 3 rfl,Vw.sh 4 rfl,Vw.sh 5 rfl,trivial⟩ ?_;clear H i2
       rintro _ _ w22 ⟨h18,h19,rfl,rfl⟩ hx H
       replace hX:=hX.trans0 hx;clear hx
       refine hold hX ?_
       refine xA (fun _=>tB (cs:=#[(.int .i64 g__0),(g__1h).v,(g__2h).v,(g__3h).v,(h18).v,(h19).v,(h17).v,(h13).v,(.slice none 0 0),(.slice none 0 0)]) gok rfl rfl (by kernel_rfl) ⟨rfl,rfl⟩) ?_
       refine boxX H ?_;clear H;intro b6 w23 hx v5 H;replace v5:=Nat.le_trans hX.size v5
       replace hX:=hX.trans0 hx;clear hx
       refine hold hX ?_
       exact ⟨((g__0,a1_0,a1_1,(⟨[]⟩:MI),(⟨[]⟩:MI)),(h18,h19,h17,h13,b6)),⟨rfl,trivial⟩,Option.some.inj f4,H.sel [0,6,7,8,1,2,3,4] rfl⟩
      ·
       exact trivial
    ·
     exact trivial
 ·
  clear f0 H
  rintro T0 ⟨⟨s0_0,s0_1,s0_2,s0_3,s0_4⟩,⟨g0_0,g0_1,g0_2,g0_3,g0_4⟩⟩ w24 ⟨hr,(H:Cx w0 fp0 S0 w24 [Bx g0_4 [(.int .i64 s0_0),(g__1h).v,(g__2h).v,(g__3h).v,(g0_0).v,(g0_1).v,(g0_2).v,(g0_3).v,(.slice none 0 0),(.slice none 0 0)],Es (List (Int×Int×List Int×List Int)) g__1 g__1h,Es (List Int) g__2 g__2h,Es (List Int) g__3 g__3h,E (List Int) s0_1 g0_0,E (List Int) s0_2 g0_1,E MI s0_3 g0_2,E MI s0_4 g0_3])⟩
  subst hr
  replace H:=H.nil (α:=Int)
  replace H:=H.nil (α:=Int)
  cases f1
  exact ⟨_,_,rfl,⟨g0_4,g0_0,g0_1,g0_2,g0_3,nilH,nilH,rfl,rfl⟩,(H.sel [2,6,7,8,9,1,0] rfl).close ⟨cloB,cloE,cloE,cloE,cloE,cloE,cloE,trivial⟩⟩
theorem nV (k_b:Nat) (k__0_0:Int) (k__0_1:List (Int×Int×List Int×List Int)) (k__0_1v:Value) (k__0_2:List Int) (k__0_2v:Value) (k__0_3:List Int) (k__0_3v:Value) (k__1_0:List Int) (k__1_0v:Value) (k__1_1:List Int) (k__1_1v:Value) (k__2:MI) (k__2h:Mh) (k__3:MI) (k__3v:Value) (k__4:List Int) (k__4h:Hd) (k__5:List Int) (k__5v:Value) (w_:Int) (y_0_0:Int) (y_0_1:List (Int×Int×List Int×List Int)) (y_0_2:List Int) (y_0_3:List Int) (y_1_0:List Int) (y_1_1:List Int) (y_2:MI) (y_3:MI) (y_4:List Int) (y_5:List Int) (hF:nJ ((k__0_0,k__0_1,k__0_2,k__0_3),(k__1_0,k__1_1),k__2,k__3,k__4,k__5) w_=some ((y_0_0,y_0_1,y_0_2,y_0_3),(y_1_0,y_1_1),y_2,y_3,y_4,y_5)) :
  nA Tryz.prog 121 #[(.pointer (some ⟨k_b,0,none⟩)),(.int .i64 w_)] [] [Bx k_b [(.int .i64 k__0_0),k__0_1v,k__0_2v,k__0_3v,k__1_0v,k__1_1v,(k__2h).v,k__3v,(k__4h).v,k__5v],E MI k__2 k__2h,E (List Int) k__4 k__4h] (fun v Γ'=>∃ (z0:Mh) (z1:Hd),v=(.tuple #[])∧Γ'=[Bx k_b [(.int .i64 y_0_0),k__0_1v,k__0_2v,k__0_3v,k__1_0v,k__1_1v,(z0).v,k__3v,(z1).v,k__5v],E MI y_2 z0,E (List Int) y_4 z1]):=by
 intro w0 S0 fp0 hI hS
 have H:Cx w0 fp0 S0 w0 [Bx k_b [(.int .i64 k__0_0),k__0_1v,k__0_2v,k__0_3v,k__1_0v,k__1_1v,(k__2h).v,k__3v,(k__4h).v,k__5v],E MI k__2 k__2h,E (List Int) k__4 k__4h]:=Cx.start hI hS
 clear hI hS
 refine lA (args:=[_,_]) gok Tryz.func121 rfl _ rfl rfl rfl ?_
 refine fld gok rfl rfl rfl rfl ?_
 refine cA (H.bx 0 rfl (j:=6) rfl) ?_
 obtain ⟨a4,e,hF5⟩:=aA hF;clear hF
 refine AT_ gok Tryz.underlying129 Tryz.underlying3 rfl (H.ro (α:=MI) 1 rfl) e ?_;clear e
 obtain ⟨a6,e,hF7⟩:=aA hF5;clear hF5
 refine gA e ?_;clear e
 cases a6
 ·
  have hF8:=fA hF7;clear hF7
  cases hF8
  exact ⟨_,_,rfl,⟨k__2h,k__4h,rfl,rfl⟩,(H.sel [0,1,2] rfl).close ⟨cloB,cloE,cloE,trivial⟩⟩
 ·
  have hF9:=eA hF7;clear hF7
  refine aC H [10] (.fst 0 (.fst 1 (.fst 2 (.fst 4 (.fst 5 (.fst 6 (.fst 7 (.fst 3 (.fst 8 (.act 9 (.act 10 .done))))))))))) vB [] trivial (by kernel_rfl) ?_
  clear H;intro w1 H
  have hX:Ext w1 w1:=Upd.refl _ _
  have H0:=H
  refine xA (fun _=>fld gok rfl rfl rfl rfl ⟨rfl,rfl⟩) ?_
  refine xA (fun _=>fld gok rfl rfl rfl rfl ⟨rfl,rfl⟩) ?_
  refine uA (H.bx 0 rfl (j:=6) rfl) ?_
  refine uA (H.bx 0 rfl (j:=6) rfl) ?_
  refine lenM Tryz.underlying129 (H.ro (α:=MI) 1 rfl) ?_
  refine hold hX ?_
  replace H:=H.sel [1,0,2] rfl
  refine updM Tryz.underlying129 Tryz.underlying3 H ?_;clear H;intro w2 H
  refine hold trivial ?_
  refine fld gok rfl rfl rfl rfl ?_
  refine cA (H.bx 1 rfl (j:=8) rfl) ?_
  refine bB (α:=Int) gok rfl rfl rfl rfl H ?_;clear H;intro h0 w3 hx H
  clear hx
  obtain ⟨a0,e,f0⟩:=aA hF9;clear hF9
  replace H:=H.sel [3,0,1,2] rfl
  refine append_ (α:=Int) gok rfl rfl rfl rfl H e ?_;clear e H;intro h1 w4 H
  refine fld gok rfl rfl rfl rfl ?_
  replace H:=H.sel [2,0,1] rfl
  refine stB (j:=8) H rfl rfl ?_;clear H;intro w5 H
  cases f0
  exact ⟨_,_,rfl,⟨k__2h,h1,rfl,rfl⟩,(H.sel [0,2,1] rfl).close ⟨cloB,cloE,cloE,trivial⟩⟩
theorem oV (k_b:Nat) (k__0_0:Int) (k__0_1:List (Int×Int×List Int×List Int)) (k__0_1h:Hd) (k__0_2:List Int) (k__0_2h:Hd) (k__0_3:List Int) (k__0_3h:Hd) (k__1_0:List Int) (k__1_0h:Hd) (k__1_1:List Int) (k__1_1h:Hd) (k__2:MI) (k__2h:Mh) (k__3:MI) (k__3h:Mh) (k__4:List Int) (k__4h:Hd) (k__5:List Int) (k__5h:Hd) (e_:Int) (y_0_0:Int) (y_0_1:List (Int×Int×List Int×List Int)) (y_0_2:List Int) (y_0_3:List Int) (y_1_0:List Int) (y_1_1:List Int) (y_2:MI) (y_3:MI) (y_4:List Int) (y_5:List Int) (hF:oJ ((k__0_0,k__0_1,k__0_2,k__0_3),(k__1_0,k__1_1),k__2,k__3,k__4,k__5) e_=some ((y_0_0,y_0_1,y_0_2,y_0_3),(y_1_0,y_1_1),y_2,y_3,y_4,y_5)) :
  nA Tryz.prog 137 #[(.pointer (some ⟨k_b,0,none⟩)),(.int .i64 e_)] [Es (List (Int×Int×List Int×List Int)) k__0_1 k__0_1h,Es (List Int) k__0_2 k__0_2h,Es (List Int) k__0_3 k__0_3h,Es (List Int) k__1_0 k__1_0h,Es (List Int) k__1_1 k__1_1h] [Bx k_b [(.int .i64 k__0_0),(k__0_1h).v,(k__0_2h).v,(k__0_3h).v,(k__1_0h).v,(k__1_1h).v,(k__2h).v,(k__3h).v,(k__4h).v,(k__5h).v],E MI k__2 k__2h,E MI k__3 k__3h,E (List Int) k__4 k__4h,E (List Int) k__5 k__5h] (fun v Γ'=>∃ (z0:Mh) (z1:Mh) (z2:Hd) (z3:Hd),v=(.tuple #[])∧Γ'=[Bx k_b [(.int .i64 y_0_0),(k__0_1h).v,(k__0_2h).v,(k__0_3h).v,(k__1_0h).v,(k__1_1h).v,(z0).v,(z1).v,(z2).v,(z3).v],E MI y_2 z0,E MI y_3 z1,E (List Int) y_4 z2,E (List Int) y_5 z3]):=by
 intro w0 S0 fp0 hI hS
 have H:Cx w0 fp0 S0 w0 [Es (List (Int×Int×List Int×List Int)) k__0_1 k__0_1h,Es (List Int) k__0_2 k__0_2h,Es (List Int) k__0_3 k__0_3h,Es (List Int) k__1_0 k__1_0h,Es (List Int) k__1_1 k__1_1h,Bx k_b [(.int .i64 k__0_0),(k__0_1h).v,(k__0_2h).v,(k__0_3h).v,(k__1_0h).v,(k__1_1h).v,(k__2h).v,(k__3h).v,(k__4h).v,(k__5h).v],E MI k__2 k__2h,E MI k__3 k__3h,E (List Int) k__4 k__4h,E (List Int) k__5 k__5h]:=Cx.start hI hS
 clear hI hS
 refine lA (args:=[_,_]) gok Tryz.func137 rfl _ rfl rfl rfl ?_
 refine sq ?_
 obtain ⟨a0,e,f0⟩:=aA hF;clear hF
 refine gA e ?_;clear e
 cases a0
 ·
  have f1:=fA f0;clear f0
  refine sq ?_
  refine fld gok rfl rfl rfl rfl ?_
  refine cA (H.bx 5 rfl (j:=7) rfl) ?_
  obtain ⟨a1,e,f2⟩:=aA f1;clear f1
  refine AT_ gok Tryz.underlying129 Tryz.underlying3 rfl (H.ro (α:=MI) 7 rfl) e ?_;clear e
  cases a1
  ·
   have f3:=fA f2;clear f2
   refine aC H [10] (.fst 0 (.fst 1 (.fst 2 (.fst 4 (.fst 5 (.fst 6 (.fst 7 (.fst 3 (.fst 8 (.act 9 (.act 10 .done))))))))))) vB [] trivial (by kernel_rfl) ?_
   clear H;intro w1 H
   have hX:Ext w1 w1:=Upd.refl _ _
   have H0:=H
   refine xA (fun _=>fld gok rfl rfl rfl rfl ⟨rfl,rfl⟩) ?_
   refine xA (fun _=>fld gok rfl rfl rfl rfl ⟨rfl,rfl⟩) ?_
   refine uA (H.bx 5 rfl (j:=7) rfl) ?_
   refine uA (H.bx 5 rfl (j:=7) rfl) ?_
   refine lenM Tryz.underlying129 (H.ro (α:=MI) 7 rfl) ?_
   refine hold hX ?_
   replace H:=H.sel [7,0,1,2,3,4,5,6,8,9] rfl
   refine updM Tryz.underlying129 Tryz.underlying3 H ?_;clear H;intro w2 H
   refine hold trivial ?_
   refine fld gok rfl rfl rfl rfl ?_
   refine cA (H.bx 6 rfl (j:=9) rfl) ?_
   refine bB (α:=Int) gok rfl rfl rfl rfl H ?_;clear H;intro h0 w3 hx H
   clear hx
   obtain ⟨a2,e,f4⟩:=aA f3;clear f3
   replace H:=H.sel [10,0,1,2,3,4,5,6,7,8,9] rfl
   refine append_ (α:=Int) gok rfl rfl rfl rfl H e ?_;clear e H;intro h1 w4 H
   refine fld gok rfl rfl rfl rfl ?_
   replace H:=H.sel [7,0,1,2,3,4,5,6,8,9] rfl
   refine stB (j:=9) H rfl rfl ?_;clear H;intro w5 H
   refine aC H [] (.fst 0 (.fst 1 (.fst 2 (.fst 3 (.fst 5 (.fst 9 (.fst 10 (.fst 11 (.fst 12 (.fst 14 (.fst 21 (.fst 4 (.fst 6 (.fst 7 (.fst 8 (.fst 13 (.fst 15 (.fst 16 (.fst 17 (.act 18 (.act 19 (.fst 20 .done)))))))))))))))))))))) vB [] trivial (by kernel_rfl) ?_
   clear H;intro w6 H
   have hX:Ext w6 w6:=Upd.refl _ _
   have H0:=H
   refine xA (fun _=>fld gok rfl rfl rfl rfl ⟨rfl,rfl⟩) ?_
   refine xA (fun _=>fld gok rfl rfl rfl rfl ⟨rfl,rfl⟩) ?_
   refine xA (fun _=>fld gok rfl rfl rfl rfl ⟨rfl,rfl⟩) ?_
   refine xA (fun _=>fld gok rfl rfl rfl rfl ⟨rfl,rfl⟩) ?_
   refine uA (H.bx 0 rfl (j:=1) rfl) ?_
   obtain ⟨a3,e,f5⟩:=aA f4;clear f4
   have HH:=H;clear H;obtain ⟨p0,m0,g0,c0,c1,c2,c3,H⟩:=HH.el (α:=Int×Int×List Int×List Int) 3 rfl e;clear HH
   clear e
   obtain ⟨a3_0,a3_1,a3_2,a3_3⟩:=a3
   obtain ⟨_,_,h2,h3⟩:=g0
   replace H:=H.part (β:=List Int) a3_2 (h2:Hd) 0 rfl (fun S h=>(And.left (And.right (And.right h))))
   replace H:=H.part (β:=List Int) a3_3 (h3:Hd) 1 rfl (fun S h=>(And.right (And.right (And.right h))))
   replace H:=H.sel [0,1,3,4,5,6,7,8,9,10,11,12] rfl
   refine dA c0 c1 c2 ?_;clear c0 c1 c2
   refine xA (fun _=>fld gok rfl rfl rfl rfl ⟨rfl,rfl⟩) ?_
   refine uA (c3 2 _ rfl) ?_
   refine uA (H.bx 2 rfl (j:=1) rfl) ?_
   obtain ⟨a4,e,f6⟩:=aA f5;clear f5
   have HH:=H;clear H;obtain ⟨p1,m1,g1,c4,c5,c6,c7,H⟩:=HH.el (α:=Int×Int×List Int×List Int) 5 rfl e;clear HH
   clear e
   obtain ⟨a4_0,a4_1,a4_2,a4_3⟩:=a4
   obtain ⟨_,_,h4,h5⟩:=g1
   replace H:=H.part (β:=List Int) a4_2 (h4:Hd) 0 rfl (fun S h=>(And.left (And.right (And.right h))))
   replace H:=H.part (β:=List Int) a4_3 (h5:Hd) 1 rfl (fun S h=>(And.right (And.right (And.right h))))
   replace H:=H.sel [0,1,3,4,5,6,7,8,9,10,11,12,13,14] rfl
   refine dA c4 c5 c6 ?_;clear c4 c5 c6
   refine xA (fun _=>fld gok rfl rfl rfl rfl ⟨rfl,rfl⟩) ?_
   refine uA (c7 3 _ rfl) ?_
   replace H:=H.dup 0 rfl qA
   replace H:=H.dup 4 rfl qA
   refine rC (α:=Sh (List Int)) (us:=[(h2).v,(h5).v]) (xs:=[a3_2,a4_3]) (gs:=([h2,h5]:List Hd)) gok rfl rfl rfl ⟨rfl,rfl,trivial⟩ rfl rfl H ?_;clear H;intro h6 w7 hx H
   replace hX:=hX.trans0 hx;clear hx
   refine hold hX ?_
   obtain ⟨y0,e,f7⟩:=aA f6;clear f6
   have i0:=e;clear e
   refine eB (jL [a3_2,a4_3] h6 y0 i0) H ⟨Vw.part (β:=List (List Int)) (Vw.own (α:=List (Sh (List Int))) 0 rfl) [a3_2,a4_3] h6 (fun S h=>h),trivial⟩ ?_;clear H i0
   rintro _ _ w8 ⟨h7,rfl,rfl⟩ hx H
   replace hX:=hX.trans0 hx;clear hx
   refine hold hX ?_
   refine kA (H.ro (α:=List Int) 0 rfl).len ?_
   have x0:=(H.ro (α:=List Int) 0 rfl).max
   obtain ⟨r0,e,f8⟩:=aA f7;clear f7
   refine fB _ y0.length (fun (k0:Nat) (s0:Int×MI×List Int) (g2:Mh×Hd)=>[(0,(.pointer (some ⟨k_b,0,none⟩))),(59,(h7).v),(60,(.int .i64 ((y0.length:Nat):Int))),(61,(.int .i64 ((k0:Nat):Int)))]) (fun _ (s0:Int×MI×List Int) (g2:Mh×Hd) w'=>Cx w0 fp0 S0 w' [Bx k_b [(.int .i64 s0.1),(k__0_1h).v,(k__0_2h).v,(k__0_3h).v,(k__1_0h).v,(k__1_1h).v,(g2.1).v,(k__3h).v,(g2.2).v,(h1).v],Es (List (Int×Int×List Int×List Int)) k__0_1 k__0_1h,Es (List Int) k__0_2 k__0_2h,Es (List Int) k__0_3 k__0_3h,Es (List Int) k__1_0 k__1_0h,Es (List Int) k__1_1 k__1_1h,E MI s0.2.1 g2.1,E MI (rF k__3 e_ ((k__3.kvs.length:Nat):Int)) k__3h,E (List Int) s0.2.2 g2.2,E (List Int) a2 h1,E (List Int) y0 h7]) (k__0_0,k__2,k__4) (k__2h,k__4h) e ⟨rfl,rfl,rfl,rfl,trivial⟩ (H.sel [6,9,10,11,12,13,14,8,15,7,0] rfl) ?_ ?_
   ·
    clear H e
    rintro T0 k0 ⟨s0_0,s0_1,s0_2⟩ ⟨g2_0,g2_1⟩ w9 o0 hk (H:Cx w0 fp0 S0 w9 [Bx k_b [(.int .i64 s0_0),(k__0_1h).v,(k__0_2h).v,(k__0_3h).v,(k__1_0h).v,(k__1_1h).v,(g2_0).v,(k__3h).v,(g2_1).v,(h1).v],Es (List (Int×Int×List Int×List Int)) k__0_1 k__0_1h,Es (List Int) k__0_2 k__0_2h,Es (List Int) k__0_3 k__0_3h,Es (List Int) k__1_0 k__1_0h,Es (List Int) k__1_1 k__1_1h,E MI s0_1 g2_0,E MI (rF k__3 e_ ((k__3.kvs.length:Nat):Int)) k__3h,E (List Int) s0_2 g2_1,E (List Int) a2 h1,E (List Int) y0 h7]) f9
    refine jA (z:=true) (cB hk) ?_
    refine sq ?_
    refine sq ?_
    obtain ⟨a5,e,f10⟩:=aA f9;clear f9
    obtain ⟨p2,m2,c8,c9,c10,c11⟩:=(H.ro (α:=List Int) 10 rfl).at1 e;clear e
    refine dA c8 c9 c10 ?_;clear c8 c9 c10
    refine cA c11 ?_;clear c11
    obtain ⟨y1,e,f11⟩:=aA f10;clear f10
    obtain ⟨⟨y1_0_0,y1_0_1,y1_0_2,y1_0_3⟩,⟨y1_1_0,y1_1_1⟩,y1_2,y1_3,y1_4,y1_5⟩:=y1
    have i1:=e;clear e
    replace H:=H.sel [0,6,8,1,2,3,4,5,7,9,10] rfl
    refine iA (nV k_b s0_0 k__0_1 ((k__0_1h).v) k__0_2 ((k__0_2h).v) k__0_3 ((k__0_3h).v) k__1_0 ((k__1_0h).v) k__1_1 ((k__1_1h).v) s0_1 g2_0 (rF k__3 e_ ((k__3.kvs.length:Nat):Int)) ((k__3h).v) s0_2 g2_1 a2 ((h1).v) a5 y1_0_0 y1_0_1 y1_0_2 y1_0_3 y1_1_0 y1_1_1 y1_2 y1_3 y1_4 y1_5 i1) (Γi:=[Bx k_b [(.int .i64 s0_0),(k__0_1h).v,(k__0_2h).v,(k__0_3h).v,(k__1_0h).v,(k__1_1h).v,(g2_0).v,(k__3h).v,(g2_1).v,(h1).v],E MI s0_1 g2_0,E (List Int) s0_2 g2_1]) H trivial ?_;clear H i1
    rintro _ _ w10 ⟨h8,h9,rfl,rfl⟩ H
    refine arK hk x0 ?_
    have hs:=Option.some.inj f11;subst hs;clear f11
    exact ⟨(h8,h9),⟨rfl,rfl,rfl,rfl,trivial⟩,H.sel [0,3,4,5,6,7,1,8,2,9,10] rfl⟩
   ·
    clear H e
    obtain ⟨s1_0,s1_1,s1_2⟩:=r0
    rintro T1 ⟨g3_0,g3_1⟩ w11 (H:Cx w0 fp0 S0 w11 [Bx k_b [(.int .i64 s1_0),(k__0_1h).v,(k__0_2h).v,(k__0_3h).v,(k__1_0h).v,(k__1_1h).v,(g3_0).v,(k__3h).v,(g3_1).v,(h1).v],Es (List (Int×Int×List Int×List Int)) k__0_1 k__0_1h,Es (List Int) k__0_2 k__0_2h,Es (List Int) k__0_3 k__0_3h,Es (List Int) k__1_0 k__1_0h,Es (List Int) k__1_1 k__1_1h,E MI s1_1 g3_0,E MI (rF k__3 e_ ((k__3.kvs.length:Nat):Int)) k__3h,E (List Int) s1_2 g3_1,E (List Int) a2 h1,E (List Int) y0 h7])
    refine jA (z:=false) dB ?_
    refine sq ?_
    cases f8
    exact ⟨_,_,rfl,⟨g3_0,k__3h,g3_1,h1,rfl,rfl⟩,(H.sel [0,6,7,8,9] rfl).close ⟨cloB,cloE,cloE,cloE,cloE,trivial⟩⟩
  ·
   have f12:=eA f2;clear f2
   cases f12
   exact ⟨_,_,rfl,⟨k__2h,k__3h,k__4h,k__5h,rfl,rfl⟩,(H.sel [5,6,7,8,9] rfl).close ⟨cloB,cloE,cloE,cloE,cloE,trivial⟩⟩
 ·
  have f13:=eA f0;clear f0
  cases f13
  exact ⟨_,_,rfl,⟨k__2h,k__3h,k__4h,k__5h,rfl,rfl⟩,(H.sel [5,6,7,8,9] rfl).close ⟨cloB,cloE,cloE,cloE,cloE,trivial⟩⟩
theorem By_ (k_b:Nat) (k__0_0:Int) (k__0_1:List (Int×Int×List Int×List Int)) (k__0_1h:Hd) (k__0_2:List Int) (k__0_2h:Hd) (k__0_3:List Int) (k__0_3h:Hd) (k__1_0:List Int) (k__1_0h:Hd) (k__1_1:List Int) (k__1_1h:Hd) (k__2:MI) (k__2h:Mh) (k__3:MI) (k__3h:Mh) (k__4:List Int) (k__4h:Hd) (k__5:List Int) (k__5h:Hd) (y_0_0:Int) (y_0_1:List (Int×Int×List Int×List Int)) (y_0_2:List Int) (y_0_3:List Int) (y_1_0:List Int) (y_1_1:List Int) (y_2:MI) (y_3:MI) (y_4:List Int) (y_5:List Int) (hF:xQ ((k__0_0,k__0_1,k__0_2,k__0_3),(k__1_0,k__1_1),k__2,k__3,k__4,k__5)=some ((y_0_0,y_0_1,y_0_2,y_0_3),(y_1_0,y_1_1),y_2,y_3,y_4,y_5)) :
  nA Tryz.prog 122 #[(.pointer (some ⟨k_b,0,none⟩))] [Es (List (Int×Int×List Int×List Int)) k__0_1 k__0_1h,Es (List Int) k__0_2 k__0_2h,Es (List Int) k__0_3 k__0_3h,Es (List Int) k__1_0 k__1_0h,Es (List Int) k__1_1 k__1_1h] [Bx k_b [(.int .i64 k__0_0),(k__0_1h).v,(k__0_2h).v,(k__0_3h).v,(k__1_0h).v,(k__1_1h).v,(k__2h).v,(k__3h).v,(k__4h).v,(k__5h).v],E MI k__2 k__2h,E MI k__3 k__3h,E (List Int) k__4 k__4h,E (List Int) k__5 k__5h] (fun v Γ'=>∃ (z0:Mh) (z1:Mh) (z2:Hd) (z3:Hd),v=(.tuple #[])∧Γ'=[Bx k_b [(.int .i64 y_0_0),(k__0_1h).v,(k__0_2h).v,(k__0_3h).v,(k__1_0h).v,(k__1_1h).v,(z0).v,(z1).v,(z2).v,(z3).v],E MI y_2 z0,E MI y_3 z1,E (List Int) y_4 z2,E (List Int) y_5 z3]):=by
 intro w0 S0 fp0 hI hS
 have H:Cx w0 fp0 S0 w0 [Es (List (Int×Int×List Int×List Int)) k__0_1 k__0_1h,Es (List Int) k__0_2 k__0_2h,Es (List Int) k__0_3 k__0_3h,Es (List Int) k__1_0 k__1_0h,Es (List Int) k__1_1 k__1_1h,Bx k_b [(.int .i64 k__0_0),(k__0_1h).v,(k__0_2h).v,(k__0_3h).v,(k__1_0h).v,(k__1_1h).v,(k__2h).v,(k__3h).v,(k__4h).v,(k__5h).v],E MI k__2 k__2h,E MI k__3 k__3h,E (List Int) k__4 k__4h,E (List Int) k__5 k__5h]:=Cx.start hI hS
 clear hI hS
 refine lA (args:=[_]) gok Tryz.func122 rfl _ rfl rfl rfl ?_
 refine xC _ (fun (s0:Int×MI×MI×List Int×List Int) (g0:Mh×Mh×Hd×Hd)=>[(0,(.pointer (some ⟨k_b,0,none⟩)))]) (fun (s0:Int×MI×MI×List Int×List Int) (g0:Mh×Mh×Hd×Hd) w'=>Cx w0 fp0 S0 w' [Bx k_b [(.int .i64 s0.1),(k__0_1h).v,(k__0_2h).v,(k__0_3h).v,(k__1_0h).v,(k__1_1h).v,(g0.1).v,(g0.2.1).v,(g0.2.2.1).v,(g0.2.2.2).v],Es (List (Int×Int×List Int×List Int)) k__0_1 k__0_1h,Es (List Int) k__0_2 k__0_2h,Es (List Int) k__0_3 k__0_3h,Es (List Int) k__1_0 k__1_0h,Es (List Int) k__1_1 k__1_1h,E MI s0.2.1 g0.1,E MI s0.2.2.1 g0.2.1,E (List Int) s0.2.2.2.1 g0.2.2.1,E (List Int) s0.2.2.2.2 g0.2.2.2]) (k__0_0,k__2,k__3,k__4,k__5) (k__2h,k__3h,k__4h,k__5h) hF ⟨rfl,trivial⟩ (H.sel [5,0,1,2,3,4,6,7,8,9] rfl) ?_
 ·
  clear H
  rintro T0 ⟨s0_0,s0_1,s0_2,s0_3,s0_4⟩ ⟨g0_0,g0_1,g0_2,g0_3⟩ w1 o0 (H:Cx w0 fp0 S0 w1 [Bx k_b [(.int .i64 s0_0),(k__0_1h).v,(k__0_2h).v,(k__0_3h).v,(k__1_0h).v,(k__1_1h).v,(g0_0).v,(g0_1).v,(g0_2).v,(g0_3).v],Es (List (Int×Int×List Int×List Int)) k__0_1 k__0_1h,Es (List Int) k__0_2 k__0_2h,Es (List Int) k__0_3 k__0_3h,Es (List Int) k__1_0 k__1_0h,Es (List Int) k__1_1 k__1_1h,E MI s0_1 g0_0,E MI s0_2 g0_1,E (List Int) s0_3 g0_2,E (List Int) s0_4 g0_3]) hrt f0
  refine sq ?_
  refine fld gok rfl rfl rfl rfl ?_
  refine cA (H.bx 0 rfl (j:=8) rfl) ?_
  refine kA (H.ro (α:=List Int) 8 rfl).len ?_
  obtain ⟨a0,e,f1⟩:=aA f0;clear f0
  refine gA e ?_;clear e
  cases a0
  ·
   have f2:=fA f1;clear f1
   have hs:=Option.some.inj f2;subst hs;clear f2
   have f3:some _=some _:=congrArg some (hrt _ rfl).symm
   cases f3
   exact ⟨_,_,rfl,⟨g0_0,g0_1,g0_2,g0_3,rfl,rfl⟩,(H.sel [0,6,7,8,9] rfl).close ⟨cloB,cloE,cloE,cloE,cloE,trivial⟩⟩
  ·
   have f4:=eA f1;clear f1
   refine fld gok rfl rfl rfl rfl ?_
   refine cA (H.bx 0 rfl (j:=8) rfl) ?_
   obtain ⟨a1,e,f5⟩:=aA f4;clear f4
   obtain ⟨p0,m0,c0,c1,c2,c3⟩:=(H.ro (α:=List Int) 8 rfl).at1 e;clear e
   refine dA c0 c1 c2 ?_;clear c0 c1 c2
   refine cA c3 ?_;clear c3
   refine fld gok rfl rfl rfl rfl ?_
   refine cA (H.bx 0 rfl (j:=8) rfl) ?_
   obtain ⟨a2,e,f6⟩:=aA f5;clear f5
   replace H:=H.sel [8,0,1,2,3,4,5,6,7,9] rfl
   refine slO (α:=Int) (hi:=none) gok rfl rfl H e rfl (congrArg (fun n:Nat=>some (n:Int)) (H.ro (α:=List Int) 0 rfl).len) ?_;clear e H;intro h0 H
   refine fld gok rfl rfl rfl rfl ?_
   replace H:=H.sel [1,0,2,3,4,5,6,7,8,9] rfl
   refine stB (j:=8) H rfl rfl ?_;clear H;intro w2 H
   refine fld gok rfl rfl rfl rfl ?_
   refine fld gok rfl rfl rfl rfl ?_
   refine cA (H.bx 0 rfl (j:=5) rfl) ?_
   obtain ⟨a3,e,f7⟩:=aA f6;clear f6
   obtain ⟨p1,m1,c4,c5,c6,c7⟩:=(H.rs (α:=List Int) 6 rfl).at1 e;clear e
   refine dA c4 c5 c6 ?_;clear c4 c5 c6
   refine cA c7 ?_;clear c7
   obtain ⟨y0,e,f8⟩:=aA f7;clear f7
   obtain ⟨⟨y0_0_0,y0_0_1,y0_0_2,y0_0_3⟩,⟨y0_1_0,y0_1_1⟩,y0_2,y0_3,y0_4,y0_5⟩:=y0
   have i0:=e;clear e
   replace H:=H.sel [0,7,8,1,9,2,3,4,5,6] rfl
   refine iA (oV k_b s0_0 k__0_1 k__0_1h k__0_2 k__0_2h k__0_3 k__0_3h k__1_0 k__1_0h k__1_1 k__1_1h s0_1 g0_0 s0_2 g0_1 a2 h0 s0_4 g0_3 a3 y0_0_0 y0_0_1 y0_0_2 y0_0_3 y0_1_0 y0_1_1 y0_2 y0_3 y0_4 y0_5 i0) (Γi:=[Bx k_b [(.int .i64 s0_0),(k__0_1h).v,(k__0_2h).v,(k__0_3h).v,(k__1_0h).v,(k__1_1h).v,(g0_0).v,(g0_1).v,(h0).v,(g0_3).v],E MI s0_1 g0_0,E MI s0_2 g0_1,E (List Int) a2 h0,E (List Int) s0_4 g0_3]) H ⟨Vw.sh 0 rfl,Vw.sh 1 rfl,Vw.sh 2 rfl,Vw.sh 3 rfl,Vw.sh 4 rfl,trivial⟩ ?_;clear H i0
   rintro _ _ w3 ⟨h1,h2,h3,h4,rfl,rfl⟩ H
   refine fld gok rfl rfl rfl rfl ?_
   refine fld gok rfl rfl rfl rfl ?_
   refine cA (H.bx 0 rfl (j:=4) rfl) ?_
   obtain ⟨a4,e,f9⟩:=aA f8;clear f8
   obtain ⟨p2,m2,c8,c9,c10,c11⟩:=(H.rs (α:=List Int) 8 rfl).at1 e;clear e
   refine dA c8 c9 c10 ?_;clear c8 c9 c10
   refine cA c11 ?_;clear c11
   obtain ⟨y1,e,f10⟩:=aA f9;clear f9
   obtain ⟨⟨y1_0_0,y1_0_1,y1_0_2,y1_0_3⟩,⟨y1_1_0,y1_1_1⟩,y1_2,y1_3,y1_4,y1_5⟩:=y1
   have i1:=e;clear e
   refine iA (oV k_b y0_0_0 k__0_1 k__0_1h k__0_2 k__0_2h k__0_3 k__0_3h k__1_0 k__1_0h k__1_1 k__1_1h y0_2 h1 y0_3 h2 y0_4 h3 y0_5 h4 a4 y1_0_0 y1_0_1 y1_0_2 y1_0_3 y1_1_0 y1_1_1 y1_2 y1_3 y1_4 y1_5 i1) (Γi:=[Bx k_b [(.int .i64 y0_0_0),(k__0_1h).v,(k__0_2h).v,(k__0_3h).v,(k__1_0h).v,(k__1_1h).v,(h1).v,(h2).v,(h3).v,(h4).v],E MI y0_2 h1,E MI y0_3 h2,E (List Int) y0_4 h3,E (List Int) y0_5 h4]) H ⟨Vw.sh 0 rfl,Vw.sh 1 rfl,Vw.sh 2 rfl,Vw.sh 3 rfl,Vw.sh 4 rfl,trivial⟩ ?_;clear H i1
   rintro _ _ w4 ⟨h5,h6,h7,h8,rfl,rfl⟩ H
   have hs:=Option.some.inj f10;subst hs;clear f10
   exact ⟨(y1_0_0,y1_2,y1_3,y1_4,y1_5),(h5,h6,h7,h8),rfl,⟨rfl,trivial⟩,H.sel [0,5,6,7,8,9,1,2,3,4] rfl⟩
theorem Bi_ (g__0:Int) (g__1:List (Int×Int×List Int×List Int)) (g__1h:Hd) (g__2:List Int) (g__2h:Hd) (g__3:List Int) (g__3h:Hd) (y_0_0:Int) (y_0_1:List (Int×Int×List Int×List Int)) (y_0_2:List Int) (y_0_3:List Int) (y_1_0:List Int) (y_1_1:List Int) (y_2:MI) (y_3:MI) (y_4:List Int) (y_5:List Int) (hF:oQ (g__0,g__1,g__2,g__3)=some ((y_0_0,y_0_1,y_0_2,y_0_3),(y_1_0,y_1_1),y_2,y_3,y_4,y_5)) :
  nA Tryz.prog 101 #[(.agg #[(.int .i64 g__0),(g__1h).v,(g__2h).v,(g__3h).v])] [Es (List (Int×Int×List Int×List Int)) g__1 g__1h,Es (List Int) g__2 g__2h,Es (List Int) g__3 g__3h] [] (fun v Γ'=>∃ (z0:Nat) (z1:Hd) (z2:Hd) (z3:Mh) (z4:Mh) (z5:Hd) (z6:Hd),v=(.pointer (some ⟨z0,0,none⟩))∧Γ'=[Bx z0 [(.int .i64 y_0_0),(g__1h).v,(g__2h).v,(g__3h).v,(z1).v,(z2).v,(z3).v,(z4).v,(z5).v,(z6).v],E (List Int) y_1_0 z1,E (List Int) y_1_1 z2,E MI y_2 z3,E MI y_3 z4,E (List Int) y_4 z5,E (List Int) y_5 z6]):=by
 intro w0 S0 fp0 hI hS
 have H:Cx w0 fp0 S0 w0 [Es (List (Int×Int×List Int×List Int)) g__1 g__1h,Es (List Int) g__2 g__2h,Es (List Int) g__3 g__3h]:=Cx.start hI hS
 clear hI hS
 refine lA (args:=[_]) gok Tryz.func101 rfl _ rfl rfl rfl ?_
 refine jB H ?_;clear H;intro b5 w4 hx H
 clear hx
 refine vA [(.int .i64 g__0),(g__1h).v,(g__2h).v,(g__3h).v] rfl (fun j u hj=>H.bx 0 rfl hj) ?_
 obtain ⟨y7,e,hF8⟩:=aA hF;clear hF
 obtain ⟨⟨y7_0_0,y7_0_1,y7_0_2,y7_0_3⟩,⟨y7_1_0,y7_1_1⟩,y7_2,y7_3,y7_4,y7_5⟩:=y7
 have ey7:=e;clear e
 refine iA (B0_ g__0 g__1 g__1h g__2 g__2h g__3 g__3h y7_0_0 y7_0_1 y7_0_2 y7_0_3 y7_1_0 y7_1_1 y7_2 y7_3 y7_4 y7_5 ey7) (Γi:=[]) H ⟨Vw.sh 1 rfl,Vw.sh 2 rfl,Vw.sh 3 rfl,trivial⟩ ?_;clear H ey7
 rintro _ _ w9 ⟨b0,h0,h1,h2,h3,h4,h5,rfl,rfl⟩ H
 refine sq ?_
 refine fld gok rfl rfl rfl rfl ?_
 refine cA (H.bx 7 rfl (j:=2) rfl) ?_
 refine fld gok rfl rfl rfl rfl ?_
 refine cA (H.bx 7 rfl (j:=3) rfl) ?_
 replace H:=H.dup 10 rfl qA
 replace H:=H.dup 10 rfl qA
 refine rC (α:=Sh (List Int)) (us:=[(g__2h).v,(g__3h).v]) (xs:=[g__2,g__3]) (gs:=([g__2h,g__3h]:List Hd)) gok rfl rfl rfl ⟨rfl,rfl,trivial⟩ rfl rfl H ?_;clear H;intro h6 w1 hx H
 clear hx
 obtain ⟨y0,e,f0⟩:=aA hF8;clear hF8
 have i0:=e;clear e
 refine iA (jL [g__2,g__3] h6 y0 i0) (Γi:=[]) H ⟨Vw.part (β:=List (List Int)) (Vw.own (α:=List (Sh (List Int))) 0 rfl) [g__2,g__3] h6 (fun S h=>h),trivial⟩ ?_;clear H i0
 rintro _ _ w2 ⟨h7,rfl,rfl⟩ H
 refine kA (H.ro (α:=List Int) 0 rfl).len ?_
 have x0:=(H.ro (α:=List Int) 0 rfl).max
 obtain ⟨r0,e,f1⟩:=aA f0;clear f0
 refine fB _ y0.length (fun (k0:Nat) (s0:Int×MI×List Int) (g0:Mh×Hd)=>[(3,(.pointer (some ⟨b0,0,none⟩))),(13,(h7).v),(14,(.int .i64 ((y0.length:Nat):Int))),(15,(.int .i64 ((k0:Nat):Int)))]) (fun _ (s0:Int×MI×List Int) (g0:Mh×Hd) w'=>Cx w0 fp0 S0 w' [Bx b0 [(.int .i64 s0.1),(g__1h).v,(g__2h).v,(g__3h).v,(h0).v,(h1).v,(g0.1).v,(h3).v,(g0.2).v,(h5).v],Es (List (Int×Int×List Int×List Int)) g__1 g__1h,Es (List Int) g__2 g__2h,Es (List Int) g__3 g__3h,E (List Int) y7_1_0 h0,E (List Int) y7_1_1 h1,E MI s0.2.1 g0.1,E MI y7_3 h3,E (List Int) s0.2.2 g0.2,E (List Int) y7_5 h5,E (List Int) y0 h7]) (y7_0_0,y7_2,y7_4) (h2,h4) e ⟨rfl,rfl,rfl,rfl,trivial⟩ (H.sel [2,10,11,12,3,4,5,6,7,8,0] rfl) ?_ ?_
 ·
  clear H e
  rintro T0 k0 ⟨s0_0,s0_1,s0_2⟩ ⟨g0_0,g0_1⟩ w3 o0 hk (H:Cx w0 fp0 S0 w3 [Bx b0 [(.int .i64 s0_0),(g__1h).v,(g__2h).v,(g__3h).v,(h0).v,(h1).v,(g0_0).v,(h3).v,(g0_1).v,(h5).v],Es (List (Int×Int×List Int×List Int)) g__1 g__1h,Es (List Int) g__2 g__2h,Es (List Int) g__3 g__3h,E (List Int) y7_1_0 h0,E (List Int) y7_1_1 h1,E MI s0_1 g0_0,E MI y7_3 h3,E (List Int) s0_2 g0_1,E (List Int) y7_5 h5,E (List Int) y0 h7]) f2
  refine jA (z:=true) (cB hk) ?_
  refine sq ?_
  refine sq ?_
  obtain ⟨a0,e,f3⟩:=aA f2;clear f2
  obtain ⟨p0,m0,c0,c1,c2,c3⟩:=(H.ro (α:=List Int) 10 rfl).at1 e;clear e
  refine dA c0 c1 c2 ?_;clear c0 c1 c2
  refine cA c3 ?_;clear c3
  obtain ⟨y1,e,f4⟩:=aA f3;clear f3
  obtain ⟨⟨y1_0_0,y1_0_1,y1_0_2,y1_0_3⟩,⟨y1_1_0,y1_1_1⟩,y1_2,y1_3,y1_4,y1_5⟩:=y1
  have i1:=e;clear e
  replace H:=H.sel [0,6,8,1,2,3,4,5,7,9,10] rfl
  refine iA (nV b0 s0_0 g__1 ((g__1h).v) g__2 ((g__2h).v) g__3 ((g__3h).v) y7_1_0 ((h0).v) y7_1_1 ((h1).v) s0_1 g0_0 y7_3 ((h3).v) s0_2 g0_1 y7_5 ((h5).v) a0 y1_0_0 y1_0_1 y1_0_2 y1_0_3 y1_1_0 y1_1_1 y1_2 y1_3 y1_4 y1_5 i1) (Γi:=[Bx b0 [(.int .i64 s0_0),(g__1h).v,(g__2h).v,(g__3h).v,(h0).v,(h1).v,(g0_0).v,(h3).v,(g0_1).v,(h5).v],E MI s0_1 g0_0,E (List Int) s0_2 g0_1]) H trivial ?_;clear H i1
  rintro _ _ w5 ⟨h8,h9,rfl,rfl⟩ H
  refine arK hk x0 ?_
  have hs:=Option.some.inj f4;subst hs;clear f4
  exact ⟨(h8,h9),⟨rfl,rfl,rfl,rfl,trivial⟩,H.sel [0,3,4,5,6,7,1,8,2,9,10] rfl⟩
 ·
  clear H e
  obtain ⟨s1_0,s1_1,s1_2⟩:=r0
  rintro T1 ⟨g1_0,g1_1⟩ w6 (H:Cx w0 fp0 S0 w6 [Bx b0 [(.int .i64 s1_0),(g__1h).v,(g__2h).v,(g__3h).v,(h0).v,(h1).v,(g1_0).v,(h3).v,(g1_1).v,(h5).v],Es (List (Int×Int×List Int×List Int)) g__1 g__1h,Es (List Int) g__2 g__2h,Es (List Int) g__3 g__3h,E (List Int) y7_1_0 h0,E (List Int) y7_1_1 h1,E MI s1_1 g1_0,E MI y7_3 h3,E (List Int) s1_2 g1_1,E (List Int) y7_5 h5,E (List Int) y0 h7])
  refine jA (z:=false) dB ?_
  refine sq ?_
  obtain ⟨y2,e,f5⟩:=aA f1;clear f1
  obtain ⟨⟨y2_0_0,y2_0_1,y2_0_2,y2_0_3⟩,⟨y2_1_0,y2_1_1⟩,y2_2,y2_3,y2_4,y2_5⟩:=y2
  have i2:=e;clear e
  replace H:=H.sel [0,6,7,8,9,1,2,3,4,5,10] rfl
  refine iA (By_ b0 s1_0 g__1 g__1h g__2 g__2h g__3 g__3h y7_1_0 h0 y7_1_1 h1 s1_1 g1_0 y7_3 h3 s1_2 g1_1 y7_5 h5 y2_0_0 y2_0_1 y2_0_2 y2_0_3 y2_1_0 y2_1_1 y2_2 y2_3 y2_4 y2_5 i2) (Γi:=[Bx b0 [(.int .i64 s1_0),(g__1h).v,(g__2h).v,(g__3h).v,(h0).v,(h1).v,(g1_0).v,(h3).v,(g1_1).v,(h5).v],E MI s1_1 g1_0,E MI y7_3 h3,E (List Int) s1_2 g1_1,E (List Int) y7_5 h5]) H ⟨Vw.sh 0 rfl,Vw.sh 1 rfl,Vw.sh 2 rfl,Vw.own 3 rfl,Vw.own 4 rfl,trivial⟩ ?_;clear H i2
  rintro _ _ w7 ⟨h10,h11,h13,h15,rfl,rfl⟩ H
  cases f5
  exact ⟨_,_,rfl,⟨b0,h0,h1,h10,h11,h13,h15,rfl,rfl⟩,(H.sel [0,8,9,1,2,3,4] rfl).close ⟨cloB,cloE,cloE,cloE,cloE,cloE,cloE,trivial⟩⟩
theorem CP_ (n_:Int) (y:List Int) (hF:vS n_=some y) :
  nA Tryz.prog 138 #[(.int .i64 n_)] [] [] (fun v Γ'=>∃ z0:Hd,v=(z0).v∧Γ'=[E (List Int) y z0]):=by
 intro w0 S0 fp0 hI hS
 have H:Cx w0 fp0 S0 w0 []:=Cx.start hI hS
 clear hI hS
 refine lA (args:=[_]) gok Tryz.func138 rfl _ rfl rfl rfl ?_
 obtain ⟨y1,e,hF2⟩:=aA hF;clear hF
 have ey1:=e;clear e
 refine iA (nS n_ y1 ey1) (Γi:=[]) H trivial ?_;clear H ey1
 rintro _ _ w3 ⟨h4,rfl,rfl⟩ H
 refine sq ?_
 refine kA (H.ro (α:=List Int) 0 rfl).len ?_
 have x0:=(H.ro (α:=List Int) 0 rfl).max
 obtain ⟨r0,e,f0⟩:=aA hF2;clear hF2
 refine fB _ y1.length (fun (k6:Nat) (s0:List Int) (_:Unit)=>[(3,(h4).v),(8,(.int .i64 ((y1.length:Nat):Int))),(9,(.int .i64 ((k6:Nat):Int)))]) (fun _ (s0:List Int) (_:Unit) w'=>Cx w0 fp0 S0 w' [E (List Int) s0 h4]) y1 () e ⟨rfl,rfl,rfl,trivial⟩ (H.sel [0] rfl) ?_ ?_
 ·
  clear H e
  rintro T0 k6 s0 _ w1 o0 hk (H:Cx w0 fp0 S0 w1 [E (List Int) s0 h4]) f1
  refine jA (z:=true) (cB hk) ?_
  refine sq ?_
  refine sq ?_
  obtain ⟨a0,e,f2⟩:=aA f1;clear f1
  have i0:=e;clear e
  obtain ⟨p0,m0,c0,c1,c2⟩:=(H.ro (α:=List Int) 0 rfl).setp i0
  refine dA c0 c1 c2 ?_
  refine gC (α:=Int) H c0 c1 i0 ?_;clear H c0 c1 c2 i0;intro w2 H
  refine arK hk x0 ?_
  have hs:=Option.some.inj f2;subst hs;clear f2
  exact ⟨(),⟨rfl,rfl,rfl,trivial⟩,H.sel [0] rfl⟩
 ·
  clear H e
  rintro T1 _ w4 (H:Cx w0 fp0 S0 w4 [E (List Int) r0 h4])
  refine jA (z:=false) dB ?_
  refine sq ?_
  cases f0
  exact ⟨_,_,rfl,⟨h4,rfl,rfl⟩,(H.sel [0] rfl).close ⟨cloE,trivial⟩⟩
theorem tQ (c_:List Int) (c_h:Hd) (w_:Int) (y:Int) (hF:lJ c_ w_=some y) :
  nA Tryz.prog 140 #[(c_h).v,(.int .i64 w_)] [Es (List Int) c_ c_h] [] (fun v Γ'=>v=(.int .i64 y)∧Γ'=[]):=by
 intro w0 S0 fp0 hI hS
 have H:Cx w0 fp0 S0 w0 [Es (List Int) c_ c_h]:=Cx.start hI hS
 clear hI hS
 refine lA (args:=[_,_]) gok Tryz.func140 rfl _ rfl rfl rfl ?_
 obtain ⟨r0,f0,f1⟩:=aA hF;clear hF
 refine cut (fun (q0:Int)=>[(1,(.int .i64 q0))]) (fun (q0:Int) w'=>q0=r0∧Cx w0 fp0 S0 w' []) ?_ ?_
 ·
  refine xC _ (fun (s0:Int) (_:Unit)=>[(0,(c_h).v),(1,(.int .i64 s0))]) (fun (s0:Int) (_:Unit) w'=>Cx w0 fp0 S0 w' [Es (List Int) c_ c_h]) w_ () f0 ⟨rfl,rfl,trivial⟩ (H.sel [0] rfl) ?_
  ·
   clear H
   rintro T0 s0 _ w1 o0 (H:Cx w0 fp0 S0 w1 [Es (List Int) c_ c_h]) hrt f2
   refine sq ?_
   obtain ⟨a0,e,f3⟩:=aA f2;clear f2
   obtain ⟨p0,m0,c0,c1,c2,c3⟩:=(H.rs (α:=List Int) 0 rfl).at1 e;clear e
   refine dA c0 c1 c2 ?_;clear c0 c1 c2
   refine cA c3 ?_;clear c3
   obtain ⟨a1,e,f4⟩:=aA f3;clear f3
   refine gA e ?_;clear e
   cases a1
   ·
    have f5:=fA f4;clear f4
    have hs:=Option.some.inj f5;subst hs;clear f5
    have f6:some _=some _:=congrArg some (hrt _ rfl).symm
    exact ⟨s0,⟨rfl,trivial⟩,Option.some.inj f6,H.sel [] rfl⟩
   ·
    have f7:=eA f4;clear f4
    obtain ⟨a2,e,f8⟩:=aA f7;clear f7
    obtain ⟨p1,m1,c4,c5,c6,c7⟩:=(H.rs (α:=List Int) 0 rfl).at1 e;clear e
    refine dA c4 c5 c6 ?_;clear c4 c5 c6
    refine cA c7 ?_;clear c7
    have hs:=Option.some.inj f8;subst hs;clear f8
    exact ⟨a2,(),rfl,⟨rfl,rfl,trivial⟩,H.sel [0] rfl⟩
 ·
  clear f0 H
  rintro T1 s1 w2 ⟨hr,(H:Cx w0 fp0 S0 w2 [])⟩
  subst hr
  cases f1
  exact ⟨_,_,rfl,⟨rfl,rfl⟩,(H.sel [] rfl).close trivial⟩
theorem Bt_ (c_:List Int) (c_h:Hd) (v_:Int) (w_:Int) (y:List Int) (hF:mJ c_ v_ w_=some y) :
  nA Tryz.prog 139 #[(c_h).v,(.int .i64 v_),(.int .i64 w_)] [] [E (List Int) c_ c_h] (fun v Γ'=>v=(.tuple #[])∧Γ'=[E (List Int) y c_h]):=by
 intro w0 S0 fp0 hI hS
 have H:Cx w0 fp0 S0 w0 [E (List Int) c_ c_h]:=Cx.start hI hS
 clear hI hS
 refine lA (args:=[_,_,_]) gok Tryz.func139 rfl _ rfl rfl rfl ?_
 obtain ⟨y2,e,hF3⟩:=aA hF;clear hF
 have ey2:=e;clear e
 refine iA (tQ c_ c_h v_ y2 ey2) (Γi:=[]) H ⟨Vw.own 0 rfl,trivial⟩ ?_;clear H ey2
 rintro _ _ w4 ⟨rfl,rfl⟩ H
 obtain ⟨y5,e,hF6⟩:=aA hF3;clear hF3
 have ey5:=e;clear e
 refine iA (tQ c_ c_h w_ y5 ey5) (Γi:=[]) H ⟨Vw.own 0 rfl,trivial⟩ ?_;clear H ey5
 rintro _ _ w7 ⟨rfl,rfl⟩ H
 obtain ⟨a8,e,hF9⟩:=aA hF6;clear hF6
 refine max_ e ?_;clear e
 obtain ⟨a0,e,f0⟩:=aA hF9;clear hF9
 refine min_ e ?_;clear e
 obtain ⟨a1,e,f1⟩:=aA f0;clear f0
 have i0:=e;clear e
 obtain ⟨p0,m0,c0,c1,c2⟩:=(H.ro (α:=List Int) 0 rfl).setp i0
 refine dA c0 c1 c2 ?_
 refine gC (α:=Int) H c0 c1 i0 ?_;clear H c0 c1 c2 i0;intro w1 H
 cases f1
 exact ⟨_,_,rfl,⟨rfl,rfl⟩,(H.sel [0] rfl).close ⟨cloE,trivial⟩⟩
theorem Bb_ (g__0:Int) (g__1:List (Int×Int×List Int×List Int)) (g__1h:Hd) (g__2:List Int) (g__2h:Hd) (g__3:List Int) (g__3h:Hd) (y0:List Int) (y1:Int) (hF:kQ (g__0,g__1,g__2,g__3)=some (y0,y1)) :
  nA Tryz.prog 124 #[(.agg #[(.int .i64 g__0),(g__1h).v,(g__2h).v,(g__3h).v])] [Es (List (Int×Int×List Int×List Int)) g__1 g__1h,Es (List Int) g__2 g__2h,Es (List Int) g__3 g__3h] [] (fun v Γ'=>∃ z0:Hd,v=(.tuple #[(z0).v,(.int .i64 y1)])∧Γ'=[E (List Int) y0 z0]):=by
 intro w0 S0 fp0 hI hS
 have H:Cx w0 fp0 S0 w0 [Es (List (Int×Int×List Int×List Int)) g__1 g__1h,Es (List Int) g__2 g__2h,Es (List Int) g__3 g__3h]:=Cx.start hI hS
 clear hI hS
 refine lA (args:=[_]) gok Tryz.func124 rfl _ rfl rfl rfl ?_
 refine jB H ?_;clear H;intro b5 w4 hx H
 clear hx
 refine fld gok rfl rfl rfl rfl ?_
 refine cA (H.bx 0 rfl (j:=0) rfl) ?_
 obtain ⟨y7,e,hF8⟩:=aA hF;clear hF
 have ey7:=e;clear e
 refine iA (CP_ g__0 y7 ey7) (Γi:=[]) H trivial ?_;clear H ey7
 rintro _ _ w9 ⟨h0,rfl,rfl⟩ H
 refine sq ?_
 refine fld gok rfl rfl rfl rfl ?_
 refine cA (H.bx 1 rfl (j:=1) rfl) ?_
 refine kA (H.rs (α:=List (Int×Int×List Int×List Int)) 2 rfl).len ?_
 have x0:=(H.rs (α:=List (Int×Int×List Int×List Int)) 2 rfl).max
 obtain ⟨r0,e,f0⟩:=aA hF8;clear hF8
 refine fB _ g__1.length (fun (k0:Nat) (s0:List Int) (_:Unit)=>[(1,(.pointer (some ⟨b5,0,none⟩))),(4,(h0).v),(18,(g__1h).v),(19,(.int .i64 ((g__1.length:Nat):Int))),(20,(.int .i64 ((k0:Nat):Int)))]) (fun _ (s0:List Int) (_:Unit) w'=>Cx w0 fp0 S0 w' [Bx b5 [(.int .i64 g__0),(g__1h).v,(g__2h).v,(g__3h).v],Es (List (Int×Int×List Int×List Int)) g__1 g__1h,Es (List Int) g__2 g__2h,Es (List Int) g__3 g__3h,E (List Int) s0 h0]) y7 () e ⟨rfl,rfl,rfl,rfl,rfl,trivial⟩ (H.sel [1,2,3,4,0] rfl) ?_ ?_
 ·
  clear H e
  rintro T0 k0 s0 _ w1 o0 hk (H:Cx w0 fp0 S0 w1 [Bx b5 [(.int .i64 g__0),(g__1h).v,(g__2h).v,(g__3h).v],Es (List (Int×Int×List Int×List Int)) g__1 g__1h,Es (List Int) g__2 g__2h,Es (List Int) g__3 g__3h,E (List Int) s0 h0]) f1
  refine jA (z:=true) (cB hk) ?_
  refine sq ?_
  refine sq ?_
  obtain ⟨a0,e,f2⟩:=aA f1;clear f1
  have HH:=H;clear H;obtain ⟨p0,m0,g0,c0,c1,c2,c3,H⟩:=HH.el (α:=Int×Int×List Int×List Int) 1 rfl e;clear HH
  clear e
  obtain ⟨a0_0,a0_1,a0_2,a0_3⟩:=a0
  obtain ⟨_,_,h1,h2⟩:=g0
  replace H:=H.part (β:=List Int) a0_2 (h1:Hd) 0 rfl (fun S h=>(And.left (And.right (And.right h))))
  replace H:=H.part (β:=List Int) a0_3 (h2:Hd) 1 rfl (fun S h=>(And.right (And.right (And.right h))))
  replace H:=H.sel [0,1,3,4,5,6,7] rfl
  refine dA c0 c1 c2 ?_;clear c0 c1 c2
  refine vA [(.int .i64 a0_0),(.int .i64 a0_1),(h1).v,(h2).v] rfl c3 ?_;clear c3
  refine sB gok rfl H ?_;clear H;intro b0 w2 hx H
  clear hx
  refine stA gok [(.int .i64 a0_0),(.int .i64 a0_1),(h1).v,(h2).v] rfl H rfl rfl rfl ?_;clear H;intro w3 H
  refine fld gok rfl rfl rfl rfl ?_
  refine cA (H.bx 0 rfl (j:=2) rfl) ?_
  refine fld gok rfl rfl rfl rfl ?_
  refine cA (H.bx 0 rfl (j:=3) rfl) ?_
  replace H:=H.dup 1 rfl qA
  replace H:=H.dup 3 rfl qA
  refine rC (α:=Sh (List Int)) (us:=[(h1).v,(h2).v]) (xs:=[a0_2,a0_3]) (gs:=([h1,h2]:List Hd)) gok rfl rfl rfl ⟨rfl,rfl,trivial⟩ rfl rfl H ?_;clear H;intro h3 w5 hx H
  clear hx
  obtain ⟨y2,e,f3⟩:=aA f2;clear f2
  have i0:=e;clear e
  refine iA (jL [a0_2,a0_3] h3 y2 i0) (Γi:=[]) H ⟨Vw.part (β:=List (List Int)) (Vw.own (α:=List (Sh (List Int))) 0 rfl) [a0_2,a0_3] h3 (fun S h=>h),trivial⟩ ?_;clear H i0
  rintro _ _ w6 ⟨h4,rfl,rfl⟩ H
  refine kA (H.ro (α:=List Int) 0 rfl).len ?_
  have x1:=(H.ro (α:=List Int) 0 rfl).max
  obtain ⟨r1,e,f4⟩:=aA f3;clear f3
  refine fB _ y2.length (fun (k1:Nat) (s1:List Int) (_:Unit)=>[(1,(.pointer (some ⟨b5,0,none⟩))),(4,(h0).v),(7,(h4).v),(18,(g__1h).v),(19,(.int .i64 ((g__1.length:Nat):Int))),(20,(.int .i64 ((k0:Nat):Int))),(30,(h4).v),(31,(.int .i64 ((y2.length:Nat):Int))),(32,(.int .i64 ((k1:Nat):Int)))]) (fun _ (s1:List Int) (_:Unit) w'=>Cx w0 fp0 S0 w' [Bx b5 [(.int .i64 g__0),(g__1h).v,(g__2h).v,(g__3h).v],Es (List (Int×Int×List Int×List Int)) g__1 g__1h,Es (List Int) g__2 g__2h,Es (List Int) g__3 g__3h,E (List Int) s1 h0,E (List Int) y2 h4]) s0 () e ⟨rfl,rfl,rfl,rfl,rfl,rfl,rfl,rfl,rfl,trivial⟩ (H.sel [5,6,7,8,9,0] rfl) ?_ ?_
  ·
   clear H e
   rintro T1 k1 s1 _ w7 o1 hk (H:Cx w0 fp0 S0 w7 [Bx b5 [(.int .i64 g__0),(g__1h).v,(g__2h).v,(g__3h).v],Es (List (Int×Int×List Int×List Int)) g__1 g__1h,Es (List Int) g__2 g__2h,Es (List Int) g__3 g__3h,E (List Int) s1 h0,E (List Int) y2 h4]) f5
   refine jA (z:=true) (cB hk) ?_
   refine sq ?_
   refine sq ?_
   obtain ⟨a1,e,f6⟩:=aA f5;clear f5
   obtain ⟨p1,m1,c4,c5,c6,c7⟩:=(H.ro (α:=List Int) 5 rfl).at1 e;clear e
   refine dA c4 c5 c6 ?_;clear c4 c5 c6
   refine cA c7 ?_;clear c7
   obtain ⟨a2,e,f7⟩:=aA f6;clear f6
   obtain ⟨p2,m2,c8,c9,c10,c11⟩:=(H.ro (α:=List Int) 5 rfl).at1 e;clear e
   refine dA c8 c9 c10 ?_;clear c8 c9 c10
   refine cA c11 ?_;clear c11
   obtain ⟨y3,e,f8⟩:=aA f7;clear f7
   have i1:=e;clear e
   replace H:=H.sel [4,0,1,2,3,5] rfl
   refine iA (Bt_ s1 h0 a2 a1 y3 i1) (Γi:=[E (List Int) s1 h0]) H trivial ?_;clear H i1
   rintro _ _ w8 ⟨rfl,rfl⟩ H
   refine arK hk x1 ?_
   have hs:=Option.some.inj f8;subst hs;clear f8
   exact ⟨(),⟨rfl,rfl,rfl,rfl,rfl,rfl,rfl,rfl,rfl,trivial⟩,H.sel [1,2,3,4,0,5] rfl⟩
  ·
   clear H e
   rintro T2 _ w10 (H:Cx w0 fp0 S0 w10 [Bx b5 [(.int .i64 g__0),(g__1h).v,(g__2h).v,(g__3h).v],Es (List (Int×Int×List Int×List Int)) g__1 g__1h,Es (List Int) g__2 g__2h,Es (List Int) g__3 g__3h,E (List Int) r1 h0,E (List Int) y2 h4])
   refine jA (z:=false) dB ?_
   refine sq ?_
   refine arK hk x0 ?_
   have hs:=Option.some.inj f4;subst hs;clear f4
   exact ⟨(),⟨rfl,rfl,rfl,rfl,rfl,trivial⟩,H.sel [0,1,2,3,4] rfl⟩
 ·
  clear H e
  rintro T3 _ w11 (H:Cx w0 fp0 S0 w11 [Bx b5 [(.int .i64 g__0),(g__1h).v,(g__2h).v,(g__3h).v],Es (List (Int×Int×List Int×List Int)) g__1 g__1h,Es (List Int) g__2 g__2h,Es (List Int) g__3 g__3h,E (List Int) r0 h0])
  refine jA (z:=false) dB ?_
  refine sq ?_
  refine fld gok rfl rfl rfl rfl ?_
  refine cA (H.bx 0 rfl (j:=0) rfl) ?_
  obtain ⟨y4,e,f9⟩:=aA f0;clear f0
  have i2:=e;clear e
  refine iA (nS g__0 y4 i2) (Γi:=[]) H trivial ?_;clear H i2
  rintro _ _ w12 ⟨h5,rfl,rfl⟩ H
  refine sq ?_
  refine kA (H.ro (α:=List Int) 0 rfl).len ?_
  have x2:=(H.ro (α:=List Int) 0 rfl).max
  obtain ⟨r2,e,f10⟩:=aA f9;clear f9
  refine fB _ y4.length (fun (k2:Nat) (s2:List Int×Int) (_:Unit)=>[(4,(h0).v),(10,(h5).v),(11,(.int .i64 s2.2)),(48,(.int .i64 ((y4.length:Nat):Int))),(49,(.int .i64 ((k2:Nat):Int)))]) (fun _ (s2:List Int×Int) (_:Unit) w'=>Cx w0 fp0 S0 w' [E (List Int) r0 h0,E (List Int) s2.1 h5]) (y4,0) () e ⟨rfl,rfl,rfl,rfl,rfl,trivial⟩ (H.sel [5,0] rfl) ?_ ?_
  ·
   clear H e
   rintro T4 k2 ⟨s2_0,s2_1⟩ _ w13 o2 hk (H:Cx w0 fp0 S0 w13 [E (List Int) r0 h0,E (List Int) s2_0 h5]) f11
   refine jA (z:=true) (cB hk) ?_
   refine sq ?_
   obtain ⟨r3,f12,f13⟩:=aA f11;clear f11
   refine cut (fun (q0:List Int×Int)=>[(4,(h0).v),(10,(h5).v),(11,(.int .i64 q0.2)),(48,(.int .i64 ((y4.length:Nat):Int))),(49,(.int .i64 ((k2:Nat):Int)))]) (fun (q0:List Int×Int) w'=>(q0.1,q0.2)=r3∧Cx w0 fp0 S0 w' [E (List Int) r0 h0,E (List Int) q0.1 h5]) ?_ ?_
   ·
    refine sq ?_
    obtain ⟨y5,e,f14⟩:=aA f12;clear f12
    have i3:=e;clear e
    refine iA (tQ r0 h0 ((k2:Nat):Int) y5 i3) (Γi:=[]) H ⟨Vw.own 0 rfl,trivial⟩ ?_;clear H i3
    rintro _ _ w14 ⟨rfl,rfl⟩ H
    obtain ⟨a3,e,f15⟩:=aA f14;clear f14
    refine gA e ?_;clear e
    cases a3
    ·
     have f16:=fA f15;clear f15
     obtain ⟨a4,e,f17⟩:=aA f16;clear f16
     have i4:=e;clear e
     obtain ⟨p3,m3,c12,c13,c14⟩:=(H.ro (α:=List Int) 1 rfl).setp i4
     refine dA c12 c13 c14 ?_
     replace H:=H.sel [1,0] rfl
     refine gC (α:=Int) H c12 c13 i4 ?_;clear H c12 c13 c14 i4;intro w15 H
     obtain ⟨a5,e,f18⟩:=aA f17;clear f17
     refine arO e ?_;clear e
     exact ⟨(a4,a5),⟨rfl,rfl,rfl,rfl,rfl,trivial⟩,Option.some.inj f18,H.sel [1,0] rfl⟩
    ·
     have f19:=eA f15;clear f15
     obtain ⟨a6,e,f20⟩:=aA f19;clear f19
     obtain ⟨p4,m4,c15,c16,c17,c18⟩:=(H.ro (α:=List Int) 1 rfl).at1 e;clear e
     refine dA c15 c16 c17 ?_;clear c15 c16 c17
     refine cA c18 ?_;clear c18
     obtain ⟨a7,e,f21⟩:=aA f20;clear f20
     have i5:=e;clear e
     obtain ⟨p5,m5,c19,c20,c21⟩:=(H.ro (α:=List Int) 1 rfl).setp i5
     refine dA c19 c20 c21 ?_
     replace H:=H.sel [1,0] rfl
     refine gC (α:=Int) H c19 c20 i5 ?_;clear H c19 c20 c21 i5;intro w16 H
     exact ⟨(a7,s2_1),⟨rfl,rfl,rfl,rfl,rfl,trivial⟩,Option.some.inj f21,H.sel [1,0] rfl⟩
   ·
    clear f12 H
    rintro T5 ⟨s3_0,s3_1⟩ w17 ⟨hr,(H:Cx w0 fp0 S0 w17 [E (List Int) r0 h0,E (List Int) s3_0 h5])⟩
    subst hr
    refine arK hk x2 ?_
    have hs:=Option.some.inj f13;subst hs;clear f13
    exact ⟨(),⟨rfl,rfl,rfl,rfl,rfl,trivial⟩,H.sel [0,1] rfl⟩
  ·
   clear H e
   obtain ⟨s4_0,s4_1⟩:=r2
   rintro T6 _ w18 (H:Cx w0 fp0 S0 w18 [E (List Int) r0 h0,E (List Int) s4_0 h5])
   refine jA (z:=false) dB ?_
   refine sq ?_
   cases f10
   exact ⟨_,_,rfl,⟨h5,rfl,rfl⟩,(H.sel [1] rfl).close ⟨cloE,trivial⟩⟩
theorem A8_ (g__0:Int) (g__1:List (Int×Int×List Int×List Int)) (g__1h:Hd) (g__2:List Int) (g__2h:Hd) (g__3:List Int) (g__3h:Hd) (open_b:Nat) (open__0_0:Int) (open__0_1:List (Int×Int×List Int×List Int)) (open__0_1h:Hd) (open__0_2:List Int) (open__0_2h:Hd) (open__0_3:List Int) (open__0_3h:Hd) (open__1_0:List Int) (open__1_0h:Hd) (open__1_1:List Int) (open__1_1h:Hd) (open__2:MI) (open__2h:Mh) (open__3:MI) (open__3h:Mh) (open__4:List Int) (open__4h:Hd) (open__5:List Int) (open__5h:Hd) (y:List Int) (hF:iQ (g__0,g__1,g__2,g__3) ((open__0_0,open__0_1,open__0_2,open__0_3),(open__1_0,open__1_1),open__2,open__3,open__4,open__5)=some y) :
  nA Tryz.prog 104 #[(.agg #[(.int .i64 g__0),(g__1h).v,(g__2h).v,(g__3h).v]),(.pointer (some ⟨open_b,0,none⟩))] [Es (List (Int×Int×List Int×List Int)) g__1 g__1h,Es (List Int) g__2 g__2h,Es (List Int) g__3 g__3h,Es (List (Int×Int×List Int×List Int)) open__0_1 open__0_1h,Es (List Int) open__0_2 open__0_2h,Es (List Int) open__0_3 open__0_3h,Es (List Int) open__1_0 open__1_0h,Es (List Int) open__1_1 open__1_1h,Es MI open__2 open__2h,Es MI open__3 open__3h,Es (List Int) open__4 open__4h,Es (List Int) open__5 open__5h] [Bx open_b [(.int .i64 open__0_0),(open__0_1h).v,(open__0_2h).v,(open__0_3h).v,(open__1_0h).v,(open__1_1h).v,(open__2h).v,(open__3h).v,(open__4h).v,(open__5h).v]] (fun v Γ'=>∃ z0:Hd,v=(z0).v∧Γ'=[Bx open_b [(.int .i64 open__0_0),(open__0_1h).v,(open__0_2h).v,(open__0_3h).v,(open__1_0h).v,(open__1_1h).v,(open__2h).v,(open__3h).v,(open__4h).v,(open__5h).v],E (List Int) y z0]):=by
 intro w0 S0 fp0 hI hS
 have H:Cx w0 fp0 S0 w0 [Es (List (Int×Int×List Int×List Int)) g__1 g__1h,Es (List Int) g__2 g__2h,Es (List Int) g__3 g__3h,Es (List (Int×Int×List Int×List Int)) open__0_1 open__0_1h,Es (List Int) open__0_2 open__0_2h,Es (List Int) open__0_3 open__0_3h,Es (List Int) open__1_0 open__1_0h,Es (List Int) open__1_1 open__1_1h,Es MI open__2 open__2h,Es MI open__3 open__3h,Es (List Int) open__4 open__4h,Es (List Int) open__5 open__5h,Bx open_b [(.int .i64 open__0_0),(open__0_1h).v,(open__0_2h).v,(open__0_3h).v,(open__1_0h).v,(open__1_1h).v,(open__2h).v,(open__3h).v,(open__4h).v,(open__5h).v]]:=Cx.start hI hS
 clear hI hS
 refine lA (args:=[_,_]) gok Tryz.func104 rfl _ rfl rfl rfl ?_
 refine jB H ?_;clear H;intro b5 w4 hx H
 clear hx
 replace H:Cx w0 fp0 S0 w4 [Bx b5 [(.int .i64 g__0),(g__1h).v,(g__2h).v,(g__3h).v],Bx open_b [(.int .i64 open__0_0),(open__0_1h).v,(open__0_2h).v,(open__0_3h).v,(open__1_0h).v,(open__1_1h).v,(open__2h).v,(open__3h).v,(open__4h).v,(open__5h).v],Es (List (Int×Int×List Int×List Int)) g__1 g__1h,Es (List Int) g__2 g__2h,Es (List Int) g__3 g__3h,Es MI open__2 open__2h]:=H.sel [0,13,1,2,3,9] rfl
 refine vA [(.int .i64 g__0),(g__1h).v,(g__2h).v,(g__3h).v] rfl (fun j u hj=>H.bx 0 rfl hj) ?_
 obtain ⟨y7,e,hF8⟩:=aA hF;clear hF
 obtain ⟨y7,y0⟩:=y7
 have ey7:=e;clear e
 refine iA (Bb_ g__0 g__1 g__1h g__2 g__2h g__3 g__3h y7 y0 ey7) (Γi:=[]) H ⟨Vw.sh 2 rfl,Vw.sh 3 rfl,Vw.sh 4 rfl,trivial⟩ ?_;clear H ey7
 rintro _ _ w9 ⟨h0,rfl,rfl⟩ H
 refine mkML H ?_;clear H;intro bm w1 hx H
 clear hx
 refine sq ?_
 refine fld gok rfl rfl rfl rfl ?_
 refine cA (H.bx 2 rfl (j:=1) rfl) ?_
 refine kA (H.rs (α:=List (Int×Int×List Int×List Int)) 4 rfl).len ?_
 have x0:=(H.rs (α:=List (Int×Int×List Int×List Int)) 4 rfl).max
 obtain ⟨r0,e,f0⟩:=aA hF8;clear hF8
 obtain ⟨hc,hy⟩:=DN_ f0;clear f0
 have hc:(decide (g__1.length≤gB)&&open__2.kvs.all (fun p=>(bA y7 p.1).isSome)&&r0.all (fun c=>open__2.kvs.any fun p=>decide (bA y7 p.1=some c)))=true:=hc
 rw [Bool.and_eq_true,Bool.and_eq_true,decide_eq_true_eq] at hc
 obtain ⟨⟨hmxN,hall⟩,hany⟩:=hc
 refine fB _ g__1.length (fun (k0:Nat) (s:List Int) (_:List Int)=>[(1,(.pointer (some ⟨open_b,0,none⟩))),(2,(.pointer (some ⟨b5,0,none⟩))),(5,(h0).v),(7,(.map (some bm))),(22,(g__1h).v),(23,(.int .i64 ((g__1.length:Nat):Int))),(24,(.int .i64 ((k0:Nat):Int)))]) (fun k0 (s:List Int) (ks:List Int) w'=>(∀ c∈ks,c∈s)∧Cx w0 fp0 S0 w' [EML bm ks k0 none,E (List Int) y7 h0,Bx b5 [(.int .i64 g__0),(g__1h).v,(g__2h).v,(g__3h).v],Bx open_b [(.int .i64 open__0_0),(open__0_1h).v,(open__0_2h).v,(open__0_3h).v,(open__1_0h).v,(open__1_1h).v,(open__2h).v,(open__3h).v,(open__4h).v,(open__5h).v],Es (List (Int×Int×List Int×List Int)) g__1 g__1h,Es (List Int) g__2 g__2h,Es (List Int) g__3 g__3h,Es MI open__2 open__2h]) [] [] e ⟨rfl,rfl,rfl,rfl,rfl,rfl,rfl,trivial⟩ ⟨fun _ h=>h,H⟩ ?_ ?_
 ·
  clear H e
  rintro T0 k0 s0 ks w2 o0 hk ⟨hks,(H:Cx w0 fp0 S0 w2 [EML bm ks k0 none,E (List Int) y7 h0,Bx b5 [(.int .i64 g__0),(g__1h).v,(g__2h).v,(g__3h).v],Bx open_b [(.int .i64 open__0_0),(open__0_1h).v,(open__0_2h).v,(open__0_3h).v,(open__1_0h).v,(open__1_1h).v,(open__2h).v,(open__3h).v,(open__4h).v,(open__5h).v],Es (List (Int×Int×List Int×List Int)) g__1 g__1h,Es (List Int) g__2 g__2h,Es (List Int) g__3 g__3h,Es MI open__2 open__2h])⟩ f1
  refine jA (z:=true) (cB hk) ?_
  refine sq ?_
  refine sq ?_
  obtain ⟨a0,e,f2⟩:=aA f1;clear f1
  have HH:=H;clear H;obtain ⟨p0,m0,g0,c0,c1,c2,c3,H⟩:=HH.el (α:=Int×Int×List Int×List Int) 4 rfl e;clear HH
  clear e
  obtain ⟨a0_0,a0_1,a0_2,a0_3⟩:=a0
  obtain ⟨_,_,h3,h4⟩:=g0
  replace H:=H.part (β:=List Int) a0_2 (h3:Hd) 0 rfl (fun S h=>(And.left (And.right (And.right h))))
  replace H:=H.part (β:=List Int) a0_3 (h4:Hd) 1 rfl (fun S h=>(And.right (And.right (And.right h))))
  replace H:=H.sel [0,1,3,4,5,6,7,8,9,10] rfl
  refine dA c0 c1 c2 ?_;clear c0 c1 c2
  refine vA [(.int .i64 a0_0),(.int .i64 a0_1),(h3).v,(h4).v] rfl c3 ?_;clear c3
  refine sB gok rfl H ?_;clear H;intro b0 w3 hx H
  clear hx
  refine stA gok [(.int .i64 a0_0),(.int .i64 a0_1),(h3).v,(h4).v] rfl H rfl rfl rfl ?_;clear H;intro w5 H
  refine fld gok rfl rfl rfl rfl ?_
  refine cA (H.bx 0 rfl (j:=2) rfl) ?_
  refine fld gok rfl rfl rfl rfl ?_
  refine cA (H.bx 0 rfl (j:=3) rfl) ?_
  replace H:=H.dup 1 rfl qA
  replace H:=H.dup 3 rfl qA
  refine rC (α:=Sh (List Int)) (us:=[(h3).v,(h4).v]) (xs:=[a0_2,a0_3]) (gs:=([h3,h4]:List Hd)) gok rfl rfl rfl ⟨rfl,rfl,trivial⟩ rfl rfl H ?_;clear H;intro h5 w6 hx H
  clear hx
  obtain ⟨y1,e,f3⟩:=aA f2;clear f2
  have i0:=e;clear e
  refine iA (jL [a0_2,a0_3] h5 y1 i0) (Γi:=[]) H ⟨Vw.part (β:=List (List Int)) (Vw.own (α:=List (Sh (List Int))) 0 rfl) [a0_2,a0_3] h5 (fun S h=>h),trivial⟩ ?_;clear H i0
  rintro _ _ w7 ⟨h6,rfl,rfl⟩ H
  obtain ⟨a1,e,f4⟩:=aA f3;clear f3
  obtain ⟨p1,m1,c4,c5,c6,c7⟩:=(H.ro (α:=List Int) 0 rfl).at1 e;clear e
  refine dA c4 c5 c6 ?_;clear c4 c5 c6
  refine cA c7 ?_;clear c7
  obtain ⟨a2,e,f5⟩:=aA f4;clear f4
  obtain ⟨p2,m2,c8,c9,c10,c11⟩:=(H.ro (α:=List Int) 6 rfl).at1 e;clear e
  refine dA c8 c9 c10 ?_;clear c8 c9 c10
  refine cA c11 ?_;clear c11
  replace H:Cx w0 fp0 S0 w7 [EML bm ks k0 none,E (List Int) y7 h0,Bx b5 [(.int .i64 g__0),(g__1h).v,(g__2h).v,(g__3h).v],Bx open_b [(.int .i64 open__0_0),(open__0_1h).v,(open__0_2h).v,(open__0_3h).v,(open__1_0h).v,(open__1_1h).v,(open__2h).v,(open__3h).v,(open__4h).v,(open__5h).v],Es (List (Int×Int×List Int×List Int)) g__1 g__1h,Es (List Int) g__2 g__2h,Es (List Int) g__3 g__3h,Es MI open__2 open__2h]:=H.sel [5,6,7,8,9,10,11,12] rfl
  refine lookML gok Tryz.underlying153 Tryz.underlying3 rfl H ?_;clear H;intro l hl hll H
  refine bB (α:=Int) gok rfl rfl rfl rfl H ?_;clear H;intro h7 w8 hx H
  clear hx
  replace H:=H.sel [1,0,2,3,4,5,6,7,8,9] rfl
  have e:iB l [((k0:Nat):Int)]=some (l++[((k0:Nat):Int)]):=by
   unfold iB
   rw [if_pos (by simp only [List.length_cons,List.length_nil];omega)]
  refine append_ (α:=Int) gok rfl rfl rfl rfl H e ?_;clear e H;intro h8 w10 H
  refine updML (N':=k0+1) Tryz.underlying153 Tryz.underlying3 H (by simp;omega) (Nat.le_succ _) ?_;clear H;intro w12 ks' hks' H
  refine arK hk x0 ?_
  have hs:=Option.some.inj f5;subst hs;clear f5
  refine ⟨ks',⟨rfl,rfl,rfl,rfl,rfl,rfl,rfl,trivial⟩,fun c hc=>?_,H⟩
  rcases hks' c hc with h | h
  ·
   exact List.mem_append_left _ (hks c h)
  ·
   exact List.mem_append_right _ (by rw [h];simp)
 ·
  clear H e
  rintro T1 ks w13 ⟨hks,(H:Cx w0 fp0 S0 w13 [EML bm ks g__1.length none,E (List Int) y7 h0,Bx b5 [(.int .i64 g__0),(g__1h).v,(g__2h).v,(g__3h).v],Bx open_b [(.int .i64 open__0_0),(open__0_1h).v,(open__0_2h).v,(open__0_3h).v,(open__1_0h).v,(open__1_1h).v,(open__2h).v,(open__3h).v,(open__4h).v,(open__5h).v],Es (List (Int×Int×List Int×List Int)) g__1 g__1h,Es (List Int) g__2 g__2h,Es (List Int) g__3 g__3h,Es MI open__2 open__2h])⟩
  refine jA (z:=false) dB ?_
  refine sq ?_
  refine sq ?_
  refine fld gok rfl rfl rfl rfl ?_
  refine cA (H.bx 3 rfl (j:=6) rfl) ?_
  refine yU Tryz.underlying129 H 7 rfl ?_;clear H;intro bi w14 hx hkk H
  clear hx
  refine cV (fun (_:Unit) (_ _:Int)=>some ()) (fun _ _ _ _ _ _=>rfl) open__2.kvs hkk (fun (_:Unit) (_:List Int)=>[(1,(.pointer (some ⟨open_b,0,none⟩))),(2,(.pointer (some ⟨b5,0,none⟩))),(5,(h0).v),(7,(.map (some bm))),(53,(.pointer (some ⟨bi,0,none⟩)))]) (fun lf (_:Unit) (ks:List Int) w'=>((∀ p∈lf,p∈open__2.kvs)∧∀ c∈ks,∃ p∈lf,bA y7 p.1=some c)∧Cx w0 fp0 S0 w' [EML bm ks g__1.length none,E (List Int) y7 h0,Bx b5 [(.int .i64 g__0),(g__1h).v,(g__2h).v,(g__3h).v],Bx open_b [(.int .i64 open__0_0),(open__0_1h).v,(open__0_2h).v,(open__0_3h).v,(open__1_0h).v,(open__1_1h).v,(open__2h).v,(open__3h).v,(open__4h).v,(open__5h).v],Es (List (Int×Int×List Int×List Int)) g__1 g__1h,Es (List Int) g__2 g__2h,Es (List Int) g__3 g__3h,Es MI open__2 open__2h,It open__2h bi none lf]) () ks (xY _) ⟨rfl,rfl,rfl,rfl,rfl,trivial⟩ ⟨⟨fun p hp=>hp,fun c hc=>?_⟩,H.sel [1,2,3,4,5,6,7,8,0] rfl⟩ ?_ ?_
  ·
   have:=List.all_eq_true.1 hany c (hks c hc)
   obtain ⟨p,hp,h⟩:=List.any_eq_true.1 this
   exact ⟨p,hp,of_decide_eq_true h⟩
  ·
   clear H
   rintro T2 lf _ ks w15 J0 hne ⟨⟨hlf,hkl⟩,(H:Cx w0 fp0 S0 w15 [EML bm ks g__1.length none,E (List Int) y7 h0,Bx b5 [(.int .i64 g__0),(g__1h).v,(g__2h).v,(g__3h).v],Bx open_b [(.int .i64 open__0_0),(open__0_1h).v,(open__0_2h).v,(open__0_3h).v,(open__1_0h).v,(open__1_1h).v,(open__2h).v,(open__3h).v,(open__4h).v,(open__5h).v],Es (List (Int×Int×List Int×List Int)) g__1 g__1h,Es (List Int) g__2 g__2h,Es (List Int) g__3 g__3h,Es MI open__2 open__2h,It open__2h bi none lf])⟩ hgo
   replace H:=H.sel [8,0,1,2,3,4,5,6,7] rfl
   refine nextM H hne ?_;clear H;intro k v lf' w16 hp H
   obtain ⟨_,_,hj⟩:=hgo _ _ _ hp
   refine sq ?_
   refine dV H 0 rfl ?_
   have hmem:(k,v)∈open__2.kvs:=hlf _ (hp.mem_iff.2 (.head _))
   obtain ⟨a3,e⟩:=Option.isSome_iff_exists.1 (List.all_eq_true.1 hall _ hmem)
   have e':=e
   obtain ⟨p3,m3,c12,c13,c14,c15⟩:=(H.ro (α:=List Int) 2 rfl).at1 e
   refine dA c12 c13 c14 ?_;clear c12 c13 c14
   refine cA c15 ?_;clear c15
   replace H:=H.itEnd
   replace H:=H.sel [1,2,3,4,5,6,7,8,0] rfl
   refine delML Tryz.underlying153 Tryz.underlying3 H ?_;clear H;intro w17 ks' hks' H
   refine hj ks' _ _ ⟨rfl,rfl,rfl,rfl,rfl,trivial⟩ ⟨⟨fun p h=>hlf p (hp.mem_iff.2 (.tail _ h)),fun c hc=>?_⟩,H⟩
   obtain ⟨h1,h2⟩:=hks' c hc
   obtain ⟨p,hp1,hp2⟩:=hkl c h1
   rcases List.mem_cons.1 (hp.mem_iff.1 hp1) with rfl | h
   ·
    rw [e'] at hp2
    exact (h2 (Option.some.inj hp2).symm).elim
   ·
    exact ⟨p,h,hp2⟩
  ·
   clear H
   rintro T3 ks w18 ⟨⟨_,hkl⟩,(H:Cx w0 fp0 S0 w18 [EML bm ks g__1.length none,E (List Int) y7 h0,Bx b5 [(.int .i64 g__0),(g__1h).v,(g__2h).v,(g__3h).v],Bx open_b [(.int .i64 open__0_0),(open__0_1h).v,(open__0_2h).v,(open__0_3h).v,(open__1_0h).v,(open__1_1h).v,(open__2h).v,(open__3h).v,(open__4h).v,(open__5h).v],Es (List (Int×Int×List Int×List Int)) g__1 g__1h,Es (List Int) g__2 g__2h,Es (List Int) g__3 g__3h,Es MI open__2 open__2h,It open__2h bi none []])⟩
   obtain rfl:ks=[]:=by
    cases ks with
    | nil=>rfl
    | cons c ks=>obtain ⟨p,hp,_⟩:=hkl c (.head _);cases hp
   replace H:=H.sel [8,0,1,2,3,4,5,6,7] rfl
   refine nextN H ?_
   refine sq ?_
   refine lit0 (α:=Int) gok rfl rfl H ?_;clear H;intro h9 w19 hx H
   clear hx
   replace H:=H.sel [2,0,5] rfl
   refine sq ?_
   refine rangeML Tryz.underlying153 H ?_;clear H;intro r1 w20 H
   refine loop (σ:=Unit) (fun _=>[(12,(h9).v),(65,(.pointer (some ⟨r1,0,none⟩)))]) (fun _ w'=>Cx w0 fp0 S0 w' [EIt bm r1,E (List Int) [] h9,Bx open_b [(.int .i64 open__0_0),(open__0_1h).v,(open__0_2h).v,(open__0_3h).v,(open__1_0h).v,(open__1_1h).v,(open__2h).v,(open__3h).v,(open__4h).v,(open__5h).v]]) (fun _=>0) () ⟨rfl,rfl,trivial⟩ H ?_
   clear H
   rintro T4 _ w21 (H:Cx w0 fp0 S0 w21 [EIt bm r1,E (List Int) [] h9,Bx open_b [(.int .i64 open__0_0),(open__0_1h).v,(open__0_2h).v,(open__0_3h).v,(open__1_0h).v,(open__1_1h).v,(open__2h).v,(open__3h).v,(open__4h).v,(open__5h).v]])
   refine nextML H ?_
   refine sq ?_
   have hn:=(H.ro (α:=List Int) 1 rfl).len
   refine iA (CX_ h9 _ hn) (Γi:=[]) H trivial ?_;clear H
   rintro _ _ w22 ⟨rfl,rfl⟩ H
   cases hy
   exact ⟨_,_,rfl,⟨h9,rfl,rfl⟩,(H.sel [2,1] rfl).close ⟨cloB,cloE,trivial⟩⟩
end Go.Proofs.YtbofgnbanmbopaaGreatDoor
