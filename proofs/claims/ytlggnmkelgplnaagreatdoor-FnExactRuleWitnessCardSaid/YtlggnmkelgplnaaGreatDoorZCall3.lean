/-
 Contracts, printed by a program (wip/y/gen.py): each function of Go computes its partial function. Condition of each: its partial function yields a value.
-/
import Derived.Test.YtlggnmkelgplnaaGreatDoorZCall2
namespace Go.Proofs.YtlggnmkelgplnaaGreatDoor
open Go Go.Proofs.YtlggnmkelgplnaaGreatDoor.RW
set_option maxRecDepth 100000
set_option maxHeartbeats 2000000
set_option linter.unusedVariables false
theorem GC_ {p_ n_ e__0 e__1:Int}{e__2:List Int}{e__2h:Hd}{e__3:List Int}{e__3h:Hd}{y:List (List Int)} (hF:eQ p_ n_ (e__0,e__1,e__2,e__3)=some y) :
  kA Tryz.prog 138 #[(vi p_),(vi n_),(.agg #[(vi e__0),(vi e__1),(e__2h).v,(e__3h).v])] [Es (List Int) e__2 e__2h,Es (List Int) e__3 e__3h] [] (fun v Γ'=>∃ z0:Hd,v=(z0).v∧Γ'=[E (List (List Int)) y z0]):=by
 intro w0 S0 fp0 hI hS
 have H:=Cx.start hI hS;dsimp at H
 refine iA (args:=[_,_,_]) gok Tryz.func138 rfl _ rfl rfl rfl ?_
 refine xA H ?_;intro b4 w3 hx H
 refine kB H [] (.fst 0 (.fst 2 (.fst 1 (.fst 4 (.fst 3 (.fst 5 .done)))))) bB [] trivial (by kernel_rfl) ?_
 intro w6 H
 have hX:Ext w6 w6:=Upd.refl _ _
 refine oA (fun _=>fld gok rfl rfl rfl rfl ⟨rfl,rfl⟩) ?_
 refine oA (fun _=>fld gok rfl rfl rfl rfl ⟨rfl,rfl⟩) ?_
 refine gA (H.bx 0 rfl (j:=2) rfl) ?_
 refine gA (H.bx 0 rfl (j:=3) rfl) ?_
 refine fld gok rfl rfl rfl rfl (bA (H.bx 0 rfl (j:=0) rfl) ?_)
 obtain ⟨r0,f0,f1⟩:=aA hF
 refine cut (fun (q0:(List Int×List Int×Int)×(Hd×Hd))=>[(0,(vi p_)),(1,(vi n_)),(5,(vp b4)),(7,(q0.2.1).v),(8,(q0.2.2).v),(9,(vi q0.1.2.2))]) (fun (q0:(List Int×List Int×Int)×(Hd×Hd)) w'=>(q0.1.1,q0.1.2.1,q0.1.2.2)=r0∧Cx w0 fp0 S0 w' [Bx b4 [(vi e__0),(vi e__1),(e__2h).v,(e__3h).v],Es (List Int) e__2 e__2h,Es (List Int) e__3 e__3h,Es (List Int) q0.1.1 q0.2.1,Es (List Int) q0.1.2.1 q0.2.2]) ?_ ?_
 refine boolB_ f0 (fun f3=>?_) fun f4=>?_
 replace H:=H.dup 1 rfl uA
 replace H:=H.dup 3 rfl uA
 exact ⟨((e__2,e__3,e__0),(e__2h,e__3h)),r6_,oi_ f3,H.sel [2,3,4,1,0] rfl⟩
 refine kB H [] (.fst 0 (.fst 2 (.fst 4 (.fst 5 (.fst 6 (.fst 1 (.fst 7 (.fst 3 (.fst 8 (.fst 9 .done)))))))))) bB [] trivial (by kernel_rfl) ?_
 intro w1 H
 have hX:Ext w1 w1:=Upd.refl _ _
 refine oA (fun _=>fld gok rfl rfl rfl rfl ⟨rfl,rfl⟩) ?_
 refine oA (fun _=>fld gok rfl rfl rfl rfl ⟨rfl,rfl⟩) ?_
 obtain ⟨a1,e,f5⟩:=aA f4
 refine arO e ?_
 obtain ⟨a2,e,f6⟩:=aA f5
 refine arO e ?_
 refine gA (H.bx 0 rfl (j:=3) rfl) ?_
 refine gA (H.bx 0 rfl (j:=2) rfl) ?_
 replace H:=H.dup 2 rfl uA
 replace H:=H.dup 2 rfl uA
 exact ⟨((e__3,e__2,a2),(e__3h,e__2h)),r6_,oi_ f6,H.sel [2,3,4,1,0] rfl⟩
 rintro T0 ⟨⟨s0_0,s0_1,s0_2⟩,⟨g0_0,g0_1⟩⟩ w2 ⟨hr,H⟩;try dsimp only at H
 subst hr
 refine sq ?_
 refine boolB_ f1 (fun f8=>?_) fun f37=>?_
 refine boolB_ f8 (fun f10=>?_) fun f27=>?_
 refine boolB_ f10 (fun f12=>?_) fun f24=>?_
 refine boolB_ f12 (fun f14=>?_) fun f15=>?_
 replace H:=H.nil (α:=List Int)
 cases f14
 exact ⟨_,_,rfl,⟨nilH,rfl,rfl⟩,(H.sel [0] rfl).close ⟨cloE,trivial⟩⟩
 obtain ⟨r1,f16,f17⟩:=aA f15
 refine sH H [] (.fst 0 (.fst 1 (.fst 2 (.fst 3 (.fst 5 (.fst 6 (.fst 9 (.fst 10 (.fst 4 (.fst 7 (.fst 11 (.alts (.alt 8 (.act 12 (.act 13 (.act 14 (.act 15 (.fst 16 .done))))) (.alt 12 (.alts (.alt 8 (.act 13 (.act 14 (.act 15 (.fst 16 .done)))) (.alt 13 (.act 8 (.act 14 (.act 15 (.fst 16 .done)))) .no))) .no)))))))))))))) bB [] trivial (by kernel_rfl) (fun (q1:List (List Int)×Hd)=>[(6,(q1.2).v)]) (fun (q1:List (List Int)×Hd) w'=>q1.1=r1∧Cx w0 fp0 S0 w' [E (List (List Int)) q1.1 q1.2]) ?_ ?_
 intro w4 H
 have hX:Ext w4 w4:=Upd.refl _ _
 obtain ⟨a7,e,f18⟩:=aA f16
 obtain ⟨p0,m0,c0,c1,c2,c3⟩:=(H.rs (α:=List Int) 4 rfl).at1 e
 refine dA c0 c1 c2 ?_
 obtain ⟨a8,e,f19⟩:=aA f18
 obtain ⟨p1,m1,c4,c5,c6,c7⟩:=(H.rs (α:=List Int) 3 rfl).at1 e
 refine dA c4 c5 c6 ?_
 refine oA (fun _=>fld gok rfl rfl rfl rfl ⟨rfl,rfl⟩) ?_
 refine gA c3 ?_
 refine gA c7 ?_
 refine gA (H.bx 0 rfl (j:=1) rfl) ?_
 refine both ?_ ?_
 replace H:=H.sc (α:=Int) a8
 replace H:=H.sc (α:=Int) a7
 refine mA (α:=Int) (us:=[(vi a7),(vi a8)]) (xs:=[a7,a8]) (gs:=[(),()]) gok rfl rfl rfl ⟨rfl,rfl,trivial⟩ rfl rfl H ?_;intro h0 w5 hx H
 refine hold_ hX hx fun hX=>?_
 obtain ⟨y0,i0,f20⟩:=aA f19
 refine eA (iU i0) H trivial ?_
 rintro _ _ w7 ⟨rfl,rfl⟩ hx H
 refine hold_ hX hx fun hX=>?_
 replace H:=H.sc (α:=Int) y0
 replace H:=H.sc (α:=Int) 1
 refine mA (α:=Int) (us:=[(vi 1),(vi y0)]) (xs:=[1,y0]) (gs:=[(),()]) gok rfl rfl rfl ⟨rfl,rfl,trivial⟩ rfl rfl H ?_;intro h1 w8 hx H
 refine hold_ hX hx fun hX=>?_
 obtain ⟨y1,i1,f21⟩:=aA f20
 refine eA (@zA p_ n_ [a7,a8] h0 [1,y0] h1 y1 i1) H ⟨Vw.own 1 rfl,Vw.own 0 rfl,trivial⟩ ?_
 rintro _ _ w9 ⟨h2,rfl,rfl⟩ hx H
 refine hold_ hX hx fun hX=>?_
 refine pC (α:=List Int) (g:=h2) gok rfl rfl rfl rfl rfl H ?_;intro h3 w10 hx H
 refine hold_ hX hx fun hX=>?_
 exact ⟨([y1],h3),⟨rfl,trivial⟩,oi_ f21,H.sel [0] rfl⟩
 refine both ?_ ?_
 obtain ⟨a9,o0,f22⟩:=aA f19
 obtain ⟨a10,o1,f23⟩:=aA f22
 have i2:=o0
 refine eA (iU i2) H trivial ?_
 rintro _ _ w11 ⟨rfl,rfl⟩ hx H
 refine hold_ hX hx fun hX=>?_
 refine both ?_ ?_
 replace H:=H.sc (α:=Int) a8
 replace H:=H.sc (α:=Int) a7
 refine mA (α:=Int) (us:=[(vi a7),(vi a8)]) (xs:=[a7,a8]) (gs:=[(),()]) gok rfl rfl rfl ⟨rfl,rfl,trivial⟩ rfl rfl H ?_;intro h4 w12 hx H
 refine hold_ hX hx fun hX=>?_
 replace H:=H.sc (α:=Int) a9
 replace H:=H.sc (α:=Int) 1
 refine mA (α:=Int) (us:=[(vi 1),(vi a9)]) (xs:=[1,a9]) (gs:=[(),()]) gok rfl rfl rfl ⟨rfl,rfl,trivial⟩ rfl rfl H ?_;intro h5 w13 hx H
 refine hold_ hX hx fun hX=>?_
 have i3:=o1
 refine eA (@zA p_ n_ [a7,a8] h4 [1,a9] h5 a10 i3) H ⟨Vw.own 1 rfl,Vw.own 0 rfl,trivial⟩ ?_
 rintro _ _ w14 ⟨h6,rfl,rfl⟩ hx H
 refine hold_ hX hx fun hX=>?_
 refine pC (α:=List Int) (g:=h6) gok rfl rfl rfl rfl rfl H ?_;intro h7 w15 hx H
 refine hold_ hX hx fun hX=>?_
 exact ⟨([a10],h7),⟨rfl,trivial⟩,oi_ f23,H.sel [0] rfl⟩
 refine both ?_ ?_
 replace H:=H.sc (α:=Int) a9
 replace H:=H.sc (α:=Int) 1
 refine mA (α:=Int) (us:=[(vi 1),(vi a9)]) (xs:=[1,a9]) (gs:=[(),()]) gok rfl rfl rfl ⟨rfl,rfl,trivial⟩ rfl rfl H ?_;intro h8 w16 hx H
 refine hold_ hX hx fun hX=>?_
 replace H:=H.sc (α:=Int) a8
 replace H:=H.sc (α:=Int) a7
 refine mA (α:=Int) (us:=[(vi a7),(vi a8)]) (xs:=[a7,a8]) (gs:=[(),()]) gok rfl rfl rfl ⟨rfl,rfl,trivial⟩ rfl rfl H ?_;intro h9 w17 hx H
 refine hold_ hX hx fun hX=>?_
 have i3:=o1
 refine eA (@zA p_ n_ [a7,a8] h9 [1,a9] h8 a10 i3) H ⟨Vw.own 0 rfl,Vw.own 1 rfl,trivial⟩ ?_
 rintro _ _ w18 ⟨h10,rfl,rfl⟩ hx H
 refine hold_ hX hx fun hX=>?_
 refine pC (α:=List Int) (g:=h10) gok rfl rfl rfl rfl rfl H ?_;intro h11 w19 hx H
 refine hold_ hX hx fun hX=>?_
 exact ⟨([a10],h11),⟨rfl,trivial⟩,oi_ f23,H.sel [0] rfl⟩
 exact trivial
 exact trivial
 rintro T1 ⟨s1,g1⟩ w20 ⟨hr,H⟩;try dsimp only at H
 subst hr
 cases f17
 exact ⟨_,_,rfl,⟨g1,rfl,rfl⟩,(H.sel [0] rfl).close ⟨cloE,trivial⟩⟩
 obtain ⟨a11,e,f25⟩:=aA f24
 obtain ⟨p2,m2,c8,c9,c10,c11⟩:=(H.rs (α:=List Int) 4 rfl).at1 e
 refine dA c8 c9 c10 ?_
 refine bA c11 ?_
 refine jE (α:=Int) gok rfl rfl rfl rfl H ?_;intro h12 w21 hx H
 refine jE (α:=Int) gok rfl rfl rfl rfl H ?_;intro h13 w22 hx H
 obtain ⟨y2,i4,f26⟩:=aA f25
 refine callF0_ (@zA p_ n_ [a11] h12 [1] h13 y2 i4) H ⟨Vw.own 1 rfl,Vw.own 0 rfl,trivial⟩ ?_
 rintro _ _ w23 ⟨h14,rfl,rfl⟩ H
 refine pC (α:=List Int) (g:=h14) gok rfl rfl rfl rfl rfl H ?_;intro h15 w24 hx H
 cases f26
 exact ⟨_,_,rfl,⟨h15,rfl,rfl⟩,(H.sel [0] rfl).close ⟨cloE,trivial⟩⟩
 obtain ⟨r2,f28,f29⟩:=aA f27
 refine sH H [] (.fst 0 (.fst 1 (.fst 2 (.fst 3 (.fst 5 (.fst 6 (.fst 8 (.fst 9 (.fst 12 (.fst 13 (.fst 14 (.fst 15 (.fst 4 (.fst 7 (.fst 10 (.alts (.alt 11 (.act 16 (.act 17 (.act 18 (.fst 19 .done)))) (.alt 16 (.act 11 (.act 17 (.act 18 (.fst 19 .done)))) .no)))))))))))))))))) bB [] trivial (by kernel_rfl) (fun (q2:List (List Int)×Hd)=>[(6,(q2.2).v)]) (fun (q2:List (List Int)×Hd) w'=>q2.1=r2∧Cx w0 fp0 S0 w' [E (List (List Int)) q2.1 q2.2]) ?_ ?_
 intro w25 H
 have hX:Ext w25 w25:=Upd.refl _ _
 obtain ⟨a12,e,f30⟩:=aA f28
 obtain ⟨p3,m3,c12,c13,c14,c15⟩:=(H.rs (α:=List Int) 4 rfl).at1 e
 refine dA c12 c13 c14 ?_
 obtain ⟨a13,e,f31⟩:=aA f30
 obtain ⟨p4,m4,c16,c17,c18,c19⟩:=(H.rs (α:=List Int) 3 rfl).at1 e
 refine dA c16 c17 c18 ?_
 obtain ⟨a14,e,f32⟩:=aA f31
 obtain ⟨p5,m5,c20,c21,c22,c23⟩:=(H.rs (α:=List Int) 3 rfl).at1 e
 refine dA c20 c21 c22 ?_
 obtain ⟨a15,e,f33⟩:=aA f32
 refine arO e ?_
 obtain ⟨a16,e,f34⟩:=aA f33
 refine arO e ?_
 refine gA c15 ?_
 refine gA c19 ?_
 refine gA c23 ?_
 refine both ?_ ?_
 replace H:=H.sc (α:=Int) a14
 replace H:=H.sc (α:=Int) a13
 replace H:=H.sc (α:=Int) a12
 refine mA (α:=Int) (us:=[(vi a12),(vi a13),(vi a14)]) (xs:=[a12,a13,a14]) (gs:=[(),(),()]) gok rfl rfl rfl r3_ rfl rfl H ?_;intro h16 w26 hx H
 refine hold_ hX hx fun hX=>?_
 replace H:=H.sc (α:=Int) a16
 replace H:=H.sc (α:=Int) a15
 replace H:=H.sc (α:=Int) 1
 refine mA (α:=Int) (us:=[(vi 1),(vi a15),(vi a16)]) (xs:=[1,a15,a16]) (gs:=[(),(),()]) gok rfl rfl rfl r3_ rfl rfl H ?_;intro h17 w27 hx H
 refine hold_ hX hx fun hX=>?_
 obtain ⟨y3,i5,f35⟩:=aA f34
 refine eA (@zA p_ n_ [a12,a13,a14] h16 [1,a15,a16] h17 y3 i5) H ⟨Vw.own 1 rfl,Vw.own 0 rfl,trivial⟩ ?_
 rintro _ _ w28 ⟨h18,rfl,rfl⟩ hx H
 refine hold_ hX hx fun hX=>?_
 refine pC (α:=List Int) (g:=h18) gok rfl rfl rfl rfl rfl H ?_;intro h19 w29 hx H
 refine hold_ hX hx fun hX=>?_
 exact ⟨([y3],h19),⟨rfl,trivial⟩,oi_ f35,H.sel [0] rfl⟩
 refine both ?_ ?_
 obtain ⟨a17,o2,f36⟩:=aA f34
 replace H:=H.sc (α:=Int) a16
 replace H:=H.sc (α:=Int) a15
 replace H:=H.sc (α:=Int) 1
 refine mA (α:=Int) (us:=[(vi 1),(vi a15),(vi a16)]) (xs:=[1,a15,a16]) (gs:=[(),(),()]) gok rfl rfl rfl r3_ rfl rfl H ?_;intro h20 w30 hx H
 refine hold_ hX hx fun hX=>?_
 replace H:=H.sc (α:=Int) a14
 replace H:=H.sc (α:=Int) a13
 replace H:=H.sc (α:=Int) a12
 refine mA (α:=Int) (us:=[(vi a12),(vi a13),(vi a14)]) (xs:=[a12,a13,a14]) (gs:=[(),(),()]) gok rfl rfl rfl r3_ rfl rfl H ?_;intro h21 w31 hx H
 refine hold_ hX hx fun hX=>?_
 have i6:=o2
 refine eA (@zA p_ n_ [a12,a13,a14] h21 [1,a15,a16] h20 a17 i6) H ⟨Vw.own 0 rfl,Vw.own 1 rfl,trivial⟩ ?_
 rintro _ _ w33 ⟨h22,rfl,rfl⟩ hx H
 refine hold_ hX hx fun hX=>?_
 refine pC (α:=List Int) (g:=h22) gok rfl rfl rfl rfl rfl H ?_;intro h23 w34 hx H
 refine hold_ hX hx fun hX=>?_
 exact ⟨([a17],h23),⟨rfl,trivial⟩,oi_ f36,H.sel [0] rfl⟩
 exact trivial
 rintro T2 ⟨s2,g2⟩ w35 ⟨hr,H⟩;try dsimp only at H
 subst hr
 cases f29
 exact ⟨_,_,rfl,⟨g2,rfl,rfl⟩,(H.sel [0] rfl).close ⟨cloE,trivial⟩⟩
 obtain ⟨r3,f38,f39⟩:=aA f37
 refine sH H [] (.fst 0 (.fst 1 (.fst 2 (.fst 3 (.fst 5 (.fst 6 (.fst 9 (.fst 10 (.fst 13 (.fst 14 (.fst 15 (.fst 16 (.fst 18 (.fst 19 (.fst 22 (.fst 23 (.fst 4 (.fst 7 (.fst 17 (.fst 20 (.alts (.alt 8 (.alts (.alt 11 (.alts (.alt 12 (.alts (.alt 21 (.act 24 (.act 25 (.act 26 (.fst 27 .done)))) (.alt 24 (.act 21 (.act 25 (.act 26 (.fst 27 .done)))) .no))) (.alt 21 (.alts (.alt 12 (.act 24 (.act 25 (.act 26 (.fst 27 .done)))) (.alt 24 (.act 12 (.act 25 (.act 26 (.fst 27 .done)))) .no))) (.alt 24 (.alts (.alt 12 (.act 21 (.act 25 (.act 26 (.fst 27 .done)))) (.alt 21 (.act 12 (.act 25 (.act 26 (.fst 27 .done)))) .no))) .no)))) (.alt 21 (.alts (.alt 11 (.alts (.alt 12 (.act 24 (.act 25 (.act 26 (.fst 27 .done)))) (.alt 24 (.act 12 (.act 25 (.act 26 (.fst 27 .done)))) .no))) (.alt 24 (.act 11 (.act 12 (.act 25 (.act 26 (.fst 27 .done))))) .no))) (.alt 24 (.alts (.alt 11 (.alts (.alt 12 (.act 21 (.act 25 (.act 26 (.fst 27 .done)))) (.alt 21 (.act 12 (.act 25 (.act 26 (.fst 27 .done)))) .no))) (.alt 21 (.act 11 (.act 12 (.act 25 (.act 26 (.fst 27 .done))))) .no))) .no)))) (.alt 11 (.alts (.alt 8 (.alts (.alt 12 (.alts (.alt 21 (.act 24 (.act 25 (.act 26 (.fst 27 .done)))) (.alt 24 (.act 21 (.act 25 (.act 26 (.fst 27 .done)))) .no))) (.alt 21 (.alts (.alt 12 (.act 24 (.act 25 (.act 26 (.fst 27 .done)))) (.alt 24 (.act 12 (.act 25 (.act 26 (.fst 27 .done)))) .no))) (.alt 24 (.alts (.alt 12 (.act 21 (.act 25 (.act 26 (.fst 27 .done)))) (.alt 21 (.act 12 (.act 25 (.act 26 (.fst 27 .done)))) .no))) .no)))) (.alt 21 (.alts (.alt 8 (.alts (.alt 12 (.act 24 (.act 25 (.act 26 (.fst 27 .done)))) (.alt 24 (.act 12 (.act 25 (.act 26 (.fst 27 .done)))) .no))) (.alt 24 (.act 8 (.act 12 (.act 25 (.act 26 (.fst 27 .done))))) .no))) (.alt 24 (.alts (.alt 8 (.alts (.alt 12 (.act 21 (.act 25 (.act 26 (.fst 27 .done)))) (.alt 21 (.act 12 (.act 25 (.act 26 (.fst 27 .done)))) .no))) (.alt 21 (.act 8 (.act 12 (.act 25 (.act 26 (.fst 27 .done))))) .no))) .no)))) (.alt 21 (.alts (.alt 8 (.alts (.alt 11 (.alts (.alt 12 (.act 24 (.act 25 (.act 26 (.fst 27 .done)))) (.alt 24 (.act 12 (.act 25 (.act 26 (.fst 27 .done)))) .no))) (.alt 24 (.act 11 (.act 12 (.act 25 (.act 26 (.fst 27 .done))))) .no))) (.alt 11 (.alts (.alt 8 (.alts (.alt 12 (.act 24 (.act 25 (.act 26 (.fst 27 .done)))) (.alt 24 (.act 12 (.act 25 (.act 26 (.fst 27 .done)))) .no))) (.alt 24 (.act 8 (.act 12 (.act 25 (.act 26 (.fst 27 .done))))) .no))) (.alt 24 (.alts (.alt 8 (.act 11 (.act 12 (.act 25 (.act 26 (.fst 27 .done))))) (.alt 11 (.act 8 (.act 12 (.act 25 (.act 26 (.fst 27 .done))))) .no))) .no)))) (.alt 24 (.alts (.alt 8 (.alts (.alt 11 (.alts (.alt 12 (.act 21 (.act 25 (.act 26 (.fst 27 .done)))) (.alt 21 (.act 12 (.act 25 (.act 26 (.fst 27 .done)))) .no))) (.alt 21 (.act 11 (.act 12 (.act 25 (.act 26 (.fst 27 .done))))) .no))) (.alt 11 (.alts (.alt 8 (.alts (.alt 12 (.act 21 (.act 25 (.act 26 (.fst 27 .done)))) (.alt 21 (.act 12 (.act 25 (.act 26 (.fst 27 .done)))) .no))) (.alt 21 (.act 8 (.act 12 (.act 25 (.act 26 (.fst 27 .done))))) .no))) (.alt 21 (.alts (.alt 8 (.act 11 (.act 12 (.act 25 (.act 26 (.fst 27 .done))))) (.alt 11 (.act 8 (.act 12 (.act 25 (.act 26 (.fst 27 .done))))) .no))) .no)))) .no))))))))))))))))))))))))) bB [] trivial (by kernel_rfl) (fun (q3:List (List Int)×Hd)=>[(6,(q3.2).v)]) (fun (q3:List (List Int)×Hd) w'=>q3.1=r3∧Cx w0 fp0 S0 w' [E (List (List Int)) q3.1 q3.2]) ?_ ?_
 intro w36 H
 have hX:Ext w36 w36:=Upd.refl _ _
 obtain ⟨a18,e,f40⟩:=aA f38
 obtain ⟨p6,m6,c24,c25,c26,c27⟩:=(H.rs (α:=List Int) 4 rfl).at1 e
 refine dA c24 c25 c26 ?_
 obtain ⟨a19,e,f41⟩:=aA f40
 obtain ⟨p7,m7,c28,c29,c30,c31⟩:=(H.rs (α:=List Int) 3 rfl).at1 e
 refine dA c28 c29 c30 ?_
 obtain ⟨a20,e,f42⟩:=aA f41
 refine arO e ?_
 obtain ⟨a21,e,f43⟩:=aA f42
 obtain ⟨p8,m8,c32,c33,c34,c35⟩:=(H.rs (α:=List Int) 4 rfl).at1 e
 refine dA c32 c33 c34 ?_
 obtain ⟨a22,e,f44⟩:=aA f43
 obtain ⟨p9,m9,c36,c37,c38,c39⟩:=(H.rs (α:=List Int) 3 rfl).at1 e
 refine dA c36 c37 c38 ?_
 obtain ⟨a23,e,f45⟩:=aA f44
 refine arO e ?_
 refine gA c27 ?_
 refine gA c31 ?_
 refine gA c35 ?_
 refine gA c39 ?_
 refine both ?_ ?_
 replace H:=H.sc (α:=Int) a19
 replace H:=H.sc (α:=Int) a18
 refine mA (α:=Int) (us:=[(vi a18),(vi a19)]) (xs:=[a18,a19]) (gs:=[(),()]) gok rfl rfl rfl ⟨rfl,rfl,trivial⟩ rfl rfl H ?_;intro h24 w37 hx H
 refine hold_ hX hx fun hX=>?_
 refine both ?_ ?_
 replace H:=H.sc (α:=Int) a20
 replace H:=H.sc (α:=Int) 1
 refine mA (α:=Int) (us:=[(vi 1),(vi a20)]) (xs:=[1,a20]) (gs:=[(),()]) gok rfl rfl rfl ⟨rfl,rfl,trivial⟩ rfl rfl H ?_;intro h25 w38 hx H
 refine hold_ hX hx fun hX=>?_
 refine both ?_ ?_
 obtain ⟨y4,i7,f46⟩:=aA f45
 refine eA (@zA p_ n_ [a18,a19] h24 [1,a20] h25 y4 i7) H ⟨Vw.own 1 rfl,Vw.own 0 rfl,trivial⟩ ?_
 rintro _ _ w39 ⟨h26,rfl,rfl⟩ hx H
 refine hold_ hX hx fun hX=>?_
 refine both ?_ ?_
 replace H:=H.sc (α:=Int) a22
 replace H:=H.sc (α:=Int) a21
 refine mA (α:=Int) (us:=[(vi a21),(vi a22)]) (xs:=[a21,a22]) (gs:=[(),()]) gok rfl rfl rfl ⟨rfl,rfl,trivial⟩ rfl rfl H ?_;intro h27 w40 hx H
 refine hold_ hX hx fun hX=>?_
 replace H:=H.sc (α:=Int) a23
 replace H:=H.sc (α:=Int) 1
 refine mA (α:=Int) (us:=[(vi 1),(vi a23)]) (xs:=[1,a23]) (gs:=[(),()]) gok rfl rfl rfl ⟨rfl,rfl,trivial⟩ rfl rfl H ?_;intro h28 w42 hx H
 refine hold_ hX hx fun hX=>?_
 obtain ⟨y5,i8,f47⟩:=aA f46
 refine eA (@zA p_ n_ [a21,a22] h27 [1,a23] h28 y5 i8) H ⟨Vw.own 1 rfl,Vw.own 0 rfl,trivial⟩ ?_
 rintro _ _ w43 ⟨h29,rfl,rfl⟩ hx H
 refine hold_ hX hx fun hX=>?_
 replace H:=H.sel [3,0,1,2,4,5,6,7,8,9,10] rfl
 refine mA (α:=List Int) (us:=[(h26).v,(h29).v]) (xs:=[y4,y5]) (gs:=[h26,h29]) gok rfl rfl rfl ⟨rfl,rfl,trivial⟩ rfl rfl H ?_;intro h30 w44 hx H
 refine hold_ hX hx fun hX=>?_
 exact ⟨([y4,y5],h30),⟨rfl,trivial⟩,oi_ f47,H.sel [0] rfl⟩
 refine both ?_ ?_
 obtain ⟨a25,o3,f48⟩:=aA f46
 replace H:=H.sc (α:=Int) a23
 replace H:=H.sc (α:=Int) 1
 refine mA (α:=Int) (us:=[(vi 1),(vi a23)]) (xs:=[1,a23]) (gs:=[(),()]) gok rfl rfl rfl ⟨rfl,rfl,trivial⟩ rfl rfl H ?_;intro h31 w45 hx H
 refine hold_ hX hx fun hX=>?_
 replace H:=H.sc (α:=Int) a22
 replace H:=H.sc (α:=Int) a21
 refine mA (α:=Int) (us:=[(vi a21),(vi a22)]) (xs:=[a21,a22]) (gs:=[(),()]) gok rfl rfl rfl ⟨rfl,rfl,trivial⟩ rfl rfl H ?_;intro h32 w46 hx H
 refine hold_ hX hx fun hX=>?_
 have i9:=o3
 refine eA (@zA p_ n_ [a21,a22] h32 [1,a23] h31 a25 i9) H ⟨Vw.own 0 rfl,Vw.own 1 rfl,trivial⟩ ?_
 rintro _ _ w47 ⟨h33,rfl,rfl⟩ hx H
 refine hold_ hX hx fun hX=>?_
 replace H:=H.sel [3,0,1,2,4,5,6,7,8,9,10] rfl
 refine mA (α:=List Int) (us:=[(h26).v,(h33).v]) (xs:=[y4,a25]) (gs:=[h26,h33]) gok rfl rfl rfl ⟨rfl,rfl,trivial⟩ rfl rfl H ?_;intro h34 w48 hx H
 refine hold_ hX hx fun hX=>?_
 exact ⟨([y4,a25],h34),⟨rfl,trivial⟩,oi_ f48,H.sel [0] rfl⟩
 exact trivial
 refine both ?_ ?_
 obtain ⟨a26,o4,f49⟩:=aA f45
 obtain ⟨a27,o5,f50⟩:=aA f49
 replace H:=H.sc (α:=Int) a22
 replace H:=H.sc (α:=Int) a21
 refine mA (α:=Int) (us:=[(vi a21),(vi a22)]) (xs:=[a21,a22]) (gs:=[(),()]) gok rfl rfl rfl ⟨rfl,rfl,trivial⟩ rfl rfl H ?_;intro h35 w49 hx H
 refine hold_ hX hx fun hX=>?_
 refine both ?_ ?_
 have i10:=o4
 refine eA (@zA p_ n_ [a18,a19] h24 [1,a20] h25 a26 i10) H ⟨Vw.own 2 rfl,Vw.own 1 rfl,trivial⟩ ?_
 rintro _ _ w50 ⟨h36,rfl,rfl⟩ hx H
 refine hold_ hX hx fun hX=>?_
 replace H:=H.sc (α:=Int) a23
 replace H:=H.sc (α:=Int) 1
 refine mA (α:=Int) (us:=[(vi 1),(vi a23)]) (xs:=[1,a23]) (gs:=[(),()]) gok rfl rfl rfl ⟨rfl,rfl,trivial⟩ rfl rfl H ?_;intro h37 w51 hx H
 refine hold_ hX hx fun hX=>?_
 have i11:=o5
 refine eA (@zA p_ n_ [a21,a22] h35 [1,a23] h37 a27 i11) H ⟨Vw.own 2 rfl,Vw.own 0 rfl,trivial⟩ ?_
 rintro _ _ w52 ⟨h38,rfl,rfl⟩ hx H
 refine hold_ hX hx fun hX=>?_
 replace H:=H.sel [2,0,1,3,4,5,6,7,8,9,10] rfl
 refine mA (α:=List Int) (us:=[(h36).v,(h38).v]) (xs:=[a26,a27]) (gs:=[h36,h38]) gok rfl rfl rfl ⟨rfl,rfl,trivial⟩ rfl rfl H ?_;intro h39 w53 hx H
 refine hold_ hX hx fun hX=>?_
 exact ⟨([a26,a27],h39),⟨rfl,trivial⟩,oi_ f50,H.sel [0] rfl⟩
 refine both ?_ ?_
 replace H:=H.sc (α:=Int) a23
 replace H:=H.sc (α:=Int) 1
 refine mA (α:=Int) (us:=[(vi 1),(vi a23)]) (xs:=[1,a23]) (gs:=[(),()]) gok rfl rfl rfl ⟨rfl,rfl,trivial⟩ rfl rfl H ?_;intro h40 w54 hx H
 refine hold_ hX hx fun hX=>?_
 have i10:=o4
 refine eA (@zA p_ n_ [a18,a19] h24 [1,a20] h25 a26 i10) H ⟨Vw.own 3 rfl,Vw.own 2 rfl,trivial⟩ ?_
 rintro _ _ w55 ⟨h41,rfl,rfl⟩ hx H
 refine hold_ hX hx fun hX=>?_
 have i11:=o5
 refine eA (@zA p_ n_ [a21,a22] h35 [1,a23] h40 a27 i11) H ⟨Vw.own 2 rfl,Vw.own 1 rfl,trivial⟩ ?_
 rintro _ _ w56 ⟨h42,rfl,rfl⟩ hx H
 refine hold_ hX hx fun hX=>?_
 replace H:=H.sel [1,0,2,3,4,5,6,7,8,9,10] rfl
 refine mA (α:=List Int) (us:=[(h41).v,(h42).v]) (xs:=[a26,a27]) (gs:=[h41,h42]) gok rfl rfl rfl ⟨rfl,rfl,trivial⟩ rfl rfl H ?_;intro h43 w57 hx H
 refine hold_ hX hx fun hX=>?_
 exact ⟨([a26,a27],h43),⟨rfl,trivial⟩,oi_ f50,H.sel [0] rfl⟩
 exact trivial
 refine both ?_ ?_
 obtain ⟨a28,o6,f51⟩:=aA f45
 obtain ⟨a29,o7,f52⟩:=aA f51
 replace H:=H.sc (α:=Int) a23
 replace H:=H.sc (α:=Int) 1
 refine mA (α:=Int) (us:=[(vi 1),(vi a23)]) (xs:=[1,a23]) (gs:=[(),()]) gok rfl rfl rfl ⟨rfl,rfl,trivial⟩ rfl rfl H ?_;intro h44 w58 hx H
 refine hold_ hX hx fun hX=>?_
 refine both ?_ ?_
 have i12:=o6
 refine eA (@zA p_ n_ [a18,a19] h24 [1,a20] h25 a28 i12) H ⟨Vw.own 2 rfl,Vw.own 1 rfl,trivial⟩ ?_
 rintro _ _ w59 ⟨h45,rfl,rfl⟩ hx H
 refine hold_ hX hx fun hX=>?_
 replace H:=H.sc (α:=Int) a22
 replace H:=H.sc (α:=Int) a21
 refine mA (α:=Int) (us:=[(vi a21),(vi a22)]) (xs:=[a21,a22]) (gs:=[(),()]) gok rfl rfl rfl ⟨rfl,rfl,trivial⟩ rfl rfl H ?_;intro h46 w60 hx H
 refine hold_ hX hx fun hX=>?_
 have i13:=o7
 refine eA (@zA p_ n_ [a21,a22] h46 [1,a23] h44 a29 i13) H ⟨Vw.own 0 rfl,Vw.own 2 rfl,trivial⟩ ?_
 rintro _ _ w61 ⟨h47,rfl,rfl⟩ hx H
 refine hold_ hX hx fun hX=>?_
 replace H:=H.sel [2,0,1,3,4,5,6,7,8,9,10] rfl
 refine mA (α:=List Int) (us:=[(h45).v,(h47).v]) (xs:=[a28,a29]) (gs:=[h45,h47]) gok rfl rfl rfl ⟨rfl,rfl,trivial⟩ rfl rfl H ?_;intro h48 w62 hx H
 refine hold_ hX hx fun hX=>?_
 exact ⟨([a28,a29],h48),⟨rfl,trivial⟩,oi_ f52,H.sel [0] rfl⟩
 refine both ?_ ?_
 replace H:=H.sc (α:=Int) a22
 replace H:=H.sc (α:=Int) a21
 refine mA (α:=Int) (us:=[(vi a21),(vi a22)]) (xs:=[a21,a22]) (gs:=[(),()]) gok rfl rfl rfl ⟨rfl,rfl,trivial⟩ rfl rfl H ?_;intro h49 w63 hx H
 refine hold_ hX hx fun hX=>?_
 have i12:=o6
 refine eA (@zA p_ n_ [a18,a19] h24 [1,a20] h25 a28 i12) H ⟨Vw.own 3 rfl,Vw.own 2 rfl,trivial⟩ ?_
 rintro _ _ w64 ⟨h50,rfl,rfl⟩ hx H
 refine hold_ hX hx fun hX=>?_
 have i13:=o7
 refine eA (@zA p_ n_ [a21,a22] h49 [1,a23] h44 a29 i13) H ⟨Vw.own 1 rfl,Vw.own 2 rfl,trivial⟩ ?_
 rintro _ _ w65 ⟨h51,rfl,rfl⟩ hx H
 refine hold_ hX hx fun hX=>?_
 replace H:=H.sel [1,0,2,3,4,5,6,7,8,9,10] rfl
 refine mA (α:=List Int) (us:=[(h50).v,(h51).v]) (xs:=[a28,a29]) (gs:=[h50,h51]) gok rfl rfl rfl ⟨rfl,rfl,trivial⟩ rfl rfl H ?_;intro h52 w66 hx H
 refine hold_ hX hx fun hX=>?_
 exact ⟨([a28,a29],h52),⟨rfl,trivial⟩,oi_ f52,H.sel [0] rfl⟩
 exact trivial
 exact trivial
 refine both ?_ ?_
 obtain ⟨a30,o8,f53⟩:=aA f45
 obtain ⟨a31,o9,f54⟩:=aA f53
 replace H:=H.sc (α:=Int) a22
 replace H:=H.sc (α:=Int) a21
 refine mA (α:=Int) (us:=[(vi a21),(vi a22)]) (xs:=[a21,a22]) (gs:=[(),()]) gok rfl rfl rfl ⟨rfl,rfl,trivial⟩ rfl rfl H ?_;intro h53 w67 hx H
 refine hold_ hX hx fun hX=>?_
 refine both ?_ ?_
 replace H:=H.sc (α:=Int) a20
 replace H:=H.sc (α:=Int) 1
 refine mA (α:=Int) (us:=[(vi 1),(vi a20)]) (xs:=[1,a20]) (gs:=[(),()]) gok rfl rfl rfl ⟨rfl,rfl,trivial⟩ rfl rfl H ?_;intro h54 w68 hx H
 refine hold_ hX hx fun hX=>?_
 refine both ?_ ?_
 have i14:=o8
 refine eA (@zA p_ n_ [a18,a19] h24 [1,a20] h54 a30 i14) H ⟨Vw.own 2 rfl,Vw.own 0 rfl,trivial⟩ ?_
 rintro _ _ w69 ⟨h55,rfl,rfl⟩ hx H
 refine hold_ hX hx fun hX=>?_
 replace H:=H.sc (α:=Int) a23
 replace H:=H.sc (α:=Int) 1
 refine mA (α:=Int) (us:=[(vi 1),(vi a23)]) (xs:=[1,a23]) (gs:=[(),()]) gok rfl rfl rfl ⟨rfl,rfl,trivial⟩ rfl rfl H ?_;intro h56 w70 hx H
 refine hold_ hX hx fun hX=>?_
 have i15:=o9
 refine eA (@zA p_ n_ [a21,a22] h53 [1,a23] h56 a31 i15) H ⟨Vw.own 3 rfl,Vw.own 0 rfl,trivial⟩ ?_
 rintro _ _ w71 ⟨h57,rfl,rfl⟩ hx H
 refine hold_ hX hx fun hX=>?_
 replace H:=H.sel [2,0,1,3,4,5,6,7,8,9,10] rfl
 refine mA (α:=List Int) (us:=[(h55).v,(h57).v]) (xs:=[a30,a31]) (gs:=[h55,h57]) gok rfl rfl rfl ⟨rfl,rfl,trivial⟩ rfl rfl H ?_;intro h58 w72 hx H
 refine hold_ hX hx fun hX=>?_
 exact ⟨([a30,a31],h58),⟨rfl,trivial⟩,oi_ f54,H.sel [0] rfl⟩
 refine both ?_ ?_
 replace H:=H.sc (α:=Int) a23
 replace H:=H.sc (α:=Int) 1
 refine mA (α:=Int) (us:=[(vi 1),(vi a23)]) (xs:=[1,a23]) (gs:=[(),()]) gok rfl rfl rfl ⟨rfl,rfl,trivial⟩ rfl rfl H ?_;intro h59 w73 hx H
 refine hold_ hX hx fun hX=>?_
 have i14:=o8
 refine eA (@zA p_ n_ [a18,a19] h24 [1,a20] h54 a30 i14) H ⟨Vw.own 3 rfl,Vw.own 1 rfl,trivial⟩ ?_
 rintro _ _ w74 ⟨h60,rfl,rfl⟩ hx H
 refine hold_ hX hx fun hX=>?_
 have i15:=o9
 refine eA (@zA p_ n_ [a21,a22] h53 [1,a23] h59 a31 i15) H ⟨Vw.own 3 rfl,Vw.own 1 rfl,trivial⟩ ?_
 rintro _ _ w75 ⟨h61,rfl,rfl⟩ hx H
 refine hold_ hX hx fun hX=>?_
 replace H:=H.sel [1,0,2,3,4,5,6,7,8,9,10] rfl
 refine mA (α:=List Int) (us:=[(h60).v,(h61).v]) (xs:=[a30,a31]) (gs:=[h60,h61]) gok rfl rfl rfl ⟨rfl,rfl,trivial⟩ rfl rfl H ?_;intro h62 w76 hx H
 refine hold_ hX hx fun hX=>?_
 exact ⟨([a30,a31],h62),⟨rfl,trivial⟩,oi_ f54,H.sel [0] rfl⟩
 exact trivial
 refine both ?_ ?_
 replace H:=H.sc (α:=Int) a23
 replace H:=H.sc (α:=Int) 1
 refine mA (α:=Int) (us:=[(vi 1),(vi a23)]) (xs:=[1,a23]) (gs:=[(),()]) gok rfl rfl rfl ⟨rfl,rfl,trivial⟩ rfl rfl H ?_;intro h63 w77 hx H
 refine hold_ hX hx fun hX=>?_
 replace H:=H.sc (α:=Int) a20
 replace H:=H.sc (α:=Int) 1
 refine mA (α:=Int) (us:=[(vi 1),(vi a20)]) (xs:=[1,a20]) (gs:=[(),()]) gok rfl rfl rfl ⟨rfl,rfl,trivial⟩ rfl rfl H ?_;intro h64 w78 hx H
 refine hold_ hX hx fun hX=>?_
 have i14:=o8
 refine eA (@zA p_ n_ [a18,a19] h24 [1,a20] h64 a30 i14) H ⟨Vw.own 3 rfl,Vw.own 0 rfl,trivial⟩ ?_
 rintro _ _ w79 ⟨h65,rfl,rfl⟩ hx H
 refine hold_ hX hx fun hX=>?_
 have i15:=o9
 refine eA (@zA p_ n_ [a21,a22] h53 [1,a23] h63 a31 i15) H ⟨Vw.own 3 rfl,Vw.own 2 rfl,trivial⟩ ?_
 rintro _ _ w80 ⟨h66,rfl,rfl⟩ hx H
 refine hold_ hX hx fun hX=>?_
 replace H:=H.sel [1,0,2,3,4,5,6,7,8,9,10] rfl
 refine mA (α:=List Int) (us:=[(h65).v,(h66).v]) (xs:=[a30,a31]) (gs:=[h65,h66]) gok rfl rfl rfl ⟨rfl,rfl,trivial⟩ rfl rfl H ?_;intro h67 w81 hx H
 refine hold_ hX hx fun hX=>?_
 exact ⟨([a30,a31],h67),⟨rfl,trivial⟩,oi_ f54,H.sel [0] rfl⟩
 exact trivial
 refine both ?_ ?_
 obtain ⟨a32,o10,f55⟩:=aA f45
 obtain ⟨a34,o11,f56⟩:=aA f55
 replace H:=H.sc (α:=Int) a23
 replace H:=H.sc (α:=Int) 1
 refine mA (α:=Int) (us:=[(vi 1),(vi a23)]) (xs:=[1,a23]) (gs:=[(),()]) gok rfl rfl rfl ⟨rfl,rfl,trivial⟩ rfl rfl H ?_;intro h68 w82 hx H
 refine hold_ hX hx fun hX=>?_
 refine both ?_ ?_
 replace H:=H.sc (α:=Int) a20
 replace H:=H.sc (α:=Int) 1
 refine mA (α:=Int) (us:=[(vi 1),(vi a20)]) (xs:=[1,a20]) (gs:=[(),()]) gok rfl rfl rfl ⟨rfl,rfl,trivial⟩ rfl rfl H ?_;intro h69 w83 hx H
 refine hold_ hX hx fun hX=>?_
 refine both ?_ ?_
 have i16:=o10
 refine eA (@zA p_ n_ [a18,a19] h24 [1,a20] h69 a32 i16) H ⟨Vw.own 2 rfl,Vw.own 0 rfl,trivial⟩ ?_
 rintro _ _ w84 ⟨h70,rfl,rfl⟩ hx H
 refine hold_ hX hx fun hX=>?_
 replace H:=H.sc (α:=Int) a22
 replace H:=H.sc (α:=Int) a21
 refine mA (α:=Int) (us:=[(vi a21),(vi a22)]) (xs:=[a21,a22]) (gs:=[(),()]) gok rfl rfl rfl ⟨rfl,rfl,trivial⟩ rfl rfl H ?_;intro h71 w85 hx H
 refine hold_ hX hx fun hX=>?_
 have i17:=o11
 refine eA (@zA p_ n_ [a21,a22] h71 [1,a23] h68 a34 i17) H ⟨Vw.own 0 rfl,Vw.own 3 rfl,trivial⟩ ?_
 rintro _ _ w86 ⟨h72,rfl,rfl⟩ hx H
 refine hold_ hX hx fun hX=>?_
 replace H:=H.sel [2,0,1,3,4,5,6,7,8,9,10] rfl
 refine mA (α:=List Int) (us:=[(h70).v,(h72).v]) (xs:=[a32,a34]) (gs:=[h70,h72]) gok rfl rfl rfl ⟨rfl,rfl,trivial⟩ rfl rfl H ?_;intro h73 w87 hx H
 refine hold_ hX hx fun hX=>?_
 exact ⟨([a32,a34],h73),⟨rfl,trivial⟩,oi_ f56,H.sel [0] rfl⟩
 refine both ?_ ?_
 replace H:=H.sc (α:=Int) a22
 replace H:=H.sc (α:=Int) a21
 refine mA (α:=Int) (us:=[(vi a21),(vi a22)]) (xs:=[a21,a22]) (gs:=[(),()]) gok rfl rfl rfl ⟨rfl,rfl,trivial⟩ rfl rfl H ?_;intro h74 w88 hx H
 refine hold_ hX hx fun hX=>?_
 have i16:=o10
 refine eA (@zA p_ n_ [a18,a19] h24 [1,a20] h69 a32 i16) H ⟨Vw.own 3 rfl,Vw.own 1 rfl,trivial⟩ ?_
 rintro _ _ w89 ⟨h75,rfl,rfl⟩ hx H
 refine hold_ hX hx fun hX=>?_
 have i17:=o11
 refine eA (@zA p_ n_ [a21,a22] h74 [1,a23] h68 a34 i17) H ⟨Vw.own 1 rfl,Vw.own 3 rfl,trivial⟩ ?_
 rintro _ _ w90 ⟨h76,rfl,rfl⟩ hx H
 refine hold_ hX hx fun hX=>?_
 replace H:=H.sel [1,0,2,3,4,5,6,7,8,9,10] rfl
 refine mA (α:=List Int) (us:=[(h75).v,(h76).v]) (xs:=[a32,a34]) (gs:=[h75,h76]) gok rfl rfl rfl ⟨rfl,rfl,trivial⟩ rfl rfl H ?_;intro h77 w91 hx H
 refine hold_ hX hx fun hX=>?_
 exact ⟨([a32,a34],h77),⟨rfl,trivial⟩,oi_ f56,H.sel [0] rfl⟩
 exact trivial
 refine both ?_ ?_
 replace H:=H.sc (α:=Int) a22
 replace H:=H.sc (α:=Int) a21
 refine mA (α:=Int) (us:=[(vi a21),(vi a22)]) (xs:=[a21,a22]) (gs:=[(),()]) gok rfl rfl rfl ⟨rfl,rfl,trivial⟩ rfl rfl H ?_;intro h78 w92 hx H
 refine hold_ hX hx fun hX=>?_
 replace H:=H.sc (α:=Int) a20
 replace H:=H.sc (α:=Int) 1
 refine mA (α:=Int) (us:=[(vi 1),(vi a20)]) (xs:=[1,a20]) (gs:=[(),()]) gok rfl rfl rfl ⟨rfl,rfl,trivial⟩ rfl rfl H ?_;intro h79 w93 hx H
 refine hold_ hX hx fun hX=>?_
 have i16:=o10
 refine eA (@zA p_ n_ [a18,a19] h24 [1,a20] h79 a32 i16) H ⟨Vw.own 3 rfl,Vw.own 0 rfl,trivial⟩ ?_
 rintro _ _ w94 ⟨h80,rfl,rfl⟩ hx H
 refine hold_ hX hx fun hX=>?_
 have i17:=o11
 refine eA (@zA p_ n_ [a21,a22] h78 [1,a23] h68 a34 i17) H ⟨Vw.own 2 rfl,Vw.own 3 rfl,trivial⟩ ?_
 rintro _ _ w95 ⟨h81,rfl,rfl⟩ hx H
 refine hold_ hX hx fun hX=>?_
 replace H:=H.sel [1,0,2,3,4,5,6,7,8,9,10] rfl
 refine mA (α:=List Int) (us:=[(h80).v,(h81).v]) (xs:=[a32,a34]) (gs:=[h80,h81]) gok rfl rfl rfl ⟨rfl,rfl,trivial⟩ rfl rfl H ?_;intro h82 w96 hx H
 refine hold_ hX hx fun hX=>?_
 exact ⟨([a32,a34],h82),⟨rfl,trivial⟩,oi_ f56,H.sel [0] rfl⟩
 exact trivial
 exact trivial
 refine both ?_ ?_
 obtain ⟨a36,o12,f57⟩:=aA f45
 obtain ⟨a37,o13,f58⟩:=aA f57
 replace H:=H.sc (α:=Int) a20
 replace H:=H.sc (α:=Int) 1
 refine mA (α:=Int) (us:=[(vi 1),(vi a20)]) (xs:=[1,a20]) (gs:=[(),()]) gok rfl rfl rfl ⟨rfl,rfl,trivial⟩ rfl rfl H ?_;intro h83 w97 hx H
 refine hold_ hX hx fun hX=>?_
 refine both ?_ ?_
 replace H:=H.sc (α:=Int) a19
 replace H:=H.sc (α:=Int) a18
 refine mA (α:=Int) (us:=[(vi a18),(vi a19)]) (xs:=[a18,a19]) (gs:=[(),()]) gok rfl rfl rfl ⟨rfl,rfl,trivial⟩ rfl rfl H ?_;intro h84 w98 hx H
 refine hold_ hX hx fun hX=>?_
 refine both ?_ ?_
 have i18:=o12
 refine eA (@zA p_ n_ [a18,a19] h84 [1,a20] h83 a36 i18) H ⟨Vw.own 0 rfl,Vw.own 1 rfl,trivial⟩ ?_
 rintro _ _ w99 ⟨h85,rfl,rfl⟩ hx H
 refine hold_ hX hx fun hX=>?_
 refine both ?_ ?_
 replace H:=H.sc (α:=Int) a22
 replace H:=H.sc (α:=Int) a21
 refine mA (α:=Int) (us:=[(vi a21),(vi a22)]) (xs:=[a21,a22]) (gs:=[(),()]) gok rfl rfl rfl ⟨rfl,rfl,trivial⟩ rfl rfl H ?_;intro h86 w100 hx H
 refine hold_ hX hx fun hX=>?_
 replace H:=H.sc (α:=Int) a23
 replace H:=H.sc (α:=Int) 1
 refine mA (α:=Int) (us:=[(vi 1),(vi a23)]) (xs:=[1,a23]) (gs:=[(),()]) gok rfl rfl rfl ⟨rfl,rfl,trivial⟩ rfl rfl H ?_;intro h87 w101 hx H
 refine hold_ hX hx fun hX=>?_
 have i19:=o13
 refine eA (@zA p_ n_ [a21,a22] h86 [1,a23] h87 a37 i19) H ⟨Vw.own 1 rfl,Vw.own 0 rfl,trivial⟩ ?_
 rintro _ _ w102 ⟨h88,rfl,rfl⟩ hx H
 refine hold_ hX hx fun hX=>?_
 replace H:=H.sel [3,0,1,2,4,5,6,7,8,9,10] rfl
 refine mA (α:=List Int) (us:=[(h85).v,(h88).v]) (xs:=[a36,a37]) (gs:=[h85,h88]) gok rfl rfl rfl ⟨rfl,rfl,trivial⟩ rfl rfl H ?_;intro h89 w103 hx H
 refine hold_ hX hx fun hX=>?_
 exact ⟨([a36,a37],h89),⟨rfl,trivial⟩,oi_ f58,H.sel [0] rfl⟩
 refine both ?_ ?_
 replace H:=H.sc (α:=Int) a23
 replace H:=H.sc (α:=Int) 1
 refine mA (α:=Int) (us:=[(vi 1),(vi a23)]) (xs:=[1,a23]) (gs:=[(),()]) gok rfl rfl rfl ⟨rfl,rfl,trivial⟩ rfl rfl H ?_;intro h90 w104 hx H
 refine hold_ hX hx fun hX=>?_
 replace H:=H.sc (α:=Int) a22
 replace H:=H.sc (α:=Int) a21
 refine mA (α:=Int) (us:=[(vi a21),(vi a22)]) (xs:=[a21,a22]) (gs:=[(),()]) gok rfl rfl rfl ⟨rfl,rfl,trivial⟩ rfl rfl H ?_;intro h91 w105 hx H
 refine hold_ hX hx fun hX=>?_
 have i19:=o13
 refine eA (@zA p_ n_ [a21,a22] h91 [1,a23] h90 a37 i19) H ⟨Vw.own 0 rfl,Vw.own 1 rfl,trivial⟩ ?_
 rintro _ _ w106 ⟨h92,rfl,rfl⟩ hx H
 refine hold_ hX hx fun hX=>?_
 replace H:=H.sel [3,0,1,2,4,5,6,7,8,9,10] rfl
 refine mA (α:=List Int) (us:=[(h85).v,(h92).v]) (xs:=[a36,a37]) (gs:=[h85,h92]) gok rfl rfl rfl ⟨rfl,rfl,trivial⟩ rfl rfl H ?_;intro h93 w107 hx H
 refine hold_ hX hx fun hX=>?_
 exact ⟨([a36,a37],h93),⟨rfl,trivial⟩,oi_ f58,H.sel [0] rfl⟩
 exact trivial
 refine both ?_ ?_
 replace H:=H.sc (α:=Int) a22
 replace H:=H.sc (α:=Int) a21
 refine mA (α:=Int) (us:=[(vi a21),(vi a22)]) (xs:=[a21,a22]) (gs:=[(),()]) gok rfl rfl rfl ⟨rfl,rfl,trivial⟩ rfl rfl H ?_;intro h94 w108 hx H
 refine hold_ hX hx fun hX=>?_
 refine both ?_ ?_
 have i18:=o12
 refine eA (@zA p_ n_ [a18,a19] h84 [1,a20] h83 a36 i18) H ⟨Vw.own 1 rfl,Vw.own 2 rfl,trivial⟩ ?_
 rintro _ _ w109 ⟨h95,rfl,rfl⟩ hx H
 refine hold_ hX hx fun hX=>?_
 replace H:=H.sc (α:=Int) a23
 replace H:=H.sc (α:=Int) 1
 refine mA (α:=Int) (us:=[(vi 1),(vi a23)]) (xs:=[1,a23]) (gs:=[(),()]) gok rfl rfl rfl ⟨rfl,rfl,trivial⟩ rfl rfl H ?_;intro h96 w110 hx H
 refine hold_ hX hx fun hX=>?_
 have i19:=o13
 refine eA (@zA p_ n_ [a21,a22] h94 [1,a23] h96 a37 i19) H ⟨Vw.own 2 rfl,Vw.own 0 rfl,trivial⟩ ?_
 rintro _ _ w111 ⟨h97,rfl,rfl⟩ hx H
 refine hold_ hX hx fun hX=>?_
 replace H:=H.sel [2,0,1,3,4,5,6,7,8,9,10] rfl
 refine mA (α:=List Int) (us:=[(h95).v,(h97).v]) (xs:=[a36,a37]) (gs:=[h95,h97]) gok rfl rfl rfl ⟨rfl,rfl,trivial⟩ rfl rfl H ?_;intro h98 w112 hx H
 refine hold_ hX hx fun hX=>?_
 exact ⟨([a36,a37],h98),⟨rfl,trivial⟩,oi_ f58,H.sel [0] rfl⟩
 refine both ?_ ?_
 replace H:=H.sc (α:=Int) a23
 replace H:=H.sc (α:=Int) 1
 refine mA (α:=Int) (us:=[(vi 1),(vi a23)]) (xs:=[1,a23]) (gs:=[(),()]) gok rfl rfl rfl ⟨rfl,rfl,trivial⟩ rfl rfl H ?_;intro h99 w113 hx H
 refine hold_ hX hx fun hX=>?_
 have i18:=o12
 refine eA (@zA p_ n_ [a18,a19] h84 [1,a20] h83 a36 i18) H ⟨Vw.own 2 rfl,Vw.own 3 rfl,trivial⟩ ?_
 rintro _ _ w114 ⟨h100,rfl,rfl⟩ hx H
 refine hold_ hX hx fun hX=>?_
 have i19:=o13
 refine eA (@zA p_ n_ [a21,a22] h94 [1,a23] h99 a37 i19) H ⟨Vw.own 2 rfl,Vw.own 1 rfl,trivial⟩ ?_
 rintro _ _ w115 ⟨h101,rfl,rfl⟩ hx H
 refine hold_ hX hx fun hX=>?_
 replace H:=H.sel [1,0,2,3,4,5,6,7,8,9,10] rfl
 refine mA (α:=List Int) (us:=[(h100).v,(h101).v]) (xs:=[a36,a37]) (gs:=[h100,h101]) gok rfl rfl rfl ⟨rfl,rfl,trivial⟩ rfl rfl H ?_;intro h102 w116 hx H
 refine hold_ hX hx fun hX=>?_
 exact ⟨([a36,a37],h102),⟨rfl,trivial⟩,oi_ f58,H.sel [0] rfl⟩
 exact trivial
 refine both ?_ ?_
 replace H:=H.sc (α:=Int) a23
 replace H:=H.sc (α:=Int) 1
 refine mA (α:=Int) (us:=[(vi 1),(vi a23)]) (xs:=[1,a23]) (gs:=[(),()]) gok rfl rfl rfl ⟨rfl,rfl,trivial⟩ rfl rfl H ?_;intro h103 w117 hx H
 refine hold_ hX hx fun hX=>?_
 refine both ?_ ?_
 have i18:=o12
 refine eA (@zA p_ n_ [a18,a19] h84 [1,a20] h83 a36 i18) H ⟨Vw.own 1 rfl,Vw.own 2 rfl,trivial⟩ ?_
 rintro _ _ w118 ⟨h104,rfl,rfl⟩ hx H
 refine hold_ hX hx fun hX=>?_
 replace H:=H.sc (α:=Int) a22
 replace H:=H.sc (α:=Int) a21
 refine mA (α:=Int) (us:=[(vi a21),(vi a22)]) (xs:=[a21,a22]) (gs:=[(),()]) gok rfl rfl rfl ⟨rfl,rfl,trivial⟩ rfl rfl H ?_;intro h105 w119 hx H
 refine hold_ hX hx fun hX=>?_
 have i19:=o13
 refine eA (@zA p_ n_ [a21,a22] h105 [1,a23] h103 a37 i19) H ⟨Vw.own 0 rfl,Vw.own 2 rfl,trivial⟩ ?_
 rintro _ _ w120 ⟨h106,rfl,rfl⟩ hx H
 refine hold_ hX hx fun hX=>?_
 replace H:=H.sel [2,0,1,3,4,5,6,7,8,9,10] rfl
 refine mA (α:=List Int) (us:=[(h104).v,(h106).v]) (xs:=[a36,a37]) (gs:=[h104,h106]) gok rfl rfl rfl ⟨rfl,rfl,trivial⟩ rfl rfl H ?_;intro h107 w121 hx H
 refine hold_ hX hx fun hX=>?_
 exact ⟨([a36,a37],h107),⟨rfl,trivial⟩,oi_ f58,H.sel [0] rfl⟩
 refine both ?_ ?_
 replace H:=H.sc (α:=Int) a22
 replace H:=H.sc (α:=Int) a21
 refine mA (α:=Int) (us:=[(vi a21),(vi a22)]) (xs:=[a21,a22]) (gs:=[(),()]) gok rfl rfl rfl ⟨rfl,rfl,trivial⟩ rfl rfl H ?_;intro h108 w122 hx H
 refine hold_ hX hx fun hX=>?_
 have i18:=o12
 refine eA (@zA p_ n_ [a18,a19] h84 [1,a20] h83 a36 i18) H ⟨Vw.own 2 rfl,Vw.own 3 rfl,trivial⟩ ?_
 rintro _ _ w123 ⟨h109,rfl,rfl⟩ hx H
 refine hold_ hX hx fun hX=>?_
 have i19:=o13
 refine eA (@zA p_ n_ [a21,a22] h108 [1,a23] h103 a37 i19) H ⟨Vw.own 1 rfl,Vw.own 2 rfl,trivial⟩ ?_
 rintro _ _ w124 ⟨h110,rfl,rfl⟩ hx H
 refine hold_ hX hx fun hX=>?_
 replace H:=H.sel [1,0,2,3,4,5,6,7,8,9,10] rfl
 refine mA (α:=List Int) (us:=[(h109).v,(h110).v]) (xs:=[a36,a37]) (gs:=[h109,h110]) gok rfl rfl rfl ⟨rfl,rfl,trivial⟩ rfl rfl H ?_;intro h111 w125 hx H
 refine hold_ hX hx fun hX=>?_
 exact ⟨([a36,a37],h111),⟨rfl,trivial⟩,oi_ f58,H.sel [0] rfl⟩
 exact trivial
 exact trivial
 refine both ?_ ?_
 replace H:=H.sc (α:=Int) a22
 replace H:=H.sc (α:=Int) a21
 refine mA (α:=Int) (us:=[(vi a21),(vi a22)]) (xs:=[a21,a22]) (gs:=[(),()]) gok rfl rfl rfl ⟨rfl,rfl,trivial⟩ rfl rfl H ?_;intro h112 w126 hx H
 refine hold_ hX hx fun hX=>?_
 refine both ?_ ?_
 replace H:=H.sc (α:=Int) a19
 replace H:=H.sc (α:=Int) a18
 refine mA (α:=Int) (us:=[(vi a18),(vi a19)]) (xs:=[a18,a19]) (gs:=[(),()]) gok rfl rfl rfl ⟨rfl,rfl,trivial⟩ rfl rfl H ?_;intro h113 w127 hx H
 refine hold_ hX hx fun hX=>?_
 refine both ?_ ?_
 have i18:=o12
 refine eA (@zA p_ n_ [a18,a19] h113 [1,a20] h83 a36 i18) H ⟨Vw.own 0 rfl,Vw.own 2 rfl,trivial⟩ ?_
 rintro _ _ w128 ⟨h114,rfl,rfl⟩ hx H
 refine hold_ hX hx fun hX=>?_
 replace H:=H.sc (α:=Int) a23
 replace H:=H.sc (α:=Int) 1
 refine mA (α:=Int) (us:=[(vi 1),(vi a23)]) (xs:=[1,a23]) (gs:=[(),()]) gok rfl rfl rfl ⟨rfl,rfl,trivial⟩ rfl rfl H ?_;intro h115 w129 hx H
 refine hold_ hX hx fun hX=>?_
 have i19:=o13
 refine eA (@zA p_ n_ [a21,a22] h112 [1,a23] h115 a37 i19) H ⟨Vw.own 3 rfl,Vw.own 0 rfl,trivial⟩ ?_
 rintro _ _ w130 ⟨h116,rfl,rfl⟩ hx H
 refine hold_ hX hx fun hX=>?_
 replace H:=H.sel [2,0,1,3,4,5,6,7,8,9,10] rfl
 refine mA (α:=List Int) (us:=[(h114).v,(h116).v]) (xs:=[a36,a37]) (gs:=[h114,h116]) gok rfl rfl rfl ⟨rfl,rfl,trivial⟩ rfl rfl H ?_;intro h117 w131 hx H
 refine hold_ hX hx fun hX=>?_
 exact ⟨([a36,a37],h117),⟨rfl,trivial⟩,oi_ f58,H.sel [0] rfl⟩
 refine both ?_ ?_
 replace H:=H.sc (α:=Int) a23
 replace H:=H.sc (α:=Int) 1
 refine mA (α:=Int) (us:=[(vi 1),(vi a23)]) (xs:=[1,a23]) (gs:=[(),()]) gok rfl rfl rfl ⟨rfl,rfl,trivial⟩ rfl rfl H ?_;intro h118 w132 hx H
 refine hold_ hX hx fun hX=>?_
 have i18:=o12
 refine eA (@zA p_ n_ [a18,a19] h113 [1,a20] h83 a36 i18) H ⟨Vw.own 1 rfl,Vw.own 3 rfl,trivial⟩ ?_
 rintro _ _ w133 ⟨h119,rfl,rfl⟩ hx H
 refine hold_ hX hx fun hX=>?_
 have i19:=o13
 refine eA (@zA p_ n_ [a21,a22] h112 [1,a23] h118 a37 i19) H ⟨Vw.own 3 rfl,Vw.own 1 rfl,trivial⟩ ?_
 rintro _ _ w134 ⟨h120,rfl,rfl⟩ hx H
 refine hold_ hX hx fun hX=>?_
 replace H:=H.sel [1,0,2,3,4,5,6,7,8,9,10] rfl
 refine mA (α:=List Int) (us:=[(h119).v,(h120).v]) (xs:=[a36,a37]) (gs:=[h119,h120]) gok rfl rfl rfl ⟨rfl,rfl,trivial⟩ rfl rfl H ?_;intro h121 w135 hx H
 refine hold_ hX hx fun hX=>?_
 exact ⟨([a36,a37],h121),⟨rfl,trivial⟩,oi_ f58,H.sel [0] rfl⟩
 exact trivial
 refine both ?_ ?_
 replace H:=H.sc (α:=Int) a23
 replace H:=H.sc (α:=Int) 1
 refine mA (α:=Int) (us:=[(vi 1),(vi a23)]) (xs:=[1,a23]) (gs:=[(),()]) gok rfl rfl rfl ⟨rfl,rfl,trivial⟩ rfl rfl H ?_;intro h122 w136 hx H
 refine hold_ hX hx fun hX=>?_
 replace H:=H.sc (α:=Int) a19
 replace H:=H.sc (α:=Int) a18
 refine mA (α:=Int) (us:=[(vi a18),(vi a19)]) (xs:=[a18,a19]) (gs:=[(),()]) gok rfl rfl rfl ⟨rfl,rfl,trivial⟩ rfl rfl H ?_;intro h123 w137 hx H
 refine hold_ hX hx fun hX=>?_
 have i18:=o12
 refine eA (@zA p_ n_ [a18,a19] h123 [1,a20] h83 a36 i18) H ⟨Vw.own 0 rfl,Vw.own 3 rfl,trivial⟩ ?_
 rintro _ _ w138 ⟨h124,rfl,rfl⟩ hx H
 refine hold_ hX hx fun hX=>?_
 have i19:=o13
 refine eA (@zA p_ n_ [a21,a22] h112 [1,a23] h122 a37 i19) H ⟨Vw.own 3 rfl,Vw.own 2 rfl,trivial⟩ ?_
 rintro _ _ w139 ⟨h125,rfl,rfl⟩ hx H
 refine hold_ hX hx fun hX=>?_
 replace H:=H.sel [1,0,2,3,4,5,6,7,8,9,10] rfl
 refine mA (α:=List Int) (us:=[(h124).v,(h125).v]) (xs:=[a36,a37]) (gs:=[h124,h125]) gok rfl rfl rfl ⟨rfl,rfl,trivial⟩ rfl rfl H ?_;intro h126 w140 hx H
 refine hold_ hX hx fun hX=>?_
 exact ⟨([a36,a37],h126),⟨rfl,trivial⟩,oi_ f58,H.sel [0] rfl⟩
 exact trivial
 refine both ?_ ?_
 replace H:=H.sc (α:=Int) a23
 replace H:=H.sc (α:=Int) 1
 refine mA (α:=Int) (us:=[(vi 1),(vi a23)]) (xs:=[1,a23]) (gs:=[(),()]) gok rfl rfl rfl ⟨rfl,rfl,trivial⟩ rfl rfl H ?_;intro h127 w141 hx H
 refine hold_ hX hx fun hX=>?_
 refine both ?_ ?_
 replace H:=H.sc (α:=Int) a19
 replace H:=H.sc (α:=Int) a18
 refine mA (α:=Int) (us:=[(vi a18),(vi a19)]) (xs:=[a18,a19]) (gs:=[(),()]) gok rfl rfl rfl ⟨rfl,rfl,trivial⟩ rfl rfl H ?_;intro h128 w142 hx H
 refine hold_ hX hx fun hX=>?_
 refine both ?_ ?_
 have i18:=o12
 refine eA (@zA p_ n_ [a18,a19] h128 [1,a20] h83 a36 i18) H ⟨Vw.own 0 rfl,Vw.own 2 rfl,trivial⟩ ?_
 rintro _ _ w143 ⟨h129,rfl,rfl⟩ hx H
 refine hold_ hX hx fun hX=>?_
 replace H:=H.sc (α:=Int) a22
 replace H:=H.sc (α:=Int) a21
 refine mA (α:=Int) (us:=[(vi a21),(vi a22)]) (xs:=[a21,a22]) (gs:=[(),()]) gok rfl rfl rfl ⟨rfl,rfl,trivial⟩ rfl rfl H ?_;intro h130 w144 hx H
 refine hold_ hX hx fun hX=>?_
 have i19:=o13
 refine eA (@zA p_ n_ [a21,a22] h130 [1,a23] h127 a37 i19) H ⟨Vw.own 0 rfl,Vw.own 3 rfl,trivial⟩ ?_
 rintro _ _ w145 ⟨h131,rfl,rfl⟩ hx H
 refine hold_ hX hx fun hX=>?_
 replace H:=H.sel [2,0,1,3,4,5,6,7,8,9,10] rfl
 refine mA (α:=List Int) (us:=[(h129).v,(h131).v]) (xs:=[a36,a37]) (gs:=[h129,h131]) gok rfl rfl rfl ⟨rfl,rfl,trivial⟩ rfl rfl H ?_;intro h132 w147 hx H
 refine hold_ hX hx fun hX=>?_
 exact ⟨([a36,a37],h132),⟨rfl,trivial⟩,oi_ f58,H.sel [0] rfl⟩
 refine both ?_ ?_
 replace H:=H.sc (α:=Int) a22
 replace H:=H.sc (α:=Int) a21
 refine mA (α:=Int) (us:=[(vi a21),(vi a22)]) (xs:=[a21,a22]) (gs:=[(),()]) gok rfl rfl rfl ⟨rfl,rfl,trivial⟩ rfl rfl H ?_;intro h133 w148 hx H
 refine hold_ hX hx fun hX=>?_
 have i18:=o12
 refine eA (@zA p_ n_ [a18,a19] h128 [1,a20] h83 a36 i18) H ⟨Vw.own 1 rfl,Vw.own 3 rfl,trivial⟩ ?_
 rintro _ _ w149 ⟨h134,rfl,rfl⟩ hx H
 refine hold_ hX hx fun hX=>?_
 have i19:=o13
 refine eA (@zA p_ n_ [a21,a22] h133 [1,a23] h127 a37 i19) H ⟨Vw.own 1 rfl,Vw.own 3 rfl,trivial⟩ ?_
 rintro _ _ w150 ⟨h135,rfl,rfl⟩ hx H
 refine hold_ hX hx fun hX=>?_
 replace H:=H.sel [1,0,2,3,4,5,6,7,8,9,10] rfl
 refine mA (α:=List Int) (us:=[(h134).v,(h135).v]) (xs:=[a36,a37]) (gs:=[h134,h135]) gok rfl rfl rfl ⟨rfl,rfl,trivial⟩ rfl rfl H ?_;intro h136 w151 hx H
 refine hold_ hX hx fun hX=>?_
 exact ⟨([a36,a37],h136),⟨rfl,trivial⟩,oi_ f58,H.sel [0] rfl⟩
 exact trivial
 refine both ?_ ?_
 replace H:=H.sc (α:=Int) a22
 replace H:=H.sc (α:=Int) a21
 refine mA (α:=Int) (us:=[(vi a21),(vi a22)]) (xs:=[a21,a22]) (gs:=[(),()]) gok rfl rfl rfl ⟨rfl,rfl,trivial⟩ rfl rfl H ?_;intro h137 w152 hx H
 refine hold_ hX hx fun hX=>?_
 replace H:=H.sc (α:=Int) a19
 replace H:=H.sc (α:=Int) a18
 refine mA (α:=Int) (us:=[(vi a18),(vi a19)]) (xs:=[a18,a19]) (gs:=[(),()]) gok rfl rfl rfl ⟨rfl,rfl,trivial⟩ rfl rfl H ?_;intro h138 w153 hx H
 refine hold_ hX hx fun hX=>?_
 have i18:=o12
 refine eA (@zA p_ n_ [a18,a19] h138 [1,a20] h83 a36 i18) H ⟨Vw.own 0 rfl,Vw.own 3 rfl,trivial⟩ ?_
 rintro _ _ w154 ⟨h139,rfl,rfl⟩ hx H
 refine hold_ hX hx fun hX=>?_
 have i19:=o13
 refine eA (@zA p_ n_ [a21,a22] h137 [1,a23] h127 a37 i19) H ⟨Vw.own 2 rfl,Vw.own 3 rfl,trivial⟩ ?_
 rintro _ _ w155 ⟨h140,rfl,rfl⟩ hx H
 refine hold_ hX hx fun hX=>?_
 replace H:=H.sel [1,0,2,3,4,5,6,7,8,9,10] rfl
 refine mA (α:=List Int) (us:=[(h139).v,(h140).v]) (xs:=[a36,a37]) (gs:=[h139,h140]) gok rfl rfl rfl ⟨rfl,rfl,trivial⟩ rfl rfl H ?_;intro h141 w156 hx H
 refine hold_ hX hx fun hX=>?_
 exact ⟨([a36,a37],h141),⟨rfl,trivial⟩,oi_ f58,H.sel [0] rfl⟩
 exact trivial
 exact trivial
 refine both ?_ ?_
 obtain ⟨a38,o14,f59⟩:=aA f45
 obtain ⟨a39,o15,f60⟩:=aA f59
 replace H:=H.sc (α:=Int) a22
 replace H:=H.sc (α:=Int) a21
 refine mA (α:=Int) (us:=[(vi a21),(vi a22)]) (xs:=[a21,a22]) (gs:=[(),()]) gok rfl rfl rfl ⟨rfl,rfl,trivial⟩ rfl rfl H ?_;intro h142 w157 hx H
 refine hold_ hX hx fun hX=>?_
 refine both ?_ ?_
 replace H:=H.sc (α:=Int) a19
 replace H:=H.sc (α:=Int) a18
 refine mA (α:=Int) (us:=[(vi a18),(vi a19)]) (xs:=[a18,a19]) (gs:=[(),()]) gok rfl rfl rfl ⟨rfl,rfl,trivial⟩ rfl rfl H ?_;intro h143 w158 hx H
 refine hold_ hX hx fun hX=>?_
 refine both ?_ ?_
 replace H:=H.sc (α:=Int) a20
 replace H:=H.sc (α:=Int) 1
 refine mA (α:=Int) (us:=[(vi 1),(vi a20)]) (xs:=[1,a20]) (gs:=[(),()]) gok rfl rfl rfl ⟨rfl,rfl,trivial⟩ rfl rfl H ?_;intro h144 w159 hx H
 refine hold_ hX hx fun hX=>?_
 refine both ?_ ?_
 have i20:=o14
 refine eA (@zA p_ n_ [a18,a19] h143 [1,a20] h144 a38 i20) H ⟨Vw.own 1 rfl,Vw.own 0 rfl,trivial⟩ ?_
 rintro _ _ w160 ⟨h145,rfl,rfl⟩ hx H
 refine hold_ hX hx fun hX=>?_
 replace H:=H.sc (α:=Int) a23
 replace H:=H.sc (α:=Int) 1
 refine mA (α:=Int) (us:=[(vi 1),(vi a23)]) (xs:=[1,a23]) (gs:=[(),()]) gok rfl rfl rfl ⟨rfl,rfl,trivial⟩ rfl rfl H ?_;intro h146 w161 hx H
 refine hold_ hX hx fun hX=>?_
 have i21:=o15
 refine eA (@zA p_ n_ [a21,a22] h142 [1,a23] h146 a39 i21) H ⟨Vw.own 4 rfl,Vw.own 0 rfl,trivial⟩ ?_
 rintro _ _ w162 ⟨h147,rfl,rfl⟩ hx H
 refine hold_ hX hx fun hX=>?_
 replace H:=H.sel [2,0,1,3,4,5,6,7,8,9,10] rfl
 refine mA (α:=List Int) (us:=[(h145).v,(h147).v]) (xs:=[a38,a39]) (gs:=[h145,h147]) gok rfl rfl rfl ⟨rfl,rfl,trivial⟩ rfl rfl H ?_;intro h148 w163 hx H
 refine hold_ hX hx fun hX=>?_
 exact ⟨([a38,a39],h148),⟨rfl,trivial⟩,oi_ f60,H.sel [0] rfl⟩
 refine both ?_ ?_
 replace H:=H.sc (α:=Int) a23
 replace H:=H.sc (α:=Int) 1
 refine mA (α:=Int) (us:=[(vi 1),(vi a23)]) (xs:=[1,a23]) (gs:=[(),()]) gok rfl rfl rfl ⟨rfl,rfl,trivial⟩ rfl rfl H ?_;intro h149 w164 hx H
 refine hold_ hX hx fun hX=>?_
 have i20:=o14
 refine eA (@zA p_ n_ [a18,a19] h143 [1,a20] h144 a38 i20) H ⟨Vw.own 2 rfl,Vw.own 1 rfl,trivial⟩ ?_
 rintro _ _ w165 ⟨h150,rfl,rfl⟩ hx H
 refine hold_ hX hx fun hX=>?_
 have i21:=o15
 refine eA (@zA p_ n_ [a21,a22] h142 [1,a23] h149 a39 i21) H ⟨Vw.own 4 rfl,Vw.own 1 rfl,trivial⟩ ?_
 rintro _ _ w166 ⟨h151,rfl,rfl⟩ hx H
 refine hold_ hX hx fun hX=>?_
 replace H:=H.sel [1,0,2,3,4,5,6,7,8,9,10] rfl
 refine mA (α:=List Int) (us:=[(h150).v,(h151).v]) (xs:=[a38,a39]) (gs:=[h150,h151]) gok rfl rfl rfl ⟨rfl,rfl,trivial⟩ rfl rfl H ?_;intro h152 w167 hx H
 refine hold_ hX hx fun hX=>?_
 exact ⟨([a38,a39],h152),⟨rfl,trivial⟩,oi_ f60,H.sel [0] rfl⟩
 exact trivial
 refine both ?_ ?_
 replace H:=H.sc (α:=Int) a23
 replace H:=H.sc (α:=Int) 1
 refine mA (α:=Int) (us:=[(vi 1),(vi a23)]) (xs:=[1,a23]) (gs:=[(),()]) gok rfl rfl rfl ⟨rfl,rfl,trivial⟩ rfl rfl H ?_;intro h153 w168 hx H
 refine hold_ hX hx fun hX=>?_
 replace H:=H.sc (α:=Int) a20
 replace H:=H.sc (α:=Int) 1
 refine mA (α:=Int) (us:=[(vi 1),(vi a20)]) (xs:=[1,a20]) (gs:=[(),()]) gok rfl rfl rfl ⟨rfl,rfl,trivial⟩ rfl rfl H ?_;intro h154 w169 hx H
 refine hold_ hX hx fun hX=>?_
 have i20:=o14
 refine eA (@zA p_ n_ [a18,a19] h143 [1,a20] h154 a38 i20) H ⟨Vw.own 2 rfl,Vw.own 0 rfl,trivial⟩ ?_
 rintro _ _ w170 ⟨h155,rfl,rfl⟩ hx H
 refine hold_ hX hx fun hX=>?_
 have i21:=o15
 refine eA (@zA p_ n_ [a21,a22] h142 [1,a23] h153 a39 i21) H ⟨Vw.own 4 rfl,Vw.own 2 rfl,trivial⟩ ?_
 rintro _ _ w171 ⟨h156,rfl,rfl⟩ hx H
 refine hold_ hX hx fun hX=>?_
 replace H:=H.sel [1,0,2,3,4,5,6,7,8,9,10] rfl
 refine mA (α:=List Int) (us:=[(h155).v,(h156).v]) (xs:=[a38,a39]) (gs:=[h155,h156]) gok rfl rfl rfl ⟨rfl,rfl,trivial⟩ rfl rfl H ?_;intro h157 w172 hx H
 refine hold_ hX hx fun hX=>?_
 exact ⟨([a38,a39],h157),⟨rfl,trivial⟩,oi_ f60,H.sel [0] rfl⟩
 exact trivial
 refine both ?_ ?_
 replace H:=H.sc (α:=Int) a20
 replace H:=H.sc (α:=Int) 1
 refine mA (α:=Int) (us:=[(vi 1),(vi a20)]) (xs:=[1,a20]) (gs:=[(),()]) gok rfl rfl rfl ⟨rfl,rfl,trivial⟩ rfl rfl H ?_;intro h158 w173 hx H
 refine hold_ hX hx fun hX=>?_
 refine both ?_ ?_
 replace H:=H.sc (α:=Int) a19
 replace H:=H.sc (α:=Int) a18
 refine mA (α:=Int) (us:=[(vi a18),(vi a19)]) (xs:=[a18,a19]) (gs:=[(),()]) gok rfl rfl rfl ⟨rfl,rfl,trivial⟩ rfl rfl H ?_;intro h159 w174 hx H
 refine hold_ hX hx fun hX=>?_
 refine both ?_ ?_
 have i20:=o14
 refine eA (@zA p_ n_ [a18,a19] h159 [1,a20] h158 a38 i20) H ⟨Vw.own 0 rfl,Vw.own 1 rfl,trivial⟩ ?_
 rintro _ _ w175 ⟨h160,rfl,rfl⟩ hx H
 refine hold_ hX hx fun hX=>?_
 replace H:=H.sc (α:=Int) a23
 replace H:=H.sc (α:=Int) 1
 refine mA (α:=Int) (us:=[(vi 1),(vi a23)]) (xs:=[1,a23]) (gs:=[(),()]) gok rfl rfl rfl ⟨rfl,rfl,trivial⟩ rfl rfl H ?_;intro h161 w176 hx H
 refine hold_ hX hx fun hX=>?_
 have i21:=o15
 refine eA (@zA p_ n_ [a21,a22] h142 [1,a23] h161 a39 i21) H ⟨Vw.own 4 rfl,Vw.own 0 rfl,trivial⟩ ?_
 rintro _ _ w177 ⟨h162,rfl,rfl⟩ hx H
 refine hold_ hX hx fun hX=>?_
 replace H:=H.sel [2,0,1,3,4,5,6,7,8,9,10] rfl
 refine mA (α:=List Int) (us:=[(h160).v,(h162).v]) (xs:=[a38,a39]) (gs:=[h160,h162]) gok rfl rfl rfl ⟨rfl,rfl,trivial⟩ rfl rfl H ?_;intro h163 w178 hx H
 refine hold_ hX hx fun hX=>?_
 exact ⟨([a38,a39],h163),⟨rfl,trivial⟩,oi_ f60,H.sel [0] rfl⟩
 refine both ?_ ?_
 replace H:=H.sc (α:=Int) a23
 replace H:=H.sc (α:=Int) 1
 refine mA (α:=Int) (us:=[(vi 1),(vi a23)]) (xs:=[1,a23]) (gs:=[(),()]) gok rfl rfl rfl ⟨rfl,rfl,trivial⟩ rfl rfl H ?_;intro h164 w179 hx H
 refine hold_ hX hx fun hX=>?_
 have i20:=o14
 refine eA (@zA p_ n_ [a18,a19] h159 [1,a20] h158 a38 i20) H ⟨Vw.own 1 rfl,Vw.own 2 rfl,trivial⟩ ?_
 rintro _ _ w181 ⟨h165,rfl,rfl⟩ hx H
 refine hold_ hX hx fun hX=>?_
 have i21:=o15
 refine eA (@zA p_ n_ [a21,a22] h142 [1,a23] h164 a39 i21) H ⟨Vw.own 4 rfl,Vw.own 1 rfl,trivial⟩ ?_
 rintro _ _ w182 ⟨h166,rfl,rfl⟩ hx H
 refine hold_ hX hx fun hX=>?_
 replace H:=H.sel [1,0,2,3,4,5,6,7,8,9,10] rfl
 refine mA (α:=List Int) (us:=[(h165).v,(h166).v]) (xs:=[a38,a39]) (gs:=[h165,h166]) gok rfl rfl rfl ⟨rfl,rfl,trivial⟩ rfl rfl H ?_;intro h167 w183 hx H
 refine hold_ hX hx fun hX=>?_
 exact ⟨([a38,a39],h167),⟨rfl,trivial⟩,oi_ f60,H.sel [0] rfl⟩
 exact trivial
 refine both ?_ ?_
 replace H:=H.sc (α:=Int) a23
 replace H:=H.sc (α:=Int) 1
 refine mA (α:=Int) (us:=[(vi 1),(vi a23)]) (xs:=[1,a23]) (gs:=[(),()]) gok rfl rfl rfl ⟨rfl,rfl,trivial⟩ rfl rfl H ?_;intro h168 w184 hx H
 refine hold_ hX hx fun hX=>?_
 replace H:=H.sc (α:=Int) a19
 replace H:=H.sc (α:=Int) a18
 refine mA (α:=Int) (us:=[(vi a18),(vi a19)]) (xs:=[a18,a19]) (gs:=[(),()]) gok rfl rfl rfl ⟨rfl,rfl,trivial⟩ rfl rfl H ?_;intro h169 w187 hx H
 refine hold_ hX hx fun hX=>?_
 have i20:=o14
 refine eA (@zA p_ n_ [a18,a19] h169 [1,a20] h158 a38 i20) H ⟨Vw.own 0 rfl,Vw.own 2 rfl,trivial⟩ ?_
 rintro _ _ w188 ⟨h170,rfl,rfl⟩ hx H
 refine hold_ hX hx fun hX=>?_
 have i21:=o15
 refine eA (@zA p_ n_ [a21,a22] h142 [1,a23] h168 a39 i21) H ⟨Vw.own 4 rfl,Vw.own 2 rfl,trivial⟩ ?_
 rintro _ _ w189 ⟨h171,rfl,rfl⟩ hx H
 refine hold_ hX hx fun hX=>?_
 replace H:=H.sel [1,0,2,3,4,5,6,7,8,9,10] rfl
 refine mA (α:=List Int) (us:=[(h170).v,(h171).v]) (xs:=[a38,a39]) (gs:=[h170,h171]) gok rfl rfl rfl ⟨rfl,rfl,trivial⟩ rfl rfl H ?_;intro h172 w190 hx H
 refine hold_ hX hx fun hX=>?_
 exact ⟨([a38,a39],h172),⟨rfl,trivial⟩,oi_ f60,H.sel [0] rfl⟩
 exact trivial
 refine both ?_ ?_
 replace H:=H.sc (α:=Int) a23
 replace H:=H.sc (α:=Int) 1
 refine mA (α:=Int) (us:=[(vi 1),(vi a23)]) (xs:=[1,a23]) (gs:=[(),()]) gok rfl rfl rfl ⟨rfl,rfl,trivial⟩ rfl rfl H ?_;intro h173 w192 hx H
 refine hold_ hX hx fun hX=>?_
 refine both ?_ ?_
 replace H:=H.sc (α:=Int) a19
 replace H:=H.sc (α:=Int) a18
 refine mA (α:=Int) (us:=[(vi a18),(vi a19)]) (xs:=[a18,a19]) (gs:=[(),()]) gok rfl rfl rfl ⟨rfl,rfl,trivial⟩ rfl rfl H ?_;intro h174 w193 hx H
 refine hold_ hX hx fun hX=>?_
 replace H:=H.sc (α:=Int) a20
 replace H:=H.sc (α:=Int) 1
 refine mA (α:=Int) (us:=[(vi 1),(vi a20)]) (xs:=[1,a20]) (gs:=[(),()]) gok rfl rfl rfl ⟨rfl,rfl,trivial⟩ rfl rfl H ?_;intro h175 w195 hx H
 refine hold_ hX hx fun hX=>?_
 have i20:=o14
 refine eA (@zA p_ n_ [a18,a19] h174 [1,a20] h175 a38 i20) H ⟨Vw.own 1 rfl,Vw.own 0 rfl,trivial⟩ ?_
 rintro _ _ w196 ⟨h176,rfl,rfl⟩ hx H
 refine hold_ hX hx fun hX=>?_
 have i21:=o15
 refine eA (@zA p_ n_ [a21,a22] h142 [1,a23] h173 a39 i21) H ⟨Vw.own 4 rfl,Vw.own 3 rfl,trivial⟩ ?_
 rintro _ _ w197 ⟨h177,rfl,rfl⟩ hx H
 refine hold_ hX hx fun hX=>?_
 replace H:=H.sel [1,0,2,3,4,5,6,7,8,9,10] rfl
 refine mA (α:=List Int) (us:=[(h176).v,(h177).v]) (xs:=[a38,a39]) (gs:=[h176,h177]) gok rfl rfl rfl ⟨rfl,rfl,trivial⟩ rfl rfl H ?_;intro h178 w198 hx H
 refine hold_ hX hx fun hX=>?_
 exact ⟨([a38,a39],h178),⟨rfl,trivial⟩,oi_ f60,H.sel [0] rfl⟩
 refine both ?_ ?_
 replace H:=H.sc (α:=Int) a20
 replace H:=H.sc (α:=Int) 1
 refine mA (α:=Int) (us:=[(vi 1),(vi a20)]) (xs:=[1,a20]) (gs:=[(),()]) gok rfl rfl rfl ⟨rfl,rfl,trivial⟩ rfl rfl H ?_;intro h179 w199 hx H
 refine hold_ hX hx fun hX=>?_
 replace H:=H.sc (α:=Int) a19
 replace H:=H.sc (α:=Int) a18
 refine mA (α:=Int) (us:=[(vi a18),(vi a19)]) (xs:=[a18,a19]) (gs:=[(),()]) gok rfl rfl rfl ⟨rfl,rfl,trivial⟩ rfl rfl H ?_;intro h180 w200 hx H
 refine hold_ hX hx fun hX=>?_
 have i20:=o14
 refine eA (@zA p_ n_ [a18,a19] h180 [1,a20] h179 a38 i20) H ⟨Vw.own 0 rfl,Vw.own 1 rfl,trivial⟩ ?_
 rintro _ _ w201 ⟨h182,rfl,rfl⟩ hx H
 refine hold_ hX hx fun hX=>?_
 have i21:=o15
 refine eA (@zA p_ n_ [a21,a22] h142 [1,a23] h173 a39 i21) H ⟨Vw.own 4 rfl,Vw.own 3 rfl,trivial⟩ ?_
 rintro _ _ w202 ⟨h183,rfl,rfl⟩ hx H
 refine hold_ hX hx fun hX=>?_
 replace H:=H.sel [1,0,2,3,4,5,6,7,8,9,10] rfl
 refine mA (α:=List Int) (us:=[(h182).v,(h183).v]) (xs:=[a38,a39]) (gs:=[h182,h183]) gok rfl rfl rfl ⟨rfl,rfl,trivial⟩ rfl rfl H ?_;intro h184 w205 hx H
 refine hold_ hX hx fun hX=>?_
 exact ⟨([a38,a39],h184),⟨rfl,trivial⟩,oi_ f60,H.sel [0] rfl⟩
 exact trivial
 exact trivial
 refine both ?_ ?_
 obtain ⟨a40,o16,f61⟩:=aA f45
 obtain ⟨a41,o17,f62⟩:=aA f61
 replace H:=H.sc (α:=Int) a23
 replace H:=H.sc (α:=Int) 1
 refine mA (α:=Int) (us:=[(vi 1),(vi a23)]) (xs:=[1,a23]) (gs:=[(),()]) gok rfl rfl rfl ⟨rfl,rfl,trivial⟩ rfl rfl H ?_;intro h185 w206 hx H
 refine hold_ hX hx fun hX=>?_
 refine both ?_ ?_
 replace H:=H.sc (α:=Int) a19
 replace H:=H.sc (α:=Int) a18
 refine mA (α:=Int) (us:=[(vi a18),(vi a19)]) (xs:=[a18,a19]) (gs:=[(),()]) gok rfl rfl rfl ⟨rfl,rfl,trivial⟩ rfl rfl H ?_;intro h186 w208 hx H
 refine hold_ hX hx fun hX=>?_
 refine both ?_ ?_
 replace H:=H.sc (α:=Int) a20
 replace H:=H.sc (α:=Int) 1
 refine mA (α:=Int) (us:=[(vi 1),(vi a20)]) (xs:=[1,a20]) (gs:=[(),()]) gok rfl rfl rfl ⟨rfl,rfl,trivial⟩ rfl rfl H ?_;intro h188 w209 hx H
 refine hold_ hX hx fun hX=>?_
 refine both ?_ ?_
 have i22:=o16
 refine eA (@zA p_ n_ [a18,a19] h186 [1,a20] h188 a40 i22) H ⟨Vw.own 1 rfl,Vw.own 0 rfl,trivial⟩ ?_
 rintro _ _ w211 ⟨h189,rfl,rfl⟩ hx H
 refine hold_ hX hx fun hX=>?_
 replace H:=H.sc (α:=Int) a22
 replace H:=H.sc (α:=Int) a21
 refine mA (α:=Int) (us:=[(vi a21),(vi a22)]) (xs:=[a21,a22]) (gs:=[(),()]) gok rfl rfl rfl ⟨rfl,rfl,trivial⟩ rfl rfl H ?_;intro h190 w212 hx H
 refine hold_ hX hx fun hX=>?_
 have i23:=o17
 refine eA (@zA p_ n_ [a21,a22] h190 [1,a23] h185 a41 i23) H ⟨Vw.own 0 rfl,Vw.own 4 rfl,trivial⟩ ?_
 rintro _ _ w214 ⟨h191,rfl,rfl⟩ hx H
 refine hold_ hX hx fun hX=>?_
 replace H:=H.sel [2,0,1,3,4,5,6,7,8,9,10] rfl
 refine mA (α:=List Int) (us:=[(h189).v,(h191).v]) (xs:=[a40,a41]) (gs:=[h189,h191]) gok rfl rfl rfl ⟨rfl,rfl,trivial⟩ rfl rfl H ?_;intro h193 w215 hx H
 refine hold_ hX hx fun hX=>?_
 exact ⟨([a40,a41],h193),⟨rfl,trivial⟩,oi_ f62,H.sel [0] rfl⟩
 refine both ?_ ?_
 replace H:=H.sc (α:=Int) a22
 replace H:=H.sc (α:=Int) a21
 refine mA (α:=Int) (us:=[(vi a21),(vi a22)]) (xs:=[a21,a22]) (gs:=[(),()]) gok rfl rfl rfl ⟨rfl,rfl,trivial⟩ rfl rfl H ?_;intro h194 w217 hx H
 refine hold_ hX hx fun hX=>?_
 have i22:=o16
 refine eA (@zA p_ n_ [a18,a19] h186 [1,a20] h188 a40 i22) H ⟨Vw.own 2 rfl,Vw.own 1 rfl,trivial⟩ ?_
 rintro _ _ w218 ⟨h196,rfl,rfl⟩ hx H
 refine hold_ hX hx fun hX=>?_
 have i23:=o17
 refine eA (@zA p_ n_ [a21,a22] h194 [1,a23] h185 a41 i23) H ⟨Vw.own 1 rfl,Vw.own 4 rfl,trivial⟩ ?_
 rintro _ _ w220 ⟨h197,rfl,rfl⟩ hx H
 refine hold_ hX hx fun hX=>?_
 replace H:=H.sel [1,0,2,3,4,5,6,7,8,9,10] rfl
 refine mA (α:=List Int) (us:=[(h196).v,(h197).v]) (xs:=[a40,a41]) (gs:=[h196,h197]) gok rfl rfl rfl ⟨rfl,rfl,trivial⟩ rfl rfl H ?_;intro h198 w221 hx H
 refine hold_ hX hx fun hX=>?_
 exact ⟨([a40,a41],h198),⟨rfl,trivial⟩,oi_ f62,H.sel [0] rfl⟩
 exact trivial
 refine both ?_ ?_
 replace H:=H.sc (α:=Int) a22
 replace H:=H.sc (α:=Int) a21
 refine mA (α:=Int) (us:=[(vi a21),(vi a22)]) (xs:=[a21,a22]) (gs:=[(),()]) gok rfl rfl rfl ⟨rfl,rfl,trivial⟩ rfl rfl H ?_;intro h199 w223 hx H
 refine hold_ hX hx fun hX=>?_
 replace H:=H.sc (α:=Int) a20
 replace H:=H.sc (α:=Int) 1
 refine mA (α:=Int) (us:=[(vi 1),(vi a20)]) (xs:=[1,a20]) (gs:=[(),()]) gok rfl rfl rfl ⟨rfl,rfl,trivial⟩ rfl rfl H ?_;intro h200 w224 hx H
 refine hold_ hX hx fun hX=>?_
 have i22:=o16
 refine eA (@zA p_ n_ [a18,a19] h186 [1,a20] h200 a40 i22) H ⟨Vw.own 2 rfl,Vw.own 0 rfl,trivial⟩ ?_
 rintro _ _ w226 ⟨h201,rfl,rfl⟩ hx H
 refine hold_ hX hx fun hX=>?_
 have i23:=o17
 refine eA (@zA p_ n_ [a21,a22] h199 [1,a23] h185 a41 i23) H ⟨Vw.own 2 rfl,Vw.own 4 rfl,trivial⟩ ?_
 rintro _ _ w227 ⟨h202,rfl,rfl⟩ hx H
 refine hold_ hX hx fun hX=>?_
 replace H:=H.sel [1,0,2,3,4,5,6,7,8,9,10] rfl
 refine mA (α:=List Int) (us:=[(h201).v,(h202).v]) (xs:=[a40,a41]) (gs:=[h201,h202]) gok rfl rfl rfl ⟨rfl,rfl,trivial⟩ rfl rfl H ?_;intro h203 w229 hx H
 refine hold_ hX hx fun hX=>?_
 exact ⟨([a40,a41],h203),⟨rfl,trivial⟩,oi_ f62,H.sel [0] rfl⟩
 exact trivial
 refine both ?_ ?_
 replace H:=H.sc (α:=Int) a20
 replace H:=H.sc (α:=Int) 1
 refine mA (α:=Int) (us:=[(vi 1),(vi a20)]) (xs:=[1,a20]) (gs:=[(),()]) gok rfl rfl rfl ⟨rfl,rfl,trivial⟩ rfl rfl H ?_;intro h204 w230 hx H
 refine hold_ hX hx fun hX=>?_
 refine both ?_ ?_
 replace H:=H.sc (α:=Int) a19
 replace H:=H.sc (α:=Int) a18
 refine mA (α:=Int) (us:=[(vi a18),(vi a19)]) (xs:=[a18,a19]) (gs:=[(),()]) gok rfl rfl rfl ⟨rfl,rfl,trivial⟩ rfl rfl H ?_;intro h206 w231 hx H
 refine hold_ hX hx fun hX=>?_
 refine both ?_ ?_
 have i22:=o16
 refine eA (@zA p_ n_ [a18,a19] h206 [1,a20] h204 a40 i22) H ⟨Vw.own 0 rfl,Vw.own 1 rfl,trivial⟩ ?_
 rintro _ _ w232 ⟨h207,rfl,rfl⟩ hx H
 refine hold_ hX hx fun hX=>?_
 replace H:=H.sc (α:=Int) a22
 replace H:=H.sc (α:=Int) a21
 refine mA (α:=Int) (us:=[(vi a21),(vi a22)]) (xs:=[a21,a22]) (gs:=[(),()]) gok rfl rfl rfl ⟨rfl,rfl,trivial⟩ rfl rfl H ?_;intro h209 w233 hx H
 refine hold_ hX hx fun hX=>?_
 have i23:=o17
 refine eA (@zA p_ n_ [a21,a22] h209 [1,a23] h185 a41 i23) H ⟨Vw.own 0 rfl,Vw.own 4 rfl,trivial⟩ ?_
 rintro _ _ w234 ⟨h210,rfl,rfl⟩ hx H
 refine hold_ hX hx fun hX=>?_
 replace H:=H.sel [2,0,1,3,4,5,6,7,8,9,10] rfl
 refine mA (α:=List Int) (us:=[(h207).v,(h210).v]) (xs:=[a40,a41]) (gs:=[h207,h210]) gok rfl rfl rfl ⟨rfl,rfl,trivial⟩ rfl rfl H ?_;intro h212 w235 hx H
 refine hold_ hX hx fun hX=>?_
 exact ⟨([a40,a41],h212),⟨rfl,trivial⟩,oi_ f62,H.sel [0] rfl⟩
 refine both ?_ ?_
 replace H:=H.sc (α:=Int) a22
 replace H:=H.sc (α:=Int) a21
 refine mA (α:=Int) (us:=[(vi a21),(vi a22)]) (xs:=[a21,a22]) (gs:=[(),()]) gok rfl rfl rfl ⟨rfl,rfl,trivial⟩ rfl rfl H ?_;intro h213 w236 hx H
 refine hold_ hX hx fun hX=>?_
 have i22:=o16
 refine eA (@zA p_ n_ [a18,a19] h206 [1,a20] h204 a40 i22) H ⟨Vw.own 1 rfl,Vw.own 2 rfl,trivial⟩ ?_
 rintro _ _ w237 ⟨h215,rfl,rfl⟩ hx H
 refine hold_ hX hx fun hX=>?_
 have i23:=o17
 refine eA (@zA p_ n_ [a21,a22] h213 [1,a23] h185 a41 i23) H ⟨Vw.own 1 rfl,Vw.own 4 rfl,trivial⟩ ?_
 rintro _ _ w238 ⟨h216,rfl,rfl⟩ hx H
 refine hold_ hX hx fun hX=>?_
 replace H:=H.sel [1,0,2,3,4,5,6,7,8,9,10] rfl
 refine mA (α:=List Int) (us:=[(h215).v,(h216).v]) (xs:=[a40,a41]) (gs:=[h215,h216]) gok rfl rfl rfl ⟨rfl,rfl,trivial⟩ rfl rfl H ?_;intro h218 w240 hx H
 refine hold_ hX hx fun hX=>?_
 exact ⟨([a40,a41],h218),⟨rfl,trivial⟩,oi_ f62,H.sel [0] rfl⟩
 exact trivial
 refine both ?_ ?_
 replace H:=H.sc (α:=Int) a22
 replace H:=H.sc (α:=Int) a21
 refine mA (α:=Int) (us:=[(vi a21),(vi a22)]) (xs:=[a21,a22]) (gs:=[(),()]) gok rfl rfl rfl ⟨rfl,rfl,trivial⟩ rfl rfl H ?_;intro h219 w241 hx H
 refine hold_ hX hx fun hX=>?_
 replace H:=H.sc (α:=Int) a19
 replace H:=H.sc (α:=Int) a18
 refine mA (α:=Int) (us:=[(vi a18),(vi a19)]) (xs:=[a18,a19]) (gs:=[(),()]) gok rfl rfl rfl ⟨rfl,rfl,trivial⟩ rfl rfl H ?_;intro h221 w243 hx H
 refine hold_ hX hx fun hX=>?_
 have i22:=o16
 refine eA (@zA p_ n_ [a18,a19] h221 [1,a20] h204 a40 i22) H ⟨Vw.own 0 rfl,Vw.own 2 rfl,trivial⟩ ?_
 rintro _ _ w244 ⟨h222,rfl,rfl⟩ hx H
 refine hold_ hX hx fun hX=>?_
 have i23:=o17
 refine eA (@zA p_ n_ [a21,a22] h219 [1,a23] h185 a41 i23) H ⟨Vw.own 2 rfl,Vw.own 4 rfl,trivial⟩ ?_
 rintro _ _ w245 ⟨h224,rfl,rfl⟩ hx H
 refine hold_ hX hx fun hX=>?_
 replace H:=H.sel [1,0,2,3,4,5,6,7,8,9,10] rfl
 refine mA (α:=List Int) (us:=[(h222).v,(h224).v]) (xs:=[a40,a41]) (gs:=[h222,h224]) gok rfl rfl rfl ⟨rfl,rfl,trivial⟩ rfl rfl H ?_;intro h225 w246 hx H
 refine hold_ hX hx fun hX=>?_
 exact ⟨([a40,a41],h225),⟨rfl,trivial⟩,oi_ f62,H.sel [0] rfl⟩
 exact trivial
 refine both ?_ ?_
 replace H:=H.sc (α:=Int) a22
 replace H:=H.sc (α:=Int) a21
 refine mA (α:=Int) (us:=[(vi a21),(vi a22)]) (xs:=[a21,a22]) (gs:=[(),()]) gok rfl rfl rfl ⟨rfl,rfl,trivial⟩ rfl rfl H ?_;intro h227 w248 hx H
 refine hold_ hX hx fun hX=>?_
 refine both ?_ ?_
 replace H:=H.sc (α:=Int) a19
 replace H:=H.sc (α:=Int) a18
 refine mA (α:=Int) (us:=[(vi a18),(vi a19)]) (xs:=[a18,a19]) (gs:=[(),()]) gok rfl rfl rfl ⟨rfl,rfl,trivial⟩ rfl rfl H ?_;intro h228 w249 hx H
 refine hold_ hX hx fun hX=>?_
 replace H:=H.sc (α:=Int) a20
 replace H:=H.sc (α:=Int) 1
 refine mA (α:=Int) (us:=[(vi 1),(vi a20)]) (xs:=[1,a20]) (gs:=[(),()]) gok rfl rfl rfl ⟨rfl,rfl,trivial⟩ rfl rfl H ?_;intro h229 w251 hx H
 refine hold_ hX hx fun hX=>?_
 have i22:=o16
 refine eA (@zA p_ n_ [a18,a19] h228 [1,a20] h229 a40 i22) H ⟨Vw.own 1 rfl,Vw.own 0 rfl,trivial⟩ ?_
 rintro _ _ w252 ⟨h230,rfl,rfl⟩ hx H
 refine hold_ hX hx fun hX=>?_
 have i23:=o17
 refine eA (@zA p_ n_ [a21,a22] h227 [1,a23] h185 a41 i23) H ⟨Vw.own 3 rfl,Vw.own 4 rfl,trivial⟩ ?_
 rintro _ _ w253 ⟨h231,rfl,rfl⟩ hx H
 refine hold_ hX hx fun hX=>?_
 replace H:=H.sel [1,0,2,3,4,5,6,7,8,9,10] rfl
 refine mA (α:=List Int) (us:=[(h230).v,(h231).v]) (xs:=[a40,a41]) (gs:=[h230,h231]) gok rfl rfl rfl ⟨rfl,rfl,trivial⟩ rfl rfl H ?_;intro h232 w254 hx H
 refine hold_ hX hx fun hX=>?_
 exact ⟨([a40,a41],h232),⟨rfl,trivial⟩,oi_ f62,H.sel [0] rfl⟩
 refine both ?_ ?_
 replace H:=H.sc (α:=Int) a20
 replace H:=H.sc (α:=Int) 1
 refine mA (α:=Int) (us:=[(vi 1),(vi a20)]) (xs:=[1,a20]) (gs:=[(),()]) gok rfl rfl rfl ⟨rfl,rfl,trivial⟩ rfl rfl H ?_;intro h233 w255 hx H
 refine hold_ hX hx fun hX=>?_
 replace H:=H.sc (α:=Int) a19
 replace H:=H.sc (α:=Int) a18
 refine mA (α:=Int) (us:=[(vi a18),(vi a19)]) (xs:=[a18,a19]) (gs:=[(),()]) gok rfl rfl rfl ⟨rfl,rfl,trivial⟩ rfl rfl H ?_;intro h234 w256 hx H
 refine hold_ hX hx fun hX=>?_
 have i22:=o16
 refine eA (@zA p_ n_ [a18,a19] h234 [1,a20] h233 a40 i22) H ⟨Vw.own 0 rfl,Vw.own 1 rfl,trivial⟩ ?_
 rintro _ _ w257 ⟨h235,rfl,rfl⟩ hx H
 refine hold_ hX hx fun hX=>?_
 have i23:=o17
 refine eA (@zA p_ n_ [a21,a22] h227 [1,a23] h185 a41 i23) H ⟨Vw.own 3 rfl,Vw.own 4 rfl,trivial⟩ ?_
 rintro _ _ w258 ⟨h236,rfl,rfl⟩ hx H
 refine hold_ hX hx fun hX=>?_
 replace H:=H.sel [1,0,2,3,4,5,6,7,8,9,10] rfl
 refine mA (α:=List Int) (us:=[(h235).v,(h236).v]) (xs:=[a40,a41]) (gs:=[h235,h236]) gok rfl rfl rfl ⟨rfl,rfl,trivial⟩ rfl rfl H ?_;intro h237 w259 hx H
 refine hold_ hX hx fun hX=>?_
 exact ⟨([a40,a41],h237),⟨rfl,trivial⟩,oi_ f62,H.sel [0] rfl⟩
 exact trivial
 exact trivial
 exact trivial
 rintro T3 ⟨s3,g3⟩ w260 ⟨hr,H⟩;try dsimp only at H
 subst hr
 cases f39
 exact ⟨_,_,rfl,⟨g3,rfl,rfl⟩,(H.sel [0] rfl).close ⟨cloE,trivial⟩⟩
theorem G4_ {p_ a_ y:Int} (hF:qU p_ a_=some y) :
  kA Tryz.prog 139 #[(vi p_),(vi a_)] [] [] (fun v Γ'=>v=(vi y)∧Γ'=[]):=by
 intro w0 S0 fp0 hI hS
 have H:Cx w0 fp0 S0 w0 []:=Cx.start hI hS
 refine iA (args:=[_,_]) gok Tryz.func139 rfl _ rfl rfl rfl ?_
 obtain ⟨r0,f0,f1⟩:=aA hF
 refine cut (fun (q0:Unit)=>[]) (fun (q0:Unit) w'=>.inl ()=r0∧Cx w0 fp0 S0 w' []) ?_ ?_
 refine oE _ (fun (s0:Int) (_:Unit)=>[(0,(vi p_)),(1,(vi a_)),(5,(vi s0))]) (fun (s0:Int) (_:Unit) w'=>Cx w0 fp0 S0 w' []) 1 () f0 r3_ (H.sel [] rfl) ?_
 rintro T0 s0 _ w1 o0 (H:Cx w0 fp0 S0 w1 []) hrt f2
 refine sq ?_
 refine boolB_ f2 (fun f4=>?_) fun f6=>?_
 obtain rfl:=oi_ f4
 have f5:some _=some _:=congrArg some (hrt _ rfl).symm
 exact ⟨(),trivial,oi_ f5,H.sel [] rfl⟩
 refine sq ?_
 obtain ⟨a1,e,f7⟩:=aA f6
 refine arO e ?_
 obtain ⟨a2,e,f8⟩:=aA f7
 refine aG e ?_
 refine boolB_ f8 (fun f10=>?_) fun f12=>?_
 obtain ⟨a4,e,f11⟩:=aA f10
 refine arO e ?_
 obtain rfl:=oi_ f11
 exact ⟨a4,(),rfl,r3_,H.sel [] rfl⟩
 obtain rfl:=oi_ f12
 have f13:some _=some _:=congrArg some (hrt _ rfl).symm
 obtain rfl:=oi_ f13
 have f14:some _=some _:=f1
 cases f14
 exact ⟨_,_,rfl,⟨rfl,rfl⟩,(H.sel [] rfl).close trivial⟩
 rintro T1 _ w2 ⟨hr,H⟩;try dsimp only at H
 subst hr
 cases f1
 exact ⟨_,_,rfl,⟨rfl,rfl⟩,(H.sel [] rfl).close trivial⟩
theorem CJ_ {p_ a_ b_ y:Int} (hF:yH p_ a_ b_=some y) :
  kA Tryz.prog 140 #[(vi p_),(vi a_),(vi b_)] [] [] (fun v Γ'=>v=(vi y)∧Γ'=[]):=by
 intro w0 S0 fp0 hI hS
 have H:Cx w0 fp0 S0 w0 []:=Cx.start hI hS
 refine iA (args:=[_,_,_]) gok Tryz.func140 rfl _ rfl rfl rfl ?_
 obtain ⟨a1,e,hF2⟩:=aA hF
 refine arO e ?_
 obtain ⟨a3,e,hF4⟩:=aA hF2
 refine aG e ?_
 cases hF4
 exact ⟨_,_,rfl,⟨rfl,rfl⟩,(H.sel [] rfl).close trivial⟩
theorem G3_ {p_ a_ b_ y:Int} (hF:jM p_ a_ b_=some y) :
  kA Tryz.prog 141 #[(vi p_),(vi a_),(vi b_)] [] [] (fun v Γ'=>v=(vi y)∧Γ'=[]):=by
 intro w0 S0 fp0 hI hS
 have H:Cx w0 fp0 S0 w0 []:=Cx.start hI hS
 refine iA (args:=[_,_,_]) gok Tryz.func141 rfl _ rfl rfl rfl ?_
 obtain ⟨a1,e,hF2⟩:=aA hF
 refine arO e ?_
 obtain ⟨a3,e,hF4⟩:=aA hF2
 refine arO e ?_
 obtain ⟨a5,e,hF6⟩:=aA hF4
 refine aG e ?_
 cases hF6
 exact ⟨_,_,rfl,⟨rfl,rfl⟩,(H.sel [] rfl).close trivial⟩
theorem sY {p_ size_:Int}{rows_:List (List Int)}{rows_h:Hd}{y:List (List Int)} (hF:qP p_ size_ rows_=some y) :
  kA Tryz.prog 113 #[(vi p_),(vi size_),(rows_h).v] [Es (List (List Int)) rows_ rows_h] [] (fun v Γ'=>∃ z0:Hd,v=(z0).v∧Γ'=[E (List (List Int)) y z0]):=by
 intro w0 S0 fp0 hI hS
 have H:=Cx.start hI hS;dsimp at H
 refine iA (args:=[_,_,_]) gok Tryz.func113 rfl _ rfl rfl rfl ?_
 refine sq ?_
 refine nA (H.rs (α:=List (List Int)) 0 rfl).len ?_
 have x0:=(H.rs (α:=List (List Int)) 0 rfl).max
 obtain ⟨r0,e,f0⟩:=aA hF
 replace H:=H.nil (α:=List Int)
 refine nB _ rows_.length (fun (k2:Nat) (s0:List (List Int)) (g0:Hd)=>[(0,(vi p_)),(1,(vi size_)),(7,(g0).v),(19,(rows_h).v),(20,(vi ((rows_.length:Nat):Int))),(21,(vi ((k2:Nat):Int)))]) (fun _ (s0:List (List Int)) (g0:Hd) w'=>Cx w0 fp0 S0 w' [E (List (List Int)) s0 g0,Es (List (List Int)) rows_ rows_h]) [] nilH e r6_ (H.sel [0,1] rfl) ?_ ?_
 rintro T0 k2 s0 g0 w1 o0 hk (H:Cx w0 fp0 S0 w1 [E (List (List Int)) s0 g0,Es (List (List Int)) rows_ rows_h]) f1
 refine jA (z:=true) (cB hk) ?_
 refine sq (sq ?_)
 obtain ⟨a0,e,f2⟩:=aA f1
 have HH:=H;obtain ⟨p0,m0,h0,c0,c1,c2,c3,H⟩:=HH.elL 1 rfl e
 refine dA c0 c1 c2 ?_
 refine bA c3 ?_
 obtain ⟨y0,i0,f3⟩:=aA f2
 refine callF0_ (gM i0) H ⟨Vw.sh 0 rfl,trivial⟩ ?_
 rintro _ _ w2 ⟨h1,rfl,rfl⟩ H
 refine pC (α:=List Int) (g:=h1) gok rfl rfl rfl rfl rfl H ?_;intro h2 w3 hx H
 obtain ⟨a1,e,f4⟩:=aA f3
 refine append_ (α:=List Int) gok rfl rfl rfl rfl (H.sel [2,0,1,3] rfl) e ?_;intro h3 w4 H
 refine arK hk x0 ?_
 obtain rfl:=oi_ f4
 exact ⟨h3,r6_,H.sel [0,2] rfl⟩
 rintro T1 g1 w5 H;try dsimp only at H
 refine jA (z:=false) dB ?_
 refine sq ?_
 obtain ⟨r1,f5,f6⟩:=aA f0
 refine cut (fun (q0:List (List Int)×Int)=>[(7,(g1).v),(10,(vi q0.2))]) (fun (q0:List (List Int)×Int) w'=>(q0.1,q0.2)=r1∧Cx w0 fp0 S0 w' [E (List (List Int)) q0.1 g1]) ?_ ?_
 refine oE _ (fun (s1:List (List Int)×Int×Int) (_:Unit)=>[(0,(vi p_)),(1,(vi size_)),(7,(g1).v),(10,(vi s1.2.1)),(11,(vi s1.2.2))]) (fun (s1:List (List Int)×Int×Int) (_:Unit) w'=>Cx w0 fp0 S0 w' [E (List (List Int)) s1.1 g1]) (r0,0,0) () f5 r5_ (H.sel [0] rfl) ?_
 rintro T2 ⟨s1_0,s1_1,s1_2⟩ _ w6 o1 (H:Cx w0 fp0 S0 w6 [E (List (List Int)) s1_0 g1]) hrt f7
 refine sq ?_
 obtain ⟨r2,f8,f9⟩:=aA f7
 refine cut (fun (q1:Bool)=>[(0,(vi p_)),(1,(vi size_)),(7,(g1).v),(10,(vi s1_1)),(11,(vi s1_2)),(39,(.bool q1))]) (fun (q1:Bool) w'=>q1=r2∧Cx w0 fp0 S0 w' [E (List (List Int)) s1_0 g1]) ?_ ?_
 refine boolB_ f8 (fun f11=>?_) fun f12=>?_
 exact ⟨false,r6_,oi_ f11,H.sel [0] rfl⟩
 refine nA (H.ro (α:=List (List Int)) 0 rfl).len ?_
 obtain ⟨a3,e,f13⟩:=aA f12
 refine tB e ?_
 exact ⟨a3,r6_,oi_ f13,H.sel [0] rfl⟩
 rintro T3 s2 w7 ⟨hr,H⟩;try dsimp only at H
 subst hr
 cases s2
 have f14:=fB f9
 obtain rfl:=oi_ f14
 have f15:some _=some _:=congrArg some (hrt _ rfl).symm
 exact ⟨(s1_0,s1_1),⟨rfl,rfl,trivial⟩,oi_ f15,H.sel [0] rfl⟩
 have f16:=eB f9
 obtain ⟨r3,f17,f18⟩:=aA f16
 refine cut (fun (q2:List (List Int)×Int)=>[(0,(vi p_)),(1,(vi size_)),(7,(g1).v),(10,(vi q2.2)),(11,(vi s1_2))]) (fun (q2:List (List Int)×Int) w'=>(q2.1,q2.2)=r3∧Cx w0 fp0 S0 w' [E (List (List Int)) q2.1 g1]) ?_ ?_
 obtain ⟨r4,f19,f20⟩:=aA f17
 refine cut (fun (q3:Int)=>[(0,(vi p_)),(1,(vi size_)),(7,(g1).v),(10,(vi s1_1)),(11,(vi s1_2)),(12,(vi q3))]) (fun (q3:Int) w'=>q3=r4∧Cx w0 fp0 S0 w' [E (List (List Int)) s1_0 g1]) ?_ ?_
 refine oE _ (fun (s3:Int) (_:Unit)=>[(0,(vi p_)),(1,(vi size_)),(7,(g1).v),(10,(vi s1_1)),(11,(vi s1_2)),(12,(vi s3))]) (fun (s3:Int) (_:Unit) w'=>Cx w0 fp0 S0 w' [E (List (List Int)) s1_0 g1]) s1_1 () f19 r6_ (H.sel [0] rfl) ?_
 rintro T4 s3 _ w8 o2 (H:Cx w0 fp0 S0 w8 [E (List (List Int)) s1_0 g1]) hrt f21
 refine sq ?_
 obtain ⟨r5,f22,f23⟩:=aA f21
 refine cut (fun (q4:Bool)=>[(0,(vi p_)),(1,(vi size_)),(7,(g1).v),(10,(vi s1_1)),(11,(vi s1_2)),(12,(vi s3)),(56,(.bool q4))]) (fun (q4:Bool) w'=>q4=r5∧Cx w0 fp0 S0 w' [E (List (List Int)) s1_0 g1]) ?_ ?_
 refine nA (H.ro (α:=List (List Int)) 0 rfl).len ?_
 refine boolB_ f22 (fun f25=>?_) fun f26=>?_
 exact ⟨false,r7_,oi_ f25,H.sel [0] rfl⟩
 obtain ⟨a5,e,f27⟩:=aA f26
 replace H:=H.toEH (α:=List Int)
 have HH:=H;obtain ⟨p1,m1,h4,c4,c5,c6,c7,H⟩:=HH.peekL e
 refine dA c4 c5 c6 ?_
 refine bA c7 ?_
 obtain ⟨a6,e,f28⟩:=aA f27
 obtain ⟨p2,m2,c8,c9,c10,c11⟩:=(H.rh (α:=List Int) 0 rfl 0 rfl).at1 e
 refine dA c8 c9 c10 ?_
 refine bA c11 ?_
 obtain ⟨a7,e,f29⟩:=aA f28
 refine tB e ?_
 replace H:=H.ofEH
 exact ⟨a7,r7_,oi_ f29,H.sel [0] rfl⟩
 rintro T5 s4 w9 ⟨hr,H⟩;try dsimp only at H
 subst hr
 cases s4
 have f30:=fB f23
 obtain rfl:=oi_ f30
 have f31:some _=some _:=congrArg some (hrt _ rfl).symm
 exact ⟨s3,r6_,oi_ f31,H.sel [0] rfl⟩
 have f32:=eB f23
 obtain ⟨a8,e,f33⟩:=aA f32
 refine arO e ?_
 obtain rfl:=oi_ f33
 exact ⟨a8,(),rfl,r6_,H.sel [0] rfl⟩
 rintro T6 s5 w10 ⟨hr,H⟩;try dsimp only at H
 subst hr
 refine sq ?_
 refine nA (H.ro (α:=List (List Int)) 0 rfl).len ?_
 refine boolB_ f20 (fun f35=>?_) fun f80=>?_
 obtain ⟨a10,e,f36⟩:=aA f35
 replace H:=H.toEH (α:=List Int)
 have HH:=H;obtain ⟨p3,m3,h5,c12,c13,c14,c15,H⟩:=HH.peekL e
 refine dA c12 c13 c14 ?_
 refine bA c15 ?_
 obtain ⟨a11,e,f37⟩:=aA f36
 have HH:=H;obtain ⟨p4,m4,h6,c16,c17,c18,c19,H⟩:=HH.peekL e
 refine dA c16 c17 c18 ?_
 refine bA c19 ?_
 refine dA c12 c13 c14 ?_
 refine stZ1 (ki:=1) (kj:=0) H rfl rfl c12 ?_;intro w11 H
 refine dA c16 c17 c18 ?_
 obtain ⟨a12,e,f38⟩:=aA f37
 refine stZ2 H c13 c17 c16 e ?_;intro w12 H
 obtain ⟨a13,e,f39⟩:=aA f38
 replace H:=H.toEH (α:=List Int)
 have HH:=H;obtain ⟨p5,m5,h7,c20,c21,c22,c23,H⟩:=HH.peekL e
 refine dA c20 c21 c22 ?_
 refine bA c23 ?_
 obtain ⟨a14,e,f40⟩:=aA f39
 obtain ⟨p6,m6,c24,c25,c26,c27⟩:=(H.rh (α:=List Int) 0 rfl 0 rfl).at1 e
 refine dA c24 c25 c26 ?_
 refine bA c27 ?_
 obtain ⟨y1,i1,f41⟩:=aA f40
 refine callF0_ (G4_ i1) H trivial ?_
 rintro _ _ w13 ⟨rfl,rfl⟩ H
 refine sq ?_
 obtain ⟨a15,e,f42⟩:=aA f41
 have HH:=H;obtain ⟨p7,m7,h8,c28,c29,c30,c31,H⟩:=HH.peekL e
 refine dA c28 c29 c30 ?_
 refine bA c31 ?_
 have x1:=(H.rh (α:=List Int) 0 rfl 0 rfl).max
 refine nA (H.rh (α:=List Int) 0 rfl 0 rfl).len ?_
 replace H:=H.ofEH
 obtain ⟨r6,e,f43⟩:=aA f42
 refine nB _ a15.length (fun (k0:Nat) (s6:List (List Int)) (_:Unit)=>[(0,(vi p_)),(1,(vi size_)),(7,(g1).v),(10,(vi s1_1)),(11,(vi s1_2)),(14,(vi y1)),(91,(vi ((a15.length:Nat):Int))),(92,(vi ((k0:Nat):Int)))]) (fun _ (s6:List (List Int)) (_:Unit) w'=>Cx w0 fp0 S0 w' [E (List (List Int)) s6 g1]) a12 () e r8_ (H.sel [0] rfl) ?_ ?_
 rintro T7 k0 s6 _ w14 o3 hk (H:Cx w0 fp0 S0 w14 [E (List (List Int)) s6 g1]) f44
 refine jA (z:=true) (cB hk) ?_
 refine sq (sq ?_)
 refine kB H [16] (.fst 0 (.fst 1 (.fst 2 (.fst 4 (.fst 5 (.fst 6 (.fst 7 (.fst 8 (.fst 10 (.fst 13 (.fst 3 (.fst 9 (.fst 11 (.fst 12 (.act 14 (.fst 15 (.act 16 .done))))))))))))))))) bB [] trivial (by kernel_rfl) ?_
 intro w15 H
 have hX:Ext w15 w15:=Upd.refl _ _
 obtain ⟨a16,e,f45⟩:=aA f44
 replace H:=H.toEH (α:=List Int)
 have HH:=H;obtain ⟨p8,m8,h9,c32,c33,c34,c35,H⟩:=HH.peekL e
 refine dA c32 c33 c34 ?_
 obtain ⟨a17,e,f46⟩:=aA f45
 have HH:=H;obtain ⟨p9,m9,h10,c36,c37,c38,c39,H⟩:=HH.peekL e
 refine dA c36 c37 c38 ?_
 refine gA c35 ?_
 refine gA c39 ?_
 obtain ⟨a18,e,f47⟩:=aA f46
 obtain ⟨p10,m10,c40,c41,c42,c43⟩:=(H.rh (α:=List Int) 0 rfl 0 rfl).at1 e
 refine dA c40 c41 c42 ?_
 refine gA c43 ?_
 obtain ⟨y2,i2,f48⟩:=aA f47
 refine eA (CJ_ i2) H trivial ?_
 rintro _ _ w16 ⟨rfl,rfl⟩ hx H
 refine hold_ hX hx fun hX=>?_
 replace H:=H.takeK 1 rfl
 obtain ⟨a19,i3,f49⟩:=aA f48
 obtain ⟨p11,m11,c44,c45,c46⟩:=(H.ro (α:=List Int) 0 rfl).setp i3
 refine dA c44 c45 c46 ?_
 refine wC (α:=Int) H c44 c45 i3 ?_;intro w17 H
 obtain ⟨a20,e,f50⟩:=aA f49
 replace H:=H.put c33 e
 refine hold trivial ?_
 refine arK hk x1 ?_
 obtain rfl:=oi_ f50
 exact ⟨(),r8_,H.sel [0] rfl⟩
 rintro T8 _ w18 H;try dsimp only at H
 refine jA (z:=false) dB ?_
 refine sq (sq ?_)
 refine nA (H.ro (α:=List (List Int)) 0 rfl).len ?_
 have x2:=(H.ro (α:=List (List Int)) 0 rfl).max
 obtain ⟨r7,e,f51⟩:=aA f43
 refine nB _ r6.length (fun (k1:Nat) (s7:List (List Int)) (_:Unit)=>[(0,(vi p_)),(1,(vi size_)),(7,(g1).v),(10,(vi s1_1)),(11,(vi s1_2)),(113,(vi ((r6.length:Nat):Int))),(114,(vi ((k1:Nat):Int)))]) (fun _ (s7:List (List Int)) (_:Unit) w'=>Cx w0 fp0 S0 w' [E (List (List Int)) s7 g1]) r6 () e r7_ (H.sel [0] rfl) ?_ ?_
 rintro T9 k1 s7 _ w19 o4 hk (H:Cx w0 fp0 S0 w19 [E (List (List Int)) s7 g1]) f52
 refine jA (z:=true) (cB hk) ?_
 refine sq ?_
 obtain ⟨r8,f53,f54⟩:=aA f52
 refine cut (fun (q5:List (List Int))=>[(0,(vi p_)),(1,(vi size_)),(7,(g1).v),(10,(vi s1_1)),(11,(vi s1_2)),(113,(vi ((r6.length:Nat):Int))),(114,(vi ((k1:Nat):Int)))]) (fun (q5:List (List Int)) w'=>q5=r8∧Cx w0 fp0 S0 w' [E (List (List Int)) q5 g1]) ?_ ?_
 refine sq ?_
 obtain ⟨r9,f55,f56⟩:=aA f53
 refine cut (fun (q6:Bool)=>[(0,(vi p_)),(1,(vi size_)),(7,(g1).v),(10,(vi s1_1)),(11,(vi s1_2)),(16,(vi ((k1:Nat):Int))),(113,(vi ((r6.length:Nat):Int))),(114,(vi ((k1:Nat):Int))),(129,(.bool q6))]) (fun (q6:Bool) w'=>q6=r9∧Cx w0 fp0 S0 w' [E (List (List Int)) s7 g1]) ?_ ?_
 refine boolB_ f55 (fun f58=>?_) fun f62=>?_
 obtain ⟨a22,e,f59⟩:=aA f58
 replace H:=H.toEH (α:=List Int)
 have HH:=H;obtain ⟨p12,m12,h11,c47,c48,c49,c50,H⟩:=HH.peekL e
 refine dA c47 c48 c49 ?_
 refine bA c50 ?_
 obtain ⟨a23,e,f60⟩:=aA f59
 obtain ⟨p13,m13,c51,c52,c53,c54⟩:=(H.rh (α:=List Int) 0 rfl 0 rfl).at1 e
 refine dA c51 c52 c53 ?_
 refine bA c54 ?_
 obtain ⟨a24,e,f61⟩:=aA f60
 refine tB e ?_
 replace H:=H.ofEH
 exact ⟨a24,r9_,oi_ f61,H.sel [0] rfl⟩
 exact ⟨true,r9_,oi_ f62,H.sel [0] rfl⟩
 rintro T10 s8 w20 ⟨hr,H⟩;try dsimp only at H
 subst hr
 cases s8
 have f63:=fB f56
 obtain ⟨a25,e,f64⟩:=aA f63
 replace H:=H.toEH (α:=List Int)
 have HH:=H;obtain ⟨p14,m14,h12,c55,c56,c57,c58,H⟩:=HH.peekL e
 refine dA c55 c56 c57 ?_
 refine bA c58 ?_
 obtain ⟨a26,e,f65⟩:=aA f64
 obtain ⟨p15,m15,c59,c60,c61,c62⟩:=(H.rh (α:=List Int) 0 rfl 0 rfl).at1 e
 refine dA c59 c60 c61 ?_
 refine bA c62 ?_
 replace H:=H.ofEH
 obtain ⟨a27,e,f66⟩:=aA f65
 replace H:=H.toEH (α:=List Int)
 have HH:=H;obtain ⟨p16,m16,h13,c63,c64,c65,c70,H⟩:=HH.peekL e
 refine dA c63 c64 c65 ?_
 refine bA c70 ?_
 have x3:=(H.rh (α:=List Int) 0 rfl 0 rfl).max
 refine nA (H.rh (α:=List Int) 0 rfl 0 rfl).len ?_
 replace H:=H.ofEH
 obtain ⟨r10,e,f67⟩:=aA f66
 refine nB _ a27.length (fun (k3:Nat) (s9:List (List Int)) (_:Unit)=>[(0,(vi p_)),(1,(vi size_)),(7,(g1).v),(10,(vi s1_1)),(11,(vi s1_2)),(16,(vi ((k1:Nat):Int))),(17,(vi a26)),(113,(vi ((r6.length:Nat):Int))),(114,(vi ((k1:Nat):Int))),(141,(vi ((a27.length:Nat):Int))),(142,(vi ((k3:Nat):Int)))]) (fun _ (s9:List (List Int)) (_:Unit) w'=>Cx w0 fp0 S0 w' [E (List (List Int)) s9 g1]) s7 () e r11_ (H.sel [0] rfl) ?_ ?_
 rintro T11 k3 s9 _ w21 o5 hk (H:Cx w0 fp0 S0 w21 [E (List (List Int)) s9 g1]) f68
 refine jA (z:=true) (cB hk) ?_
 refine sq (sq ?_)
 refine kB H [25] (.fst 0 (.fst 1 (.fst 2 (.fst 4 (.fst 5 (.fst 6 (.fst 7 (.fst 8 (.fst 10 (.fst 13 (.fst 14 (.fst 15 (.fst 16 (.fst 17 (.fst 19 (.fst 3 (.fst 9 (.fst 11 (.fst 12 (.fst 18 (.fst 20 (.fst 21 (.act 22 (.act 23 (.fst 24 (.act 25 .done)))))))))))))))))))))))))) bB [] trivial (by kernel_rfl) ?_
 intro w22 H
 have hX:Ext w22 w22:=Upd.refl _ _
 obtain ⟨a28,e,f69⟩:=aA f68
 replace H:=H.toEH (α:=List Int)
 have HH:=H;obtain ⟨p17,m17,h14,c71,c72,c73,c74,H⟩:=HH.peekL e
 refine dA c71 c72 c73 ?_
 obtain ⟨a29,e,f70⟩:=aA f69
 have HH:=H;obtain ⟨p18,m18,h15,c75,c76,c77,c78,H⟩:=HH.peekL e
 refine dA c75 c76 c77 ?_
 obtain ⟨a30,e,f71⟩:=aA f70
 have HH:=H;obtain ⟨p19,m19,h16,c79,c80,c81,c82,H⟩:=HH.peekL e
 refine dA c79 c80 c81 ?_
 refine gA c74 ?_
 refine gA c78 ?_
 obtain ⟨a31,e,f72⟩:=aA f71
 obtain ⟨p20,m20,c83,c84,c85,c86⟩:=(H.rh (α:=List Int) 0 rfl 1 rfl).at1 e
 refine dA c83 c84 c85 ?_
 refine gA c86 ?_
 refine gA c82 ?_
 obtain ⟨a32,e,f73⟩:=aA f72
 obtain ⟨p21,m21,c87,c88,c89,c90⟩:=(H.rh (α:=List Int) 0 rfl 0 rfl).at1 e
 refine dA c87 c88 c89 ?_
 refine gA c90 ?_
 obtain ⟨y3,i4,f74⟩:=aA f73
 refine eA (CJ_ i4) H trivial ?_
 rintro _ _ w23 ⟨rfl,rfl⟩ hx H
 refine hold_ hX hx fun hX=>?_
 obtain ⟨y4,i5,f75⟩:=aA f74
 refine eA (G3_ i5) H trivial ?_
 rintro _ _ w24 ⟨rfl,rfl⟩ hx H
 refine hold_ hX hx fun hX=>?_
 replace H:=H.takeK 2 rfl
 obtain ⟨a33,i6,f76⟩:=aA f75
 obtain ⟨p22,m22,c91,c92,c93⟩:=(H.ro (α:=List Int) 0 rfl).setp i6
 refine dA c91 c92 c93 ?_
 refine wC (α:=Int) H c91 c92 i6 ?_;intro w25 H
 obtain ⟨a34,e,f77⟩:=aA f76
 replace H:=H.put c72 e
 refine hold trivial ?_
 refine arK hk x3 ?_
 obtain rfl:=oi_ f77
 exact ⟨(),r11_,H.sel [0] rfl⟩
 rintro T12 _ w26 H;try dsimp only at H
 refine jA (z:=false) dB ?_
 refine sq ?_
 exact ⟨r10,r7_,oi_ f67,H.sel [0] rfl⟩
 have f78:=eB f56
 exact ⟨s7,r7_,oi_ f78,H.sel [0] rfl⟩
 rintro T13 s10 w27 ⟨hr,H⟩;try dsimp only at H
 subst hr
 refine arK hk x2 ?_
 obtain rfl:=oi_ f54
 exact ⟨(),r7_,H.sel [0] rfl⟩
 rintro T14 _ w28 H;try dsimp only at H
 refine jA (z:=false) dB ?_
 refine sq ?_
 obtain ⟨a35,e,f79⟩:=aA f51
 refine arO e ?_
 exact ⟨(r7,a35),r5_,oi_ f79,H.sel [0] rfl⟩
 exact ⟨(s1_0,s1_1),r5_,oi_ f80,H.sel [0] rfl⟩
 rintro T15 ⟨s11_0,s11_1⟩ w29 ⟨hr,H⟩;try dsimp only at H
 subst hr
 obtain ⟨a36,e,f81⟩:=aA f18
 refine arO e ?_
 obtain rfl:=oi_ f81
 exact ⟨(s11_0,s11_1,a36),(),rfl,r5_,H.sel [0] rfl⟩
 rintro T16 ⟨s12_0,s12_1⟩ w30 ⟨hr,H⟩;try dsimp only at H
 subst hr
 obtain ⟨a37,e,f82⟩:=aA f6
 refine slO (α:=List Int) gok rfl rfl H e rfl rfl ?_;intro h17 H
 cases f82
 exact ⟨_,_,rfl,⟨h17,rfl,rfl⟩,(H.sel [0] rfl).close ⟨cloE,trivial⟩⟩
theorem oZ {v_:List Int}{v_h:Hd}{y:Int} (hF:aQ v_=some y) :
  kA Tryz.prog 73 #[(v_h).v] [Es (List Int) v_ v_h] [] (fun v Γ'=>v=(vi y)∧Γ'=[]):=by
 intro w0 S0 fp0 hI hS
 have H:Cx w0 fp0 S0 w0 [Es (List Int) v_ v_h]:=Cx.start hI hS
 refine iA (args:=[_]) gok Tryz.func73 rfl _ rfl rfl rfl ?_
 obtain ⟨r0,f0,f1⟩:=aA hF
 refine cut (fun (q0:Int)=>[(3,(vi q0))]) (fun (q0:Int) w'=>q0=r0∧Cx w0 fp0 S0 w' []) ?_ ?_
 refine oE _ (fun (s0:Int) (_:Unit)=>[(0,(v_h).v),(3,(vi s0))]) (fun (s0:Int) (_:Unit) w'=>Cx w0 fp0 S0 w' [Es (List Int) v_ v_h]) 0 () f0 ⟨rfl,rfl,trivial⟩ (H.sel [0] rfl) ?_
 rintro T0 s0 _ w1 o0 (H:Cx w0 fp0 S0 w1 [Es (List Int) v_ v_h]) hrt f2
 refine sq ?_
 obtain ⟨r1,f3,f4⟩:=aA f2
 refine cut (fun (q1:Bool)=>[(0,(v_h).v),(3,(vi s0)),(14,(.bool q1))]) (fun (q1:Bool) w'=>q1=r1∧Cx w0 fp0 S0 w' [Es (List Int) v_ v_h]) ?_ ?_
 refine nA (H.rs (α:=List Int) 0 rfl).len ?_
 refine boolB_ f3 (fun f6=>?_) fun f7=>?_
 exact ⟨false,r3_,oi_ f6,H.sel [0] rfl⟩
 obtain ⟨a1,e,f8⟩:=aA f7
 obtain ⟨p0,m0,c0,c1,c2,c3⟩:=(H.rs (α:=List Int) 0 rfl).at1 e
 refine dA c0 c1 c2 ?_
 refine bA c3 ?_
 obtain ⟨a2,e,f9⟩:=aA f8
 refine tB e ?_
 exact ⟨a2,r3_,oi_ f9,H.sel [0] rfl⟩
 rintro T1 s1 w2 ⟨hr,H⟩;try dsimp only at H
 subst hr
 cases s1
 have f10:=fB f4
 obtain rfl:=oi_ f10
 have f11:some _=some _:=congrArg some (hrt _ rfl).symm
 exact ⟨s0,⟨rfl,trivial⟩,oi_ f11,H.sel [] rfl⟩
 have f12:=eB f4
 obtain ⟨a3,e,f13⟩:=aA f12
 refine arO e ?_
 obtain rfl:=oi_ f13
 exact ⟨a3,(),rfl,⟨rfl,rfl,trivial⟩,H.sel [0] rfl⟩
 rintro T2 s2 w3 ⟨hr,H⟩;try dsimp only at H
 subst hr
 cases f1
 exact ⟨_,_,rfl,⟨rfl,rfl⟩,(H.sel [] rfl).close trivial⟩
theorem Cv_ {p_ size_:Int}{rows_:List (List Int)}{rows_h:Hd}{y:List (List Int)} (hF:vT p_ size_ rows_=some y) :
  kA Tryz.prog 81 #[(vi p_),(vi size_),(rows_h).v] [Es (List (List Int)) rows_ rows_h] [] (fun v Γ'=>∃ z0:Hd,v=(z0).v∧Γ'=[E (List (List Int)) y z0]):=by
 intro w0 S0 fp0 hI hS
 have H:=Cx.start hI hS;dsimp at H
 refine iA (args:=[_,_,_]) gok Tryz.func81 rfl _ rfl rfl rfl ?_
 obtain ⟨y2,ey2,hF3⟩:=aA hF
 refine callF0_ (sY ey2) H ⟨Vw.sh 0 rfl,trivial⟩ ?_
 rintro _ _ w4 ⟨h5,rfl,rfl⟩ H
 obtain ⟨a7,e,hF8⟩:=aA hF3
 refine nE (α:=Int) gok rfl rfl rfl rfl (xE e) H ?_;intro h0 w9 hx H
 refine sq ?_
 refine nA (H.ro (α:=List Int) 0 rfl).len ?_
 have x0:=(H.ro (α:=List Int) 0 rfl).max
 obtain ⟨r0,e,f0⟩:=aA hF8
 refine nB _ a7.length (fun (k0:Nat) (s0:List Int) (_:Unit)=>[(0,(vi p_)),(1,(vi size_)),(7,(h5).v),(8,(h0).v),(24,(vi ((a7.length:Nat):Int))),(25,(vi ((k0:Nat):Int)))]) (fun _ (s0:List Int) (_:Unit) w'=>Cx w0 fp0 S0 w' [E (List (List Int)) y2 h5,E (List Int) s0 h0]) a7 () e r6_ (H.sel [1,0] rfl) ?_ ?_
 rintro T0 k0 s0 _ w1 o0 hk (H:Cx w0 fp0 S0 w1 [E (List (List Int)) y2 h5,E (List Int) s0 h0]) f1
 refine jA (z:=true) (cB hk) ?_
 refine sq (sq ?_)
 obtain ⟨a0,i0,f2⟩:=aA f1
 obtain ⟨p0,m0,c0,c1,c2⟩:=(H.ro (α:=List Int) 1 rfl).setp i0
 refine dA c0 c1 c2 ?_
 replace H:=H.sel [1,0] rfl
 refine wC (α:=Int) H c0 c1 i0 ?_;intro w2 H
 refine arK hk x0 ?_
 obtain rfl:=oi_ f2
 exact ⟨(),r6_,H.sel [1,0] rfl⟩
 rintro T1 _ w3 H;try dsimp only at H
 refine jA (z:=false) dB ?_
 refine sq (sq ?_)
 refine nA (H.ro (α:=List (List Int)) 0 rfl).len ?_
 replace H:=H.frz
 have x1:=(H.rs (α:=List (List Int)) 0 rfl).max
 obtain ⟨r1,e,f3⟩:=aA f0
 refine nB _ y2.length (fun (k1:Nat) (s1:List Int) (_:Unit)=>[(0,(vi p_)),(1,(vi size_)),(7,(h5).v),(8,(h0).v),(32,(h5).v),(33,(vi ((y2.length:Nat):Int))),(34,(vi ((k1:Nat):Int)))]) (fun _ (s1:List Int) (_:Unit) w'=>Cx w0 fp0 S0 w' [Es (List (List Int)) y2 h5,E (List Int) s1 h0]) r0 () e r7_ (H.sel [0,1] rfl) ?_ ?_
 rintro T2 k1 s1 _ w5 o1 hk (H:Cx w0 fp0 S0 w5 [Es (List (List Int)) y2 h5,E (List Int) s1 h0]) f4
 refine jA (z:=true) (cB hk) ?_
 refine sq (sq ?_)
 obtain ⟨a1,e,f5⟩:=aA f4
 have HH:=H;obtain ⟨p1,m1,h1,c3,c4,c5,c6,H⟩:=HH.elL 0 rfl e
 refine dA c3 c4 c5 ?_
 refine bA c6 ?_
 obtain ⟨y0,i1,f6⟩:=aA f5
 refine callF0_ (oZ i1) H ⟨Vw.sh 0 rfl,trivial⟩ ?_
 rintro _ _ w6 ⟨rfl,rfl⟩ H
 obtain ⟨a2,i2,f7⟩:=aA f6
 obtain ⟨p2,m2,c7,c8,c9⟩:=(H.ro (α:=List Int) 2 rfl).setp i2
 refine dA c7 c8 c9 ?_
 replace H:=H.sel [2,0,1] rfl
 refine wC (α:=Int) H c7 c8 i2 ?_;intro w7 H
 refine arK hk x1 ?_
 obtain rfl:=oi_ f7
 exact ⟨(),r7_,H.sel [2,0] rfl⟩
 rintro T3 _ w8 H;try dsimp only at H
 refine jA (z:=false) dB ?_
 refine sq ?_
 obtain ⟨r2,f8,f9⟩:=aA f3
 refine cut (fun (q0:List (List Int)×Hd)=>[(0,(vi p_)),(1,(vi size_)),(12,(q0.2).v)]) (fun (q0:List (List Int)×Hd) w'=>q0.1=r2∧Cx w0 fp0 S0 w' [E (List (List Int)) q0.1 q0.2]) ?_ ?_
 replace H:=H.nil (α:=List Int)
 refine oE _ (fun (s2:List (List Int)×Int) (g0:Hd)=>[(0,(vi p_)),(1,(vi size_)),(7,(h5).v),(8,(h0).v),(12,(g0).v),(13,(vi s2.2))]) (fun (s2:List (List Int)×Int) (g0:Hd) w'=>Cx w0 fp0 S0 w' [Es (List (List Int)) y2 h5,E (List Int) r1 h0,E (List (List Int)) s2.1 g0]) ([],0) nilH f8 r6_ (H.sel [1,2,0] rfl) ?_
 rintro T4 ⟨s2_0,s2_1⟩ g0 w10 o2 (H:Cx w0 fp0 S0 w10 [Es (List (List Int)) y2 h5,E (List Int) r1 h0,E (List (List Int)) s2_0 g0]) hrt f10
 refine sq ?_
 refine boolB_ f10 (fun f12=>?_) fun f14=>?_
 obtain rfl:=oi_ f12
 have f13:some _=some _:=congrArg some (hrt _ rfl).symm
 exact ⟨(s2_0,g0),r3_,oi_ f13,H.sel [2] rfl⟩
 obtain ⟨r3,f15,f16⟩:=aA f14
 refine cut (fun (q1:List (List Int)×Hd)=>[(0,(vi p_)),(1,(vi size_)),(7,(h5).v),(8,(h0).v),(12,(q1.2).v),(13,(vi s2_1))]) (fun (q1:List (List Int)×Hd) w'=>q1.1=r3∧Cx w0 fp0 S0 w' [Es (List (List Int)) y2 h5,E (List Int) r1 h0,E (List (List Int)) q1.1 q1.2]) ?_ ?_
 refine sq ?_
 obtain ⟨a4,e,f17⟩:=aA f15
 obtain ⟨p3,m3,c10,c11,c12,c13⟩:=(H.ro (α:=List Int) 1 rfl).at1 e
 refine dA c10 c11 c12 ?_
 refine bA c13 ?_
 refine boolB_ f17 (fun f19=>?_) fun f31=>?_
 obtain ⟨a6,e,f20⟩:=aA f19
 refine nE (α:=Int) gok rfl rfl rfl rfl (xE e) H ?_;intro h2 w11 hx H
 obtain ⟨a8,i3,f21⟩:=aA f20
 obtain ⟨p4,m4,c14,c15,c16⟩:=(H.ro (α:=List Int) 0 rfl).setp i3
 refine dA c14 c15 c16 ?_
 refine wC (α:=Int) H c14 c15 i3 ?_;intro w12 H
 refine sq ?_
 refine nA (H.rs (α:=List (List Int)) 1 rfl).len ?_
 have x2:=(H.rs (α:=List (List Int)) 1 rfl).max
 obtain ⟨r4,e,f22⟩:=aA f21
 refine nB _ y2.length (fun (k2:Nat) (s3:List Int) (_:Unit)=>[(0,(vi p_)),(1,(vi size_)),(7,(h5).v),(8,(h0).v),(12,(g0).v),(13,(vi s2_1)),(14,(h2).v),(60,(h5).v),(61,(vi ((y2.length:Nat):Int))),(62,(vi ((k2:Nat):Int)))]) (fun _ (s3:List Int) (_:Unit) w'=>Cx w0 fp0 S0 w' [Es (List (List Int)) y2 h5,E (List Int) r1 h0,E (List (List Int)) s2_0 g0,E (List Int) s3 h2]) a8 () e r10_ (H.sel [1,2,3,0] rfl) ?_ ?_
 rintro T5 k2 s3 _ w13 o3 hk (H:Cx w0 fp0 S0 w13 [Es (List (List Int)) y2 h5,E (List Int) r1 h0,E (List (List Int)) s2_0 g0,E (List Int) s3 h2]) f23
 refine jA (z:=true) (cB hk) ?_
 refine sq (sq ?_)
 obtain ⟨a9,e,f24⟩:=aA f23
 have HH:=H;obtain ⟨p5,m5,h3,c17,c18,c19,c20,H⟩:=HH.elL 0 rfl e
 refine dA c17 c18 c19 ?_
 refine bA c20 ?_
 refine kB H [13] (.fst 0 (.fst 1 (.fst 2 (.fst 3 (.fst 6 (.fst 7 (.fst 8 (.fst 9 (.fst 4 (.fst 10 (.act 5 (.act 11 (.fst 12 (.act 13 .done)))))))))))))) bB [] trivial (by kernel_rfl) ?_
 intro w14 H
 have hX:Ext w14 w14:=Upd.refl _ _
 obtain ⟨a10,e,f25⟩:=aA f24
 have HH:=H;obtain ⟨p6,m6,h4,c21,c22,c23,c24,H⟩:=HH.elL 1 rfl e
 refine dA c21 c22 c23 ?_
 obtain ⟨a11,e,f26⟩:=aA f25
 obtain ⟨p7,m7,c25,c26,c27,c28⟩:=(H.rs (α:=List Int) 1 rfl).at1 e
 refine dA c25 c26 c27 ?_
 refine gA c24 ?_
 refine gA c28 ?_
 obtain ⟨y1,i4,f27⟩:=aA f26
 refine eA (oZ i4) H ⟨Vw.sh 0 rfl,trivial⟩ ?_
 rintro _ _ w15 ⟨rfl,rfl⟩ hx H
 refine hold_ hX hx fun hX=>?_
 obtain ⟨y3,i5,f28⟩:=aA f27
 refine eA (iU i5) H trivial ?_
 rintro _ _ w16 ⟨rfl,rfl⟩ hx H
 refine hold_ hX hx fun hX=>?_
 obtain ⟨a12,i6,f29⟩:=aA f28
 obtain ⟨p8,m8,c29,c30,c31⟩:=(H.ro (α:=List Int) 5 rfl).setp i6
 refine dA c29 c30 c31 ?_
 replace H:=H.sel [5,0,1,2,3,4] rfl
 refine wC (α:=Int) H c29 c30 i6 ?_;intro w17 H
 refine hold trivial ?_
 refine arK hk x2 ?_
 obtain rfl:=oi_ f29
 exact ⟨(),r10_,H.sel [3,4,5,0] rfl⟩
 rintro T6 _ w18 H;try dsimp only at H
 refine jA (z:=false) dB ?_
 refine sq ?_
 replace H:=H.sel [3,0,1,2] rfl
 refine pC (α:=List Int) (g:=h2) gok rfl rfl rfl rfl rfl H ?_;intro h6 w19 hx H
 obtain ⟨a13,e,f30⟩:=aA f22
 refine append_ (α:=List Int) gok rfl rfl rfl rfl (H.sel [3,0,1,2] rfl) e ?_;intro h7 w20 H
 exact ⟨(a13,h7),r6_,oi_ f30,H.sel [1,2,0] rfl⟩
 exact ⟨(s2_0,g0),r6_,oi_ f31,H.sel [0,1,2] rfl⟩
 rintro T7 ⟨s4,g1⟩ w21 ⟨hr,H⟩;try dsimp only at H
 subst hr
 obtain ⟨a14,e,f32⟩:=aA f16
 refine arO e ?_
 obtain rfl:=oi_ f32
 exact ⟨(s4,a14),g1,rfl,r6_,H.sel [0,1,2] rfl⟩
 rintro T8 ⟨s5,g2⟩ w22 ⟨hr,H⟩;try dsimp only at H
 subst hr
 obtain ⟨y4,i7,f33⟩:=aA f9
 refine callF0_ (sY i7) H ⟨Vw.own 0 rfl,trivial⟩ ?_
 rintro _ _ w23 ⟨h8,rfl,rfl⟩ H
 cases f33
 exact ⟨_,_,rfl,⟨h8,rfl,rfl⟩,(H.sel [0] rfl).close ⟨cloE,trivial⟩⟩
theorem F2_ {p_ g__0:Int}{g__1:List Ty2}{g__1h:Hd}{g__2:List Int}{g__2h:Hd}{g__3:List Int}{g__3h:Hd}{y:List (List Int)} (hF:vY p_ (g__0,g__1,g__2,g__3)=some y) :
  kA Tryz.prog 109 #[(vi p_),(.agg #[(vi g__0),(g__1h).v,(g__2h).v,(g__3h).v])] [Es (List Ty2) g__1 g__1h,Es (List Int) g__2 g__2h,Es (List Int) g__3 g__3h] [] (fun v Γ'=>∃ z0:Hd,v=(z0).v∧Γ'=[E (List (List Int)) y z0]):=by
 intro w0 S0 fp0 hI hS
 have H:=Cx.start hI hS;dsimp at H
 refine iA (args:=[_,_]) gok Tryz.func109 rfl _ rfl rfl rfl ?_
 refine xA H ?_;intro b5 w4 hx H
 refine sq ?_
 refine fld gok rfl rfl rfl rfl (bA (H.bx 0 rfl (j:=1) rfl) ?_)
 refine nA (H.rs (α:=List Ty2) 1 rfl).len ?_
 have x0:=(H.rs (α:=List Ty2) 1 rfl).max
 obtain ⟨r0,e,f0⟩:=aA hF
 replace H:=H.nil (α:=List Int)
 refine nB _ g__1.length (fun (k7:Nat) (s0:List (List Int)) (g0:Hd)=>[(0,(vi p_)),(3,(vp b5)),(5,(g0).v),(9,(g__1h).v),(10,(vi ((g__1.length:Nat):Int))),(11,(vi ((k7:Nat):Int)))]) (fun _ (s0:List (List Int)) (g0:Hd) w'=>Cx w0 fp0 S0 w' [Bx b5 [(vi g__0),(g__1h).v,(g__2h).v,(g__3h).v],Es (List Ty2) g__1 g__1h,Es (List Int) g__2 g__2h,Es (List Int) g__3 g__3h,E (List (List Int)) s0 g0]) [] nilH e r6_ (H.sel [1,2,3,4,0] rfl) ?_ ?_
 rintro T0 k7 s0 g0 w1 o0 hk (H:Cx w0 fp0 S0 w1 [Bx b5 [(vi g__0),(g__1h).v,(g__2h).v,(g__3h).v],Es (List Ty2) g__1 g__1h,Es (List Int) g__2 g__2h,Es (List Int) g__3 g__3h,E (List (List Int)) s0 g0]) f1
 refine jA (z:=true) (cB hk) ?_
 refine sq (sq ?_)
 obtain ⟨a0,e,f2⟩:=aA f1
 have HH:=H;obtain ⟨p0,m0,g1,c0,c1,c2,c3,H⟩:=HH.el (α:=Ty2) 1 rfl e
 obtain ⟨a0_0,a0_1,a0_2,a0_3⟩:=a0
 obtain ⟨_,_,h0,h1⟩:=g1
 replace H:=H.part (β:=List Int) a0_2 (h0:Hd) 0 rfl (fun S h=>(And.left (And.right (And.right h))))
 replace H:=H.part (β:=List Int) a0_3 (h1:Hd) 1 rfl (fun S h=>(And.right (And.right (And.right h))))
 replace H:=H.sel [0,1,3,4,5,6,7] rfl
 refine dA c0 c1 c2 ?_
 refine cA [(vi a0_0),(vi a0_1),(h0).v,(h1).v] rfl c3 ?_
 refine sA gok rfl H ?_;intro b0 w2 hx H
 refine stA gok [(vi a0_0),(vi a0_1),(h0).v,(h1).v] rfl H rfl rfl rfl ?_;intro w3 H
 refine fld gok rfl rfl rfl rfl (bA (H.bx 3 rfl (j:=0) rfl) ?_)
 refine cA [(vi a0_0),(vi a0_1),(h0).v,(h1).v] rfl (H.bz_ 0 rfl) ?_
 obtain ⟨y0,i0,f3⟩:=aA f2
 refine callF0_ (GC_ i0) H ⟨Vw.sh 2 rfl,Vw.sh 1 rfl,trivial⟩ ?_
 rintro _ _ w5 ⟨h2,rfl,rfl⟩ H
 obtain ⟨a1,e,f4⟩:=aA f3
 refine append_ (α:=List Int) gok rfl rfl rfl rfl (H.sel [8,0,1,2,3,4,5,6,7] rfl) e ?_;intro h3 w6 H
 refine arK hk x0 ?_
 obtain rfl:=oi_ f4
 exact ⟨h3,r6_,H.sel [4,5,6,7,0] rfl⟩
 rintro T1 g2 w7 H;try dsimp only at H
 refine jA (z:=false) dB ?_
 refine sq ?_
 refine fld gok rfl rfl rfl rfl (bA (H.bx 0 rfl (j:=0) rfl) ?_)
 obtain ⟨y1,i1,f5⟩:=aA f0
 refine callF0_ (Cv_ i1) H ⟨Vw.own 4 rfl,trivial⟩ ?_
 rintro _ _ w8 ⟨h4,rfl,rfl⟩ H
 cases f5
 exact ⟨_,_,rfl,⟨h4,rfl,rfl⟩,(H.sel [0] rfl).close ⟨cloE,trivial⟩⟩
theorem An_ {p_ left_ right_:Int}{rows_:List (List Int)}{rows_h:Hd}{y_0 y_1:Int}{y_2:List (List Int)} (hF:rU p_ left_ right_ rows_=some (y_0,y_1,y_2)) :
  kA Tryz.prog 82 #[(vi p_),(vi left_),(vi right_),(rows_h).v] [Es (List (List Int)) rows_ rows_h] [] (fun v Γ'=>∃ z0:Hd,v=(.agg #[(vi y_0),(vi y_1),(z0).v])∧Γ'=[E (List (List Int)) y_2 z0]):=by
 intro w0 S0 fp0 hI hS
 have H:=Cx.start hI hS;dsimp at H
 refine iA (args:=[_,_,_,_]) gok Tryz.func82 rfl _ rfl rfl rfl ?_
 refine sA gok rfl H ?_;intro b3 w2 hx H
 obtain ⟨a5,e,hF6⟩:=aA hF
 refine arO e ?_
 obtain ⟨y7,ey7,hF8⟩:=aA hF6
 refine callF0_ (sY ey7) H ⟨Vw.sh 1 rfl,trivial⟩ ?_
 rintro _ _ w9 ⟨h0,rfl,rfl⟩ H
 refine pB (cs:=#[(vi left_),(vi right_),(h0).v]) gok rfl rfl rfl ?_
 refine stA gok [(vi left_),(vi right_),(h0).v] rfl (H.sel [1,0,2] rfl) rfl rfl rfl ?_;intro w1 H
 refine cA [(vi left_),(vi right_),(h0).v] rfl (H.bz_ 0 rfl) ?_
 cases hF8
 exact ⟨_,_,rfl,⟨h0,rfl,rfl⟩,(H.sel [1] rfl).close ⟨cloE,trivial⟩⟩
theorem Gg_ {p_ g__0:Int}{g__1:List Ty2}{g__1h:Hd}{g__2:List Int}{g__2h:Hd}{g__3:List Int}{g__3h:Hd}{y0_0 y0_1:Int}{y0_2:List (List Int)}{y1:Bool} (hF:eZ p_ (g__0,g__1,g__2,g__3)=some ((y0_0,y0_1,y0_2),y1)) :
  kA Tryz.prog 78 #[(vi p_),(.agg #[(vi g__0),(g__1h).v,(g__2h).v,(g__3h).v])] [Es (List Ty2) g__1 g__1h,Es (List Int) g__2 g__2h,Es (List Int) g__3 g__3h] [] (fun v Γ'=>∃ z0:Hd,v=(.tuple #[(.agg #[(vi y0_0),(vi y0_1),(z0).v]),(.bool y1)])∧Γ'=[E (List (List Int)) y0_2 z0]):=by
 intro w0 S0 fp0 hI hS
 have H:=Cx.start hI hS;dsimp at H
 refine iA (args:=[_,_]) gok Tryz.func78 rfl _ rfl rfl rfl ?_
 refine xA H ?_;intro b5 w4 hx H
 refine sA gok rfl H ?_;intro b8 w7 hx H
 refine sq ?_
 refine cA [(vi g__0),(g__1h).v,(g__2h).v,(g__3h).v] rfl (H.bz_ 1 rfl) ?_
 obtain ⟨y0,i0,f0⟩:=aA hF
 refine callF0_ (Gh_ i0) H ⟨Vw.sh 2 rfl,Vw.sh 3 rfl,Vw.sh 4 rfl,trivial⟩ ?_
 rintro _ _ w1 ⟨rfl,rfl⟩ H
 refine boolB_ f0 (fun f2=>?_) fun f12=>?_
 refine kB H [5,6] (.fst 0 (.fst 3 (.fst 1 (.fst 4 (.act 2 (.act 5 (.act 6 .done))))))) bB [] trivial (by kernel_rfl) ?_
 intro w2 H
 have hX:Ext w2 w2:=Upd.refl _ _
 refine oA (fun _=>fld gok rfl rfl rfl rfl ⟨rfl,rfl⟩) ?_
 refine oA (fun _=>fld gok rfl rfl rfl rfl ⟨rfl,rfl⟩) ?_
 refine gA (H.bx 1 rfl (j:=2) rfl) ?_
 refine gA (H.bx 1 rfl (j:=3) rfl) ?_
 obtain ⟨y2,i1,f3⟩:=aA f2
 refine eA (gM i1) H ⟨Vw.sh 3 rfl,trivial⟩ ?_
 rintro _ _ w3 ⟨h0,rfl,rfl⟩ hx H
 refine hold_ hX hx fun hX=>?_
 obtain ⟨a1,e,f4⟩:=aA f3
 refine xM (α:=Int) gok rfl rfl rfl rfl H (Vw.sh 4 rfl) e ?_;intro h1 w5 H
 refine hold trivial ?_
 refine hold trivial ?_
 refine sq ?_
 refine cA [(vi g__0),(g__1h).v,(g__2h).v,(g__3h).v] rfl (H.bz_ 2 rfl) ?_
 obtain ⟨y3,i2,f5⟩:=aA f4
 refine callF0_ (F2_ i2) H ⟨Vw.sh 3 rfl,Vw.sh 4 rfl,Vw.sh 5 rfl,trivial⟩ ?_
 rintro _ _ w6 ⟨h2,rfl,rfl⟩ H
 refine nA (H.ro (α:=List (List Int)) 0 rfl).len ?_
 replace H:=H.frz
 have x0:=(H.rs (α:=List (List Int)) 0 rfl).max
 obtain ⟨r0,e,f6⟩:=aA f5
 replace H:=H.nil (α:=List Int)
 refine nB _ y3.length (fun (k0:Nat) (s0:List (List Int)) (g0:Hd)=>[(0,(vi p_)),(3,(vp b5)),(4,(vp b8)),(6,(h1).v),(7,(g0).v),(23,(h2).v),(24,(vi ((y3.length:Nat):Int))),(25,(vi ((k0:Nat):Int)))]) (fun _ (s0:List (List Int)) (g0:Hd) w'=>Cx w0 fp0 S0 w' [Bx b5 [(vi g__0),(g__1h).v,(g__2h).v,(g__3h).v],Es (List Ty2) g__1 g__1h,Es (List Int) g__2 g__2h,Es (List Int) g__3 g__3h,Bx b8 [(vi 0),(vi 0),vn],E (List Int) a1 h1,E (List (List Int)) s0 g0,Es (List (List Int)) y3 h2]) [] nilH e r8_ (H.sel [4,5,6,7,3,2,0,1] rfl) ?_ ?_
 rintro T0 k0 s0 g0 w8 o0 hk (H:Cx w0 fp0 S0 w8 [Bx b5 [(vi g__0),(g__1h).v,(g__2h).v,(g__3h).v],Es (List Ty2) g__1 g__1h,Es (List Int) g__2 g__2h,Es (List Int) g__3 g__3h,Bx b8 [(vi 0),(vi 0),vn],E (List Int) a1 h1,E (List (List Int)) s0 g0,Es (List (List Int)) y3 h2]) f7
 refine jA (z:=true) (cB hk) ?_
 refine sq (sq ?_)
 obtain ⟨a2,e,f8⟩:=aA f7
 have HH:=H;obtain ⟨p0,m0,h3,c0,c1,c2,c3,H⟩:=HH.elL 7 rfl e
 refine dA c0 c1 c2 ?_
 refine bA c3 ?_
 obtain ⟨y4,i3,f9⟩:=aA f8
 refine callF0_ (wK i3) H ⟨Vw.own 6 rfl,Vw.sh 0 rfl,trivial⟩ ?_
 rintro _ _ w9 ⟨h4,rfl,rfl⟩ H
 refine pC (α:=List Int) (g:=h4) gok rfl rfl rfl rfl rfl H ?_;intro h5 w10 hx H
 obtain ⟨a3,e,f10⟩:=aA f9
 refine append_ (α:=List Int) gok rfl rfl rfl rfl (H.sel [8,0,1,2,3,4,5,6,7,9] rfl) e ?_;intro h6 w11 H
 refine arK hk x0 ?_
 obtain rfl:=oi_ f10
 exact ⟨h6,r8_,H.sel [2,3,4,5,6,7,0,8] rfl⟩
 rintro T1 g1 w13 H;try dsimp only at H
 refine jA (z:=false) dB ?_
 refine sq ?_
 refine fld gok rfl rfl rfl rfl (bA (H.bx 0 rfl (j:=2) rfl) ?_)
 refine nA (H.rs (α:=List Int) 2 rfl).len ?_
 refine fld gok rfl rfl rfl rfl (bA (H.bx 0 rfl (j:=3) rfl) ?_)
 refine nA (H.rs (α:=List Int) 3 rfl).len ?_
 obtain ⟨⟨y5_0,y5_1,y5_2⟩,i4,f11⟩:=aA f6
 refine gC (@An_ p_ ((g__2.length:Nat):Int) ((g__3.length:Nat):Int) r0 g1 y5_0 y5_1 y5_2 i4) (Γi:=[]) H ⟨Vw.own 6 rfl,trivial⟩ ?_
 rintro _ _ w14 ⟨h7,rfl,rfl⟩ H
 refine stA gok [(vi y5_0),(vi y5_1),(h7).v] rfl (H.sel [5,0,1,2,3,4,6,7,8] rfl) rfl rfl rfl ?_;intro w15 H
 refine cA [(vi y5_0),(vi y5_1),(h7).v] rfl (H.bz_ 0 rfl) ?_
 cases f11
 exact ⟨_,_,rfl,⟨h7,rfl,rfl⟩,(H.sel [1] rfl).close ⟨cloE,trivial⟩⟩
 refine pB (cs:=#[(vi 0),(vi 0),vn]) gok rfl rfl rfl ?_
 refine stA gok [(vi 0),(vi 0),vn] rfl H rfl rfl rfl ?_;intro w17 H
 refine cA [(vi 0),(vi 0),vn] rfl (H.bz_ 0 rfl) ?_
 replace H:=H.nil (α:=List Int)
 cases f12
 exact ⟨_,_,rfl,⟨nilH,rfl,rfl⟩,(H.sel [0] rfl).close ⟨cloE,trivial⟩⟩
theorem GD_ {p_ n__0 n__1:Int}{n__2:ByteArray}{y_0 y_1:Int}{y_2:List (List Int)} (hF:fM p_ (n__0,n__1,n__2)=some (y_0,y_1,y_2)) :
  kA Tryz.prog 64 #[(vi p_),(.agg #[(vi n__0),(vi n__1),(.string n__2)])] [] [] (fun v Γ'=>∃ z0:Hd,v=(.agg #[(vi y_0),(vi y_1),(z0).v])∧Γ'=[E (List (List Int)) y_2 z0]):=by
 intro w0 S0 fp0 hI hS
 have H:Cx w0 fp0 S0 w0 []:=Cx.start hI hS
 refine iA (args:=[_,_]) gok Tryz.func64 rfl _ rfl rfl rfl ?_
 refine xA H ?_;intro b2 w1 hx H
 refine sA gok rfl H ?_;intro b5 w4 hx H
 refine cA [(vi n__0),(vi n__1),(.string n__2)] rfl (H.bz_ 1 rfl) ?_
 obtain ⟨⟨y7_0,y7_1,y7_2,y7_3⟩,ey7,hF8⟩:=aA hF
 refine callF0_ (Cx_ ey7) H trivial ?_
 rintro _ _ w9 ⟨h0,h1,h2,rfl,rfl⟩ H
 obtain ⟨y0,e,f0⟩:=aA hF8
 obtain ⟨⟨y0_0_0,y0_0_1,y0_0_2⟩,y0_1⟩:=y0
 have i0:=e
 refine callF0_ (Gg_ i0) H ⟨Vw.own 0 rfl,Vw.own 1 rfl,Vw.own 2 rfl,trivial⟩ ?_
 rintro _ _ w2 ⟨h3,rfl,rfl⟩ H
 refine sA gok rfl H ?_;intro b0 w3 hx H
 refine stA gok [(vi y0_0_0),(vi y0_0_1),(h3).v] rfl H rfl rfl rfl ?_;intro w5 H
 refine cA [(vi y0_0_0),(vi y0_0_1),(h3).v] rfl (H.bz_ 0 rfl) ?_
 refine stA gok [(vi y0_0_0),(vi y0_0_1),(h3).v] rfl (H.sel [5,0,1,2,3,4,6] rfl) rfl rfl rfl ?_;intro w6 H
 refine cA [(vi y0_0_0),(vi y0_0_1),(h3).v] rfl (H.bz_ 0 rfl) ?_
 cases f0
 exact ⟨_,_,rfl,⟨h3,rfl,rfl⟩,(H.sel [2] rfl).close ⟨cloE,trivial⟩⟩
theorem Ag_ {p_ size_:Int}{rows_:List (List Int)}{rows_h:Hd}{coefs_:List Int}{coefs_h:Hd}{y:List Int} (hF:iM p_ size_ rows_ coefs_=some y) :
  kA Tryz.prog 55 #[(vi p_),(vi size_),(rows_h).v,(coefs_h).v] [Es (List (List Int)) rows_ rows_h,Es (List Int) coefs_ coefs_h] [] (fun v Γ'=>∃ z0:Hd,v=(z0).v∧Γ'=[E (List Int) y z0]):=by
 intro w0 S0 fp0 hI hS
 have H:=Cx.start hI hS;dsimp at H
 refine iA (args:=[_,_,_,_]) gok Tryz.func55 rfl _ rfl rfl rfl ?_
 obtain ⟨a3,e,hF4⟩:=aA hF
 refine nE (α:=Int) gok rfl rfl rfl rfl (xE e) H ?_;intro h6 w5 hx H
 refine sq ?_
 refine nA (H.rs (α:=List (List Int)) 1 rfl).len ?_
 have x0:=(H.rs (α:=List (List Int)) 1 rfl).max
 obtain ⟨r0,e,f0⟩:=aA hF4
 refine nB _ rows_.length (fun (k8:Nat) (s0:List Int) (_:Unit)=>[(0,(vi p_)),(3,(coefs_h).v),(9,(h6).v),(16,(rows_h).v),(17,(vi ((rows_.length:Nat):Int))),(18,(vi ((k8:Nat):Int)))]) (fun _ (s0:List Int) (_:Unit) w'=>Cx w0 fp0 S0 w' [Es (List Int) coefs_ coefs_h,E (List Int) s0 h6,Es (List (List Int)) rows_ rows_h]) a3 () e r6_ (H.sel [2,0,1] rfl) ?_ ?_
 rintro T0 k8 s0 _ w1 o0 hk (H:Cx w0 fp0 S0 w1 [Es (List Int) coefs_ coefs_h,E (List Int) s0 h6,Es (List (List Int)) rows_ rows_h]) f1
 refine jA (z:=true) (cB hk) ?_
 refine sq (sq ?_)
 obtain ⟨a0,e,f2⟩:=aA f1
 have HH:=H;obtain ⟨p0,m0,h0,c0,c1,c2,c3,H⟩:=HH.elL 2 rfl e
 refine dA c0 c1 c2 ?_
 refine bA c3 ?_
 refine nA (H.rs (α:=List Int) 0 rfl).len ?_
 have x1:=(H.rs (α:=List Int) 0 rfl).max
 obtain ⟨r1,e,f3⟩:=aA f2
 refine nB _ a0.length (fun (k0:Nat) (s1:List Int) (_:Unit)=>[(0,(vi p_)),(3,(coefs_h).v),(9,(h6).v),(10,(vi ((k8:Nat):Int))),(16,(rows_h).v),(17,(vi ((rows_.length:Nat):Int))),(18,(vi ((k8:Nat):Int))),(23,(h0).v),(24,(vi ((a0.length:Nat):Int))),(25,(vi ((k0:Nat):Int)))]) (fun _ (s1:List Int) (_:Unit) w'=>Cx w0 fp0 S0 w' [Es (List Int) coefs_ coefs_h,E (List Int) s1 h6,Es (List (List Int)) rows_ rows_h,Es (List Int) a0 h0]) s0 () e r10_ (H.sel [1,2,3,0] rfl) ?_ ?_
 rintro T1 k0 s1 _ w2 o1 hk (H:Cx w0 fp0 S0 w2 [Es (List Int) coefs_ coefs_h,E (List Int) s1 h6,Es (List (List Int)) rows_ rows_h,Es (List Int) a0 h0]) f4
 refine jA (z:=true) (cB hk) ?_
 refine sq (sq ?_)
 obtain ⟨a1,e,f5⟩:=aA f4
 obtain ⟨p1,m1,c4,c5,c6,c7⟩:=(H.rs (α:=List Int) 3 rfl).at1 e
 refine dA c4 c5 c6 ?_
 refine bA c7 ?_
 refine kB H [16] (.fst 0 (.fst 1 (.fst 2 (.fst 3 (.fst 4 (.fst 6 (.fst 7 (.fst 8 (.fst 10 (.fst 13 (.fst 5 (.fst 9 (.fst 11 (.fst 12 (.fst 14 (.fst 15 (.act 16 .done))))))))))))))))) bB [] trivial (by kernel_rfl) ?_
 intro w3 H
 have hX:Ext w3 w3:=Upd.refl _ _
 obtain ⟨a2,e,f6⟩:=aA f5
 obtain ⟨p2,m2,c8,c9,c10,c11⟩:=(H.ro (α:=List Int) 1 rfl).at1 e
 refine dA c8 c9 c10 ?_
 obtain ⟨a4,e,f7⟩:=aA f6
 obtain ⟨p3,m3,c12,c13,c14,c15⟩:=(H.rs (α:=List Int) 0 rfl).at1 e
 refine dA c12 c13 c14 ?_
 refine gA c11 ?_
 refine gA c15 ?_
 obtain ⟨a5,e,f8⟩:=aA f7
 refine arO e ?_
 obtain ⟨a6,e,f9⟩:=aA f8
 refine arO e ?_
 obtain ⟨a7,e,f10⟩:=aA f9
 refine aG e ?_
 obtain ⟨a8,i0,f11⟩:=aA f10
 obtain ⟨p4,m4,c16,c17,c18⟩:=(H.ro (α:=List Int) 1 rfl).setp i0
 refine dA c16 c17 c18 ?_
 replace H:=H.sel [1,0,2,3] rfl
 refine wC (α:=Int) H c16 c17 i0 ?_;intro w4 H
 refine hold trivial ?_
 refine arK hk x1 ?_
 obtain rfl:=oi_ f11
 exact ⟨(),r10_,H.sel [1,0,2,3] rfl⟩
 rintro T2 _ w6 H;try dsimp only at H
 refine jA (z:=false) dB ?_
 refine sq ?_
 refine arK hk x0 ?_
 obtain rfl:=oi_ f3
 exact ⟨(),r6_,H.sel [0,1,2] rfl⟩
 rintro T3 _ w7 H;try dsimp only at H
 refine jA (z:=false) dB ?_
 refine sq ?_
 cases f0
 exact ⟨_,_,rfl,⟨h6,rfl,rfl⟩,(H.sel [1] rfl).close ⟨cloE,trivial⟩⟩
end Go.Proofs.YtlggnmkelgplnaaGreatDoor
