/-
 Contracts, printed by a program (wip/y/gen.py): each function of Go computes its partial function. Condition of each: its partial function yields a value.
-/
import Derived.Test.YtlggnmkelgplnaaGreatDoorZCall4
namespace Go.Proofs.YtlggnmkelgplnaaGreatDoor
open Go Go.Proofs.YtlggnmkelgplnaaGreatDoor.RW
set_option maxRecDepth 100000
set_option maxHeartbeats 2000000
set_option linter.unusedVariables false
theorem Fx_ {g__0:Int}{g__1:List Ty2}{g__1h:Hd}{g__2:List Int}{g__2h:Hd}{g__3:List Int}{g__3h:Hd}{d0_b:Nat}{d0_:List Bool}{d0_h:Hd}{d1_b:Nat}{d1_:List Int}{d1_h:Hd}{y:List Bool} (hF:yX (g__0,g__1,g__2,g__3) d0_ d1_=some y) :
  kA Tryz.prog 163 #[(.agg #[(vi g__0),(g__1h).v,(g__2h).v,(g__3h).v]),(.func (.func 175) #[] #[(vp d0_b),(vp d1_b)])] [Es (List Ty2) g__1 g__1h,Es (List Int) g__2 g__2h,Es (List Int) g__3 g__3h,Es (List Int) d1_ d1_h] [Bx d0_b [(d0_h).v],E (List Bool) d0_ d0_h,Bx d1_b [(d1_h).v]] (fun v Γ'=>v=(.tuple #[])∧Γ'=[Bx d0_b [(d0_h).v],E (List Bool) y d0_h,Bx d1_b [(d1_h).v]]):=by
 intro w0 S0 fp0 hI hS
 have H:=Cx.start hI hS;dsimp at H
 refine iA (args:=[_,_]) gok Tryz.func163 rfl _ rfl rfl rfl ?_
 refine xA H ?_;intro b9 w8 hx H
 refine fld gok rfl rfl rfl rfl (bA (H.bx 0 rfl (j:=2) rfl) ?_)
 obtain ⟨y0,i0,f0⟩:=aA hF
 replace H:=H.sel [5,6,7,0,1,2,3,4] rfl
 refine gC (xS i0) (Γi:=[Bx d0_b [(d0_h).v],E (List Bool) d0_ d0_h,Bx d1_b [(d1_h).v]]) H ⟨Vw.sh 2 rfl,Vw.sh 4 rfl,trivial⟩ ?_
 rintro _ _ w1 ⟨rfl,rfl⟩ H
 refine fld gok rfl rfl rfl rfl (bA (H.bx 3 rfl (j:=3) rfl) ?_)
 obtain ⟨y1,i1,f1⟩:=aA f0
 refine gC (xS i1) (Γi:=[Bx d0_b [(d0_h).v],E (List Bool) y0 d0_h,Bx d1_b [(d1_h).v]]) H ⟨Vw.sh 3 rfl,Vw.sh 4 rfl,trivial⟩ ?_
 rintro _ _ w2 ⟨rfl,rfl⟩ H
 refine fld gok rfl rfl rfl rfl (bA (H.bx 3 rfl (j:=1) rfl) ?_)
 refine nA (H.rs (α:=List Ty2) 4 rfl).len ?_
 have x0:=(H.rs (α:=List Ty2) 4 rfl).max
 obtain ⟨r0,e,f2⟩:=aA f1
 refine nB _ g__1.length (fun (k0:Nat) (s0:List Bool) (_:Unit)=>[(1,(.func (.func 175) #[] #[(vp d0_b),(vp d1_b)])),(15,(g__1h).v),(16,(vi ((g__1.length:Nat):Int))),(17,(vi ((k0:Nat):Int)))]) (fun _ (s0:List Bool) (_:Unit) w'=>Cx w0 fp0 S0 w' [Bx d0_b [(d0_h).v],E (List Bool) s0 d0_h,Bx d1_b [(d1_h).v],Es (List Int) d1_ d1_h,Es (List Ty2) g__1 g__1h]) y1 () e r4_ (H.sel [0,1,2,7,4] rfl) ?_ ?_
 rintro T0 k0 s0 _ w3 o0 hk (H:Cx w0 fp0 S0 w3 [Bx d0_b [(d0_h).v],E (List Bool) s0 d0_h,Bx d1_b [(d1_h).v],Es (List Int) d1_ d1_h,Es (List Ty2) g__1 g__1h]) f3
 refine jA (z:=true) (cB hk) ?_
 refine sq (sq ?_)
 obtain ⟨a0,e,f4⟩:=aA f3
 have HH:=H;obtain ⟨p0,m0,g0,c0,c1,c2,c3,H⟩:=HH.el (α:=Ty2) 4 rfl e
 obtain ⟨a0_0,a0_1,a0_2,a0_3⟩:=a0
 obtain ⟨_,_,h0,h1⟩:=g0
 replace H:=H.part (β:=List Int) a0_2 (h0:Hd) 0 rfl (fun S h=>(And.left (And.right (And.right h))))
 replace H:=H.part (β:=List Int) a0_3 (h1:Hd) 1 rfl (fun S h=>(And.right (And.right (And.right h))))
 replace H:=H.sel [0,1,3,4,5,6,7] rfl
 refine dA c0 c1 c2 ?_
 refine cA [(vi a0_0),(vi a0_1),(h0).v,(h1).v] rfl c3 ?_
 refine sA gok rfl H ?_;intro b0 w4 hx H
 refine stA gok [(vi a0_0),(vi a0_1),(h0).v,(h1).v] rfl H rfl rfl rfl ?_;intro w5 H
 refine fld gok rfl rfl rfl rfl (bA (H.bx 0 rfl (j:=2) rfl) ?_)
 obtain ⟨y2,i2,f5⟩:=aA f4
 replace H:=H.sel [3,4,5,0,1,2,6,7] rfl
 refine gC (xS i2) (Γi:=[Bx d0_b [(d0_h).v],E (List Bool) s0 d0_h,Bx d1_b [(d1_h).v]]) H ⟨Vw.sh 2 rfl,Vw.sh 3 rfl,trivial⟩ ?_
 rintro _ _ w6 ⟨rfl,rfl⟩ H
 refine fld gok rfl rfl rfl rfl (bA (H.bx 3 rfl (j:=3) rfl) ?_)
 obtain ⟨y3,i3,f6⟩:=aA f5
 refine gC (xS i3) (Γi:=[Bx d0_b [(d0_h).v],E (List Bool) y2 d0_h,Bx d1_b [(d1_h).v]]) H ⟨Vw.sh 1 rfl,Vw.sh 3 rfl,trivial⟩ ?_
 rintro _ _ w7 ⟨rfl,rfl⟩ H
 refine arK hk x0 ?_
 obtain rfl:=oi_ f6
 exact ⟨(),r4_,H.sel [0,1,2,6,7] rfl⟩
 rintro T1 _ w9 H;try dsimp only at H
 refine jA (z:=false) dB ?_
 refine sq ?_
 cases f2
 exact ⟨_,_,rfl,⟨rfl,rfl⟩,(H.sel [0,1,2] rfl).close ⟨cloB,cloE,cloB,trivial⟩⟩
theorem FP_ {g__0:Int}{g__1:List Ty2}{g__1h:Hd}{g__2:List Int}{g__2h:Hd}{g__3:List Int}{g__3h:Hd}{pairs_:List (Int×Int)}{pairs_h:Hd}{y_0_0:Int}{y_0_1:List Ty2}{y_0_2 y_0_3 y_1:List Int} (hF:oY (g__0,g__1,g__2,g__3) pairs_=some ((y_0_0,y_0_1,y_0_2,y_0_3),y_1)) :
  kA Tryz.prog 159 #[(.agg #[(vi g__0),(g__1h).v,(g__2h).v,(g__3h).v]),(pairs_h).v] [Es (List Ty2) g__1 g__1h,Es (List Int) g__2 g__2h,Es (List Int) g__3 g__3h,Es (List (Int×Int)) pairs_ pairs_h] [] (fun v Γ'=>∃ z0 z1 z2 z3:Hd,v=(.agg #[(vi y_0_0),(z0).v,(z1).v,(z2).v,(z3).v])∧Γ'=[E (List Ty2) y_0_1 z0,E (List Int) y_0_2 z1,E (List Int) y_0_3 z2,E (List Int) y_1 z3]):=by
 intro w0 S0 fp0 hI hS
 have H:=Cx.start hI hS;dsimp at H
 refine iA (args:=[_,_]) gok Tryz.func159 rfl _ rfl rfl rfl ?_
 refine xA H ?_;intro b6 w5 hx H
 refine sA gok rfl H ?_;intro b9 w8 hx H
 refine fld gok rfl rfl rfl rfl (bA (H.bx 1 rfl (j:=0) rfl) ?_)
 obtain ⟨y0,i0,f0⟩:=aA hF
 refine callF0_ (kM i0) H trivial ?_
 rintro _ _ w1 ⟨h0,rfl,rfl⟩ H
 refine sA gok rfl H ?_;intro b0 w2 hx H
 refine stB0 H rfl ?_;intro w3 H
 refine sq ?_
 refine nA (H.rs (α:=List (Int×Int)) 7 rfl).len ?_
 have x0:=(H.rs (α:=List (Int×Int)) 7 rfl).max
 obtain ⟨r0,e,f1⟩:=aA f0
 refine nB _ pairs_.length (fun (k0:Nat) (s0:List Int) (_:Unit)=>[(2,(vp b6)),(4,(vp b9)),(5,(vp b0)),(16,(pairs_h).v),(17,(vi ((pairs_.length:Nat):Int))),(18,(vi ((k0:Nat):Int)))]) (fun _ (s0:List Int) (_:Unit) w'=>Cx w0 fp0 S0 w' [Bx b6 [(vi g__0),(g__1h).v,(g__2h).v,(g__3h).v],Es (List Ty2) g__1 g__1h,Es (List Int) g__2 g__2h,Es (List Int) g__3 g__3h,Bx b9 [(vi 0),vn,vn,vn,vn],Bx b0 [(h0).v],E (List Int) s0 h0,Es (List (Int×Int)) pairs_ pairs_h]) y0 () e r6_ (H.sel [3,4,5,6,2,0,1,7] rfl) ?_ ?_
 rintro T0 k0 s0 _ w4 o0 hk (H:Cx w0 fp0 S0 w4 [Bx b6 [(vi g__0),(g__1h).v,(g__2h).v,(g__3h).v],Es (List Ty2) g__1 g__1h,Es (List Int) g__2 g__2h,Es (List Int) g__3 g__3h,Bx b9 [(vi 0),vn,vn,vn,vn],Bx b0 [(h0).v],E (List Int) s0 h0,Es (List (Int×Int)) pairs_ pairs_h]) f2
 refine jA (z:=true) (cB hk) ?_
 refine sq (sq ?_)
 obtain ⟨a0,e,f3⟩:=aA f2
 have HH:=H;obtain ⟨p0,m0,g0,c0,c1,c2,c3,H⟩:=HH.el (α:=Int×Int) 7 rfl e
 obtain ⟨a0_0,a0_1⟩:=a0
 obtain ⟨_,_⟩:=g0
 replace H:=H.sel [1,2,3,4,5,6,7,8] rfl
 refine dA c0 c1 c2 ?_
 refine cA [(vi a0_0),(vi a0_1)] rfl c3 ?_
 refine sA gok rfl H ?_;intro b1 w6 hx H
 refine stA gok [(vi a0_0),(vi a0_1)] rfl H rfl rfl rfl ?_;intro w7 H
 refine bA (H.bx0 6 rfl) ?_
 refine rX gok rfl rfl (m:=0) rfl rfl ?_
 refine bA (H.bx 0 rfl (j:=0) rfl) ?_
 refine rX gok rfl rfl (m:=1) rfl rfl ?_
 refine bA (H.bx 0 rfl (j:=1) rfl) ?_
 obtain ⟨y1,i1,f4⟩:=aA f3
 replace H:=H.sel [7,0,1,2,3,4,5,6,8] rfl
 refine gC (FG_ i1) (Γi:=[E (List Int) s0 h0]) H trivial ?_
 rintro _ _ w9 ⟨rfl,rfl⟩ H
 refine arK hk x0 ?_
 obtain rfl:=oi_ f4
 exact ⟨(),r6_,H.sel [2,3,4,5,6,7,0,8] rfl⟩
 rintro T1 _ w10 H;try dsimp only at H
 refine jA (z:=false) dB ?_
 refine sq ?_
 refine fld gok rfl rfl rfl rfl (bA (H.bx 0 rfl (j:=0) rfl) ?_)
 obtain ⟨a1,e,f5⟩:=aA f1
 refine nE (α:=Bool) gok rfl rfl rfl rfl (xE e) H ?_;intro h1 w11 hx H
 refine sA gok rfl H ?_;intro b2 w12 hx H
 refine stB0 H rfl ?_;intro w14 H
 refine cA [(vi g__0),(g__1h).v,(g__2h).v,(g__3h).v] rfl (H.bz_ 2 rfl) ?_
 obtain ⟨y2,i2,f6⟩:=aA f5
 replace H:=H.sel [0,1,7,2,3,4,5,6,8,9] rfl
 refine gC (Fx_ i2) (Γi:=[Bx b2 [(h1).v],E (List Bool) a1 h1,Bx b0 [(h0).v]]) H ⟨Vw.sh 1 rfl,Vw.sh 2 rfl,Vw.sh 3 rfl,Vw.own 5 rfl,trivial⟩ ?_
 rintro _ _ w15 ⟨rfl,rfl⟩ H
 refine fld gok rfl rfl rfl rfl (bA (H.bx 3 rfl (j:=0) rfl) ?_)
 obtain ⟨y3,i3,f7⟩:=aA f6
 refine callF0_ (sJ i3) H trivial ?_
 rintro _ _ w17 ⟨h2,rfl,rfl⟩ H
 refine sq ?_
 refine nA (H.ro (α:=List Int) 0 rfl).len ?_
 have x1:=(H.ro (α:=List Int) 0 rfl).max
 obtain ⟨r1,e,f8⟩:=aA f7
 refine nB _ y3.length (fun (k1:Nat) (s1:List Int×Int) (_:Unit)=>[(2,(vp b6)),(4,(vp b9)),(5,(vp b0)),(8,(vp b2)),(9,(h2).v),(10,(vi s1.2)),(39,(vi ((y3.length:Nat):Int))),(40,(vi ((k1:Nat):Int)))]) (fun _ (s1:List Int×Int) (_:Unit) w'=>Cx w0 fp0 S0 w' [Bx b6 [(vi g__0),(g__1h).v,(g__2h).v,(g__3h).v],Es (List Ty2) g__1 g__1h,Es (List Int) g__2 g__2h,Es (List Int) g__3 g__3h,Bx b9 [(vi 0),vn,vn,vn,vn],Bx b0 [(h0).v],E (List Int) r0 h0,Bx b2 [(h1).v],E (List Bool) y2 h1,E (List Int) s1.1 h2]) (y3,0) () e r8_ (H.sel [4,5,6,7,8,3,9,1,2,0] rfl) ?_ ?_
 rintro T2 k1 ⟨s1_0,s1_1⟩ _ w18 o1 hk (H:Cx w0 fp0 S0 w18 [Bx b6 [(vi g__0),(g__1h).v,(g__2h).v,(g__3h).v],Es (List Ty2) g__1 g__1h,Es (List Int) g__2 g__2h,Es (List Int) g__3 g__3h,Bx b9 [(vi 0),vn,vn,vn,vn],Bx b0 [(h0).v],E (List Int) r0 h0,Bx b2 [(h1).v],E (List Bool) y2 h1,E (List Int) s1_0 h2]) f9
 refine jA (z:=true) (cB hk) ?_
 refine sq (sq ?_)
 refine bA (H.bx0 5 rfl) ?_
 obtain ⟨y4,i4,f10⟩:=aA f9
 refine gC (@wS r0 h0 ((k1:Nat):Int) y4 i4) (Γi:=[]) H ⟨Vw.own 6 rfl,trivial⟩ ?_
 rintro _ _ w20 ⟨rfl,rfl⟩ H
 refine bA (H.bx0 7 rfl) ?_
 obtain ⟨a2,e,f11⟩:=aA f10
 obtain ⟨p1,m1,c4,c5,c6,c7⟩:=(H.ro (α:=List Bool) 8 rfl).at1 e
 refine dA c4 c5 c6 ?_
 refine bA c7 ?_
 refine boolB_ f11 (fun f13=>?_) fun f21=>?_
 refine boolB_ f13 (fun f15=>?_) fun f18=>?_
 obtain ⟨a5,i5,f16⟩:=aA f15
 obtain ⟨p2,m2,c8,c9,c10⟩:=(H.ro (α:=List Int) 9 rfl).setp i5
 refine dA c8 c9 c10 ?_
 replace H:=H.sel [9,0,1,2,3,4,5,6,7,8] rfl
 refine wC (α:=Int) H c8 c9 i5 ?_;intro w21 H
 obtain ⟨a6,e,f17⟩:=aA f16
 refine arO e ?_
 refine arK hk x1 ?_
 obtain rfl:=oi_ f17
 exact ⟨(),r8_,H.sel [1,2,3,4,5,6,7,8,9,0] rfl⟩
 obtain ⟨a7,e,f19⟩:=aA f18
 obtain ⟨p3,m3,c11,c12,c13,c14⟩:=(H.ro (α:=List Int) 9 rfl).at1 e
 refine dA c11 c12 c13 ?_
 refine bA c14 ?_
 obtain ⟨a8,i6,f20⟩:=aA f19
 obtain ⟨p4,m4,c15,c16,c17⟩:=(H.ro (α:=List Int) 9 rfl).setp i6
 refine dA c15 c16 c17 ?_
 replace H:=H.sel [9,0,1,2,3,4,5,6,7,8] rfl
 refine wC (α:=Int) H c15 c16 i6 ?_;intro w22 H
 refine arK hk x1 ?_
 obtain rfl:=oi_ f20
 exact ⟨(),r8_,H.sel [1,2,3,4,5,6,7,8,9,0] rfl⟩
 obtain ⟨a9,i7,f22⟩:=aA f21
 obtain ⟨p5,m5,c18,c19,c20⟩:=(H.ro (α:=List Int) 9 rfl).setp i7
 refine dA c18 c19 c20 ?_
 replace H:=H.sel [9,0,1,2,3,4,5,6,7,8] rfl
 refine wC (α:=Int) H c18 c19 i7 ?_;intro w23 H
 refine arK hk x1 ?_
 obtain rfl:=oi_ f22
 exact ⟨(),r8_,H.sel [1,2,3,4,5,6,7,8,9,0] rfl⟩
 obtain ⟨s2_0,s2_1⟩:=r1
 rintro T3 _ w24 H;try dsimp only at H
 refine jA (z:=false) dB ?_
 refine sq ?_
 refine cA [(vi g__0),(g__1h).v,(g__2h).v,(g__3h).v] rfl (H.bz_ 0 rfl) ?_
 obtain ⟨⟨y5_0,y5_1,y5_2,y5_3⟩,i8,f23⟩:=aA f8
 refine callF0_ (aM i8) H ⟨Vw.sh 1 rfl,Vw.sh 2 rfl,Vw.sh 3 rfl,Vw.own 9 rfl,trivial⟩ ?_
 rintro _ _ w25 ⟨h3,h4,h5,rfl,rfl⟩ H
 refine pB (cs:=#[(vi y5_0),(h3).v,(h4).v,(h5).v,(h2).v]) gok rfl rfl rfl ?_
 refine stA gok [(vi y5_0),(h3).v,(h4).v,(h5).v,(h2).v] rfl (H.sel [7,0,1,2,3,4,5,6,8,9,10,11,12] rfl) rfl rfl rfl ?_;intro w26 H
 refine cA [(vi y5_0),(h3).v,(h4).v,(h5).v,(h2).v] rfl (H.bz_ 0 rfl) ?_
 cases f23
 exact ⟨_,_,rfl,⟨h3,h4,h5,h2,rfl,rfl⟩,(H.sel [1,2,3,12] rfl).close ⟨cloE,cloE,cloE,cloE,trivial⟩⟩
theorem FV_ {a__0:Int}{a__1:List Ty2}{a__1h:Hd}{a__2:List Int}{a__2h:Hd}{a__3:List Int}{a__3h:Hd}{b__0:Int}{b__1:List Ty2}{b__1h:Hd}{b__2:List Int}{b__2h:Hd}{b__3:List Int}{b__3h:Hd}{y_0:Int}{y_1:List Ty2}{y_2 y_3:List Int} (hF:mP (a__0,a__1,a__2,a__3) (b__0,b__1,b__2,b__3)=some (y_0,y_1,y_2,y_3)) :
  kA Tryz.prog 130 #[(.agg #[(vi a__0),(a__1h).v,(a__2h).v,(a__3h).v]),(.agg #[(vi b__0),(b__1h).v,(b__2h).v,(b__3h).v])] [Es (List Ty2) a__1 a__1h,Es (List Int) a__2 a__2h,Es (List Int) a__3 a__3h,Es (List Ty2) b__1 b__1h,Es (List Int) b__2 b__2h,Es (List Int) b__3 b__3h] [] (fun v Γ'=>∃ z0 z1 z2:Hd,v=(.agg #[(vi y_0),(z0).v,(z1).v,(z2).v])∧Γ'=[E (List Ty2) y_1 z0,E (List Int) y_2 z1,E (List Int) y_3 z2]):=by
 intro w0 S0 fp0 hI hS
 have H:=Cx.start hI hS;dsimp at H
 refine iA (args:=[_,_]) gok Tryz.func130 rfl _ rfl rfl rfl ?_
 refine xA H ?_;intro b8 w7 hx H
 refine xA H ?_;intro b0 w1 hx H
 refine sA gok rfl H ?_;intro b1 w2 hx H
 refine cA [(vi a__0),(a__1h).v,(a__2h).v,(a__3h).v] rfl (H.bz_ 2 rfl) ?_
 refine cA [(vi b__0),(b__1h).v,(b__2h).v,(b__3h).v] rfl (H.bz_ 1 rfl) ?_
 obtain ⟨⟨y0_0,y0_1,y0_2,y0_3⟩,i0,f0⟩:=aA hF
 refine callF0_ (B3_ i0) H ⟨Vw.sh 3 rfl,Vw.sh 4 rfl,Vw.sh 5 rfl,Vw.sh 6 rfl,Vw.sh 7 rfl,Vw.sh 8 rfl,trivial⟩ ?_
 rintro _ _ w3 ⟨h0,h1,h2,rfl,rfl⟩ H
 refine sA gok rfl H ?_;intro b2 w4 hx H
 refine stA gok [(vi y0_0),(h0).v,(h1).v,(h2).v] rfl H rfl rfl rfl ?_;intro w5 H
 refine wF (α:=Int×Int) gok rfl rfl H ?_;intro h3 w6 hx H
 refine sq ?_
 refine fld gok rfl rfl rfl rfl (bA (H.bx 7 rfl (j:=3) rfl) ?_)
 refine nA (H.rs (α:=List Int) 10 rfl).len ?_
 have x0:=(H.rs (α:=List Int) 10 rfl).max
 obtain ⟨r0,e,f1⟩:=aA f0
 refine nB _ a__3.length (fun (k0:Nat) (s0:List (Int×Int)) (g0:Hd)=>[(2,(vp b8)),(3,(vp b0)),(4,(vp b1)),(5,(vp b2)),(6,(g0).v),(14,(a__3h).v),(15,(vi ((a__3.length:Nat):Int))),(16,(vi ((k0:Nat):Int)))]) (fun _ (s0:List (Int×Int)) (g0:Hd) w'=>Cx w0 fp0 S0 w' [Bx b8 [(vi a__0),(a__1h).v,(a__2h).v,(a__3h).v],Es (List Ty2) a__1 a__1h,Es (List Int) a__2 a__2h,Es (List Int) a__3 a__3h,Bx b0 [(vi b__0),(b__1h).v,(b__2h).v,(b__3h).v],Es (List Ty2) b__1 b__1h,Es (List Int) b__2 b__2h,Es (List Int) b__3 b__3h,Bx b1 [(vi 0),vn,vn,vn],Bx b2 [(vi y0_0),(h0).v,(h1).v,(h2).v],E (List Ty2) y0_1 h0,E (List Int) y0_2 h1,E (List Int) y0_3 h2,E (List (Int×Int)) s0 g0]) ([]:List (Int×Int)) h3 e r8_ (H.sel [7,8,9,10,6,11,12,13,5,1,2,3,4,0] rfl) ?_ ?_
 rintro T0 k0 s0 g0 w8 o0 hk (H:Cx w0 fp0 S0 w8 [Bx b8 [(vi a__0),(a__1h).v,(a__2h).v,(a__3h).v],Es (List Ty2) a__1 a__1h,Es (List Int) a__2 a__2h,Es (List Int) a__3 a__3h,Bx b0 [(vi b__0),(b__1h).v,(b__2h).v,(b__3h).v],Es (List Ty2) b__1 b__1h,Es (List Int) b__2 b__2h,Es (List Int) b__3 b__3h,Bx b1 [(vi 0),vn,vn,vn],Bx b2 [(vi y0_0),(h0).v,(h1).v,(h2).v],E (List Ty2) y0_1 h0,E (List Int) y0_2 h1,E (List Int) y0_3 h2,E (List (Int×Int)) s0 g0]) f2
 refine jA (z:=true) (cB hk) ?_
 refine sq (sq ?_)
 obtain ⟨a0,e,f3⟩:=aA f2
 obtain ⟨p0,m0,c0,c1,c2,c3⟩:=(H.rs (α:=List Int) 3 rfl).at1 e
 refine dA c0 c1 c2 ?_
 refine bA c3 ?_
 refine kB H [12,13] (.fst 0 (.fst 1 (.fst 2 (.fst 4 (.fst 6 (.fst 3 (.fst 5 (.fst 7 (.fst 8 (.fst 9 (.fst 10 (.act 11 (.act 12 (.act 13 .done)))))))))))))) bB [] trivial (by kernel_rfl) ?_
 intro w9 H
 have hX:Ext w9 w9:=Upd.refl _ _
 refine oA (fun _=>fld gok rfl rfl rfl rfl ⟨rfl,rfl⟩) ?_
 refine oA (fun _=>fld gok rfl rfl rfl rfl ⟨rfl,rfl⟩) ?_
 refine gA (H.bx 0 rfl (j:=0) rfl) ?_
 refine gA (H.bx 4 rfl (j:=2) rfl) ?_
 obtain ⟨a1,e,f4⟩:=aA f3
 obtain ⟨p1,m1,c4,c5,c6,c7⟩:=(H.rs (α:=List Int) 6 rfl).at1 e
 refine dA c4 c5 c6 ?_
 refine gA c7 ?_
 obtain ⟨a2,e,f5⟩:=aA f4
 refine arO e ?_
 refine oA (fun _=>EZ_ (cs:=#[(vi a0),(vi a2)]) gok rfl rfl rfl ⟨rfl,rfl⟩) ?_
 replace H:=H.sc (α:=Int) a2
 replace H:=H.sc (α:=Int) a0
 replace H:=H.join (α:=Int) (β:=Int)
 refine pC (α:=Int×Int) (g:=((),())) gok rfl rfl rfl rfl rfl H ?_;intro h4 w11 hx H
 refine hold_ hX hx fun hX=>?_
 obtain ⟨a3,e,f6⟩:=aA f5
 refine append_ (α:=Int×Int) gok rfl rfl rfl rfl (H.sel [14,0,1,2,3,4,5,6,7,8,9,10,11,12,13] rfl) e ?_;intro h5 w12 H
 refine hold trivial ?_
 refine hold trivial ?_
 refine arK hk x0 ?_
 obtain rfl:=oi_ f6
 exact ⟨h5,r8_,H.sel [1,2,3,4,5,6,7,8,9,10,11,12,13,0] rfl⟩
 rintro T1 g1 w14 H;try dsimp only at H
 refine jA (z:=false) dB ?_
 refine sq ?_
 refine kB H [12,14,13] (.fst 0 (.fst 3 (.fst 5 (.fst 7 (.fst 1 (.fst 4 (.fst 6 (.fst 8 (.act 2 (.fst 11 (.act 9 (.act 10 (.act 12 (.act 13 (.act 14 .done))))))))))))))) bB [] trivial (by kernel_rfl) ?_
 intro w15 H
 have hX:Ext w15 w15:=Upd.refl _ _
 refine oA (fun _=>fld gok rfl rfl rfl rfl ⟨rfl,rfl⟩) ?_
 refine oA (fun _=>fld gok rfl rfl rfl rfl ⟨rfl,rfl⟩) ?_
 refine oA (fun _=>fld gok rfl rfl rfl rfl ⟨rfl,rfl⟩) ?_
 refine oA (fun _=>fld gok rfl rfl rfl rfl ⟨rfl,rfl⟩) ?_
 refine gA (H.bx 0 rfl (j:=2) rfl) ?_
 refine gA (H.bx 4 rfl (j:=3) rfl) ?_
 refine gA (H.bx 0 rfl (j:=0) rfl) ?_
 refine gA (H.bx 4 rfl (j:=0) rfl) ?_
 obtain ⟨y1,i1,f7⟩:=aA f1
 refine eA (kH i1) H ⟨Vw.sh 2 rfl,trivial⟩ ?_
 rintro _ _ w16 ⟨h6,rfl,rfl⟩ hx H
 refine hold_ hX hx fun hX=>?_
 refine oA (fun _=>fld gok rfl rfl rfl rfl ⟨rfl,rfl⟩) ?_
 obtain ⟨y2,i2,f8⟩:=aA f7
 refine eA (qQ i2) H trivial ?_
 rintro _ _ w17 ⟨h7,rfl,rfl⟩ hx H
 refine hold_ hX hx fun hX=>?_
 obtain ⟨y3,i3,f9⟩:=aA f8
 refine eA (sI i3) H ⟨Vw.sh 9 rfl,Vw.own 0 rfl,trivial⟩ ?_
 rintro _ _ w19 ⟨h8,rfl,rfl⟩ hx H
 refine hold_ hX hx fun hX=>?_
 replace H:=H.sel [12,0,1,2,3,4,5,6,7,8,9,10,11,13,14,15,16] rfl
 refine stB (j:=2) H rfl rfl ?_;intro w20 H
 refine hold trivial ?_
 refine fld gok rfl rfl rfl rfl ?_
 refine hold trivial ?_
 refine stB (j:=3) H rfl rfl ?_;intro w21 H
 refine hold trivial ?_
 refine cA [(vi y0_0),(h0).v,(h6).v,(h8).v] rfl (H.bz_ 0 rfl) ?_
 obtain ⟨y4,e,f10⟩:=aA f9
 obtain ⟨⟨y4_0_0,y4_0_1,y4_0_2,y4_0_3⟩,y4_1⟩:=y4
 have i4:=e
 refine callF0_ (FP_ i4) H ⟨Vw.own 13 rfl,Vw.own 3 rfl,Vw.own 1 rfl,Vw.own 16 rfl,trivial⟩ ?_
 rintro _ _ w22 ⟨h9,h10,h11,h12,rfl,rfl⟩ H
 refine stA gok [(vi y4_0_0),(h9).v,(h10).v,(h11).v] rfl (H.sel [16,0,1,2,3,4,5,6,7,8,9,10,11,12,13,14,15,17,18,19,20] rfl) rfl rfl rfl ?_;intro w23 H
 refine cA [(vi y4_0_0),(h9).v,(h10).v,(h11).v] rfl (H.bz_ 0 rfl) ?_
 cases f10
 exact ⟨_,_,rfl,⟨h9,h10,h11,rfl,rfl⟩,(H.sel [1,2,3] rfl).close ⟨cloE,cloE,cloE,trivial⟩⟩
theorem eM {lists_:List (List Int)}{lists_h:Hd}{y:List Int} (hF:jH lists_=some y) :
  kA Tryz.prog 91 #[(lists_h).v] [Es (List (List Int)) lists_ lists_h] [] (fun v Γ'=>∃ z0:Hd,v=(z0).v∧Γ'=[E (List Int) y z0]):=by
 intro w0 S0 fp0 hI hS
 have H:=Cx.start hI hS;dsimp at H
 refine iA (args:=[_]) gok Tryz.func91 rfl _ rfl rfl rfl ?_
 refine wF (α:=Int) gok rfl rfl H ?_;intro h3 w2 hx H
 refine sq ?_
 refine nA (H.rs (α:=List (List Int)) 1 rfl).len ?_
 have x0:=(H.rs (α:=List (List Int)) 1 rfl).max
 obtain ⟨r0,e,f0⟩:=aA hF
 refine nB _ lists_.length (fun (k5:Nat) (s0:List Int) (g0:Hd)=>[(3,(g0).v),(7,(lists_h).v),(8,(vi ((lists_.length:Nat):Int))),(9,(vi ((k5:Nat):Int)))]) (fun _ (s0:List Int) (g0:Hd) w'=>Cx w0 fp0 S0 w' [E (List Int) s0 g0,Es (List (List Int)) lists_ lists_h]) ([]:List Int) h3 e r4_ (H.sel [0,1] rfl) ?_ ?_
 rintro T0 k5 s0 g0 w1 o0 hk (H:Cx w0 fp0 S0 w1 [E (List Int) s0 g0,Es (List (List Int)) lists_ lists_h]) f1
 refine jA (z:=true) (cB hk) ?_
 refine sq (sq ?_)
 obtain ⟨a0,e,f2⟩:=aA f1
 have HH:=H;obtain ⟨p0,m0,h0,c0,c1,c2,c3,H⟩:=HH.elL 1 rfl e
 refine dA c0 c1 c2 ?_
 refine bA c3 ?_
 obtain ⟨a1,e,f3⟩:=aA f2
 replace H:=H.sel [1,0,2] rfl
 refine xM (α:=Int) gok rfl rfl rfl rfl H (Vw.sh 0 rfl) e ?_;intro h1 w3 H
 refine arK hk x0 ?_
 obtain rfl:=oi_ f3
 exact ⟨h1,r4_,H.sel [0,2] rfl⟩
 rintro T1 g1 w4 H;try dsimp only at H
 refine jA (z:=false) dB ?_
 refine sq ?_
 cases f0
 exact ⟨_,_,rfl,⟨g1,rfl,rfl⟩,(H.sel [0] rfl).close ⟨cloE,trivial⟩⟩
theorem FW_ {a__0:Int}{a__1:List Ty2}{a__1h:Hd}{a__2:List Int}{a__2h:Hd}{a__3:List Int}{a__3h:Hd}{b__0:Int}{b__1:List Ty2}{b__1h:Hd}{b__2:List Int}{b__2h:Hd}{b__3:List Int}{b__3h:Hd}{y_0:Int}{y_1:List Ty2}{y_2 y_3:List Int} (hF:nP (a__0,a__1,a__2,a__3) (b__0,b__1,b__2,b__3)=some (y_0,y_1,y_2,y_3)) :
  kA Tryz.prog 131 #[(.agg #[(vi a__0),(a__1h).v,(a__2h).v,(a__3h).v]),(.agg #[(vi b__0),(b__1h).v,(b__2h).v,(b__3h).v])] [Es (List Ty2) a__1 a__1h,Es (List Int) a__2 a__2h,Es (List Int) a__3 a__3h,Es (List Ty2) b__1 b__1h,Es (List Int) b__2 b__2h,Es (List Int) b__3 b__3h] [] (fun v Γ'=>∃ z0 z1 z2:Hd,v=(.agg #[(vi y_0),(z0).v,(z1).v,(z2).v])∧Γ'=[E (List Ty2) y_1 z0,E (List Int) y_2 z1,E (List Int) y_3 z2]):=by
 intro w0 S0 fp0 hI hS
 have H:=Cx.start hI hS;dsimp at H
 refine iA (args:=[_,_]) gok Tryz.func131 rfl _ rfl rfl rfl ?_
 refine xA H ?_;intro b8 w7 hx H
 refine xA H ?_;intro b0 w1 hx H
 refine sA gok rfl H ?_;intro b1 w2 hx H
 refine cA [(vi a__0),(a__1h).v,(a__2h).v,(a__3h).v] rfl (H.bz_ 2 rfl) ?_
 refine cA [(vi b__0),(b__1h).v,(b__2h).v,(b__3h).v] rfl (H.bz_ 1 rfl) ?_
 obtain ⟨⟨y0_0,y0_1,y0_2,y0_3⟩,i0,f0⟩:=aA hF
 refine callF0_ (B3_ i0) H ⟨Vw.sh 3 rfl,Vw.sh 4 rfl,Vw.sh 5 rfl,Vw.sh 6 rfl,Vw.sh 7 rfl,Vw.sh 8 rfl,trivial⟩ ?_
 rintro _ _ w3 ⟨h0,h1,h2,rfl,rfl⟩ H
 refine sA gok rfl H ?_;intro b2 w4 hx H
 refine stA gok [(vi y0_0),(h0).v,(h1).v,(h2).v] rfl H rfl rfl rfl ?_;intro w5 H
 refine fld gok rfl rfl rfl rfl (bA (H.bx 6 rfl (j:=0) rfl) ?_)
 refine fld gok rfl rfl rfl rfl (bA (H.bx 5 rfl (j:=0) rfl) ?_)
 obtain ⟨y1,i1,f1⟩:=aA f0
 refine callF0_ (qQ i1) H trivial ?_
 rintro _ _ w6 ⟨h3,rfl,rfl⟩ H
 refine kB H [17,19,18] (.fst 0 (.fst 2 (.fst 4 (.fst 8 (.fst 10 (.fst 12 (.fst 1 (.fst 3 (.fst 9 (.fst 11 (.act 5 (.act 6 (.act 7 (.fst 16 (.act 13 (.act 14 (.act 15 (.act 17 (.act 18 (.act 19 .done)))))))))))))))))))) bB [] trivial (by kernel_rfl) ?_
 intro w8 H
 have hX:Ext w8 w8:=Upd.refl _ _
 refine oA (fun _=>fld gok rfl rfl rfl rfl ⟨rfl,rfl⟩) ?_
 refine oA (fun _=>fld gok rfl rfl rfl rfl ⟨rfl,rfl⟩) ?_
 refine oA (fun _=>fld gok rfl rfl rfl rfl ⟨rfl,rfl⟩) ?_
 refine oA (fun _=>fld gok rfl rfl rfl rfl ⟨rfl,rfl⟩) ?_
 refine gA (H.bx 7 rfl (j:=2) rfl) ?_
 refine gA (H.bx 6 rfl (j:=2) rfl) ?_
 refine gA (H.bx 7 rfl (j:=3) rfl) ?_
 refine gA (H.bx 6 rfl (j:=3) rfl) ?_
 obtain ⟨y2,i2,f2⟩:=aA f1
 refine eA (sI i2) H ⟨Vw.sh 12 rfl,Vw.own 0 rfl,trivial⟩ ?_
 rintro _ _ w9 ⟨h4,rfl,rfl⟩ hx H
 refine hold_ hX hx fun hX=>?_
 replace H:=H.frz
 replace H:=H.dup 0 rfl uA
 replace H:=H.dup 11 rfl uA
 refine mA (α:=Sh (List Int)) (us:=[(a__2h).v,(h4).v]) (xs:=[a__2,y2]) (gs:=[a__2h,h4]) gok rfl rfl rfl ⟨rfl,rfl,trivial⟩ rfl rfl H ?_;intro h5 w11 hx H
 refine hold_ hX hx fun hX=>?_
 obtain ⟨y3,i3,f3⟩:=aA f2
 refine eA (@eM [a__2,y2] h5 y3 i3) H ⟨Vw.part (β:=List (List Int)) (Vw.own (α:=List (Sh (List Int))) 0 rfl) [a__2,y2] h5 (fun S h=>h),trivial⟩ ?_
 rintro _ _ w12 ⟨h6,rfl,rfl⟩ hx H
 refine hold_ hX hx fun hX=>?_
 refine oA (fun _=>fld gok rfl rfl rfl rfl ⟨rfl,rfl⟩) ?_
 obtain ⟨y4,i4,f4⟩:=aA f3
 refine eA (sI i4) H ⟨Vw.sh 16 rfl,Vw.own 3 rfl,trivial⟩ ?_
 rintro _ _ w14 ⟨h7,rfl,rfl⟩ hx H
 refine hold_ hX hx fun hX=>?_
 replace H:=H.frz
 replace H:=H.dup 0 rfl uA
 replace H:=H.dup 15 rfl uA
 refine mA (α:=Sh (List Int)) (us:=[(a__3h).v,(h7).v]) (xs:=[a__3,y4]) (gs:=[a__3h,h7]) gok rfl rfl rfl ⟨rfl,rfl,trivial⟩ rfl rfl H ?_;intro h8 w15 hx H
 refine hold_ hX hx fun hX=>?_
 obtain ⟨y5,i5,f5⟩:=aA f4
 refine eA (@eM [a__3,y4] h8 y5 i5) H ⟨Vw.part (β:=List (List Int)) (Vw.own (α:=List (Sh (List Int))) 0 rfl) [a__3,y4] h8 (fun S h=>h),trivial⟩ ?_
 rintro _ _ w16 ⟨h9,rfl,rfl⟩ hx H
 refine hold_ hX hx fun hX=>?_
 replace H:=H.sel [7,0,1,2,3,4,5,6,8,9,10,11,12,13,14,15,16,17,18,19] rfl
 refine stB (j:=2) H rfl rfl ?_;intro w17 H
 refine hold trivial ?_
 refine fld gok rfl rfl rfl rfl ?_
 refine hold trivial ?_
 refine stB (j:=3) H rfl rfl ?_;intro w19 H
 refine hold trivial ?_
 refine cA [(vi y0_0),(h0).v,(h6).v,(h9).v] rfl (H.bz_ 0 rfl) ?_
 refine stA gok [(vi y0_0),(h0).v,(h6).v,(h9).v] rfl (H.sel [11,0,1,2,3,4,5,6,7,8,9,10,12,13,14,15,16,17,18,19] rfl) rfl rfl rfl ?_;intro w20 H
 refine cA [(vi y0_0),(h0).v,(h6).v,(h9).v] rfl (H.bz_ 0 rfl) ?_
 cases f5
 exact ⟨_,_,rfl,⟨h0,h6,h9,rfl,rfl⟩,(H.sel [9,5,2] rfl).close ⟨cloE,cloE,cloE,trivial⟩⟩
theorem FD_ {n_ y_0:Int}{y_1:List Ty2}{y_2 y_3:List Int} (hF:dY n_=some (y_0,y_1,y_2,y_3)) :
  kA Tryz.prog 160 #[(vi n_)] [] [] (fun v Γ'=>∃ z0 z1 z2:Hd,v=(.agg #[(vi y_0),(z0).v,(z1).v,(z2).v])∧Γ'=[E (List Ty2) y_1 z0,E (List Int) y_2 z1,E (List Int) y_3 z2]):=by
 intro w0 S0 fp0 hI hS
 have H:Cx w0 fp0 S0 w0 []:=Cx.start hI hS
 refine iA (args:=[_]) gok Tryz.func160 rfl _ rfl rfl rfl ?_
 refine sA gok rfl H ?_;intro b2 w1 hx H
 obtain ⟨y4,ey4,hF5⟩:=aA hF
 refine callF0_ (kM ey4) H trivial ?_
 rintro _ _ w6 ⟨h7,rfl,rfl⟩ H
 obtain ⟨y9,ey9,f0⟩:=aA hF5
 refine callF0_ (kM ey9) H trivial ?_
 rintro _ _ w2 ⟨h0,rfl,rfl⟩ H
 refine pB (cs:=#[(vi n_),vn,(h7).v,(h0).v]) gok rfl rfl rfl ?_
 refine stA gok [(vi n_),vn,(h7).v,(h0).v] rfl (H.sel [2,0,1] rfl) rfl rfl rfl ?_;intro w3 H
 refine cA [(vi n_),vn,(h7).v,(h0).v] rfl (H.bz_ 0 rfl) ?_
 replace H:=H.nil (α:=Ty2)
 cases f0
 exact ⟨_,_,rfl,⟨nilH,h7,h0,rfl,rfl⟩,(H.sel [0,3,2] rfl).close ⟨cloE,cloE,cloE,trivial⟩⟩
theorem FY_ {n__0 n__1:Int}{n__2:ByteArray}{y_0:Int}{y_1:List Ty2}{y_2 y_3:List Int} (hF:oP (n__0,n__1,n__2)=some (y_0,y_1,y_2,y_3)) :
  kA Tryz.prog 132 #[(.agg #[(vi n__0),(vi n__1),(.string n__2)])] [] [] (fun v Γ'=>∃ z0 z1 z2:Hd,v=(.agg #[(vi y_0),(z0).v,(z1).v,(z2).v])∧Γ'=[E (List Ty2) y_1 z0,E (List Int) y_2 z1,E (List Int) y_3 z2]):=by
 intro w0 S0 fp0 hI hS
 have H:Cx w0 fp0 S0 w0 []:=Cx.start hI hS
 refine iA (args:=[_]) gok Tryz.func132 rfl _ rfl rfl rfl ?_
 refine xA H ?_;intro b2 w1 hx H
 refine sA gok rfl H ?_;intro b5 w4 hx H
 refine sq ?_
 refine fld gok rfl rfl rfl rfl (bA (H.bx 1 rfl (j:=0) rfl) ?_)
 refine boolB_ hF (fun hF9=>?_) fun f13=>?_
 refine boolB_ hF9 (fun f1=>?_) fun f12=>?_
 refine fld gok rfl rfl rfl rfl (bA (H.bx 1 rfl (j:=0) rfl) ?_)
 obtain ⟨⟨y0_0,y0_1⟩,i0,f2⟩:=aA f1
 refine callF0_ (gP i0) H trivial ?_
 rintro _ _ w2 ⟨rfl,rfl⟩ H
 refine sA gok rfl H ?_;intro b0 w3 hx H
 refine stA gok [(vi y0_0),(vi y0_1)] rfl H rfl rfl rfl ?_;intro w5 H
 refine kB H [] (.fst 0 (.fst 3 (.fst 5 (.fst 1 (.fst 4 (.fst 6 (.act 2 (.act 7 (.fst 8 (.fst 9 .done)))))))))) bB [] trivial (by kernel_rfl) ?_
 intro w6 H
 have hX:Ext w6 w6:=Upd.refl _ _
 refine oA (fun _=>fld gok rfl rfl rfl rfl ⟨rfl,rfl⟩) ?_
 refine oA (fun _=>fld gok rfl rfl rfl rfl ⟨rfl,rfl⟩) ?_
 refine oA (fun _=>fld gok rfl rfl rfl rfl ⟨rfl,rfl⟩) ?_
 refine gA (H.bx 0 rfl (j:=0) rfl) ?_
 refine gA (H.bx 0 rfl (j:=0) rfl) ?_
 refine gA (H.bx 0 rfl (j:=1) rfl) ?_
 obtain ⟨y1,i1,f3⟩:=aA f2
 refine eA (kM i1) H trivial ?_
 rintro _ _ w7 ⟨h0,rfl,rfl⟩ hx H
 refine hold_ hX hx fun hX=>?_
 obtain ⟨y2,i2,f4⟩:=aA f3
 refine eA (qQ i2) H trivial ?_
 rintro _ _ w8 ⟨h1,rfl,rfl⟩ hx H
 refine hold_ hX hx fun hX=>?_
 obtain ⟨r0,f5,f6⟩:=aA f4
 refine sH H [18] (.fst 0 (.fst 2 (.fst 5 (.fst 7 (.fst 9 (.fst 10 (.fst 13 (.fst 15 (.fst 1 (.fst 3 (.fst 4 (.fst 6 (.fst 8 (.fst 11 (.alts (.alt 12 (.act 14 (.act 16 (.fst 17 (.act 18 .done)))) (.alt 14 (.alts (.alt 12 (.act 16 (.fst 17 (.act 18 .done))) (.alt 16 (.act 12 (.fst 17 (.act 18 .done))) .no))) .no))))))))))))))))) bB [] trivial (by kernel_rfl) (fun (q0:Ty0×(Hd×Hd×Hd))=>[(2,(vp b5))]) (fun (q0:Ty0×(Hd×Hd×Hd)) w'=>(q0.1.1,q0.1.2.1,q0.1.2.2.1,q0.1.2.2.2)=r0∧Cx w0 fp0 S0 w' [Bx b5 [(vi q0.1.1),(q0.2.1).v,(q0.2.2.1).v,(q0.2.2.2).v],E (List Ty2) q0.1.2.1 q0.2.1,E (List Int) q0.1.2.2.1 q0.2.2.1,E (List Int) q0.1.2.2.2 q0.2.2.2]) ?_ ?_
 intro w9 H
 have hX:Ext w9 w9:=Upd.refl _ _
 refine oA (fun _=>fld gok rfl rfl rfl rfl ⟨rfl,rfl⟩) ?_
 refine oA (fun _=>fld gok rfl rfl rfl rfl ⟨rfl,rfl⟩) ?_
 refine oA (fun _=>fld gok rfl rfl rfl rfl ⟨rfl,rfl⟩) ?_
 refine oA (fun _=>fld gok rfl rfl rfl rfl ⟨rfl,rfl⟩) ?_
 refine gA (H.bx 2 rfl (j:=0) rfl) ?_
 refine gA (H.bx 2 rfl (j:=1) rfl) ?_
 obtain ⟨a1,e,f7⟩:=aA f5
 refine arO e ?_
 refine gA (H.bx 4 rfl (j:=0) rfl) ?_
 refine gA (H.bx 4 rfl (j:=1) rfl) ?_
 refine oA (fun _=>pB (cs:=#[(vi n__0),(vi n__1),(h0).v,(h1).v]) gok rfl rfl rfl ⟨rfl,rfl⟩) ?_
 refine both ?_ ?_
 replace H:=H.sel [1,0,2,3,4] rfl
 replace H:=H.join (α:=List Int) (β:=List Int)
 replace H:=H.sc (α:=Int) n__1
 replace H:=H.join (α:=Int) (β:=List Int×List Int)
 replace H:=H.sc (α:=Int) n__0
 replace H:=H.join (α:=Int) (β:=Int×List Int×List Int)
 refine lit1K (α:=Ty2) (g:=((),(),h0,h1)) gok rfl rfl rfl rfl rfl H ?_;intro h2 w10 hx H
 refine hold_ hX hx fun hX=>?_
 obtain ⟨y3,i3,f8⟩:=aA f7
 refine eA (kH i3) H ⟨Vw.part (β:=List Int) (Vw.eh (α:=Ty2) (k:=⟨0,(n__0,n__1,y1,y2),((),(),h0,h1)⟩) 0 rfl 0 rfl) y1 (h0:Hd) (fun S h=>(And.left (And.right (And.right h)))),trivial⟩ ?_
 rintro _ _ w11 ⟨h3,rfl,rfl⟩ hx H
 refine hold_ hX hx fun hX=>?_
 obtain ⟨y4,i4,f9⟩:=aA f8
 refine eA (kH i4) H ⟨Vw.part (β:=List Int) (Vw.eh (α:=Ty2) (k:=⟨0,(n__0,n__1,y1,y2),((),(),h0,h1)⟩) 1 rfl 0 rfl) y2 (h1:Hd) (fun S h=>(And.right (And.right (And.right h)))),trivial⟩ ?_
 rintro _ _ w12 ⟨h4,rfl,rfl⟩ hx H
 refine hold_ hX hx fun hX=>?_
 refine oA (fun _=>pB (cs:=#[(vi a1),(h2).v,(h3).v,(h4).v]) gok rfl rfl rfl ⟨rfl,rfl⟩) ?_
 refine stA gok [(vi a1),(h2).v,(h3).v,(h4).v] rfl (H.sel [4,0,1,2,3,5] rfl) rfl rfl rfl ?_;intro w13 H
 refine hold trivial ?_
 replace H:=H.sel [3,0,1,2,4,5] rfl
 replace H:=H.ofEH
 exact ⟨((a1,[(n__0,n__1,y1,y2)],y3,y4),(h2,h3,h4)),⟨rfl,trivial⟩,oi_ f9,H.sel [1,0,3,2] rfl⟩
 refine both ?_ ?_
 obtain ⟨a2,o0,f10⟩:=aA f7
 obtain ⟨a3,o1,f11⟩:=aA f10
 have i5:=o0
 refine eA (kH i5) H ⟨Vw.own 1 rfl,trivial⟩ ?_
 rintro _ _ w14 ⟨h5,rfl,rfl⟩ hx H
 refine hold_ hX hx fun hX=>?_
 refine both ?_ ?_
 replace H:=H.sel [2,1,0,3,4,5] rfl
 replace H:=H.join (α:=List Int) (β:=List Int)
 replace H:=H.sc (α:=Int) n__1
 replace H:=H.join (α:=Int) (β:=List Int×List Int)
 replace H:=H.sc (α:=Int) n__0
 replace H:=H.join (α:=Int) (β:=Int×List Int×List Int)
 refine lit1K (α:=Ty2) (g:=((),(),h0,h1)) gok rfl rfl rfl rfl rfl H ?_;intro h6 w17 hx H
 refine hold_ hX hx fun hX=>?_
 have i6:=o1
 refine eA (kH i6) H ⟨Vw.part (β:=List Int) (Vw.eh (α:=Ty2) (k:=⟨0,(n__0,n__1,y1,y2),((),(),h0,h1)⟩) 0 rfl 0 rfl) y2 (h1:Hd) (fun S h=>(And.right (And.right (And.right h)))),trivial⟩ ?_
 rintro _ _ w18 ⟨h7,rfl,rfl⟩ hx H
 refine hold_ hX hx fun hX=>?_
 refine oA (fun _=>pB (cs:=#[(vi a1),(h6).v,(h5).v,(h7).v]) gok rfl rfl rfl ⟨rfl,rfl⟩) ?_
 refine stA gok [(vi a1),(h6).v,(h5).v,(h7).v] rfl (H.sel [4,0,1,2,3,5] rfl) rfl rfl rfl ?_;intro w21 H
 refine hold trivial ?_
 replace H:=H.sel [2,0,1,3,4,5] rfl
 replace H:=H.ofEH
 exact ⟨((a1,[(n__0,n__1,y1,y2)],a2,a3),(h6,h5,h7)),⟨rfl,trivial⟩,oi_ f11,H.sel [1,0,3,2] rfl⟩
 refine both ?_ ?_
 have i6:=o1
 refine eA (kH i6) H ⟨Vw.own 1 rfl,trivial⟩ ?_
 rintro _ _ w22 ⟨h8,rfl,rfl⟩ hx H
 refine hold_ hX hx fun hX=>?_
 replace H:=H.sel [3,2,0,1,4,5,6] rfl
 replace H:=H.join (α:=List Int) (β:=List Int)
 replace H:=H.sc (α:=Int) n__1
 replace H:=H.join (α:=Int) (β:=List Int×List Int)
 replace H:=H.sc (α:=Int) n__0
 replace H:=H.join (α:=Int) (β:=Int×List Int×List Int)
 refine lit1K (α:=Ty2) (g:=((),(),h0,h1)) gok rfl rfl rfl rfl rfl H ?_;intro h9 w24 hx H
 refine hold_ hX hx fun hX=>?_
 refine oA (fun _=>pB (cs:=#[(vi a1),(h9).v,(h5).v,(h8).v]) gok rfl rfl rfl ⟨rfl,rfl⟩) ?_
 refine stA gok [(vi a1),(h9).v,(h5).v,(h8).v] rfl (H.sel [4,0,1,2,3,5] rfl) rfl rfl rfl ?_;intro w25 H
 refine hold trivial ?_
 replace H:=H.sel [1,0,2,3,4,5] rfl
 replace H:=H.ofEH
 exact ⟨((a1,[(n__0,n__1,y1,y2)],a2,a3),(h9,h5,h8)),⟨rfl,trivial⟩,oi_ f11,H.sel [1,0,3,2] rfl⟩
 exact trivial
 exact trivial
 rintro T0 ⟨⟨s0_0,s0_1,s0_2,s0_3⟩,⟨g0_0,g0_1,g0_2⟩⟩ w26 ⟨hr,H⟩;try dsimp only at H
 subst hr
 refine cA [(vi s0_0),(g0_0).v,(g0_1).v,(g0_2).v] rfl (H.bz_ 0 rfl) ?_
 cases f6
 exact ⟨_,_,rfl,⟨g0_0,g0_1,g0_2,rfl,rfl⟩,(H.sel [1,2,3] rfl).close ⟨cloE,cloE,cloE,trivial⟩⟩
 replace H:=H.sc (α:=Int) 1
 replace H:=H.sc (α:=Int) 0
 refine mA (α:=Int) (us:=[(vi 0),(vi 1)]) (xs:=[0,1]) (gs:=[(),()]) gok rfl rfl rfl ⟨rfl,rfl,trivial⟩ rfl rfl H ?_;intro h10 w27 hx H
 replace H:=H.sc (α:=Int) 0
 replace H:=H.sc (α:=Int) 1
 refine mA (α:=Int) (us:=[(vi 1),(vi 0)]) (xs:=[1,0]) (gs:=[(),()]) gok rfl rfl rfl ⟨rfl,rfl,trivial⟩ rfl rfl H ?_;intro h11 w29 hx H
 refine pB (cs:=#[(vi 2),vn,(h10).v,(h11).v]) gok rfl rfl rfl ?_
 refine stA gok [(vi 2),vn,(h10).v,(h11).v] rfl (H.sel [2,0,1,3] rfl) rfl rfl rfl ?_;intro w30 H
 refine cA [(vi 2),vn,(h10).v,(h11).v] rfl (H.bz_ 0 rfl) ?_
 replace H:=H.nil (α:=Ty2)
 cases f12
 exact ⟨_,_,rfl,⟨nilH,h10,h11,rfl,rfl⟩,(H.sel [0,3,2] rfl).close ⟨cloE,cloE,cloE,trivial⟩⟩
 refine fld gok rfl rfl rfl rfl (bA (H.bx 1 rfl (j:=1) rfl) ?_)
 obtain ⟨⟨y5_0,y5_1,y5_2,y5_3⟩,i7,f14⟩:=aA f13
 refine callF0_ (FD_ i7) H trivial ?_
 rintro _ _ w31 ⟨h12,h13,h14,rfl,rfl⟩ H
 refine stA gok [(vi y5_0),(h12).v,(h13).v,(h14).v] rfl (H.sel [3,0,1,2,4] rfl) rfl rfl rfl ?_;intro w32 H
 refine cA [(vi y5_0),(h12).v,(h13).v,(h14).v] rfl (H.bz_ 0 rfl) ?_
 cases f14
 exact ⟨_,_,rfl,⟨h12,h13,h14,rfl,rfl⟩,(H.sel [1,2,3] rfl).close ⟨cloE,cloE,cloE,trivial⟩⟩
theorem FK_ {e__0 e__1:Int}{e__2:List Int}{e__2h:Hd}{e__3:List Int}{e__3h:Hd}{y:Bool} (hF:bT (e__0,e__1,e__2,e__3)=some y) :
  kA Tryz.prog 162 #[(.agg #[(vi e__0),(vi e__1),(e__2h).v,(e__3h).v])] [Es (List Int) e__2 e__2h,Es (List Int) e__3 e__3h] [] (fun v Γ'=>v=(.bool y)∧Γ'=[]):=by
 intro w0 S0 fp0 hI hS
 have H:=Cx.start hI hS;dsimp at H
 refine iA (args:=[_]) gok Tryz.func162 rfl _ rfl rfl rfl ?_
 refine xA H ?_;intro b4 w3 hx H
 refine sq ?_
 obtain ⟨r0,f0,f1⟩:=aA hF
 refine cut (fun (q0:Bool)=>[(1,(vp b4)),(14,(.bool q0))]) (fun (q0:Bool) w'=>q0=r0∧Cx w0 fp0 S0 w' [Bx b4 [(vi e__0),(vi e__1),(e__2h).v,(e__3h).v],Es (List Int) e__2 e__2h,Es (List Int) e__3 e__3h]) ?_ ?_
 refine fld gok rfl rfl rfl rfl (bA (H.bx 0 rfl (j:=0) rfl) ?_)
 obtain ⟨y0,i0,f2⟩:=aA f0
 refine callF0_ (B4_ i0) H trivial ?_
 rintro _ _ w1 ⟨rfl,rfl⟩ H
 refine boolB_ f2 (fun f4=>?_) fun f7=>?_
 refine fld gok rfl rfl rfl rfl (bA (H.bx 0 rfl (j:=0) rfl) ?_)
 refine fld gok rfl rfl rfl rfl (bA (H.bx 0 rfl (j:=1) rfl) ?_)
 obtain ⟨y1,i1,f5⟩:=aA f4
 refine callF0_ (BZ_ i1) H trivial ?_
 rintro _ _ w2 ⟨rfl,rfl⟩ H
 obtain ⟨a1,e,f6⟩:=aA f5
 refine tB e ?_
 exact ⟨a1,⟨rfl,rfl,trivial⟩,oi_ f6,H.sel [0,1,2] rfl⟩
 exact ⟨true,⟨rfl,rfl,trivial⟩,oi_ f7,H.sel [0,1,2] rfl⟩
 rintro T0 s0 w4 ⟨hr,H⟩;try dsimp only at H
 subst hr
 cases s0
 have f8:=fB f1
 refine kB H [] (.fst 0 (.fst 3 (.fst 6 (.fst 1 (.fst 4 (.fst 5 (.fst 7 (.fst 8 (.fst 9 (.act 2 (.act 10 (.fst 11 .done)))))))))))) bB [] trivial (by kernel_rfl) ?_
 intro w5 H
 have hX:Ext w5 w5:=Upd.refl _ _
 refine oA (fun _=>fld gok rfl rfl rfl rfl ⟨rfl,rfl⟩) ?_
 refine oA (fun _=>fld gok rfl rfl rfl rfl ⟨rfl,rfl⟩) ?_
 refine oA (fun _=>fld gok rfl rfl rfl rfl ⟨rfl,rfl⟩) ?_
 refine gA (H.bx 0 rfl (j:=0) rfl) ?_
 refine gA (H.bx 0 rfl (j:=2) rfl) ?_
 refine nA (H.rs (α:=List Int) 1 rfl).len ?_
 refine gA (H.bx 0 rfl (j:=3) rfl) ?_
 refine nA (H.rs (α:=List Int) 2 rfl).len ?_
 refine oA (fun _=>pB (cs:=#[(vi ((e__2.length:Nat):Int)),(vi ((e__3.length:Nat):Int))]) gok rfl rfl rfl ⟨rfl,rfl⟩) ?_
 obtain ⟨⟨y2_0,y2_1⟩,i2,f9⟩:=aA f8
 refine eA (gP i2) H trivial ?_
 rintro _ _ w6 ⟨rfl,rfl⟩ hx H
 refine hold_ hX hx fun hX=>?_
 obtain ⟨a2,e,f10⟩:=aA f9
 refine eqA gok rfl Tryz.underlying114 (by kernel_rfl) (by kernel_rfl) (by kernel_rfl) (by refine ⟨rfl,⟨_,_,rfl⟩,rfl,⟨_,_,rfl⟩,trivial⟩) (ls:=[y2_0,y2_1]) (bs:=[((e__2.length:Nat):Int),((e__3.length:Nat):Int)]) rfl rfl rfl rfl e ?_
 refine hold hX ?_
 cases f10
 exact ⟨_,_,rfl,⟨rfl,rfl⟩,(H.sel [] rfl).close trivial⟩
 have f11:=eB f1
 cases f11
 exact ⟨_,_,rfl,⟨rfl,rfl⟩,(H.sel [] rfl).close trivial⟩
theorem tS {list_:List Int}{list_h:Hd}{c0_b:Nat}{c0__0:Int}{c0__1:List Ty2}{c0__1h:Hd}{c0__2:List Int}{c0__2h:Hd}{c0__3:List Int}{c0__3h:Hd}{c1_b:Nat}{c1_:Bool}{c2_b:Nat}{c2_:List Bool}{c2_h:Hd}{c3_b:Nat}{c3_:Int}{y0:Bool}{y1:List Bool}{y2:Int} (hF:kJ list_ (c0__0,c0__1,c0__2,c0__3) c1_ c2_ c3_=some (y0,y1,y2)) :
  kA Tryz.prog 164 #[(list_h).v,(vp c0_b),(vp c1_b),(vp c2_b),(vp c3_b)] [Es (List Int) list_ list_h,Es (List Ty2) c0__1 c0__1h,Es (List Int) c0__2 c0__2h,Es (List Int) c0__3 c0__3h] [Bx c0_b [(vi c0__0),(c0__1h).v,(c0__2h).v,(c0__3h).v],Bx c1_b [(.bool c1_)],Bx c2_b [(c2_h).v],E (List Bool) c2_ c2_h,Bx c3_b [(vi c3_)]] (fun v Γ'=>v=(.tuple #[])∧Γ'=[Bx c0_b [(vi c0__0),(c0__1h).v,(c0__2h).v,(c0__3h).v],Bx c1_b [(.bool y0)],Bx c2_b [(c2_h).v],E (List Bool) y1 c2_h,Bx c3_b [(vi y2)]]):=by
 intro w0 S0 fp0 hI hS
 have H:=Cx.start hI hS;dsimp at H
 refine iA (args:=[_,_,_,_,_]) gok Tryz.func164 rfl _ rfl rfl rfl ?_
 refine nA (H.rs (α:=List Int) 0 rfl).len ?_
 have x0:=(H.rs (α:=List Int) 0 rfl).max
 obtain ⟨r0,e,f0⟩:=aA hF
 refine nB _ list_.length (fun (k0:Nat) (s0:Bool×Int×List Bool) (_:Unit)=>[(1,(vp c0_b)),(2,(vp c1_b)),(3,(vp c2_b)),(4,(vp c3_b)),(8,(list_h).v),(9,(vi ((list_.length:Nat):Int))),(10,(vi ((k0:Nat):Int)))]) (fun _ (s0:Bool×Int×List Bool) (_:Unit) w'=>Cx w0 fp0 S0 w' [Bx c0_b [(vi c0__0),(c0__1h).v,(c0__2h).v,(c0__3h).v],Es (List Ty2) c0__1 c0__1h,Es (List Int) c0__2 c0__2h,Es (List Int) c0__3 c0__3h,Bx c1_b [(.bool s0.1)],Bx c2_b [(c2_h).v],E (List Bool) s0.2.2 c2_h,Bx c3_b [(vi s0.2.1)],Es (List Int) list_ list_h]) (c1_,c3_,c2_) () e r7_ (H.sel [4,1,2,3,5,6,7,8,0] rfl) ?_ ?_
 rintro T0 k0 ⟨s0_0,s0_1,s0_2⟩ _ w1 o0 hk (H:Cx w0 fp0 S0 w1 [Bx c0_b [(vi c0__0),(c0__1h).v,(c0__2h).v,(c0__3h).v],Es (List Ty2) c0__1 c0__1h,Es (List Int) c0__2 c0__2h,Es (List Int) c0__3 c0__3h,Bx c1_b [(.bool s0_0)],Bx c2_b [(c2_h).v],E (List Bool) s0_2 c2_h,Bx c3_b [(vi s0_1)],Es (List Int) list_ list_h]) f1
 refine jA (z:=true) (cB hk) ?_
 refine sq ?_
 obtain ⟨r1,f2,f3⟩:=aA f1
 refine cut (fun (q0:Bool×Int×List Bool)=>[(1,(vp c0_b)),(2,(vp c1_b)),(3,(vp c2_b)),(4,(vp c3_b)),(8,(list_h).v),(9,(vi ((list_.length:Nat):Int))),(10,(vi ((k0:Nat):Int)))]) (fun (q0:Bool×Int×List Bool) w'=>(q0.1,q0.2.1,q0.2.2)=r1∧Cx w0 fp0 S0 w' [Bx c0_b [(vi c0__0),(c0__1h).v,(c0__2h).v,(c0__3h).v],Es (List Ty2) c0__1 c0__1h,Es (List Int) c0__2 c0__2h,Es (List Int) c0__3 c0__3h,Bx c1_b [(.bool q0.1)],Bx c2_b [(c2_h).v],E (List Bool) q0.2.2 c2_h,Bx c3_b [(vi q0.2.1)],Es (List Int) list_ list_h]) ?_ ?_
 obtain ⟨a0,e,f4⟩:=aA f2
 obtain ⟨p0,m0,c0,c1,c2,c3⟩:=(H.rs (α:=List Int) 8 rfl).at1 e
 refine dA c0 c1 c2 ?_
 refine bA c3 ?_
 refine sq ?_
 refine fld gok rfl rfl rfl rfl (bA (H.bx 0 rfl (j:=0) rfl) ?_)
 obtain ⟨a1,e,f5⟩:=aA f4
 refine arO e ?_
 obtain ⟨y3,i0,f6⟩:=aA f5
 refine callF0_ (oJ i0) H trivial ?_
 rintro _ _ w2 ⟨rfl,rfl⟩ H
 refine boolB_ f6 (fun f8=>?_) fun f15=>?_
 refine bA (H.bx0 5 rfl) ?_
 obtain ⟨a3,e,f9⟩:=aA f8
 obtain ⟨p1,m1,c4,c5,c6,c7⟩:=(H.ro (α:=List Bool) 6 rfl).at1 e
 refine dA c4 c5 c6 ?_
 refine bA c7 ?_
 refine boolB_ f9 (fun f11=>?_) fun f12=>?_
 exact ⟨(s0_0,s0_1,s0_2),r7_,oi_ f11,H.sel [0,1,2,3,4,5,6,7,8] rfl⟩
 refine bA (H.bx0 5 rfl) ?_
 obtain ⟨a5,i1,f13⟩:=aA f12
 obtain ⟨p2,m2,c8,c9,c10⟩:=(H.ro (α:=List Bool) 6 rfl).setp i1
 refine dA c8 c9 c10 ?_
 replace H:=H.sel [6,0,1,2,3,4,5,7,8] rfl
 refine wC (α:=Bool) H c8 c9 i1 ?_;intro w3 H
 refine bA (H.bx0 7 rfl) ?_
 obtain ⟨a6,e,f14⟩:=aA f13
 refine arO e ?_
 replace H:=H.sel [7,0,1,2,3,4,5,6,8] rfl
 refine stB0 H rfl ?_;intro w4 H
 exact ⟨(s0_0,a6,a5),r7_,oi_ f14,H.sel [2,3,4,5,6,7,1,0,8] rfl⟩
 replace H:=H.sel [4,0,1,2,3,5,6,7,8] rfl
 refine stB0 H rfl ?_;intro w5 H
 exact ⟨(false,s0_1,s0_2),r7_,oi_ f15,H.sel [1,2,3,4,0,5,6,7,8] rfl⟩
 rintro T1 ⟨s1_0,s1_1,s1_2⟩ w6 ⟨hr,H⟩;try dsimp only at H
 subst hr
 refine arK hk x0 ?_
 obtain rfl:=oi_ f3
 exact ⟨(),r7_,H.sel [0,1,2,3,4,5,6,7,8] rfl⟩
 obtain ⟨s2_0,s2_1,s2_2⟩:=r0
 rintro T2 _ w7 H;try dsimp only at H
 refine jA (z:=false) dB ?_
 refine sq ?_
 cases f0
 exact ⟨_,_,rfl,⟨rfl,rfl⟩,(H.sel [0,4,5,6,7] rfl).close ⟨cloB,cloB,cloB,cloE,cloB,trivial⟩⟩
theorem Fv_ {g__0:Int}{g__1:List Ty2}{g__1h:Hd}{g__2:List Int}{g__2h:Hd}{g__3:List Int}{g__3h:Hd}{d0_b:Nat}{d0__0:Int}{d0__1:List Ty2}{d0__1h:Hd}{d0__2:List Int}{d0__2h:Hd}{d0__3:List Int}{d0__3h:Hd}{d1_b:Nat}{d1_:Bool}{d2_b:Nat}{d2_:List Bool}{d2_h:Hd}{d3_b:Nat}{d3_:Int}{y0:Bool}{y1:List Bool}{y2:Int} (hF:sS (g__0,g__1,g__2,g__3) (d0__0,d0__1,d0__2,d0__3) d1_ d2_ d3_=some (y0,y1,y2)) :
  kA Tryz.prog 163 #[(.agg #[(vi g__0),(g__1h).v,(g__2h).v,(g__3h).v]),(.func (.func 164) #[] #[(vp d0_b),(vp d1_b),(vp d2_b),(vp d3_b)])] [Es (List Ty2) g__1 g__1h,Es (List Int) g__2 g__2h,Es (List Int) g__3 g__3h,Es (List Ty2) d0__1 d0__1h,Es (List Int) d0__2 d0__2h,Es (List Int) d0__3 d0__3h] [Bx d0_b [(vi d0__0),(d0__1h).v,(d0__2h).v,(d0__3h).v],Bx d1_b [(.bool d1_)],Bx d2_b [(d2_h).v],E (List Bool) d2_ d2_h,Bx d3_b [(vi d3_)]] (fun v Γ'=>v=(.tuple #[])∧Γ'=[Bx d0_b [(vi d0__0),(d0__1h).v,(d0__2h).v,(d0__3h).v],Bx d1_b [(.bool y0)],Bx d2_b [(d2_h).v],E (List Bool) y1 d2_h,Bx d3_b [(vi y2)]]):=by
 intro w0 S0 fp0 hI hS
 have H:=Cx.start hI hS;dsimp at H
 refine iA (args:=[_,_]) gok Tryz.func163 rfl _ rfl rfl rfl ?_
 refine xA H ?_;intro b0 w1 hx H
 refine fld gok rfl rfl rfl rfl (bA (H.bx 0 rfl (j:=2) rfl) ?_)
 obtain ⟨⟨y3_0,y3_1,y3_2⟩,i0,f0⟩:=aA hF
 replace H:=H.sel [7,8,9,10,11,0,1,2,3,4,5,6] rfl
 refine gC (tS i0) (Γi:=[Bx d0_b [(vi d0__0),(d0__1h).v,(d0__2h).v,(d0__3h).v],Bx d1_b [(.bool d1_)],Bx d2_b [(d2_h).v],E (List Bool) d2_ d2_h,Bx d3_b [(vi d3_)]]) H ⟨Vw.sh 2 rfl,Vw.sh 4 rfl,Vw.sh 5 rfl,Vw.sh 6 rfl,trivial⟩ ?_
 rintro _ _ w2 ⟨rfl,rfl⟩ H
 refine fld gok rfl rfl rfl rfl (bA (H.bx 5 rfl (j:=3) rfl) ?_)
 obtain ⟨⟨y4_0,y4_1,y4_2⟩,i1,f1⟩:=aA f0
 refine gC (tS i1) (Γi:=[Bx d0_b [(vi d0__0),(d0__1h).v,(d0__2h).v,(d0__3h).v],Bx d1_b [(.bool y3_0)],Bx d2_b [(d2_h).v],E (List Bool) y3_1 d2_h,Bx d3_b [(vi y3_2)]]) H ⟨Vw.sh 3 rfl,Vw.sh 4 rfl,Vw.sh 5 rfl,Vw.sh 6 rfl,trivial⟩ ?_
 rintro _ _ w3 ⟨rfl,rfl⟩ H
 refine fld gok rfl rfl rfl rfl (bA (H.bx 5 rfl (j:=1) rfl) ?_)
 refine nA (H.rs (α:=List Ty2) 6 rfl).len ?_
 have x0:=(H.rs (α:=List Ty2) 6 rfl).max
 obtain ⟨r0,e,f2⟩:=aA f1
 refine nB _ g__1.length (fun (k0:Nat) (s0:Int×Bool×List Bool) (_:Unit)=>[(1,(.func (.func 164) #[] #[(vp d0_b),(vp d1_b),(vp d2_b),(vp d3_b)])),(15,(g__1h).v),(16,(vi ((g__1.length:Nat):Int))),(17,(vi ((k0:Nat):Int)))]) (fun _ (s0:Int×Bool×List Bool) (_:Unit) w'=>Cx w0 fp0 S0 w' [Bx d0_b [(vi d0__0),(d0__1h).v,(d0__2h).v,(d0__3h).v],Es (List Ty2) d0__1 d0__1h,Es (List Int) d0__2 d0__2h,Es (List Int) d0__3 d0__3h,Bx d1_b [(.bool s0.2.1)],Bx d2_b [(d2_h).v],E (List Bool) s0.2.2 d2_h,Bx d3_b [(vi s0.1)],Es (List Ty2) g__1 g__1h]) (y4_2,y4_0,y4_1) () e r4_ (H.sel [0,9,10,11,1,2,3,4,6] rfl) ?_ ?_
 rintro T0 k0 ⟨s0_0,s0_1,s0_2⟩ _ w4 o0 hk (H:Cx w0 fp0 S0 w4 [Bx d0_b [(vi d0__0),(d0__1h).v,(d0__2h).v,(d0__3h).v],Es (List Ty2) d0__1 d0__1h,Es (List Int) d0__2 d0__2h,Es (List Int) d0__3 d0__3h,Bx d1_b [(.bool s0_1)],Bx d2_b [(d2_h).v],E (List Bool) s0_2 d2_h,Bx d3_b [(vi s0_0)],Es (List Ty2) g__1 g__1h]) f3
 refine jA (z:=true) (cB hk) ?_
 refine sq (sq ?_)
 obtain ⟨a0,e,f4⟩:=aA f3
 have HH:=H;obtain ⟨p0,m0,g0,c0,c1,c2,c3,H⟩:=HH.el (α:=Ty2) 8 rfl e
 obtain ⟨a0_0,a0_1,a0_2,a0_3⟩:=a0
 obtain ⟨_,_,h0,h1⟩:=g0
 replace H:=H.part (β:=List Int) a0_2 (h0:Hd) 0 rfl (fun S h=>(And.left (And.right (And.right h))))
 replace H:=H.part (β:=List Int) a0_3 (h1:Hd) 1 rfl (fun S h=>(And.right (And.right (And.right h))))
 replace H:=H.sel [0,1,3,4,5,6,7,8,9,10,11] rfl
 refine dA c0 c1 c2 ?_
 refine cA [(vi a0_0),(vi a0_1),(h0).v,(h1).v] rfl c3 ?_
 refine sA gok rfl H ?_;intro b1 w5 hx H
 refine stA gok [(vi a0_0),(vi a0_1),(h0).v,(h1).v] rfl H rfl rfl rfl ?_;intro w6 H
 refine fld gok rfl rfl rfl rfl (bA (H.bx 0 rfl (j:=2) rfl) ?_)
 obtain ⟨⟨y5_0,y5_1,y5_2⟩,i2,f5⟩:=aA f4
 replace H:=H.sel [3,7,8,9,10,0,1,2,4,5,6,11] rfl
 refine gC (tS i2) (Γi:=[Bx d0_b [(vi d0__0),(d0__1h).v,(d0__2h).v,(d0__3h).v],Bx d1_b [(.bool s0_1)],Bx d2_b [(d2_h).v],E (List Bool) s0_2 d2_h,Bx d3_b [(vi s0_0)]]) H ⟨Vw.sh 2 rfl,Vw.sh 3 rfl,Vw.sh 4 rfl,Vw.sh 5 rfl,trivial⟩ ?_
 rintro _ _ w7 ⟨rfl,rfl⟩ H
 refine fld gok rfl rfl rfl rfl (bA (H.bx 5 rfl (j:=3) rfl) ?_)
 obtain ⟨⟨y6_0,y6_1,y6_2⟩,i3,f6⟩:=aA f5
 refine gC (tS i3) (Γi:=[Bx d0_b [(vi d0__0),(d0__1h).v,(d0__2h).v,(d0__3h).v],Bx d1_b [(.bool y5_0)],Bx d2_b [(d2_h).v],E (List Bool) y5_1 d2_h,Bx d3_b [(vi y5_2)]]) H ⟨Vw.sh 1 rfl,Vw.sh 3 rfl,Vw.sh 4 rfl,Vw.sh 5 rfl,trivial⟩ ?_
 rintro _ _ w8 ⟨rfl,rfl⟩ H
 refine arK hk x0 ?_
 obtain rfl:=oi_ f6
 exact ⟨(),r4_,H.sel [0,8,9,10,1,2,3,4,11] rfl⟩
 obtain ⟨s1_0,s1_1,s1_2⟩:=r0
 rintro T1 _ w9 H;try dsimp only at H
 refine jA (z:=false) dB ?_
 refine sq ?_
 cases f2
 exact ⟨_,_,rfl,⟨rfl,rfl⟩,(H.sel [0,4,5,6,7] rfl).close ⟨cloB,cloB,cloB,cloE,cloB,trivial⟩⟩
theorem cY {g__0:Int}{g__1:List Ty2}{g__1h:Hd}{g__2:List Int}{g__2h:Hd}{g__3:List Int}{g__3h:Hd}{y:Bool} (hF:lJ (g__0,g__1,g__2,g__3)=some y) :
  kA Tryz.prog 133 #[(.agg #[(vi g__0),(g__1h).v,(g__2h).v,(g__3h).v])] [Es (List Ty2) g__1 g__1h,Es (List Int) g__2 g__2h,Es (List Int) g__3 g__3h] [] (fun v Γ'=>v=(.bool y)∧Γ'=[]):=by
 intro w0 S0 fp0 hI hS
 have H:=Cx.start hI hS;dsimp at H
 refine iA (args:=[_]) gok Tryz.func133 rfl _ rfl rfl rfl ?_
 refine xA H ?_;intro b5 w4 hx H
 refine sq ?_
 obtain ⟨r0,f0,f1⟩:=aA hF
 refine cut (fun (q0:Bool)=>[(1,(vp b5)),(29,(.bool q0))]) (fun (q0:Bool) w'=>q0=r0∧Cx w0 fp0 S0 w' [Bx b5 [(vi g__0),(g__1h).v,(g__2h).v,(g__3h).v],Es (List Ty2) g__1 g__1h,Es (List Int) g__2 g__2h,Es (List Int) g__3 g__3h]) ?_ ?_
 refine fld gok rfl rfl rfl rfl (bA (H.bx 0 rfl (j:=0) rfl) ?_)
 obtain ⟨y0,i0,f2⟩:=aA f0
 refine callF0_ (oJ i0) H trivial ?_
 rintro _ _ w1 ⟨rfl,rfl⟩ H
 refine boolB_ f2 (fun f4=>?_) fun f12=>?_
 refine fld gok rfl rfl rfl rfl (bA (H.bx 0 rfl (j:=1) rfl) ?_)
 refine nA (H.rs (α:=List Ty2) 1 rfl).len ?_
 refine boolB_ f4 (fun f6=>?_) fun f11=>?_
 refine fld gok rfl rfl rfl rfl (bA (H.bx 0 rfl (j:=2) rfl) ?_)
 refine nA (H.rs (α:=List Int) 2 rfl).len ?_
 refine boolB_ f6 (fun f8=>?_) fun f10=>?_
 refine fld gok rfl rfl rfl rfl (bA (H.bx 0 rfl (j:=3) rfl) ?_)
 refine nA (H.rs (α:=List Int) 3 rfl).len ?_
 obtain ⟨a3,e,f9⟩:=aA f8
 refine tB e ?_
 exact ⟨a3,⟨rfl,rfl,trivial⟩,oi_ f9,H.sel [0,1,2,3] rfl⟩
 exact ⟨true,⟨rfl,rfl,trivial⟩,oi_ f10,H.sel [0,1,2,3] rfl⟩
 exact ⟨true,⟨rfl,rfl,trivial⟩,oi_ f11,H.sel [0,1,2,3] rfl⟩
 exact ⟨true,⟨rfl,rfl,trivial⟩,oi_ f12,H.sel [0,1,2,3] rfl⟩
 rintro T0 s0 w2 ⟨hr,H⟩;try dsimp only at H
 subst hr
 cases s0
 have f13:=fB f1
 refine sq ?_
 refine fld gok rfl rfl rfl rfl (bA (H.bx 0 rfl (j:=1) rfl) ?_)
 refine nA (H.rs (α:=List Ty2) 1 rfl).len ?_
 have x0:=(H.rs (α:=List Ty2) 1 rfl).max
 obtain ⟨r1,e,f14⟩:=aA f13
 refine iE _ g__1.length (fun (k0:Nat) (_:Unit) (_:Unit)=>[(1,(vp b5)),(31,(g__1h).v),(32,(vi ((g__1.length:Nat):Int))),(33,(vi ((k0:Nat):Int)))]) (fun _ (_:Unit) (_:Unit) w'=>Cx w0 fp0 S0 w' [Bx b5 [(vi g__0),(g__1h).v,(g__2h).v,(g__3h).v],Es (List Ty2) g__1 g__1h,Es (List Int) g__2 g__2h,Es (List Int) g__3 g__3h]) () () e r4_ (H.sel [0,1,2,3] rfl) ?_ ?_
 rintro T1 k0 _ _ w3 o0 hk (H:Cx w0 fp0 S0 w3 [Bx b5 [(vi g__0),(g__1h).v,(g__2h).v,(g__3h).v],Es (List Ty2) g__1 g__1h,Es (List Int) g__2 g__2h,Es (List Int) g__3 g__3h]) hrt f15
 refine jA (z:=true) (cB hk) ?_
 refine sq (sq ?_)
 obtain ⟨a4,e,f16⟩:=aA f15
 have HH:=H;obtain ⟨p0,m0,g0,c0,c1,c2,c3,H⟩:=HH.el (α:=Ty2) 1 rfl e
 obtain ⟨a4_0,a4_1,a4_2,a4_3⟩:=a4
 obtain ⟨_,_,h0,h1⟩:=g0
 replace H:=H.part (β:=List Int) a4_2 (h0:Hd) 0 rfl (fun S h=>(And.left (And.right (And.right h))))
 replace H:=H.part (β:=List Int) a4_3 (h1:Hd) 1 rfl (fun S h=>(And.right (And.right (And.right h))))
 replace H:=H.sel [0,1,3,4,5,6] rfl
 refine dA c0 c1 c2 ?_
 refine cA [(vi a4_0),(vi a4_1),(h0).v,(h1).v] rfl c3 ?_
 refine sA gok rfl H ?_;intro b0 w5 hx H
 refine stA gok [(vi a4_0),(vi a4_1),(h0).v,(h1).v] rfl H rfl rfl rfl ?_;intro w6 H
 refine cA [(vi a4_0),(vi a4_1),(h0).v,(h1).v] rfl (H.bz_ 0 rfl) ?_
 obtain ⟨y1,i1,f17⟩:=aA f16
 refine callF0_ (FK_ i1) H ⟨Vw.sh 2 rfl,Vw.sh 1 rfl,trivial⟩ ?_
 rintro _ _ w7 ⟨rfl,rfl⟩ H
 refine boolB_ f17 (fun f19=>?_) fun f20=>?_
 refine arK hk x0 ?_
 obtain rfl:=oi_ f19
 exact ⟨(),(),rfl,r4_,H.sel [3,4,5,6] rfl⟩
 obtain rfl:=oi_ f20
 have hr:=hrt _ rfl;subst hr
 have f21:some _=some _:=f14
 cases f21
 exact ⟨_,_,rfl,⟨rfl,rfl⟩,(H.sel [] rfl).close trivial⟩
 rintro T2 _ _ w8 hr H;try dsimp only at H
 subst hr
 refine jA (z:=false) dB ?_
 refine sq ?_
 refine fld gok rfl rfl rfl rfl (bA (H.bx 0 rfl (j:=0) rfl) ?_)
 obtain ⟨a6,e,f22⟩:=aA f14
 refine nE (α:=Bool) gok rfl rfl rfl rfl (xE e) H ?_;intro h2 w9 hx H
 refine sA gok rfl H ?_;intro b1 w10 hx H
 refine sA gok rfl H ?_;intro b2 w11 hx H
 refine sA gok rfl H ?_;intro b3 w12 hx H
 replace H:=H.sel [2,0,1,3,4,5,6,7] rfl
 refine stB0 H rfl ?_;intro w13 H
 replace H:=H.sel [2,0,1,3,4,5,6,7] rfl
 refine stB0 H rfl ?_;intro w14 H
 replace H:=H.sel [2,0,1,3,4,5,6,7] rfl
 refine stB0 H rfl ?_;intro w15 H
 refine cA [(vi g__0),(g__1h).v,(g__2h).v,(g__3h).v] rfl (H.bz_ 4 rfl) ?_
 obtain ⟨⟨y2_0,y2_1,y2_2⟩,i2,f23⟩:=aA f22
 replace H:=H.sel [4,1,2,3,0,5,6,7] rfl
 refine gC (Fv_ i2) (Γi:=[Bx b5 [(vi g__0),(g__1h).v,(g__2h).v,(g__3h).v],Bx b2 [(.bool true)],Bx b1 [(h2).v],E (List Bool) a6 h2,Bx b3 [(vi 0)]]) H ⟨Vw.sh 0 rfl,Vw.sh 1 rfl,Vw.sh 2 rfl,Vw.sh 0 rfl,Vw.sh 1 rfl,Vw.sh 2 rfl,trivial⟩ ?_
 rintro _ _ w16 ⟨rfl,rfl⟩ H
 obtain ⟨r2,f24,f25⟩:=aA f23
 refine cut (fun (q1:Bool×Bool)=>[(2,(.bool q1.2))]) (fun (q1:Bool×Bool) w'=>(q1.1,q1.2)=r2∧Cx w0 fp0 S0 w' []) ?_ ?_
 refine bA (H.bx0 1 rfl) ?_
 cases y2_0
 have f26:=fB f24
 exact ⟨(false,false),⟨rfl,trivial⟩,oi_ f26,H.sel [] rfl⟩
 have f27:=eB f24
 refine bA (H.bx0 4 rfl) ?_
 refine fld gok rfl rfl rfl rfl (bA (H.bx 0 rfl (j:=0) rfl) ?_)
 obtain ⟨a7,e,f28⟩:=aA f27
 refine tB e ?_
 exact ⟨(true,a7),⟨rfl,trivial⟩,oi_ f28,H.sel [] rfl⟩
 rintro T3 ⟨s1_0,s1_1⟩ w17 ⟨hr,H⟩;try dsimp only at H
 subst hr
 cases f25
 exact ⟨_,_,rfl,⟨rfl,rfl⟩,(H.sel [] rfl).close trivial⟩
 have f29:=eB f1
 cases f29
 exact ⟨_,_,rfl,⟨rfl,rfl⟩,(H.sel [] rfl).close trivial⟩
theorem Cp_ {t__0:List Ty4}{t__0h:Hd}{y0_0:Int}{y0_1:List Ty2}{y0_2 y0_3:List Int}{y1:Bool} (hF:nN t__0=some ((y0_0,y0_1,y0_2,y0_3),y1)) :
  kA Tryz.prog 105 #[(.agg #[(t__0h).v])] [Es (List Ty4) t__0 t__0h] [] (fun v Γ'=>∃ z0 z1 z2:Hd,v=(.tuple #[(.agg #[(vi y0_0),(z0).v,(z1).v,(z2).v]),(.bool y1)])∧Γ'=[E (List Ty2) y0_1 z0,E (List Int) y0_2 z1,E (List Int) y0_3 z2]):=by
 intro w0 S0 fp0 hI hS
 have H:=Cx.start hI hS;dsimp at H
 refine iA (args:=[_]) gok Tryz.func105 rfl _ rfl rfl rfl ?_
 refine xA H ?_;intro b3 w2 hx H
 refine sA gok rfl H ?_;intro b6 w5 hx H
 refine wF (α:=Ty0) gok rfl rfl H ?_;intro h9 w8 hx H
 refine sq ?_
 refine fld gok rfl rfl rfl rfl (bA (H.bx 2 rfl (j:=0) rfl) ?_)
 refine nA (H.rs (α:=List Ty4) 3 rfl).len ?_
 have x0:=(H.rs (α:=List Ty4) 3 rfl).max
 obtain ⟨r0,e,f0⟩:=aA hF
 refine iE _ t__0.length (fun (k0:Nat) (s0:List Ty0) (g0:Hd)=>[(2,(vp b6)),(4,(g0).v),(11,(t__0h).v),(12,(vi ((t__0.length:Nat):Int))),(13,(vi ((k0:Nat):Int)))]) (fun _ (s0:List Ty0) (g0:Hd) w'=>Cx w0 fp0 S0 w' [Bx b6 [(vi 0),vn,vn,vn],E (List Ty0) s0 g0,Es (List Ty4) t__0 t__0h]) ([]:List Ty0) h9 e r5_ (H.sel [1,0,3] rfl) ?_ ?_
 rintro T0 k0 s0 g0 w1 o0 hk (H:Cx w0 fp0 S0 w1 [Bx b6 [(vi 0),vn,vn,vn],E (List Ty0) s0 g0,Es (List Ty4) t__0 t__0h]) hrt f1
 refine jA (z:=true) (cB hk) ?_
 refine sq (sq ?_)
 obtain ⟨a0,e,f2⟩:=aA f1
 have HH:=H;obtain ⟨p0,m0,g1,c0,c1,c2,c3,H⟩:=HH.el (α:=Ty4) 2 rfl e
 obtain ⟨a0_0,a0_1,a0_2⟩:=a0
 obtain ⟨_,_,_⟩:=g1
 replace H:=H.sel [1,2,3] rfl
 refine dA c0 c1 c2 ?_
 refine cA [(vi a0_0),(vi a0_1),(.string a0_2)] rfl c3 ?_
 refine sA gok rfl H ?_;intro b0 w3 hx H
 refine stA gok [(vi a0_0),(vi a0_1),(.string a0_2)] rfl H rfl rfl rfl ?_;intro w4 H
 refine nA (H.ro (α:=List Ty0) 2 rfl).len ?_
 obtain ⟨a1,e,f3⟩:=aA f2
 refine arO e ?_
 refine sA gok rfl H ?_;intro b1 w6 hx H
 refine sq ?_
 refine fld gok rfl rfl rfl rfl (bA (H.bx 1 rfl (j:=0) rfl) ?_)
 refine boolB_ f3 (fun f5=>?_) fun f28=>?_
 refine boolB_ f5 (fun f7=>?_) fun f15=>?_
 refine cA [(vi a0_0),(vi a0_1),(.string a0_2)] rfl (H.bz_ 1 rfl) ?_
 obtain ⟨⟨y0_0,y0_1,y0_2,y0_3⟩,i0,f8⟩:=aA f7
 refine callF0_ (FY_ i0) H trivial ?_
 rintro _ _ w7 ⟨h0,h1,h2,rfl,rfl⟩ H
 refine stA gok [(vi y0_0),(h0).v,(h1).v,(h2).v] rfl (H.sel [3,0,1,2,4,5,6,7] rfl) rfl rfl rfl ?_;intro w9 H
 refine sq ?_
 refine cA [(vi y0_0),(h0).v,(h1).v,(h2).v] rfl (H.bz_ 0 rfl) ?_
 obtain ⟨y2,i1,f9⟩:=aA f8
 refine callF0_ (cY i1) H ⟨Vw.own 1 rfl,Vw.own 2 rfl,Vw.own 3 rfl,trivial⟩ ?_
 rintro _ _ w10 ⟨rfl,rfl⟩ H
 refine boolB_ f9 (fun f11=>?_) fun f13=>?_
 refine cA [(vi y0_0),(h0).v,(h1).v,(h2).v] rfl (H.bz_ 0 rfl) ?_
 replace H:=H.sel [1,2,3,0,4,5,6,7] rfl
 replace H:=H.sel [1,2,0,3,4,5,6,7] rfl
 replace H:=H.join (α:=List Int) (β:=List Int)
 replace H:=H.sel [1,0,2,3,4,5,6] rfl
 replace H:=H.join (α:=List Ty2) (β:=List Int×List Int)
 replace H:=H.sc (α:=Int) y0_0
 replace H:=H.join (α:=Int) (β:=(List Ty2)×List Int×List Int)
 refine pC (α:=Ty0) (g:=((),h0,h1,h2)) gok rfl rfl rfl rfl rfl H ?_;intro h3 w11 hx H
 obtain ⟨a5,e,f12⟩:=aA f11
 refine append_ (α:=Ty0) gok rfl rfl rfl rfl (H.sel [4,0,1,2,3,5] rfl) e ?_;intro h4 w12 H
 refine arK hk x0 ?_
 obtain rfl:=oi_ f12
 exact ⟨a5,h4,rfl,r5_,H.sel [3,0,4] rfl⟩
 refine pB (cs:=#[(vi 0),vn,vn,vn]) gok rfl rfl rfl ?_
 refine stA gok [(vi 0),vn,vn,vn] rfl (H.sel [5,0,1,2,3,4,6,7] rfl) rfl rfl rfl ?_;intro w13 H
 obtain rfl:=oi_ f13
 have hr:=hrt _ rfl;subst hr
 have f14:some _=some _:=f0
 refine cA [(vi 0),vn,vn,vn] rfl (H.bz_ 0 rfl) ?_
 replace H:=H.nil (α:=Ty2)
 replace H:=H.nil (α:=Int)
 replace H:=H.nil (α:=Int)
 cases f14
 exact ⟨_,_,rfl,⟨nilH,nilH,nilH,rfl,rfl⟩,(H.sel [2,1,0] rfl).close ⟨cloE,cloE,cloE,trivial⟩⟩
 refine kB H [10] (.fst 0 (.fst 1 (.fst 2 (.fst 3 (.fst 5 (.fst 6 (.fst 7 (.fst 4 (.fst 8 (.act 9 (.act 10 .done))))))))))) bB [] trivial (by kernel_rfl) ?_
 intro w14 H
 have hX:Ext w14 w14:=Upd.refl _ _
 obtain ⟨a6,e,f16⟩:=aA f15
 refine arO e ?_
 obtain ⟨a7,e,f17⟩:=aA f16
 replace H:=H.sel [3,0,1,2,4] rfl
 replace H:=H.toEH (α:=Ty0)
 have HH:=H;obtain ⟨p1,m1,g2,c4,c5,c6,c7,H⟩:=HH.peek e
 obtain ⟨a7_0,a7_1,a7_2,a7_3⟩:=a7
 obtain ⟨_,h5,h6,h7⟩:=g2
 refine dA c4 c5 c6 ?_
 obtain ⟨a8,e,f18⟩:=aA f17
 have HH:=H;obtain ⟨p2,m2,g3,c8,c9,c10,c11,H⟩:=HH.peek e
 obtain ⟨a8_0,a8_1,a8_2,a8_3⟩:=a8
 obtain ⟨_,h8,h10,h11⟩:=g3
 refine dA c8 c9 c10 ?_
 refine sC [(vi a7_0),(h5).v,(h6).v,(h7).v] rfl c7 ?_
 refine sC [(vi a8_0),(h8).v,(h10).v,(h11).v] rfl c11 ?_
 obtain ⟨⟨y3_0,y3_1,y3_2,y3_3⟩,i2,f19⟩:=aA f18
 refine eA (FW_ i2) H ⟨Vw.part (β:=List Ty2) (Vw.eh (α:=Ty0) (k:=⟨m1,(a7_0,a7_1,a7_2,a7_3),((),h5,h6,h7)⟩) 0 rfl 1 rfl) a7_1 (h5:Hd) (fun S h=>(And.left (And.right h))),Vw.part (β:=List Int) (Vw.eh (α:=Ty0) (k:=⟨m1,(a7_0,a7_1,a7_2,a7_3),((),h5,h6,h7)⟩) 0 rfl 1 rfl) a7_2 (h6:Hd) (fun S h=>(And.left (And.right (And.right h)))),Vw.part (β:=List Int) (Vw.eh (α:=Ty0) (k:=⟨m1,(a7_0,a7_1,a7_2,a7_3),((),h5,h6,h7)⟩) 0 rfl 1 rfl) a7_3 (h7:Hd) (fun S h=>(And.right (And.right (And.right h)))),Vw.part (β:=List Ty2) (Vw.eh (α:=Ty0) (k:=⟨m2,(a8_0,a8_1,a8_2,a8_3),((),h8,h10,h11)⟩) 0 rfl 0 rfl) a8_1 (h8:Hd) (fun S h=>(And.left (And.right h))),Vw.part (β:=List Int) (Vw.eh (α:=Ty0) (k:=⟨m2,(a8_0,a8_1,a8_2,a8_3),((),h8,h10,h11)⟩) 0 rfl 0 rfl) a8_2 (h10:Hd) (fun S h=>(And.left (And.right (And.right h)))),Vw.part (β:=List Int) (Vw.eh (α:=Ty0) (k:=⟨m2,(a8_0,a8_1,a8_2,a8_3),((),h8,h10,h11)⟩) 0 rfl 0 rfl) a8_3 (h11:Hd) (fun S h=>(And.right (And.right (And.right h)))),trivial⟩ ?_
 rintro _ _ w15 ⟨h12,h13,h14,rfl,rfl⟩ hx H
 refine hold_ hX hx fun hX=>?_
 refine stA gok [(vi y3_0),(h12).v,(h13).v,(h14).v] rfl (H.sel [4,0,1,2,3,5,6,7] rfl) rfl rfl rfl ?_;intro w16 H
 refine hold trivial ?_
 replace H:=H.sel [4,0,1,2,3,5,6,7] rfl
 replace H:=H.ofEH
 obtain ⟨a9,e,f20⟩:=aA f19
 refine arO e ?_
 obtain ⟨a10,e,f21⟩:=aA f20
 refine slO (α:=Ty0) gok rfl rfl H e rfl rfl ?_;intro h15 H
 refine sq ?_
 refine cA [(vi y3_0),(h12).v,(h13).v,(h14).v] rfl (H.bz_ 1 rfl) ?_
 obtain ⟨y4,i3,f22⟩:=aA f21
 refine callF0_ (cY i3) H ⟨Vw.own 2 rfl,Vw.own 3 rfl,Vw.own 4 rfl,trivial⟩ ?_
 rintro _ _ w17 ⟨rfl,rfl⟩ H
 refine boolB_ f22 (fun f24=>?_) fun f26=>?_
 refine cA [(vi y3_0),(h12).v,(h13).v,(h14).v] rfl (H.bz_ 1 rfl) ?_
 replace H:=H.sel [2,3,4,0,1,5,6,7] rfl
 replace H:=H.sel [1,2,0,3,4,5,6,7] rfl
 replace H:=H.join (α:=List Int) (β:=List Int)
 replace H:=H.sel [1,0,2,3,4,5,6] rfl
 replace H:=H.join (α:=List Ty2) (β:=List Int×List Int)
 replace H:=H.sc (α:=Int) y3_0
 replace H:=H.join (α:=Int) (β:=(List Ty2)×List Int×List Int)
 refine pC (α:=Ty0) (g:=((),h12,h13,h14)) gok rfl rfl rfl rfl rfl H ?_;intro h16 w18 hx H
 obtain ⟨a12,e,f25⟩:=aA f24
 refine append_ (α:=Ty0) gok rfl rfl rfl rfl (H.sel [1,0,2,3,4,5] rfl) e ?_;intro h17 w19 H
 refine arK hk x0 ?_
 obtain rfl:=oi_ f25
 exact ⟨a12,h17,rfl,r5_,H.sel [3,0,4] rfl⟩
 refine pB (cs:=#[(vi 0),vn,vn,vn]) gok rfl rfl rfl ?_
 refine stA gok [(vi 0),vn,vn,vn] rfl (H.sel [6,0,1,2,3,4,5,7] rfl) rfl rfl rfl ?_;intro w20 H
 obtain rfl:=oi_ f26
 have hr:=hrt _ rfl;subst hr
 have f27:some _=some _:=f0
 refine cA [(vi 0),vn,vn,vn] rfl (H.bz_ 0 rfl) ?_
 replace H:=H.nil (α:=Ty2)
 replace H:=H.nil (α:=Int)
 replace H:=H.nil (α:=Int)
 cases f27
 exact ⟨_,_,rfl,⟨nilH,nilH,nilH,rfl,rfl⟩,(H.sel [2,1,0] rfl).close ⟨cloE,cloE,cloE,trivial⟩⟩
 refine kB H [10] (.fst 0 (.fst 1 (.fst 2 (.fst 3 (.fst 5 (.fst 6 (.fst 7 (.fst 4 (.fst 8 (.act 9 (.act 10 .done))))))))))) bB [] trivial (by kernel_rfl) ?_
 intro w21 H
 have hX:Ext w21 w21:=Upd.refl _ _
 obtain ⟨a13,e,f29⟩:=aA f28
 refine arO e ?_
 obtain ⟨a14,e,f30⟩:=aA f29
 replace H:=H.sel [3,0,1,2,4] rfl
 replace H:=H.toEH (α:=Ty0)
 have HH:=H;obtain ⟨p3,m3,g4,c12,c13,c14,c15,H⟩:=HH.peek e
 obtain ⟨a14_0,a14_1,a14_2,a14_3⟩:=a14
 obtain ⟨_,h18,h19,h20⟩:=g4
 refine dA c12 c13 c14 ?_
 obtain ⟨a15,e,f31⟩:=aA f30
 have HH:=H;obtain ⟨p4,m4,g5,c16,c17,c18,c19,H⟩:=HH.peek e
 obtain ⟨a15_0,a15_1,a15_2,a15_3⟩:=a15
 obtain ⟨_,h21,h22,h23⟩:=g5
 refine dA c16 c17 c18 ?_
 refine sC [(vi a14_0),(h18).v,(h19).v,(h20).v] rfl c15 ?_
 refine sC [(vi a15_0),(h21).v,(h22).v,(h23).v] rfl c19 ?_
 obtain ⟨⟨y5_0,y5_1,y5_2,y5_3⟩,i4,f32⟩:=aA f31
 refine eA (FV_ i4) H ⟨Vw.part (β:=List Ty2) (Vw.eh (α:=Ty0) (k:=⟨m3,(a14_0,a14_1,a14_2,a14_3),((),h18,h19,h20)⟩) 0 rfl 1 rfl) a14_1 (h18:Hd) (fun S h=>(And.left (And.right h))),Vw.part (β:=List Int) (Vw.eh (α:=Ty0) (k:=⟨m3,(a14_0,a14_1,a14_2,a14_3),((),h18,h19,h20)⟩) 0 rfl 1 rfl) a14_2 (h19:Hd) (fun S h=>(And.left (And.right (And.right h)))),Vw.part (β:=List Int) (Vw.eh (α:=Ty0) (k:=⟨m3,(a14_0,a14_1,a14_2,a14_3),((),h18,h19,h20)⟩) 0 rfl 1 rfl) a14_3 (h20:Hd) (fun S h=>(And.right (And.right (And.right h)))),Vw.part (β:=List Ty2) (Vw.eh (α:=Ty0) (k:=⟨m4,(a15_0,a15_1,a15_2,a15_3),((),h21,h22,h23)⟩) 0 rfl 0 rfl) a15_1 (h21:Hd) (fun S h=>(And.left (And.right h))),Vw.part (β:=List Int) (Vw.eh (α:=Ty0) (k:=⟨m4,(a15_0,a15_1,a15_2,a15_3),((),h21,h22,h23)⟩) 0 rfl 0 rfl) a15_2 (h22:Hd) (fun S h=>(And.left (And.right (And.right h)))),Vw.part (β:=List Int) (Vw.eh (α:=Ty0) (k:=⟨m4,(a15_0,a15_1,a15_2,a15_3),((),h21,h22,h23)⟩) 0 rfl 0 rfl) a15_3 (h23:Hd) (fun S h=>(And.right (And.right (And.right h)))),trivial⟩ ?_
 rintro _ _ w22 ⟨h24,h25,h26,rfl,rfl⟩ hx H
 refine hold_ hX hx fun hX=>?_
 refine stA gok [(vi y5_0),(h24).v,(h25).v,(h26).v] rfl (H.sel [4,0,1,2,3,5,6,7] rfl) rfl rfl rfl ?_;intro w23 H
 refine hold trivial ?_
 replace H:=H.sel [4,0,1,2,3,5,6,7] rfl
 replace H:=H.ofEH
 obtain ⟨a16,e,f33⟩:=aA f32
 refine arO e ?_
 obtain ⟨a17,e,f34⟩:=aA f33
 refine slO (α:=Ty0) gok rfl rfl H e rfl rfl ?_;intro h27 H
 refine sq ?_
 refine cA [(vi y5_0),(h24).v,(h25).v,(h26).v] rfl (H.bz_ 1 rfl) ?_
 obtain ⟨y6,i5,f35⟩:=aA f34
 refine callF0_ (cY i5) H ⟨Vw.own 2 rfl,Vw.own 3 rfl,Vw.own 4 rfl,trivial⟩ ?_
 rintro _ _ w24 ⟨rfl,rfl⟩ H
 refine boolB_ f35 (fun f37=>?_) fun f39=>?_
 refine cA [(vi y5_0),(h24).v,(h25).v,(h26).v] rfl (H.bz_ 1 rfl) ?_
 replace H:=H.sel [2,3,4,0,1,5,6,7] rfl
 replace H:=H.sel [1,2,0,3,4,5,6,7] rfl
 replace H:=H.join (α:=List Int) (β:=List Int)
 replace H:=H.sel [1,0,2,3,4,5,6] rfl
 replace H:=H.join (α:=List Ty2) (β:=List Int×List Int)
 replace H:=H.sc (α:=Int) y5_0
 replace H:=H.join (α:=Int) (β:=(List Ty2)×List Int×List Int)
 refine pC (α:=Ty0) (g:=((),h24,h25,h26)) gok rfl rfl rfl rfl rfl H ?_;intro h28 w25 hx H
 obtain ⟨a19,e,f38⟩:=aA f37
 refine append_ (α:=Ty0) gok rfl rfl rfl rfl (H.sel [1,0,2,3,4,5] rfl) e ?_;intro h29 w26 H
 refine arK hk x0 ?_
 obtain rfl:=oi_ f38
 exact ⟨a19,h29,rfl,r5_,H.sel [3,0,4] rfl⟩
 refine pB (cs:=#[(vi 0),vn,vn,vn]) gok rfl rfl rfl ?_
 refine stA gok [(vi 0),vn,vn,vn] rfl (H.sel [6,0,1,2,3,4,5,7] rfl) rfl rfl rfl ?_;intro w27 H
 obtain rfl:=oi_ f39
 have hr:=hrt _ rfl;subst hr
 have f40:some _=some _:=f0
 refine cA [(vi 0),vn,vn,vn] rfl (H.bz_ 0 rfl) ?_
 replace H:=H.nil (α:=Ty2)
 replace H:=H.nil (α:=Int)
 replace H:=H.nil (α:=Int)
 cases f40
 exact ⟨_,_,rfl,⟨nilH,nilH,nilH,rfl,rfl⟩,(H.sel [2,1,0] rfl).close ⟨cloE,cloE,cloE,trivial⟩⟩
 rintro T1 s1 g6 w28 hr H;try dsimp only at H
 subst hr
 refine jA (z:=false) dB ?_
 refine sq ?_
 obtain ⟨a20,e,f41⟩:=aA f0
 replace H:=H.sel [1,0,2] rfl
 replace H:=H.toEH (α:=Ty0)
 have HH:=H;obtain ⟨p5,m5,g7,c20,c21,c22,c23,H⟩:=HH.peek e
 obtain ⟨a20_0,a20_1,a20_2,a20_3⟩:=a20
 obtain ⟨_,h30,h31,h32⟩:=g7
 refine dA c20 c21 c22 ?_
 replace H:=H.takeK 0 rfl
 replace H:=H.sel [0,2,3] rfl
 replace H:=H.split
 replace H:=H.sel [1,2,3] rfl
 replace H:=H.split
 replace H:=H.sel [1,0,2,3] rfl
 replace H:=H.split
 refine cA [(vi a20_0),(h30).v,(h31).v,(h32).v] rfl c23 ?_
 refine stA gok [(vi a20_0),(h30).v,(h31).v,(h32).v] rfl (H.sel [3,0,1,2,4] rfl) rfl rfl rfl ?_;intro w29 H
 refine cA [(vi a20_0),(h30).v,(h31).v,(h32).v] rfl (H.bz_ 0 rfl) ?_
 cases f41
 exact ⟨_,_,rfl,⟨h30,h31,h32,rfl,rfl⟩,(H.sel [3,1,2] rfl).close ⟨cloE,cloE,cloE,trivial⟩⟩
theorem GR_ {r__0:ByteArray}{r__1_0:List Ty4}{r__1_0h:Hd}{r__2_0:List Ty4}{r__2_0h:Hd}{y:Bool} (hF:Ae_ (r__0,r__1_0,r__2_0)=some y) :
  kA Tryz.prog 75 #[(.agg #[(.string r__0),(r__1_0h).v,(r__2_0h).v])] [Es (List Ty4) r__1_0 r__1_0h,Es (List Ty4) r__2_0 r__2_0h] [] (fun v Γ'=>v=(.bool y)∧Γ'=[]):=by
 intro w0 S0 fp0 hI hS
 have H:=Cx.start hI hS;dsimp at H
 refine iA (args:=[_]) gok Tryz.func75 rfl _ rfl rfl rfl ?_
 refine xA H ?_;intro b4 w3 hx H
 refine fld gok rfl rfl rfl rfl ?_
 refine cA [(r__1_0h).v] rfl (H.bxs 0 rfl 1 rfl) ?_
 obtain ⟨y6,e,hF7⟩:=aA hF
 obtain ⟨⟨y6_0_0,y6_0_1⟩,y6_1⟩:=y6
 have ey6:=e
 refine callF0_ (nY ey6) H ⟨Vw.sh 1 rfl,trivial⟩ ?_
 rintro _ _ w8 ⟨rfl,rfl⟩ H
 refine sA gok rfl H ?_;intro b0 w9 hx H
 refine stA gok [(vi y6_0_0),(vi y6_0_1)] rfl H rfl rfl rfl ?_;intro w1 H
 refine fld gok rfl rfl rfl rfl ?_
 refine cA [(r__2_0h).v] rfl (H.bxs 1 rfl 2 rfl) ?_
 obtain ⟨y0,e,f0⟩:=aA hF7
 obtain ⟨⟨y0_0_0,y0_0_1⟩,y0_1⟩:=y0
 have i0:=e
 refine callF0_ (nY i0) H ⟨Vw.sh 3 rfl,trivial⟩ ?_
 rintro _ _ w2 ⟨rfl,rfl⟩ H
 refine sA gok rfl H ?_;intro b1 w4 hx H
 refine stA gok [(vi y0_0_0),(vi y0_0_1)] rfl H rfl rfl rfl ?_;intro w5 H
 refine sq ?_
 obtain ⟨r0,f1,f2⟩:=aA f0
 refine cut (fun (q0:Bool)=>[(1,(vp b4)),(35,(.bool q0))]) (fun (q0:Bool) w'=>q0=r0∧Cx w0 fp0 S0 w' [Bx b4 [(.string r__0),(r__1_0h).v,(r__2_0h).v],Es (List Ty4) r__1_0 r__1_0h,Es (List Ty4) r__2_0 r__2_0h]) ?_ ?_
 refine boolB_ f1 (fun f4=>?_) fun f13=>?_
 refine boolB_ f4 (fun f6=>?_) fun f12=>?_
 refine cA [(vi y6_0_0),(vi y6_0_1)] rfl (H.bz_ 1 rfl) ?_
 refine cA [(vi y0_0_0),(vi y0_0_1)] rfl (H.bz_ 0 rfl) ?_
 obtain ⟨a2,e,f7⟩:=aA f6
 refine neqA gok rfl Tryz.underlying114 (by kernel_rfl) (by kernel_rfl) (by kernel_rfl) (by refine ⟨rfl,⟨_,_,rfl⟩,rfl,⟨_,_,rfl⟩,trivial⟩) (ls:=[y6_0_0,y6_0_1]) (bs:=[y0_0_0,y0_0_1]) rfl rfl rfl rfl e ?_
 cases a2
 have f8:=fB f7
 refine fld gok rfl rfl rfl rfl (bA (H.bx 2 rfl (j:=0) rfl) ?_)
 obtain ⟨y1,i1,f9⟩:=aA f8
 refine callF0_ (GS_ i1) H trivial ?_
 rintro _ _ w6 ⟨rfl,rfl⟩ H
 obtain ⟨a3,e,f10⟩:=aA f9
 refine tB e ?_
 exact ⟨a3,⟨rfl,rfl,trivial⟩,oi_ f10,H.sel [2,3,4] rfl⟩
 have f11:=eB f7
 exact ⟨true,⟨rfl,rfl,trivial⟩,oi_ f11,H.sel [2,3,4] rfl⟩
 exact ⟨true,⟨rfl,rfl,trivial⟩,oi_ f12,H.sel [2,3,4] rfl⟩
 exact ⟨true,⟨rfl,rfl,trivial⟩,oi_ f13,H.sel [2,3,4] rfl⟩
 rintro T0 s0 w7 ⟨hr,H⟩;try dsimp only at H
 subst hr
 cases s0
 have f14:=fB f2
 refine fld gok rfl rfl rfl rfl ?_
 refine cA [(r__1_0h).v] rfl (H.bxs 0 rfl 1 rfl) ?_
 obtain ⟨y2,e,f15⟩:=aA f14
 obtain ⟨⟨y2_0_0,y2_0_1,y2_0_2,y2_0_3⟩,y2_1⟩:=y2
 have i2:=e
 refine callF0_ (Cp_ i2) H ⟨Vw.sh 1 rfl,trivial⟩ ?_
 rintro _ _ w10 ⟨h0,h1,h2,rfl,rfl⟩ H
 refine fld gok rfl rfl rfl rfl ?_
 refine cA [(r__2_0h).v] rfl (H.bxs 3 rfl 2 rfl) ?_
 obtain ⟨y3,e,f16⟩:=aA f15
 obtain ⟨⟨y3_0_0,y3_0_1,y3_0_2,y3_0_3⟩,y3_1⟩:=y3
 have i3:=e
 refine callF0_ (Cp_ i3) H ⟨Vw.sh 5 rfl,trivial⟩ ?_
 rintro _ _ w11 ⟨h3,h4,h5,rfl,rfl⟩ H
 obtain ⟨r1,f17,f18⟩:=aA f16
 refine cut (fun (q1:Bool)=>[(2,(.bool q1))]) (fun (q1:Bool) w'=>q1=r1∧Cx w0 fp0 S0 w' []) ?_ ?_
 cases y2_1
 have f19:=fB f17
 exact ⟨false,⟨rfl,trivial⟩,oi_ f19,H.sel [] rfl⟩
 have f20:=eB f17
 exact ⟨y3_1,⟨rfl,trivial⟩,oi_ f20,H.sel [] rfl⟩
 rintro T1 s1 w13 ⟨hr,H⟩;try dsimp only at H
 subst hr
 cases f18
 exact ⟨_,_,rfl,⟨rfl,rfl⟩,(H.sel [] rfl).close trivial⟩
 have f21:=eB f2
 cases f21
 exact ⟨_,_,rfl,⟨rfl,rfl⟩,(H.sel [] rfl).close trivial⟩
theorem Gl_ {p_:Int}{y:Bool} (hF:qT p_=some y) :
  kA Tryz.prog 83 #[(vi p_)] [Gl 0 [.int .i64 2,.int .i64 3,.int .i64 5,.int .i64 7]] [] (fun v Γ'=>v=(.bool y)∧Γ'=[]):=by
 intro w0 S0 fp0 hI hS
 have H:=Cx.start hI hS;dsimp at H
 refine iA (args:=[_]) gok Tryz.func83 rfl _ rfl rfl rfl ?_
 refine sq ?_
 obtain ⟨r0,f0,f1⟩:=aA hF
 refine cut (fun (q0:Bool)=>[(0,(vi p_)),(10,(.bool q0))]) (fun (q0:Bool) w'=>q0=r0∧Cx w0 fp0 S0 w' [Gl 0 [.int .i64 2,.int .i64 3,.int .i64 5,.int .i64 7]]) ?_ ?_
 refine boolB_ f0 (fun f3=>?_) fun f5=>?_
 obtain ⟨a1,e,f4⟩:=aA f3
 refine tB e ?_
 exact ⟨a1,⟨rfl,rfl,trivial⟩,oi_ f4,H.sel [0] rfl⟩
 exact ⟨true,⟨rfl,rfl,trivial⟩,oi_ f5,H.sel [0] rfl⟩
 rintro T0 s8 w1 ⟨hr,H⟩;try dsimp only at H
 subst hr
 cases s8
 have f6:=fB f1
 refine sq ?_
 refine cA [.int .i64 2,.int .i64 3,.int .i64 5,.int .i64 7] rfl (H.gl 0 rfl) ?_
 obtain ⟨a2,hn,f7⟩:=aA f6
 obtain ⟨r1,e,f8⟩:=aA f7
 refine iE _ ((4:Int).toNat) (fun (k0:Nat) (_:Unit) (_:Unit)=>[(0,(vi p_)),(11,(.agg #[.int .i64 2,.int .i64 3,.int .i64 5,.int .i64 7])),(12,(vi ((k0:Nat):Int)))]) (fun _ (_:Unit) (_:Unit) w'=>Cx w0 fp0 S0 w' [Gl 0 [.int .i64 2,.int .i64 3,.int .i64 5,.int .i64 7]]) () () e r3_ (H.sel [0] rfl) ?_ ?_
 rintro T1 k0 _ _ w2 o0 hk (H:Cx w0 fp0 S0 w2 [Gl 0 [.int .i64 2,.int .i64 3,.int .i64 5,.int .i64 7]]) hrt f9
 refine jA (z:=true) (nX hk) ?_
 refine sq (sq ?_)
 obtain ⟨a3,e,f10⟩:=aA f9
 refine indexI gok rfl rfl rfl rfl rfl e ?_
 obtain ⟨r2,f11,f12⟩:=aA f10
 refine cut (fun (q1:Bool)=>[(0,(vi p_)),(11,(.agg #[.int .i64 2,.int .i64 3,.int .i64 5,.int .i64 7])),(12,(vi ((k0:Nat):Int))),(23,(.bool q1))]) (fun (q1:Bool) w'=>q1=r2∧Cx w0 fp0 S0 w' [Gl 0 [.int .i64 2,.int .i64 3,.int .i64 5,.int .i64 7]]) ?_ ?_
 obtain ⟨a4,e,f13⟩:=aA f11
 refine aG e ?_
 refine boolB_ f13 (fun f15=>?_) fun f16=>?_
 exact ⟨false,r4_,oi_ f15,H.sel [0] rfl⟩
 obtain ⟨a6,e,f17⟩:=aA f16
 refine tB e ?_
 exact ⟨a6,r4_,oi_ f17,H.sel [0] rfl⟩
 rintro T2 s0 w3 ⟨hr,H⟩;try dsimp only at H
 subst hr
 cases s0
 have f18:=fB f12
 refine arK hk (maxI hn) ?_
 obtain rfl:=oi_ f18
 exact ⟨(),(),rfl,r3_,H.sel [0] rfl⟩
 have f19:=eB f12
 obtain rfl:=oi_ f19
 have hr:=hrt _ rfl;subst hr
 have f20:some _=some _:=f8
 cases f20
 exact ⟨_,_,rfl,⟨rfl,rfl⟩,(H.sel [] rfl).close trivial⟩
 rintro T3 _ _ w4 hr H;try dsimp only at H
 subst hr
 refine jA (z:=false) sX ?_
 refine sq ?_
 cases f8
 exact ⟨_,_,rfl,⟨rfl,rfl⟩,(H.sel [] rfl).close trivial⟩
 have f21:=eB f1
 cases f21
 exact ⟨_,_,rfl,⟨rfl,rfl⟩,(H.sel [] rfl).close trivial⟩
theorem FH_ {t__0:List Ty4}{t__0h:Hd}{y:Bool} (hF:fY t__0=some y) :
  kA Tryz.prog 84 #[(.agg #[(t__0h).v])] [Es (List Ty4) t__0 t__0h] [] (fun v Γ'=>v=(.bool y)∧Γ'=[]):=by
 intro w0 S0 fp0 hI hS
 have H:=Cx.start hI hS;dsimp at H
 refine iA (args:=[_]) gok Tryz.func84 rfl _ rfl rfl rfl ?_
 refine xA H ?_;intro b3 w2 hx H
 refine cA [(t__0h).v] rfl (H.bz_ 0 rfl) ?_
 obtain ⟨y5,e,hF6⟩:=aA hF
 obtain ⟨⟨y5_0_0,y5_0_1⟩,y5_1⟩:=y5
 have ey5:=e
 refine callF0_ (nY ey5) H ⟨Vw.sh 1 rfl,trivial⟩ ?_
 rintro _ _ w7 ⟨rfl,rfl⟩ H
 refine sA gok rfl H ?_;intro b9 w8 hx H
 refine stA gok [(vi y5_0_0),(vi y5_0_1)] rfl H rfl rfl rfl ?_;intro w1 H
 cases hF6
 exact ⟨_,_,rfl,⟨rfl,rfl⟩,(H.sel [] rfl).close trivial⟩
theorem iY {t__0:List Ty4}{t__0h:Hd}{p_:Int}{y:Bool} (hF:iP t__0 p_=some y) :
  kA Tryz.prog 67 #[(.agg #[(t__0h).v]),(vi p_)] [Es (List Ty4) t__0 t__0h,Gl 0 [.int .i64 2,.int .i64 3,.int .i64 5,.int .i64 7]] [] (fun v Γ'=>v=(.bool y)∧Γ'=[]):=by
 intro w0 S0 fp0 hI hS
 have H:=Cx.start hI hS;dsimp at H
 refine iA (args:=[_,_]) gok Tryz.func67 rfl _ rfl rfl rfl ?_
 refine xA H ?_;intro b4 w3 hx H
 refine sq ?_
 obtain ⟨r0,f0,f1⟩:=aA hF
 refine cut (fun (q0:Bool)=>[(1,(vi p_)),(2,(vp b4)),(14,(.bool q0))]) (fun (q0:Bool) w'=>q0=r0∧Cx w0 fp0 S0 w' [Bx b4 [(t__0h).v],Es (List Ty4) t__0 t__0h,Gl 0 [.int .i64 2,.int .i64 3,.int .i64 5,.int .i64 7]]) ?_ ?_
 obtain ⟨y0,i0,f2⟩:=aA f0
 refine callF0_ (Gl_ i0) H ⟨Vw.gl 2 rfl,trivial⟩ ?_
 rintro _ _ w1 ⟨rfl,rfl⟩ H
 refine boolB_ f2 (fun f4=>?_) fun f7=>?_
 refine cA [(t__0h).v] rfl (H.bz_ 0 rfl) ?_
 obtain ⟨y1,i1,f5⟩:=aA f4
 refine callF0_ (FH_ i1) H ⟨Vw.sh 1 rfl,trivial⟩ ?_
 rintro _ _ w2 ⟨rfl,rfl⟩ H
 obtain ⟨a1,e,f6⟩:=aA f5
 refine tB e ?_
 exact ⟨a1,r3_,oi_ f6,H.sel [0,1,2] rfl⟩
 exact ⟨true,r3_,oi_ f7,H.sel [0,1,2] rfl⟩
 rintro T0 s0 w4 ⟨hr,H⟩;try dsimp only at H
 subst hr
 cases s0
 have f8:=fB f1
 refine sq ?_
 refine fld gok rfl rfl rfl rfl (bA (H.bx 0 rfl (j:=0) rfl) ?_)
 refine nA (H.rs (α:=List Ty4) 1 rfl).len ?_
 have x0:=(H.rs (α:=List Ty4) 1 rfl).max
 obtain ⟨r1,e,f9⟩:=aA f8
 refine iE _ t__0.length (fun (k0:Nat) (_:Unit) (_:Unit)=>[(1,(vi p_)),(16,(t__0h).v),(17,(vi ((t__0.length:Nat):Int))),(18,(vi ((k0:Nat):Int)))]) (fun _ (_:Unit) (_:Unit) w'=>Cx w0 fp0 S0 w' [Es (List Ty4) t__0 t__0h,Gl 0 [.int .i64 2,.int .i64 3,.int .i64 5,.int .i64 7]]) () () e r4_ (H.sel [1,2] rfl) ?_ ?_
 rintro T1 k0 _ _ w5 o0 hk (H:Cx w0 fp0 S0 w5 [Es (List Ty4) t__0 t__0h,Gl 0 [.int .i64 2,.int .i64 3,.int .i64 5,.int .i64 7]]) hrt f10
 refine jA (z:=true) (cB hk) ?_
 refine sq (sq ?_)
 obtain ⟨a2,e,f11⟩:=aA f10
 have HH:=H;obtain ⟨p0,m0,g0,c0,c1,c2,c3,H⟩:=HH.el (α:=Ty4) 0 rfl e
 obtain ⟨a2_0,a2_1,a2_2⟩:=a2
 obtain ⟨_,_,_⟩:=g0
 replace H:=H.sel [1,2] rfl
 refine dA c0 c1 c2 ?_
 refine cA [(vi a2_0),(vi a2_1),(.string a2_2)] rfl c3 ?_
 refine sA gok rfl H ?_;intro b0 w6 hx H
 refine stA gok [(vi a2_0),(vi a2_1),(.string a2_2)] rfl H rfl rfl rfl ?_;intro w7 H
 obtain ⟨r2,f12,f13⟩:=aA f11
 refine cut (fun (q1:Bool)=>[(1,(vi p_)),(16,(t__0h).v),(17,(vi ((t__0.length:Nat):Int))),(18,(vi ((k0:Nat):Int))),(30,(.bool q1))]) (fun (q1:Bool) w'=>q1=r2∧Cx w0 fp0 S0 w' [Es (List Ty4) t__0 t__0h,Gl 0 [.int .i64 2,.int .i64 3,.int .i64 5,.int .i64 7]]) ?_ ?_
 refine fld gok rfl rfl rfl rfl (bA (H.bx 0 rfl (j:=0) rfl) ?_)
 obtain ⟨y2,i2,f14⟩:=aA f12
 refine callF0_ (Ci_ i2) H trivial ?_
 rintro _ _ w8 ⟨rfl,rfl⟩ H
 cases y2
 have f15:=fB f14
 exact ⟨false,r5_,oi_ f15,H.sel [1,2] rfl⟩
 have f16:=eB f14
 refine fld gok rfl rfl rfl rfl (bA (H.bx 0 rfl (j:=1) rfl) ?_)
 obtain ⟨a3,e,f17⟩:=aA f16
 refine tB e ?_
 exact ⟨a3,r5_,oi_ f17,H.sel [1,2] rfl⟩
 rintro T2 s1 w9 ⟨hr,H⟩;try dsimp only at H
 subst hr
 cases s1
 have f18:=fB f13
 refine arK hk x0 ?_
 obtain rfl:=oi_ f18
 exact ⟨(),(),rfl,r4_,H.sel [0,1] rfl⟩
 have f19:=eB f13
 obtain rfl:=oi_ f19
 have hr:=hrt _ rfl;subst hr
 have f20:some _=some _:=f9
 cases f20
 exact ⟨_,_,rfl,⟨rfl,rfl⟩,(H.sel [] rfl).close trivial⟩
 rintro T3 _ _ w10 hr H;try dsimp only at H
 subst hr
 refine jA (z:=false) dB ?_
 refine sq ?_
 cases f9
 exact ⟨_,_,rfl,⟨rfl,rfl⟩,(H.sel [] rfl).close trivial⟩
 have f21:=eB f1
 cases f21
 exact ⟨_,_,rfl,⟨rfl,rfl⟩,(H.sel [] rfl).close trivial⟩
theorem GU_ {p_:Int}{r__0:ByteArray}{r__1_0:List Ty4}{r__1_0h:Hd}{r__2_0:List Ty4}{r__2_0h:Hd}{y:Bool} (hF:Af_ p_ (r__0,r__1_0,r__2_0)=some y) :
  kA Tryz.prog 59 #[(vi p_),(.agg #[(.string r__0),(r__1_0h).v,(r__2_0h).v])] [Es (List Ty4) r__1_0 r__1_0h,Es (List Ty4) r__2_0 r__2_0h,Gl 0 [.int .i64 2,.int .i64 3,.int .i64 5,.int .i64 7]] [] (fun v Γ'=>v=(.bool y)∧Γ'=[]):=by
 intro w0 S0 fp0 hI hS
 have H:=Cx.start hI hS;dsimp at H
 refine iA (args:=[_,_]) gok Tryz.func59 rfl _ rfl rfl rfl ?_
 refine xA H ?_;intro b5 w4 hx H
 obtain ⟨r0,f0,f1⟩:=aA hF
 refine cut (fun (q0:Bool)=>[(4,(.bool q0))]) (fun (q0:Bool) w'=>q0=r0∧Cx w0 fp0 S0 w' [Gl 0 [.int .i64 2,.int .i64 3,.int .i64 5,.int .i64 7]]) ?_ ?_
 refine cA [(.string r__0),(r__1_0h).v,(r__2_0h).v] rfl (H.bz_ 0 rfl) ?_
 obtain ⟨y0,i0,f2⟩:=aA f0
 refine callF0_ (GR_ i0) H ⟨Vw.sh 1 rfl,Vw.sh 2 rfl,trivial⟩ ?_
 rintro _ _ w1 ⟨rfl,rfl⟩ H
 cases y0
 have f3:=fB f2
 exact ⟨false,⟨rfl,trivial⟩,oi_ f3,H.sel [3] rfl⟩
 have f4:=eB f2
 refine fld gok rfl rfl rfl rfl ?_
 refine cA [(r__1_0h).v] rfl (H.bxs 0 rfl 1 rfl) ?_
 obtain ⟨y1,i1,f5⟩:=aA f4
 refine callF0_ (iY i1) H ⟨Vw.sh 1 rfl,Vw.gl 3 rfl,trivial⟩ ?_
 rintro _ _ w2 ⟨rfl,rfl⟩ H
 cases y1
 have f6:=fB f5
 exact ⟨false,⟨rfl,trivial⟩,oi_ f6,H.sel [3] rfl⟩
 have f7:=eB f5
 refine fld gok rfl rfl rfl rfl ?_
 refine cA [(r__2_0h).v] rfl (H.bxs 0 rfl 2 rfl) ?_
 obtain ⟨y2,i2,f8⟩:=aA f7
 refine callF0_ (iY i2) H ⟨Vw.sh 2 rfl,Vw.gl 3 rfl,trivial⟩ ?_
 rintro _ _ w3 ⟨rfl,rfl⟩ H
 exact ⟨y2,⟨rfl,trivial⟩,oi_ f8,H.sel [3] rfl⟩
 rintro T0 s0 w5 ⟨hr,H⟩;try dsimp only at H
 subst hr
 cases f1
 exact ⟨_,_,rfl,⟨rfl,rfl⟩,(H.sel [] rfl).close trivial⟩
theorem Gn_ {kind_:Int}{y:Bool} (hF:rT kind_=some y) :
  kA Tryz.prog 68 #[(vi kind_)] [] [] (fun v Γ'=>v=(.bool y)∧Γ'=[]):=by
 intro w0 S0 fp0 hI hS
 have H:Cx w0 fp0 S0 w0 []:=Cx.start hI hS
 refine iA (args:=[_]) gok Tryz.func68 rfl _ rfl rfl rfl ?_
 obtain ⟨r9,f0,f1⟩:=aA hF
 refine cut (fun (q0:Bool)=>[(2,(.bool q0))]) (fun (q0:Bool) w'=>q0=r9∧Cx w0 fp0 S0 w' []) ?_ ?_
 refine boolB_ f0 (fun f3=>?_) fun f5=>?_
 obtain ⟨a1,e,f4⟩:=aA f3
 refine tB e ?_
 exact ⟨a1,⟨rfl,trivial⟩,oi_ f4,H.sel [] rfl⟩
 exact ⟨true,⟨rfl,trivial⟩,oi_ f5,H.sel [] rfl⟩
 rintro T0 s7 w1 ⟨hr,H⟩;try dsimp only at H
 subst hr
 cases f1
 exact ⟨_,_,rfl,⟨rfl,rfl⟩,(H.sel [] rfl).close trivial⟩
theorem B2_ {t__0:List Ty4}{t__0h:Hd}{p_:Int}{y:Bool} (hF:vS t__0 p_=some y) :
  kA Tryz.prog 51 #[(.agg #[(t__0h).v]),(vi p_)] [Es (List Ty4) t__0 t__0h,Gl 0 [.int .i64 2,.int .i64 3,.int .i64 5,.int .i64 7]] [] (fun v Γ'=>v=(.bool y)∧Γ'=[]):=by
 intro w0 S0 fp0 hI hS
 have H:=Cx.start hI hS;dsimp at H
 refine iA (args:=[_,_]) gok Tryz.func51 rfl _ rfl rfl rfl ?_
 refine xA H ?_;intro b4 w3 hx H
 refine sq ?_
 refine cA [(t__0h).v] rfl (H.bz_ 0 rfl) ?_
 obtain ⟨y6,ey6,hF7⟩:=aA hF
 refine callF0_ (iY ey6) H ⟨Vw.sh 1 rfl,Vw.gl 2 rfl,trivial⟩ ?_
 rintro _ _ w8 ⟨rfl,rfl⟩ H
 refine boolB_ hF7 (fun f1=>?_) fun f9=>?_
 refine sq ?_
 refine fld gok rfl rfl rfl rfl (bA (H.bx 0 rfl (j:=0) rfl) ?_)
 refine nA (H.rs (α:=List Ty4) 1 rfl).len ?_
 have x0:=(H.rs (α:=List Ty4) 1 rfl).max
 obtain ⟨r0,e,f2⟩:=aA f1
 refine iE _ t__0.length (fun (k0:Nat) (_:Unit) (_:Unit)=>[(12,(t__0h).v),(13,(vi ((t__0.length:Nat):Int))),(14,(vi ((k0:Nat):Int)))]) (fun _ (_:Unit) (_:Unit) w'=>Cx w0 fp0 S0 w' [Es (List Ty4) t__0 t__0h,Gl 0 [.int .i64 2,.int .i64 3,.int .i64 5,.int .i64 7]]) () () e r3_ (H.sel [1,2] rfl) ?_ ?_
 rintro T0 k0 _ _ w1 o0 hk (H:Cx w0 fp0 S0 w1 [Es (List Ty4) t__0 t__0h,Gl 0 [.int .i64 2,.int .i64 3,.int .i64 5,.int .i64 7]]) hrt f3
 refine jA (z:=true) (cB hk) ?_
 refine sq (sq ?_)
 obtain ⟨a0,e,f4⟩:=aA f3
 have HH:=H;obtain ⟨p0,m0,g0,c0,c1,c2,c3,H⟩:=HH.el (α:=Ty4) 0 rfl e
 obtain ⟨a0_0,a0_1,a0_2⟩:=a0
 obtain ⟨_,_,_⟩:=g0
 replace H:=H.sel [1,2] rfl
 refine dA c0 c1 c2 ?_
 refine cA [(vi a0_0),(vi a0_1),(.string a0_2)] rfl c3 ?_
 refine sA gok rfl H ?_;intro b0 w2 hx H
 refine stA gok [(vi a0_0),(vi a0_1),(.string a0_2)] rfl H rfl rfl rfl ?_;intro w4 H
 refine fld gok rfl rfl rfl rfl (bA (H.bx 0 rfl (j:=0) rfl) ?_)
 obtain ⟨y0,i0,f5⟩:=aA f4
 refine callF0_ (Gn_ i0) H trivial ?_
 rintro _ _ w5 ⟨rfl,rfl⟩ H
 cases y0
 have f6:=fB f5
 refine arK hk x0 ?_
 obtain rfl:=oi_ f6
 exact ⟨(),(),rfl,r3_,H.sel [1,2] rfl⟩
 have f7:=eB f5
 obtain rfl:=oi_ f7
 have hr:=hrt _ rfl;subst hr
 have f8:some _=some _:=f2
 cases f8
 exact ⟨_,_,rfl,⟨rfl,rfl⟩,(H.sel [] rfl).close trivial⟩
 rintro T1 _ _ w6 hr H;try dsimp only at H
 subst hr
 refine jA (z:=false) dB ?_
 refine sq ?_
 cases f2
 exact ⟨_,_,rfl,⟨rfl,rfl⟩,(H.sel [] rfl).close trivial⟩
 cases f9
 exact ⟨_,_,rfl,⟨rfl,rfl⟩,(H.sel [] rfl).close trivial⟩
theorem fN {r__0 r__1:Int}{r__2:List (List Int)}{r__2h:Hd}{row_:List Int}{row_h:Hd}{y:List Int} (hF:pK (r__0,r__1,r__2) row_=some y) :
  bF Tryz.prog 41 #[(.agg #[(vi r__0),(vi r__1),(r__2h).v]),(row_h).v] [Es (List (List Int)) r__2 r__2h,Es (List Int) row_ row_h] [] (fun v Γ'=>∃ z0:Hd,v=(z0).v∧Γ'=[Es (List Int) y z0]):=by
 intro w0 S0 fp0 hI hS
 have H:=Cx.start hI hS;dsimp at H
 refine iA (args:=[_,_]) gok Tryz.func41 rfl _ rfl rfl rfl ?_
 refine xA H ?_;intro b4 w3 hx H
 refine fld gok rfl rfl rfl rfl (bA (H.bx 0 rfl (j:=0) rfl) ?_)
 obtain ⟨a6,e,hF7⟩:=aA hF
 refine slS (α:=Int) (hi:=none) gok rfl rfl H 2 rfl e rfl (congrArg (fun n:Nat=>some (n:Int)) (H.rs (α:=List Int) 2 rfl).len) ?_;intro h8 H
 cases hF7
 exact ⟨_,_,rfl,⟨h8,rfl,rfl⟩,(H.sel [0] rfl)⟩
theorem gN {r__0 r__1:Int}{r__2:List (List Int)}{r__2h:Hd}{row_:List Int}{row_h:Hd}{y:List Int} (hF:qK (r__0,r__1,r__2) row_=some y) :
  bF Tryz.prog 40 #[(.agg #[(vi r__0),(vi r__1),(r__2h).v]),(row_h).v] [Es (List (List Int)) r__2 r__2h,Es (List Int) row_ row_h] [] (fun v Γ'=>∃ z0:Hd,v=(z0).v∧Γ'=[Es (List Int) y z0]):=by
 intro w0 S0 fp0 hI hS
 have H:=Cx.start hI hS;dsimp at H
 refine iA (args:=[_,_]) gok Tryz.func40 rfl _ rfl rfl rfl ?_
 refine xA H ?_;intro b4 w3 hx H
 refine fld gok rfl rfl rfl rfl (bA (H.bx 0 rfl (j:=0) rfl) ?_)
 obtain ⟨a6,e,hF7⟩:=aA hF
 refine slS (α:=Int) gok rfl rfl H 2 rfl e rfl rfl ?_;intro h8 H
 cases hF7
 exact ⟨_,_,rfl,⟨h8,rfl,rfl⟩,(H.sel [0] rfl)⟩
theorem HH_ {p_ a_ y:Int} (hF:zN p_ a_=some y) :
  kA Tryz.prog 114 #[(vi p_),(vi a_)] [] [] (fun v Γ'=>v=(vi y)∧Γ'=[]):=by
 intro w0 S0 fp0 hI hS
 have H:Cx w0 fp0 S0 w0 []:=Cx.start hI hS
 refine iA (args:=[_,_]) gok Tryz.func114 rfl _ rfl rfl rfl ?_
 obtain ⟨a1,e,hF2⟩:=aA hF
 refine aG e ?_
 refine sq ?_
 refine boolB_ hF2 (fun hF5=>?_) fun hF6=>?_
 cases hF5
 exact ⟨_,_,rfl,⟨rfl,rfl⟩,(H.sel [] rfl).close trivial⟩
 obtain ⟨a7,e,hF8⟩:=aA hF6
 refine arO e ?_
 cases hF8
 exact ⟨_,_,rfl,⟨rfl,rfl⟩,(H.sel [] rfl).close trivial⟩
theorem jT {p_:Int}{v_:List Int}{v_h:Hd}{by_:Int}{w_:List Int}{w_h:Hd}{y:List Int} (hF:gH p_ v_ by_ w_=some y) :
  kA Tryz.prog 88 #[(vi p_),(v_h).v,(vi by_),(w_h).v] [Es (List Int) w_ w_h] [E (List Int) v_ v_h] (fun v Γ'=>v=(.tuple #[])∧Γ'=[E (List Int) y v_h]):=by
 intro w0 S0 fp0 hI hS
 have H:=Cx.start hI hS;dsimp at H
 refine iA (args:=[_,_,_,_]) gok Tryz.func88 rfl _ rfl rfl rfl ?_
 refine nA (H.rs (α:=List Int) 0 rfl).len ?_
 have x0:=(H.rs (α:=List Int) 0 rfl).max
 obtain ⟨r0,e,f0⟩:=aA hF
 refine nB _ w_.length (fun (k3:Nat) (s0:List Int) (_:Unit)=>[(0,(vi p_)),(1,(v_h).v),(2,(vi by_)),(10,(w_h).v),(11,(vi ((w_.length:Nat):Int))),(12,(vi ((k3:Nat):Int)))]) (fun _ (s0:List Int) (_:Unit) w'=>Cx w0 fp0 S0 w' [E (List Int) s0 v_h,Es (List Int) w_ w_h]) v_ () e r6_ (H.sel [1,0] rfl) ?_ ?_
 rintro T0 k3 s0 _ w1 o0 hk (H:Cx w0 fp0 S0 w1 [E (List Int) s0 v_h,Es (List Int) w_ w_h]) f1
 refine jA (z:=true) (cB hk) ?_
 refine sq (sq ?_)
 obtain ⟨a0,e,f2⟩:=aA f1
 obtain ⟨p0,m0,c0,c1,c2,c3⟩:=(H.rs (α:=List Int) 1 rfl).at1 e
 refine dA c0 c1 c2 ?_
 refine bA c3 ?_
 obtain ⟨a1,e,f3⟩:=aA f2
 obtain ⟨p1,m1,c4,c5,c6,c7⟩:=(H.ro (α:=List Int) 0 rfl).at1 e
 refine dA c4 c5 c6 ?_
 refine bA c7 ?_
 obtain ⟨a2,e,f4⟩:=aA f3
 refine arO e ?_
 obtain ⟨a3,e,f5⟩:=aA f4
 refine arO e ?_
 obtain ⟨y0,i0,f6⟩:=aA f5
 refine callF0_ (HH_ i0) H trivial ?_
 rintro _ _ w2 ⟨rfl,rfl⟩ H
 obtain ⟨a4,i1,f7⟩:=aA f6
 obtain ⟨p2,m2,c8,c9,c10⟩:=(H.ro (α:=List Int) 0 rfl).setp i1
 refine dA c8 c9 c10 ?_
 refine wC (α:=Int) H c8 c9 i1 ?_;intro w3 H
 refine arK hk x0 ?_
 obtain rfl:=oi_ f7
 exact ⟨(),r6_,H.sel [0,1] rfl⟩
 rintro T1 _ w4 H;try dsimp only at H
 refine jA (z:=false) dB ?_
 refine sq ?_
 cases f0
 exact ⟨_,_,rfl,⟨rfl,rfl⟩,(H.sel [0] rfl).close ⟨cloE,trivial⟩⟩
theorem CE_ {list_:List (List Int)}{list_h:Hd}{y:List (List Int)} (hF:fU list_=some y) :
  kA Tryz.prog 115 #[(list_h).v] [Es (List (List Int)) list_ list_h] [] (fun v Γ'=>∃ z0:Hd,v=(z0).v∧Γ'=[E (List (List Int)) y z0]):=by
 intro w0 S0 fp0 hI hS
 have H:=Cx.start hI hS;dsimp at H
 refine iA (args:=[_]) gok Tryz.func115 rfl _ rfl rfl rfl ?_
 refine nA (H.rs (α:=List (List Int)) 0 rfl).len ?_
 obtain ⟨a2,e,hF3⟩:=aA hF
 refine nE (α:=List Int) gok rfl rfl rfl rfl e H ?_;intro h5 w4 hx H
 refine sq ?_
 refine nA (H.rs (α:=List (List Int)) 1 rfl).len ?_
 have x0:=(H.rs (α:=List (List Int)) 1 rfl).max
 obtain ⟨r0,e,f0⟩:=aA hF3
 refine nB _ list_.length (fun (k7:Nat) (s0:List (List Int)) (g0:Hd)=>[(3,(g0).v),(9,(list_h).v),(10,(vi ((list_.length:Nat):Int))),(11,(vi ((k7:Nat):Int)))]) (fun _ (s0:List (List Int)) (g0:Hd) w'=>Cx w0 fp0 S0 w' [E (List (List Int)) s0 g0,Es (List (List Int)) list_ list_h]) a2 h5 e r4_ (H.sel [0,1] rfl) ?_ ?_
 rintro T0 k7 s0 g0 w1 o0 hk (H:Cx w0 fp0 S0 w1 [E (List (List Int)) s0 g0,Es (List (List Int)) list_ list_h]) f1
 refine jA (z:=true) (cB hk) ?_
 refine sq (sq ?_)
 obtain ⟨a0,e,f2⟩:=aA f1
 have HH:=H;obtain ⟨p0,m0,h0,c0,c1,c2,c3,H⟩:=HH.elL 1 rfl e
 refine dA c0 c1 c2 ?_
 refine bA c3 ?_
 obtain ⟨y0,i0,f3⟩:=aA f2
 refine callF0_ (kH i0) H ⟨Vw.sh 0 rfl,trivial⟩ ?_
 rintro _ _ w2 ⟨h1,rfl,rfl⟩ H
 refine pC (α:=List Int) (g:=h1) gok rfl rfl rfl rfl rfl H ?_;intro h2 w3 hx H
 obtain ⟨a1,e,f4⟩:=aA f3
 refine append_ (α:=List Int) gok rfl rfl rfl rfl (H.sel [2,0,1,3] rfl) e ?_;intro h3 w5 H
 refine arK hk x0 ?_
 obtain rfl:=oi_ f4
 exact ⟨h3,r4_,H.sel [0,2] rfl⟩
 rintro T1 g1 w6 H;try dsimp only at H
 refine jA (z:=false) dB ?_
 refine sq ?_
 cases f0
 exact ⟨_,_,rfl,⟨g1,rfl,rfl⟩,(H.sel [0] rfl).close ⟨cloE,trivial⟩⟩
theorem Ar_ {n_ at_:Int}{y:List Int} (hF:mM n_ at_=some y) :
  kA Tryz.prog 119 #[(vi n_),(vi at_)] [] [] (fun v Γ'=>∃ z0:Hd,v=(z0).v∧Γ'=[E (List Int) y z0]):=by
 intro w0 S0 fp0 hI hS
 have H:Cx w0 fp0 S0 w0 []:=Cx.start hI hS
 refine iA (args:=[_,_]) gok Tryz.func119 rfl _ rfl rfl rfl ?_
 obtain ⟨y1,ey1,hF2⟩:=aA hF
 refine callF0_ (sJ ey1) H trivial ?_
 rintro _ _ w3 ⟨h4,rfl,rfl⟩ H
 obtain ⟨a0,i0,f0⟩:=aA hF2
 obtain ⟨p0,m0,c6,c7,c8⟩:=(H.ro (α:=List Int) 0 rfl).setp i0
 refine dA c6 c7 c8 ?_
 refine wC (α:=Int) H c6 c7 i0 ?_;intro w1 H
 cases f0
 exact ⟨_,_,rfl,⟨h4,rfl,rfl⟩,(H.sel [0] rfl).close ⟨cloE,trivial⟩⟩
theorem FF_ {n_:Int}{y:List (List Int)} (hF:eY n_=some y) :
  kA Tryz.prog 116 #[(vi n_)] [] [] (fun v Γ'=>∃ z0:Hd,v=(z0).v∧Γ'=[E (List (List Int)) y z0]):=by
 intro w0 S0 fp0 hI hS
 have H:Cx w0 fp0 S0 w0 []:=Cx.start hI hS
 refine iA (args:=[_]) gok Tryz.func116 rfl _ rfl rfl rfl ?_
 refine wF (α:=List Int) gok rfl rfl H ?_;intro h2 w1 hx H
 refine sq ?_
 obtain ⟨a0,hn,f0⟩:=aA hF
 obtain ⟨r0,e,f1⟩:=aA f0
 refine nB _ n_.toNat (fun (k4:Nat) (s0:List (List Int)) (g0:Hd)=>[(0,(vi n_)),(3,(g0).v),(6,(vi n_)),(7,(vi ((k4:Nat):Int)))]) (fun _ (s0:List (List Int)) (g0:Hd) w'=>Cx w0 fp0 S0 w' [E (List (List Int)) s0 g0]) ([]:List (List Int)) h2 e r4_ (H.sel [0] rfl) ?_ ?_
 rintro T0 k4 s0 g0 w2 o0 hk (H:Cx w0 fp0 S0 w2 [E (List (List Int)) s0 g0]) f2
 refine jA (z:=true) (nX hk) ?_
 refine sq (sq ?_)
 obtain ⟨y0,i0,f3⟩:=aA f2
 refine gC (@Ar_ n_ ((k4:Nat):Int) y0 i0) (Γi:=[]) H trivial ?_
 rintro _ _ w3 ⟨h0,rfl,rfl⟩ H
 refine pC (α:=List Int) (g:=h0) gok rfl rfl rfl rfl rfl H ?_;intro h1 w4 hx H
 obtain ⟨a1,e,f4⟩:=aA f3
 refine append_ (α:=List Int) gok rfl rfl rfl rfl (H.sel [1,0] rfl) e ?_;intro h3 w5 H
 refine arK hk (maxI hn) ?_
 obtain rfl:=oi_ f4
 exact ⟨h3,r4_,H.sel [0] rfl⟩
 rintro T1 g1 w6 H;try dsimp only at H
 refine jA (z:=false) sX ?_
 refine sq ?_
 cases f1
 exact ⟨_,_,rfl,⟨g1,rfl,rfl⟩,(H.sel [0] rfl).close ⟨cloE,trivial⟩⟩
theorem HI_ {yes_:Bool}{y:Int} (hF:Di_ yes_=some y) :
  kA Tryz.prog 182 #[(.bool yes_)] [] [] (fun v Γ'=>v=(vi y)∧Γ'=[]):=by
 intro w0 S0 fp0 hI hS
 have H:Cx w0 fp0 S0 w0 []:=Cx.start hI hS
 refine iA (args:=[_]) gok Tryz.func182 rfl _ rfl rfl rfl ?_
 refine sq ?_
 cases yes_
 have hF1:=fB hF
 cases hF1
 exact ⟨_,_,rfl,⟨rfl,rfl⟩,(H.sel [] rfl).close trivial⟩
 have hF2:=eB hF
 cases hF2
 exact ⟨_,_,rfl,⟨rfl,rfl⟩,(H.sel [] rfl).close trivial⟩
theorem G9_ {p_ a_ n_ y:Int} (hF:CP_ p_ a_ n_=some y) :
  kA Tryz.prog 181 #[(vi p_),(vi a_),(vi n_)] [] [] (fun v Γ'=>v=(vi y)∧Γ'=[]):=by
 intro w0 S0 fp0 hI hS
 have H:Cx w0 fp0 S0 w0 []:=Cx.start hI hS
 refine iA (args:=[_,_,_]) gok Tryz.func181 rfl _ rfl rfl rfl ?_
 obtain ⟨a1,e,hF2⟩:=aA hF
 refine aG e ?_
 obtain ⟨r0,f0,f1⟩:=aA hF2
 refine cut (fun (q0:Int)=>[(7,(vi q0))]) (fun (q0:Int) w'=>q0=r0∧Cx w0 fp0 S0 w' []) ?_ ?_
 refine oE _ (fun (s0:Int×Int×Int) (_:Unit)=>[(0,(vi p_)),(1,(vi s0.1)),(2,(vi s0.2.1)),(7,(vi s0.2.2))]) (fun (s0:Int×Int×Int) (_:Unit) w'=>Cx w0 fp0 S0 w' []) (a_,n_,a1) () f0 r4_ (H.sel [] rfl) ?_
 rintro T0 ⟨s0_0,s0_1,s0_2⟩ _ w1 o0 (H:Cx w0 fp0 S0 w1 []) hrt f2
 refine sq ?_
 refine boolB_ f2 (fun f4=>?_) fun f6=>?_
 obtain rfl:=oi_ f4
 have f5:some _=some _:=congrArg some (hrt _ rfl).symm
 exact ⟨s0_2,⟨rfl,trivial⟩,oi_ f5,H.sel [] rfl⟩
 refine sq ?_
 obtain ⟨r1,f7,f8⟩:=aA f6
 refine cut (fun (q1:Int)=>[(0,(vi p_)),(1,(vi s0_0)),(2,(vi s0_1)),(7,(vi q1))]) (fun (q1:Int) w'=>q1=r1∧Cx w0 fp0 S0 w' []) ?_ ?_
 obtain ⟨a2,e,f9⟩:=aA f7
 refine aG e ?_
 refine boolB_ f9 (fun f11=>?_) fun f12=>?_
 exact ⟨s0_2,r4_,oi_ f11,H.sel [] rfl⟩
 obtain ⟨a4,e,f13⟩:=aA f12
 refine arO e ?_
 obtain ⟨a5,e,f14⟩:=aA f13
 refine aG e ?_
 exact ⟨a5,r4_,oi_ f14,H.sel [] rfl⟩
 rintro T1 s1 w2 ⟨hr,H⟩;try dsimp only at H
 subst hr
 obtain ⟨a6,e,f15⟩:=aA f8
 refine arO e ?_
 obtain ⟨a7,e,f16⟩:=aA f15
 refine aG e ?_
 obtain ⟨a8,e,f17⟩:=aA f16
 refine quoO_ e ?_
 obtain rfl:=oi_ f17
 exact ⟨(a7,a8,s1),(),rfl,r4_,H.sel [] rfl⟩
 rintro T2 s2 w3 ⟨hr,H⟩;try dsimp only at H
 subst hr
 cases f1
 exact ⟨_,_,rfl,⟨rfl,rfl⟩,(H.sel [] rfl).close trivial⟩
theorem Go_ {p_ a_ y:Int} (hF:jZ p_ a_=some y) :
  kA Tryz.prog 167 #[(vi p_),(vi a_)] [] [] (fun v Γ'=>v=(vi y)∧Γ'=[]):=by
 intro w0 S0 fp0 hI hS
 have H:Cx w0 fp0 S0 w0 []:=Cx.start hI hS
 refine iA (args:=[_,_]) gok Tryz.func167 rfl _ rfl rfl rfl ?_
 obtain ⟨a1,e,hF2⟩:=aA hF
 refine arO e ?_
 obtain ⟨a3,e,hF4⟩:=aA hF2
 refine tB e ?_
 obtain ⟨y5,ey5,hF6⟩:=aA hF4
 refine callF0_ (HI_ ey5) H trivial ?_
 rintro _ _ w7 ⟨rfl,rfl⟩ H
 obtain ⟨a8,e,hF9⟩:=aA hF6
 refine arO e ?_
 obtain ⟨y0,i0,f0⟩:=aA hF9
 refine callF0_ (G9_ i0) H trivial ?_
 rintro _ _ w1 ⟨rfl,rfl⟩ H
 cases f0
 exact ⟨_,_,rfl,⟨rfl,rfl⟩,(H.sel [] rfl).close trivial⟩
theorem BX_ {o__0 o__1 o__2 o__3 p_:Int}{rows_:List (List Int)}{rows_h:Hd}{y:List (List Int)} (hF:eN (o__0,o__1,o__2,o__3) p_ rows_=some y) :
  kA Tryz.prog 143 #[(.agg #[(vi o__0),(vi o__1),(vi o__2),(vi o__3)]),(vi p_),(rows_h).v] [] [E (List (List Int)) rows_ rows_h] (fun v Γ'=>v=(.tuple #[])∧Γ'=[E (List (List Int)) y rows_h]):=by
 intro w0 S0 fp0 hI hS
 have H:=Cx.start hI hS;dsimp at H
 refine iA (args:=[_,_,_]) gok Tryz.func143 rfl _ rfl rfl rfl ?_
 refine xA H ?_;intro b3 w2 hx H
 refine fld gok rfl rfl rfl rfl (bA (H.bx 0 rfl (j:=0) rfl) ?_)
 refine boolB_ hF (fun hF7=>?_) fun f20=>?_
 refine boolB_ hF7 (fun f0=>?_) fun f10=>?_
 refine boolB_ f0 (fun f2=>?_) fun f3=>?_
 cases f2
 exact ⟨_,_,rfl,⟨rfl,rfl⟩,(H.sel [1] rfl).close ⟨cloE,trivial⟩⟩
 refine kB H [14] (.fst 0 (.fst 1 (.fst 2 (.fst 6 (.fst 9 (.fst 10 (.fst 3 (.fst 4 (.fst 5 (.fst 7 (.fst 8 (.fst 11 (.fst 12 (.fst 13 (.act 14 .done))))))))))))))) bB [] trivial (by kernel_rfl) ?_
 intro w1 H
 have hX:Ext w1 w1:=Upd.refl _ _
 refine oA (fun _=>fld gok rfl rfl rfl rfl ⟨rfl,rfl⟩) ?_
 refine oA (fun _=>fld gok rfl rfl rfl rfl ⟨rfl,rfl⟩) ?_
 refine oA (fun _=>fld gok rfl rfl rfl rfl ⟨rfl,rfl⟩) ?_
 refine gA (H.bx 0 rfl (j:=1) rfl) ?_
 obtain ⟨a1,e,f4⟩:=aA f3
 replace H:=H.sel [1,0] rfl
 replace H:=H.toEH (α:=List Int)
 have HH:=H;obtain ⟨p0,m0,h0,c0,c1,c2,c3,H⟩:=HH.peekL e
 refine dA c0 c1 c2 ?_
 refine gA c3 ?_
 refine gA (H.bx 1 rfl (j:=3) rfl) ?_
 obtain ⟨a2,e,f5⟩:=aA f4
 refine arO e ?_
 refine gA (H.bx 1 rfl (j:=2) rfl) ?_
 obtain ⟨a3,e,f6⟩:=aA f5
 have HH:=H;obtain ⟨p1,m1,h1,c4,c5,c6,c7,H⟩:=HH.peekL e
 refine dA c4 c5 c6 ?_
 refine gA c7 ?_
 obtain ⟨y0,i0,f7⟩:=aA f6
 have u0:=H.kn 0 rfl 0 rfl
 obtain ⟨u1,n0,f8⟩:=aA f7
 have q0:m1≠m0:=fun q=>Ie_ n0 (by omega)
 replace H:=H.takeK 1 rfl
 refine gC (jT i0) (Γi:=[E (List Int) a1 h0]) H ⟨Vw.ex (α:=List Int) (k:=⟨m1,a3,h1⟩) 0 rfl u0 q0,trivial⟩ ?_
 rintro _ _ w3 ⟨rfl,rfl⟩ H
 obtain ⟨a4,e,f9⟩:=aA f8
 replace H:=H.put c1 e
 refine hold trivial ?_
 cases f9
 exact ⟨_,_,rfl,⟨rfl,rfl⟩,(H.sel [0] rfl).close ⟨cloE,trivial⟩⟩
 refine fld gok rfl rfl rfl rfl (bA (H.bx 0 rfl (j:=3) rfl) ?_)
 obtain ⟨y1,i1,f11⟩:=aA f10
 refine callF0_ (Go_ i1) H trivial ?_
 rintro _ _ w4 ⟨rfl,rfl⟩ H
 refine fld gok rfl rfl rfl rfl (bA (H.bx 0 rfl (j:=1) rfl) ?_)
 obtain ⟨a6,e,f12⟩:=aA f11
 replace H:=H.sel [1,0] rfl
 have HH:=H;obtain ⟨p2,m2,h2,c8,c9,c10,H⟩:=HH.take e
 have c11:=H.hx0 1 rfl c8 rfl
 refine dA c8 c9 c10 ?_
 refine bA c11 ?_
 refine nA (H.ro (α:=List Int) 0 rfl).len ?_
 have x0:=(H.ro (α:=List Int) 0 rfl).max
 obtain ⟨r0,e,f13⟩:=aA f12
 refine nB _ a6.length (fun (k0:Nat) (s0:List Int) (_:Unit)=>[(1,(vi p_)),(2,(rows_h).v),(3,(vp b3)),(6,(vi y1)),(41,(h2).v),(42,(vi ((a6.length:Nat):Int))),(43,(vi ((k0:Nat):Int)))]) (fun _ (s0:List Int) (_:Unit) w'=>Cx w0 fp0 S0 w' [EX (List Int) m2 [(h2).v] rows_ rows_h,Bx b3 [(vi o__0),(vi o__1),(vi o__2),(vi o__3)],E (List Int) s0 h2]) a6 () e r7_ (H.sel [1,2,0] rfl) ?_ ?_
 rintro T0 k0 s0 _ w5 o0 hk (H:Cx w0 fp0 S0 w5 [EX (List Int) m2 [(h2).v] rows_ rows_h,Bx b3 [(vi o__0),(vi o__1),(vi o__2),(vi o__3)],E (List Int) s0 h2]) f14
 refine jA (z:=true) (cB hk) ?_
 refine sq (sq ?_)
 obtain ⟨a7,e,f15⟩:=aA f14
 obtain ⟨p3,m3,c12,c13,c14,c15⟩:=(H.ro (α:=List Int) 2 rfl).at1 e
 refine dA c12 c13 c14 ?_
 refine bA c15 ?_
 refine kB H [12] (.fst 0 (.fst 1 (.fst 5 (.fst 6 (.fst 7 (.fst 8 (.fst 9 (.fst 10 (.fst 2 (.fst 3 (.fst 4 (.fst 11 (.act 12 .done))))))))))))) bB [] trivial (by kernel_rfl) ?_
 intro w6 H
 have hX:Ext w6 w6:=Upd.refl _ _
 refine oA (fun _=>fld gok rfl rfl rfl rfl ⟨rfl,rfl⟩) ?_
 obtain ⟨a9,e,f16⟩:=aA f15
 refine arO e ?_
 obtain ⟨a10,e,f17⟩:=aA f16
 refine aG e ?_
 refine gA (H.bx 1 rfl (j:=1) rfl) ?_
 have c20:=H.hx0 0 rfl c8 rfl
 refine dA c8 c9 c10 ?_
 refine gA c20 ?_
 obtain ⟨a12,i2,f18⟩:=aA f17
 obtain ⟨p4,m4,c21,c22,c23⟩:=(H.ro (α:=List Int) 2 rfl).setp i2
 refine dA c21 c22 c23 ?_
 replace H:=H.sel [2,0,1] rfl
 refine wC (α:=Int) H c21 c22 i2 ?_;intro w7 H
 refine hold trivial ?_
 refine arK hk x0 ?_
 obtain rfl:=oi_ f18
 exact ⟨(),r7_,H.sel [1,2,0] rfl⟩
 rintro T1 _ w8 H;try dsimp only at H
 refine jA (z:=false) dB ?_
 refine sq ?_
 obtain ⟨a13,e,f19⟩:=aA f13
 replace H:=H.sel [2,0,1] rfl
 replace H:=H.put c9 e
 cases f19
 exact ⟨_,_,rfl,⟨rfl,rfl⟩,(H.sel [0] rfl).close ⟨cloE,trivial⟩⟩
 refine kB H [17,19,18,0,1,2,3,4,5] (.pure 0 (.pure 1 (.pure 2 (.pure 3 (.pure 4 (.pure 5 (.fst 6 (.fst 7 (.fst 11 (.fst 12 (.fst 8 (.fst 9 (.fst 10 (.fst 13 (.fst 14 (.fst 15 (.fst 16 (.act 17 (.act 18 (.act 19 .done)))))))))))))))))))) bB [((Addr.add ⟨b3,0,none⟩ 1),(vi o__1)),((Addr.add ⟨b3,0,none⟩ 2),(vi o__2))] ⟨H.bx 0 rfl (j:=1) rfl,H.bx 0 rfl (j:=2) rfl,trivial⟩ (by kernel_rfl) ?_
 intro w9 H
 have hX:Ext w9 w9:=Upd.refl _ _
 refine oA (fun _=>fld gok rfl rfl rfl rfl ⟨rfl,rfl⟩) ?_
 refine gI 0 rfl ?_
 refine oA (fun _=>fld gok rfl rfl rfl rfl ⟨rfl,rfl⟩) ?_
 refine gI 1 rfl ?_
 refine oA (fun _=>fld gok rfl rfl rfl rfl ⟨rfl,rfl⟩) ?_
 refine oA (fun _=>fld gok rfl rfl rfl rfl ⟨rfl,rfl⟩) ?_
 refine gA (H.bx 0 rfl (j:=2) rfl) ?_
 obtain ⟨a14,e,f21⟩:=aA f20
 replace H:=H.sel [1,0] rfl
 replace H:=H.toEH (α:=List Int)
 have HH:=H;obtain ⟨p5,m5,h3,c24,c25,c26,c31,H⟩:=HH.peekL e
 refine dA c24 c25 c26 ?_
 refine gA c31 ?_
 refine gA (H.bx 1 rfl (j:=1) rfl) ?_
 obtain ⟨a15,e,f22⟩:=aA f21
 have HH:=H;obtain ⟨p6,m6,h4,c32,c33,c34,c35,H⟩:=HH.peekL e
 refine dA c32 c33 c34 ?_
 refine gA c35 ?_
 refine dA c32 c33 c34 ?_
 refine stZ1 (ki:=0) (kj:=1) H rfl rfl c32 ?_;intro w10 H
 refine hold ⟨H.bx 1 rfl (j:=1) rfl,H.bx 1 rfl (j:=2) rfl,trivial⟩ ?_
 refine dA c24 c25 c26 ?_
 refine hold ⟨H.bx 1 rfl (j:=1) rfl,H.bx 1 rfl (j:=2) rfl,trivial⟩ ?_
 obtain ⟨a16,e,f23⟩:=aA f22
 refine stZ2 H c33 c25 c24 e ?_;intro w11 H
 refine hold ⟨H.bx 1 rfl (j:=1) rfl,H.bx 1 rfl (j:=2) rfl,trivial⟩ ?_
 cases f23
 exact ⟨_,_,rfl,⟨rfl,rfl⟩,(H.sel [0] rfl).close ⟨cloE,trivial⟩⟩
theorem gY {o__0 o__1 o__2 o__3:Int}{c0_b:Nat}{c0_:Int}{c1_b:Nat}{c1_:List (List Int)}{c1_h:Hd}{c2_b:Nat}{c2_:List (List Int)}{c2_h:Hd}{y0 y1:List (List Int)} (hF:xH (o__0,o__1,o__2,o__3) c0_ c1_ c2_=some (y0,y1)) :
  kA Tryz.prog 142 #[(.agg #[(vi o__0),(vi o__1),(vi o__2),(vi o__3)]),(vp c0_b),(vp c1_b),(vp c2_b)] [] [Bx c0_b [(vi c0_)],Bx c1_b [(c1_h).v],E (List (List Int)) c1_ c1_h,Bx c2_b [(c2_h).v],E (List (List Int)) c2_ c2_h] (fun v Γ'=>v=(.tuple #[])∧Γ'=[Bx c0_b [(vi c0_)],Bx c1_b [(c1_h).v],E (List (List Int)) y0 c1_h,Bx c2_b [(c2_h).v],E (List (List Int)) y1 c2_h]):=by
 intro w0 S0 fp0 hI hS
 have H:=Cx.start hI hS;dsimp at H
 refine iA (args:=[_,_,_,_]) gok Tryz.func142 rfl _ rfl rfl rfl ?_
 refine xA H ?_;intro b7 w6 hx H
 refine sq ?_
 refine cA [(vi o__0),(vi o__1),(vi o__2),(vi o__3)] rfl (H.bz_ 0 rfl) ?_
 refine fld gok rfl rfl rfl rfl (bA (H.bx 0 rfl (j:=1) rfl) ?_)
 refine fld gok rfl rfl rfl rfl (bA (H.bx 0 rfl (j:=1) rfl) ?_)
 refine pB (cs:=#[(vi 0),(vi o__1),(vi o__1),(vi 0)]) gok rfl rfl rfl ?_
 obtain ⟨a9,e,f0⟩:=aA hF
 refine eqA gok rfl Tryz.underlying160 (by kernel_rfl) (by kernel_rfl) (by kernel_rfl) (by refine ⟨rfl,⟨_,_,rfl⟩,rfl,⟨_,_,rfl⟩,rfl,⟨_,_,rfl⟩,rfl,⟨_,_,rfl⟩,trivial⟩) (ls:=[o__0,o__1,o__2,o__3]) (bs:=[0,o__1,o__1,0]) rfl rfl rfl rfl e ?_
 cases a9
 have f1:=fB f0
 refine cA [(vi o__0),(vi o__1),(vi o__2),(vi o__3)] rfl (H.bz_ 0 rfl) ?_
 refine bA (H.bx0 1 rfl) ?_
 refine bA (H.bx0 2 rfl) ?_
 obtain ⟨y2,i0,f2⟩:=aA f1
 replace H:=H.sel [3,0,1,2,4,5] rfl
 refine gC (BX_ i0) (Γi:=[E (List (List Int)) c1_ c1_h]) H trivial ?_
 rintro _ _ w1 ⟨rfl,rfl⟩ H
 refine cA [(vi o__0),(vi o__1),(vi o__2),(vi o__3)] rfl (H.bz_ 1 rfl) ?_
 refine bA (H.bx0 2 rfl) ?_
 refine bA (H.bx0 4 rfl) ?_
 obtain ⟨y3,i1,f3⟩:=aA f2
 replace H:=H.sel [5,0,1,2,3,4] rfl
 refine gC (BX_ i1) (Γi:=[E (List (List Int)) c2_ c2_h]) H trivial ?_
 rintro _ _ w2 ⟨rfl,rfl⟩ H
 cases f3
 exact ⟨_,_,rfl,⟨rfl,rfl⟩,(H.sel [3,4,1,5,0] rfl).close ⟨cloB,cloB,cloE,cloB,cloE,trivial⟩⟩
 have f4:=eB f0
 cases f4
 exact ⟨_,_,rfl,⟨rfl,rfl⟩,(H.sel [1,2,3,4,5] rfl).close ⟨cloB,cloB,cloE,cloB,cloE,trivial⟩⟩
theorem Cb_ {p_:Int}{rows_:List (List Int)}{rows_h:Hd}{n_:Int}{also_:List (List Int)}{also_h:Hd}{y0 y1:List (List Int)}{y2:Int} (hF:gT p_ rows_ n_ also_=some (y0,y1,y2)) :
  kA Tryz.prog 117 #[(vi p_),(rows_h).v,(vi n_),(also_h).v] [] [E (List (List Int)) rows_ rows_h,E (List (List Int)) also_ also_h] (fun v Γ'=>v=(vi y2)∧Γ'=[E (List (List Int)) y0 rows_h,E (List (List Int)) y1 also_h]):=by
 intro w0 S0 fp0 hI hS
 have H:=Cx.start hI hS;dsimp at H
 refine iA (args:=[_,_,_,_]) gok Tryz.func117 rfl _ rfl rfl rfl ?_
 refine xA H ?_;intro b4 w3 hx H
 refine xA H ?_;intro b7 w6 hx H
 refine xA H ?_;intro b0 w9 hx H
 obtain ⟨r0,f0,f1⟩:=aA hF
 refine cut (fun (q0:List (List Int)×List (List Int)×Int)=>[(9,(vi q0.2.2))]) (fun (q0:List (List Int)×List (List Int)×Int) w'=>(q0.1,q0.2.1,q0.2.2)=r0∧Cx w0 fp0 S0 w' [E (List (List Int)) q0.1 rows_h,E (List (List Int)) q0.2.1 also_h]) ?_ ?_
 refine oE _ (fun (s0:List (List Int)×List (List Int)×Int×Int) (_:Unit)=>[(2,(vi n_)),(5,(vp b7)),(9,(vi s0.2.2.2)),(10,(.func (.func 142) #[] #[(vp b4),(vp b7),(vp b0)])),(11,(vi s0.2.2.1))]) (fun (s0:List (List Int)×List (List Int)×Int×Int) (_:Unit) w'=>Cx w0 fp0 S0 w' [Bx b7 [(rows_h).v],E (List (List Int)) s0.1 rows_h,Bx b4 [(vi p_)],Bx b0 [(also_h).v],E (List (List Int)) s0.2.1 also_h]) (rows_,also_,0,0) () f0 r5_ (H.sel [1,3,2,0,4] rfl) ?_
 rintro T0 ⟨s0_0,s0_1,s0_2,s0_3⟩ _ w1 o0 (H:Cx w0 fp0 S0 w1 [Bx b7 [(rows_h).v],E (List (List Int)) s0_0 rows_h,Bx b4 [(vi p_)],Bx b0 [(also_h).v],E (List (List Int)) s0_1 also_h]) hrt f2
 refine sq ?_
 obtain ⟨r1,f3,f4⟩:=aA f2
 refine cut (fun (q1:Bool)=>[(2,(vi n_)),(5,(vp b7)),(9,(vi s0_3)),(10,(.func (.func 142) #[] #[(vp b4),(vp b7),(vp b0)])),(11,(vi s0_2)),(23,(.bool q1))]) (fun (q1:Bool) w'=>q1=r1∧Cx w0 fp0 S0 w' [Bx b7 [(rows_h).v],E (List (List Int)) s0_0 rows_h,Bx b4 [(vi p_)],Bx b0 [(also_h).v],E (List (List Int)) s0_1 also_h]) ?_ ?_
 refine boolB_ f3 (fun f6=>?_) fun f7=>?_
 exact ⟨false,r6_,oi_ f6,H.sel [0,1,2,3,4] rfl⟩
 refine bA (H.bx0 0 rfl) ?_
 refine nA (H.ro (α:=List (List Int)) 1 rfl).len ?_
 obtain ⟨a1,e,f8⟩:=aA f7
 refine tB e ?_
 exact ⟨a1,r6_,oi_ f8,H.sel [0,1,2,3,4] rfl⟩
 rintro T1 s1 w2 ⟨hr,H⟩;try dsimp only at H
 subst hr
 cases s1
 have f9:=fB f4
 obtain rfl:=oi_ f9
 have f10:some _=some _:=congrArg some (hrt _ rfl).symm
 exact ⟨(s0_0,s0_1,s0_3),⟨rfl,trivial⟩,oi_ f10,H.sel [1,4] rfl⟩
 have f11:=eB f4
 obtain ⟨r2,f12,f13⟩:=aA f11
 refine cut (fun (q2:List (List Int)×List (List Int)×Int)=>[(2,(vi n_)),(5,(vp b7)),(9,(vi q2.2.2)),(10,(.func (.func 142) #[] #[(vp b4),(vp b7),(vp b0)])),(11,(vi s0_2))]) (fun (q2:List (List Int)×List (List Int)×Int) w'=>(q2.1,q2.2.1,q2.2.2)=r2∧Cx w0 fp0 S0 w' [Bx b7 [(rows_h).v],E (List (List Int)) q2.1 rows_h,Bx b4 [(vi p_)],Bx b0 [(also_h).v],E (List (List Int)) q2.2.1 also_h]) ?_ ?_
 obtain ⟨r3,f14,f15⟩:=aA f12
 refine cut (fun (q3:Int)=>[(2,(vi n_)),(5,(vp b7)),(9,(vi s0_3)),(10,(.func (.func 142) #[] #[(vp b4),(vp b7),(vp b0)])),(11,(vi s0_2)),(12,(vi q3))]) (fun (q3:Int) w'=>q3=r3∧Cx w0 fp0 S0 w' [Bx b7 [(rows_h).v],E (List (List Int)) s0_0 rows_h,Bx b4 [(vi p_)],Bx b0 [(also_h).v],E (List (List Int)) s0_1 also_h]) ?_ ?_
 refine oE _ (fun (s2:Int) (_:Unit)=>[(2,(vi n_)),(5,(vp b7)),(9,(vi s0_3)),(10,(.func (.func 142) #[] #[(vp b4),(vp b7),(vp b0)])),(11,(vi s0_2)),(12,(vi s2))]) (fun (s2:Int) (_:Unit) w'=>Cx w0 fp0 S0 w' [Bx b7 [(rows_h).v],E (List (List Int)) s0_0 rows_h,Bx b4 [(vi p_)],Bx b0 [(also_h).v],E (List (List Int)) s0_1 also_h]) s0_3 () f14 r6_ (H.sel [0,1,2,3,4] rfl) ?_
 rintro T2 s2 _ w4 o1 (H:Cx w0 fp0 S0 w4 [Bx b7 [(rows_h).v],E (List (List Int)) s0_0 rows_h,Bx b4 [(vi p_)],Bx b0 [(also_h).v],E (List (List Int)) s0_1 also_h]) hrt f16
 refine sq ?_
 obtain ⟨r4,f17,f18⟩:=aA f16
 refine cut (fun (q4:Bool)=>[(2,(vi n_)),(5,(vp b7)),(9,(vi s0_3)),(10,(.func (.func 142) #[] #[(vp b4),(vp b7),(vp b0)])),(11,(vi s0_2)),(12,(vi s2)),(40,(.bool q4))]) (fun (q4:Bool) w'=>q4=r4∧Cx w0 fp0 S0 w' [Bx b7 [(rows_h).v],E (List (List Int)) s0_0 rows_h,Bx b4 [(vi p_)],Bx b0 [(also_h).v],E (List (List Int)) s0_1 also_h]) ?_ ?_
 refine bA (H.bx0 0 rfl) ?_
 refine nA (H.ro (α:=List (List Int)) 1 rfl).len ?_
 refine boolB_ f17 (fun f20=>?_) fun f21=>?_
 exact ⟨false,r7_,oi_ f20,H.sel [0,1,2,3,4] rfl⟩
 refine bA (H.bx0 0 rfl) ?_
 obtain ⟨a3,e,f22⟩:=aA f21
 replace H:=H.sel [1,0,2,3,4] rfl
 replace H:=H.toEH (α:=List Int)
 have HH:=H;obtain ⟨p0,m0,h0,c0,c1,c2,c3,H⟩:=HH.peekL e
 refine dA c0 c1 c2 ?_
 refine bA c3 ?_
 obtain ⟨a4,e,f23⟩:=aA f22
 obtain ⟨p1,m1,c4,c5,c6,c7⟩:=(H.rh (α:=List Int) 0 rfl 0 rfl).at1 e
 refine dA c4 c5 c6 ?_
 refine bA c7 ?_
 obtain ⟨a5,e,f24⟩:=aA f23
 refine tB e ?_
 replace H:=H.ofEH
 exact ⟨a5,r7_,oi_ f24,H.sel [1,0,2,3,4] rfl⟩
 rintro T3 s3 w5 ⟨hr,H⟩;try dsimp only at H
 subst hr
 cases s3
 have f25:=fB f18
 obtain rfl:=oi_ f25
 have f26:some _=some _:=congrArg some (hrt _ rfl).symm
 exact ⟨s2,r6_,oi_ f26,H.sel [0,1,2,3,4] rfl⟩
 have f27:=eB f18
 obtain ⟨a6,e,f28⟩:=aA f27
 refine arO e ?_
 obtain rfl:=oi_ f28
 exact ⟨a6,(),rfl,r6_,H.sel [0,1,2,3,4] rfl⟩
 rintro T4 s4 w7 ⟨hr,H⟩;try dsimp only at H
 subst hr
 refine sq ?_
 refine bA (H.bx0 0 rfl) ?_
 refine nA (H.ro (α:=List (List Int)) 1 rfl).len ?_
 refine boolB_ f15 (fun f30=>?_) fun f51=>?_
 refine pB (cs:=#[(vi 0),(vi s0_3),(vi s4),(vi 0)]) gok rfl rfl rfl ?_
 obtain ⟨⟨y3_0,y3_1⟩,i0,f31⟩:=aA f30
 replace H:=H.sel [2,0,1,3,4] rfl
 refine gC (gY i0) (Γi:=[Bx b4 [(vi p_)],Bx b7 [(rows_h).v],E (List (List Int)) s0_0 rows_h,Bx b0 [(also_h).v],E (List (List Int)) s0_1 also_h]) H trivial ?_
 rintro _ _ w8 ⟨rfl,rfl⟩ H
 refine bA (H.bx0 1 rfl) ?_
 obtain ⟨a8,e,f32⟩:=aA f31
 replace H:=H.sel [2,0,1,3,4] rfl
 replace H:=H.toEH (α:=List Int)
 have HH:=H;obtain ⟨p2,m2,h1,c8,c9,c10,c11,H⟩:=HH.peekL e
 refine dA c8 c9 c10 ?_
 refine bA c11 ?_
 obtain ⟨a9,e,f33⟩:=aA f32
 obtain ⟨p3,m3,c12,c13,c14,c15⟩:=(H.rh (α:=List Int) 0 rfl 0 rfl).at1 e
 refine dA c12 c13 c14 ?_
 refine bA c15 ?_
 refine pB (cs:=#[(vi 1),(vi s0_3),(vi 0),(vi a9)]) gok rfl rfl rfl ?_
 replace H:=H.ofEH
 obtain ⟨⟨y4_0,y4_1⟩,i1,f34⟩:=aA f33
 replace H:=H.sel [1,2,0,3,4] rfl
 refine gC (gY i1) (Γi:=[Bx b4 [(vi p_)],Bx b7 [(rows_h).v],E (List (List Int)) y3_0 rows_h,Bx b0 [(also_h).v],E (List (List Int)) y3_1 also_h]) H trivial ?_
 rintro _ _ w10 ⟨rfl,rfl⟩ H
 refine sq ?_
 refine bA (H.bx0 1 rfl) ?_
 refine nA (H.ro (α:=List (List Int)) 2 rfl).len ?_
 have x0:=(H.ro (α:=List (List Int)) 2 rfl).max
 obtain ⟨r5,e,f35⟩:=aA f34
 refine nB _ y4_0.length (fun (k0:Nat) (s5:List (List Int)×List (List Int)) (_:Unit)=>[(2,(vi n_)),(5,(vp b7)),(9,(vi s0_3)),(10,(.func (.func 142) #[] #[(vp b4),(vp b7),(vp b0)])),(11,(vi s0_2)),(64,(vi ((y4_0.length:Nat):Int))),(65,(vi ((k0:Nat):Int)))]) (fun _ (s5:List (List Int)×List (List Int)) (_:Unit) w'=>Cx w0 fp0 S0 w' [Bx b7 [(rows_h).v],E (List (List Int)) s5.1 rows_h,Bx b4 [(vi p_)],Bx b0 [(also_h).v],E (List (List Int)) s5.2 also_h]) (y4_0,y4_1) () e r7_ (H.sel [1,2,0,3,4] rfl) ?_ ?_
 rintro T5 k0 ⟨s5_0,s5_1⟩ _ w11 o2 hk (H:Cx w0 fp0 S0 w11 [Bx b7 [(rows_h).v],E (List (List Int)) s5_0 rows_h,Bx b4 [(vi p_)],Bx b0 [(also_h).v],E (List (List Int)) s5_1 also_h]) f36
 refine jA (z:=true) (cB hk) ?_
 refine sq (sq ?_)
 obtain ⟨r6,f37,f38⟩:=aA f36
 refine cut (fun (q5:Bool)=>[(2,(vi n_)),(5,(vp b7)),(9,(vi s0_3)),(10,(.func (.func 142) #[] #[(vp b4),(vp b7),(vp b0)])),(11,(vi s0_2)),(13,(vi ((k0:Nat):Int))),(64,(vi ((y4_0.length:Nat):Int))),(65,(vi ((k0:Nat):Int))),(80,(.bool q5))]) (fun (q5:Bool) w'=>q5=r6∧Cx w0 fp0 S0 w' [Bx b7 [(rows_h).v],E (List (List Int)) s5_0 rows_h,Bx b4 [(vi p_)],Bx b0 [(also_h).v],E (List (List Int)) s5_1 also_h]) ?_ ?_
 refine boolB_ f37 (fun f40=>?_) fun f41=>?_
 exact ⟨false,r9_,oi_ f40,H.sel [0,1,2,3,4] rfl⟩
 refine bA (H.bx0 0 rfl) ?_
 obtain ⟨a11,e,f42⟩:=aA f41
 replace H:=H.sel [1,0,2,3,4] rfl
 replace H:=H.toEH (α:=List Int)
 have HH:=H;obtain ⟨p4,m4,h2,c16,c17,c18,c19,H⟩:=HH.peekL e
 refine dA c16 c17 c18 ?_
 refine bA c19 ?_
 obtain ⟨a12,e,f43⟩:=aA f42
 obtain ⟨p5,m5,c20,c21,c22,c23⟩:=(H.rh (α:=List Int) 0 rfl 0 rfl).at1 e
 refine dA c20 c21 c22 ?_
 refine bA c23 ?_
 obtain ⟨a13,e,f44⟩:=aA f43
 refine tB e ?_
 replace H:=H.ofEH
 exact ⟨a13,r9_,oi_ f44,H.sel [1,0,2,3,4] rfl⟩
 rintro T6 s6 w12 ⟨hr,H⟩;try dsimp only at H
 subst hr
 cases s6
 have f45:=fB f38
 refine arK hk x0 ?_
 obtain rfl:=oi_ f45
 exact ⟨(),r7_,H.sel [0,1,2,3,4] rfl⟩
 have f46:=eB f38
 refine bA (H.bx0 0 rfl) ?_
 obtain ⟨a14,e,f47⟩:=aA f46
 replace H:=H.sel [1,0,2,3,4] rfl
 replace H:=H.toEH (α:=List Int)
 have HH:=H;obtain ⟨p6,m6,h3,c24,c25,c26,c27,H⟩:=HH.peekL e
 refine dA c24 c25 c26 ?_
 refine bA c27 ?_
 obtain ⟨a15,e,f48⟩:=aA f47
 obtain ⟨p7,m7,c28,c29,c30,c31⟩:=(H.rh (α:=List Int) 0 rfl 0 rfl).at1 e
 refine dA c28 c29 c30 ?_
 refine bA c31 ?_
 refine pB (cs:=#[(vi 2),(vi ((k0:Nat):Int)),(vi s0_3),(vi a15)]) gok rfl rfl rfl ?_
 replace H:=H.ofEH
 obtain ⟨⟨y5_0,y5_1⟩,i2,f49⟩:=aA f48
 replace H:=H.sel [2,1,0,3,4] rfl
 refine gC (@gY 2 ((k0:Nat):Int) s0_3 a15 b4 p_ b7 s5_0 rows_h b0 s5_1 also_h y5_0 y5_1 i2) (Γi:=[Bx b4 [(vi p_)],Bx b7 [(rows_h).v],E (List (List Int)) s5_0 rows_h,Bx b0 [(also_h).v],E (List (List Int)) s5_1 also_h]) H trivial ?_
 rintro _ _ w13 ⟨rfl,rfl⟩ H
 refine arK hk x0 ?_
 obtain rfl:=oi_ f49
 exact ⟨(),r7_,H.sel [1,2,0,3,4] rfl⟩
 obtain ⟨s7_0,s7_1⟩:=r5
 rintro T7 _ w14 H;try dsimp only at H
 refine jA (z:=false) dB ?_
 refine sq ?_
 obtain ⟨a16,e,f50⟩:=aA f35
 refine arO e ?_
 exact ⟨(s7_0,s7_1,a16),r5_,oi_ f50,H.sel [0,1,2,3,4] rfl⟩
 exact ⟨(s0_0,s0_1,s0_3),r5_,oi_ f51,H.sel [0,1,2,3,4] rfl⟩
 rintro T8 ⟨s8_0,s8_1,s8_2⟩ w15 ⟨hr,H⟩;try dsimp only at H
 subst hr
 obtain ⟨a17,e,f52⟩:=aA f13
 refine arO e ?_
 obtain rfl:=oi_ f52
 exact ⟨(s8_0,s8_1,a17,s8_2),(),rfl,r5_,H.sel [0,1,2,3,4] rfl⟩
 rintro T9 ⟨s9_0,s9_1,s9_2⟩ w16 ⟨hr,H⟩;try dsimp only at H
 subst hr
 cases f1
 exact ⟨_,_,rfl,⟨rfl,rfl⟩,(H.sel [0,1] rfl).close ⟨cloE,cloE,trivial⟩⟩
theorem Cm_ {p_:Int}{rows_:List (List Int)}{rows_h:Hd}{n_:Int}{y:List (List Int)} (hF:oT p_ rows_ n_=some y) :
  kA Tryz.prog 118 #[(vi p_),(rows_h).v,(vi n_)] [Es (List (List Int)) rows_ rows_h] [] (fun v Γ'=>∃ z0:Hd,v=(z0).v∧Γ'=[E (List (List Int)) y z0]):=by
 intro w0 S0 fp0 hI hS
 have H:=Cx.start hI hS;dsimp at H
 refine iA (args:=[_,_,_]) gok Tryz.func118 rfl _ rfl rfl rfl ?_
 obtain ⟨y2,ey2,hF3⟩:=aA hF
 refine callF0_ (CE_ ey2) H ⟨Vw.sh 0 rfl,trivial⟩ ?_
 rintro _ _ w4 ⟨h5,rfl,rfl⟩ H
 refine nA (H.ro (α:=List (List Int)) 0 rfl).len ?_
 obtain ⟨a7,e,hF8⟩:=aA hF3
 refine nE (α:=List Int) gok rfl rfl rfl rfl (xE e) H ?_;intro h0 w9 hx H
 obtain ⟨⟨y0_0,y0_1,y0_2⟩,i0,f0⟩:=aA hF8
 replace H:=H.sel [1,0,2] rfl
 refine gC (Cb_ i0) (Γi:=[E (List (List Int)) y2 h5,E (List (List Int)) a7 h0]) H trivial ?_
 rintro _ _ w1 ⟨rfl,rfl⟩ H
 obtain ⟨a0,e,f1⟩:=aA f0
 refine slO3 (α:=List Int) gok rfl rfl H e ?_;intro h1 H
 cases f1
 exact ⟨_,_,rfl,⟨h1,rfl,rfl⟩,(H.sel [0] rfl).close ⟨cloE,trivial⟩⟩
theorem GP_ {p_:Int}{rows_:List (List Int)}{rows_h:Hd}{n_:Int}{y:List (List Int)} (hF:Ac_ p_ rows_ n_=some y) :
  kA Tryz.prog 89 #[(vi p_),(rows_h).v,(vi n_)] [Es (List (List Int)) rows_ rows_h] [] (fun v Γ'=>∃ z0:Hd,v=(z0).v∧Γ'=[E (List (List Int)) y z0]):=by
 intro w0 S0 fp0 hI hS
 have H:=Cx.start hI hS;dsimp at H
 refine iA (args:=[_,_,_]) gok Tryz.func89 rfl _ rfl rfl rfl ?_
 obtain ⟨y2,ey2,hF3⟩:=aA hF
 refine callF0_ (CE_ ey2) H ⟨Vw.sh 0 rfl,trivial⟩ ?_
 rintro _ _ w4 ⟨h5,rfl,rfl⟩ H
 refine nA (H.rs (α:=List (List Int)) 1 rfl).len ?_
 obtain ⟨y7,ey7,hF8⟩:=aA hF3
 refine gC (@FF_ ((rows_.length:Nat):Int) y7 ey7) (Γi:=[]) H trivial ?_
 rintro _ _ w9 ⟨h0,rfl,rfl⟩ H
 obtain ⟨⟨y0_0,y0_1,y0_2⟩,i0,f0⟩:=aA hF8
 replace H:=H.sel [1,0,2] rfl
 refine gC (Cb_ i0) (Γi:=[E (List (List Int)) y2 h5,E (List (List Int)) y7 h0]) H trivial ?_
 rintro _ _ w1 ⟨rfl,rfl⟩ H
 obtain ⟨a0,e,f1⟩:=aA f0
 replace H:=H.sel [1,0,2] rfl
 replace H:=H.frz
 refine slS (α:=List Int) (hi:=none) gok rfl rfl H 0 rfl e rfl (congrArg (fun n:Nat=>some (n:Int)) (H.rs (α:=List (List Int)) 0 rfl).len) ?_;intro h1 H
 refine nA (H.rs (α:=List (List Int)) 3 rfl).len ?_
 obtain ⟨y1,i1,f2⟩:=aA f1
 refine gC (@Cm_ p_ a0 h1 ((rows_.length:Nat):Int) y1 i1) (Γi:=[]) H ⟨Vw.sh 0 rfl,trivial⟩ ?_
 rintro _ _ w2 ⟨h2,rfl,rfl⟩ H
 cases f2
 exact ⟨_,_,rfl,⟨h2,rfl,rfl⟩,(H.sel [0] rfl).close ⟨cloE,trivial⟩⟩
theorem Cq_ {p_:Int}{x_:List Int}{x_h:Hd}{rows_:List (List Int)}{rows_h:Hd}{n_:Int}{y:List Int} (hF:oN p_ x_ rows_ n_=some y) :
  kA Tryz.prog 90 #[(vi p_),(x_h).v,(rows_h).v,(vi n_)] [Es (List Int) x_ x_h,Es (List (List Int)) rows_ rows_h] [] (fun v Γ'=>∃ z0:Hd,v=(z0).v∧Γ'=[E (List Int) y z0]):=by
 intro w0 S0 fp0 hI hS
 have H:=Cx.start hI hS;dsimp at H
 refine iA (args:=[_,_,_,_]) gok Tryz.func90 rfl _ rfl rfl rfl ?_
 obtain ⟨y3,ey3,hF4⟩:=aA hF
 refine callF0_ (sJ ey3) H trivial ?_
 rintro _ _ w5 ⟨h6,rfl,rfl⟩ H
 refine sq ?_
 refine nA (H.rs (α:=List (List Int)) 2 rfl).len ?_
 have x0:=(H.rs (α:=List (List Int)) 2 rfl).max
 obtain ⟨r0,e,f0⟩:=aA hF4
 refine nB _ rows_.length (fun (k8:Nat) (s0:List Int) (_:Unit)=>[(0,(vi p_)),(1,(x_h).v),(9,(h6).v),(14,(rows_h).v),(15,(vi ((rows_.length:Nat):Int))),(16,(vi ((k8:Nat):Int)))]) (fun _ (s0:List Int) (_:Unit) w'=>Cx w0 fp0 S0 w' [Es (List Int) x_ x_h,E (List Int) s0 h6,Es (List (List Int)) rows_ rows_h]) y3 () e r6_ (H.sel [1,0,2] rfl) ?_ ?_
 rintro T0 k8 s0 _ w1 o0 hk (H:Cx w0 fp0 S0 w1 [Es (List Int) x_ x_h,E (List Int) s0 h6,Es (List (List Int)) rows_ rows_h]) f1
 refine jA (z:=true) (cB hk) ?_
 refine sq (sq ?_)
 obtain ⟨a0,e,f2⟩:=aA f1
 have HH:=H;obtain ⟨p0,m0,h0,c0,c1,c2,c3,H⟩:=HH.elL 2 rfl e
 refine dA c0 c1 c2 ?_
 refine bA c3 ?_
 obtain ⟨a1,e,f3⟩:=aA f2
 obtain ⟨p1,m1,c4,c5,c6,c7⟩:=(H.rs (α:=List Int) 1 rfl).at1 e
 refine dA c4 c5 c6 ?_
 refine bA c7 ?_
 obtain ⟨y0,i0,f4⟩:=aA f3
 replace H:=H.sel [2,0,1,3] rfl
 refine gC (jT i0) (Γi:=[E (List Int) s0 h6]) H ⟨Vw.sh 0 rfl,trivial⟩ ?_
 rintro _ _ w2 ⟨rfl,rfl⟩ H
 refine arK hk x0 ?_
 obtain rfl:=oi_ f4
 exact ⟨(),r6_,H.sel [2,0,3] rfl⟩
 rintro T1 _ w3 H;try dsimp only at H
 refine jA (z:=false) dB ?_
 refine sq ?_
 cases f0
 exact ⟨_,_,rfl,⟨h6,rfl,rfl⟩,(H.sel [1] rfl).close ⟨cloE,trivial⟩⟩
theorem jN {p_ left_ right_:Int}{rows_:List (List Int)}{rows_h:Hd}{y_0 y_1:Int}{y_2:List (List Int)} (hF:vK p_ left_ right_ rows_=some (y_0,y_1,y_2)) :
  kA Tryz.prog 92 #[(vi p_),(vi left_),(vi right_),(rows_h).v] [Es (List (List Int)) rows_ rows_h] [] (fun v Γ'=>∃ z0:Hd,v=(.agg #[(vi y_0),(vi y_1),(z0).v])∧Γ'=[E (List (List Int)) y_2 z0]):=by
 intro w0 S0 fp0 hI hS
 have H:=Cx.start hI hS;dsimp at H
 refine iA (args:=[_,_,_,_]) gok Tryz.func92 rfl _ rfl rfl rfl ?_
 refine sA gok rfl H ?_;intro b3 w2 hx H
 obtain ⟨a5,e,hF6⟩:=aA hF
 refine arO e ?_
 obtain ⟨y7,ey7,hF8⟩:=aA hF6
 refine callF0_ (Cm_ ey7) H ⟨Vw.sh 1 rfl,trivial⟩ ?_
 rintro _ _ w9 ⟨h0,rfl,rfl⟩ H
 refine pB (cs:=#[(vi left_),(vi right_),(h0).v]) gok rfl rfl rfl ?_
 refine stA gok [(vi left_),(vi right_),(h0).v] rfl (H.sel [1,0,2] rfl) rfl rfl rfl ?_;intro w1 H
 refine cA [(vi left_),(vi right_),(h0).v] rfl (H.bz_ 0 rfl) ?_
 cases hF8
 exact ⟨_,_,rfl,⟨h0,rfl,rfl⟩,(H.sel [1] rfl).close ⟨cloE,trivial⟩⟩
theorem oS {r__0 r__1:Int}{r__2:List (List Int)}{r__2h:Hd}{d0__0 d0__1:Int}{d0__2:List (List Int)}{d0__2h:Hd}{y:List (List Int)} (hF:pS (r__0,r__1,r__2) (d0__0,d0__1,d0__2)=some y) :
  bF Tryz.prog 86 #[(.agg #[(vi r__0),(vi r__1),(r__2h).v]),(.func (.func 41) #[(.agg #[(vi d0__0),(vi d0__1),(d0__2h).v])] #[])] [Es (List (List Int)) r__2 r__2h,Es (List (List Int)) d0__2 d0__2h] [] (fun v Γ'=>∃ z0:Hd,v=(z0).v∧Γ'=[E (List (Sh (List Int))) y z0]):=by
 intro w0 S0 fp0 hI hS
 have H:=Cx.start hI hS;dsimp at H
 refine iA (args:=[_,_]) gok Tryz.func86 rfl _ rfl rfl rfl ?_
 refine xA H ?_;intro b4 w3 hx H
 refine wF (α:=List Int) gok rfl rfl H ?_;intro h7 w6 hx H
 refine sq ?_
 refine fld gok rfl rfl rfl rfl (bA (H.bx 1 rfl (j:=2) rfl) ?_)
 refine nA (H.rs (α:=List (List Int)) 2 rfl).len ?_
 have x0:=(H.rs (α:=List (List Int)) 2 rfl).max
 obtain ⟨r0,e,f0⟩:=aA hF
 replace H:=H.frzE (α:=List Int)
 refine nB _ r__2.length (fun (k9:Nat) (s0:List (List Int)) (g0:Hd)=>[(1,(.func (.func 41) #[(.agg #[(vi d0__0),(vi d0__1),(d0__2h).v])] #[])),(5,(g0).v),(10,(r__2h).v),(11,(vi ((r__2.length:Nat):Int))),(12,(vi ((k9:Nat):Int)))]) (fun _ (s0:List (List Int)) (g0:Hd) w'=>Cx w0 fp0 S0 w' [Es (List (List Int)) d0__2 d0__2h,E (List (Sh (List Int))) s0 g0,Es (List (List Int)) r__2 r__2h]) ([]:List (List Int)) h7 e r5_ (H.sel [3,0,2] rfl) ?_ ?_
 rintro T0 k9 s0 g0 w1 o0 hk (H:Cx w0 fp0 S0 w1 [Es (List (List Int)) d0__2 d0__2h,E (List (Sh (List Int))) s0 g0,Es (List (List Int)) r__2 r__2h]) f1
 refine jA (z:=true) (cB hk) ?_
 refine sq (sq ?_)
 obtain ⟨a0,e,f2⟩:=aA f1
 have HH:=H;obtain ⟨p0,m0,h0,c0,c1,c2,c3,H⟩:=HH.elL 2 rfl e
 refine dA c0 c1 c2 ?_
 refine bA c3 ?_
 obtain ⟨y0,i0,f3⟩:=aA f2
 refine qE (fN i0) (Γi:=[]) H [1,0] rfl (yA uA (yA uA xB)) ?_
 rintro _ _ w2 ⟨h1,rfl,rfl⟩ H
 replace H:=H.dup 0 rfl uA
 refine pC (α:=Sh (List Int)) (g:=h1) gok rfl rfl rfl rfl rfl H ?_;intro h2 w4 hx H
 obtain ⟨a1,e,f4⟩:=aA f3
 refine append_ (α:=Sh (List Int)) gok rfl rfl rfl rfl (H.sel [4,0,1,2,3,5] rfl) e ?_;intro h3 w5 H
 refine arK hk x0 ?_
 obtain rfl:=oi_ f4
 exact ⟨h3,r5_,H.sel [3,0,4] rfl⟩
 rintro T1 g1 w7 H;try dsimp only at H
 refine jA (z:=false) dB ?_
 refine sq ?_
 cases f0
 exact ⟨_,_,rfl,⟨g1,rfl,rfl⟩,(H.sel [1] rfl)⟩
end Go.Proofs.YtlggnmkelgplnaaGreatDoor
