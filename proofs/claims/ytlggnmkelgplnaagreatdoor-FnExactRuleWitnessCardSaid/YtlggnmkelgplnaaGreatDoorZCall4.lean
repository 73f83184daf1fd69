/-
 Contracts, printed by a program (wip/y/gen.py): each function of Go computes its partial function. Condition of each: its partial function yields a value.
-/
import Derived.Test.YtlggnmkelgplnaaGreatDoorZCall3
namespace Go.Proofs.YtlggnmkelgplnaaGreatDoor
open Go Go.Proofs.YtlggnmkelgplnaaGreatDoor.RW
set_option maxRecDepth 100000
set_option maxHeartbeats 2000000
set_option linter.unusedVariables false
theorem FQ_ {p_ a__0 a__1:Int}{a__2:List (List Int)}{a__2h:Hd}{b__0 b__1:Int}{b__2:List (List Int)}{b__2h:Hd}{y_0 y_1:Int}{y_2:List (List Int)} (hF:lP p_ (a__0,a__1,a__2) (b__0,b__1,b__2)=some (y_0,y_1,y_2)) :
  kA Tryz.prog 65 #[(vi p_),(.agg #[(vi a__0),(vi a__1),(a__2h).v]),(.agg #[(vi b__0),(vi b__1),(b__2h).v])] [Es (List (List Int)) a__2 a__2h,Es (List (List Int)) b__2 b__2h] [] (fun v Γ'=>∃ z0:Hd,v=(.agg #[(vi y_0),(vi y_1),(z0).v])∧Γ'=[E (List (List Int)) y_2 z0]):=by
 intro w0 S0 fp0 hI hS
 have H:=Cx.start hI hS;dsimp at H
 refine iA (args:=[_,_,_]) gok Tryz.func65 rfl _ rfl rfl rfl ?_
 refine xA H ?_;intro b4 w3 hx H
 refine xA H ?_;intro b7 w6 hx H
 refine sA gok rfl H ?_;intro b0 w9 hx H
 refine fld gok rfl rfl rfl rfl (bA (H.bx 2 rfl (j:=1) rfl) ?_)
 obtain ⟨a0,e,f0⟩:=aA hF
 refine nE (α:=List Int) gok rfl rfl rfl rfl (xE e) H ?_;intro h0 w1 hx H
 refine sq ?_
 refine nA (H.ro (α:=List (List Int)) 0 rfl).len ?_
 have x0:=(H.ro (α:=List (List Int)) 0 rfl).max
 obtain ⟨r0,e,f1⟩:=aA f0
 refine nB _ a0.length (fun (k0:Nat) (s0:List (List Int)) (_:Unit)=>[(0,(vi p_)),(4,(vp b4)),(5,(vp b7)),(6,(vp b0)),(7,(vi a__1)),(8,(h0).v),(24,(vi ((a0.length:Nat):Int))),(25,(vi ((k0:Nat):Int)))]) (fun _ (s0:List (List Int)) (_:Unit) w'=>Cx w0 fp0 S0 w' [Bx b4 [(vi a__0),(vi a__1),(a__2h).v],Es (List (List Int)) a__2 a__2h,Bx b7 [(vi b__0),(vi b__1),(b__2h).v],Es (List (List Int)) b__2 b__2h,Bx b0 [(vi 0),(vi 0),vn],E (List (List Int)) s0 h0]) a0 () e r8_ (H.sel [3,4,2,5,1,0] rfl) ?_ ?_
 rintro T0 k0 s0 _ w2 o0 hk (H:Cx w0 fp0 S0 w2 [Bx b4 [(vi a__0),(vi a__1),(a__2h).v],Es (List (List Int)) a__2 a__2h,Bx b7 [(vi b__0),(vi b__1),(b__2h).v],Es (List (List Int)) b__2 b__2h,Bx b0 [(vi 0),(vi 0),vn],E (List (List Int)) s0 h0]) f2
 refine jA (z:=true) (cB hk) ?_
 refine sq (sq ?_)
 refine sq ?_
 refine fld gok rfl rfl rfl rfl (bA (H.bx 0 rfl (j:=2) rfl) ?_)
 refine nA (H.rs (α:=List (List Int)) 1 rfl).len ?_
 have x1:=(H.rs (α:=List (List Int)) 1 rfl).max
 obtain ⟨r1,e,f3⟩:=aA f2
 refine nB _ a__2.length (fun (k1:Nat) (s1:List (List Int)) (_:Unit)=>[(0,(vi p_)),(4,(vp b4)),(5,(vp b7)),(6,(vp b0)),(7,(vi a__1)),(8,(h0).v),(9,(vi ((k0:Nat):Int))),(24,(vi ((a0.length:Nat):Int))),(25,(vi ((k0:Nat):Int))),(29,(a__2h).v),(30,(vi ((a__2.length:Nat):Int))),(31,(vi ((k1:Nat):Int)))]) (fun _ (s1:List (List Int)) (_:Unit) w'=>Cx w0 fp0 S0 w' [Bx b4 [(vi a__0),(vi a__1),(a__2h).v],Es (List (List Int)) a__2 a__2h,Bx b7 [(vi b__0),(vi b__1),(b__2h).v],Es (List (List Int)) b__2 b__2h,Bx b0 [(vi 0),(vi 0),vn],E (List (List Int)) s1 h0]) s0 () e r12_ (H.sel [0,1,2,3,4,5] rfl) ?_ ?_
 rintro T1 k1 s1 _ w4 o1 hk (H:Cx w0 fp0 S0 w4 [Bx b4 [(vi a__0),(vi a__1),(a__2h).v],Es (List (List Int)) a__2 a__2h,Bx b7 [(vi b__0),(vi b__1),(b__2h).v],Es (List (List Int)) b__2 b__2h,Bx b0 [(vi 0),(vi 0),vn],E (List (List Int)) s1 h0]) f4
 refine jA (z:=true) (cB hk) ?_
 refine sq (sq ?_)
 obtain ⟨a1,e,f5⟩:=aA f4
 have HH:=H;obtain ⟨p0,m0,h1,c0,c1,c2,c3,H⟩:=HH.elL 1 rfl e
 refine dA c0 c1 c2 ?_
 refine bA c3 ?_
 refine kB H [14,16,15,0,1] (.pure 0 (.pure 1 (.fst 2 (.fst 3 (.fst 4 (.fst 6 (.fst 7 (.fst 9 (.fst 5 (.fst 8 (.fst 10 (.fst 11 (.fst 12 (.act 13 (.act 14 (.act 15 (.act 16 .done))))))))))))))))) bB [] trivial (by kernel_rfl) ?_
 intro w5 H
 have hX:Ext w5 w5:=Upd.refl _ _
 obtain ⟨a2,e,f6⟩:=aA f5
 replace H:=H.sel [6,0,1,2,3,4,5] rfl
 replace H:=H.toEH (α:=List Int)
 have HH:=H;obtain ⟨p1,m1,h2,c4,c5,c6,c7,H⟩:=HH.peekL e
 refine dA c4 c5 c6 ?_
 refine oA (fun _=>fld gok rfl rfl rfl rfl ⟨rfl,rfl⟩) ?_
 refine gA c7 ?_
 refine gA (H.bx 2 rfl (j:=0) rfl) ?_
 obtain ⟨a3,e,f7⟩:=aA f6
 refine arO e ?_
 obtain ⟨a4,e,f8⟩:=aA f7
 obtain ⟨p2,m2,c8,c9,c10,c11⟩:=(H.rs (α:=List Int) 1 rfl).at1 e
 refine dA c8 c9 c10 ?_
 refine gA c11 ?_
 refine jE (α:=Int) gok rfl rfl rfl rfl H ?_;intro h3 w7 hx H
 refine hold_ hX hx fun hX=>?_
 replace H:=H.sel [1,0,2,3,4,5,6,7] rfl
 replace H:=H.takeK 0 rfl
 obtain ⟨a5,e,f9⟩:=aA f8
 refine append_ (α:=Int) gok rfl rfl rfl rfl (H.sel [0,2,1,3,4,5,6,7,8] rfl) e ?_;intro h4 w8 H
 refine hold trivial ?_
 refine dA c4 c5 c6 ?_
 refine hold trivial ?_
 replace H:=H.sel [1,0,2,3,4,5,6,7] rfl
 refine stX0 H c4 rfl rfl ?_;intro w10 H
 obtain ⟨a6,e,f10⟩:=aA f9
 replace H:=H.sel [1,0,2,3,4,5,6,7] rfl
 replace H:=H.put c5 e
 refine hold trivial ?_
 refine arK hk x1 ?_
 obtain rfl:=oi_ f10
 exact ⟨(),r12_,H.sel [2,3,4,5,6,0] rfl⟩
 rintro T2 _ w11 H;try dsimp only at H
 refine jA (z:=false) dB ?_
 refine sq ?_
 refine fld gok rfl rfl rfl rfl (bA (H.bx 2 rfl (j:=2) rfl) ?_)
 refine nA (H.rs (α:=List (List Int)) 3 rfl).len ?_
 have x2:=(H.rs (α:=List (List Int)) 3 rfl).max
 obtain ⟨r2,e,f11⟩:=aA f3
 refine nB _ b__2.length (fun (k2:Nat) (s2:List (List Int)) (_:Unit)=>[(0,(vi p_)),(4,(vp b4)),(5,(vp b7)),(6,(vp b0)),(7,(vi a__1)),(8,(h0).v),(9,(vi ((k0:Nat):Int))),(24,(vi ((a0.length:Nat):Int))),(25,(vi ((k0:Nat):Int))),(53,(b__2h).v),(54,(vi ((b__2.length:Nat):Int))),(55,(vi ((k2:Nat):Int)))]) (fun _ (s2:List (List Int)) (_:Unit) w'=>Cx w0 fp0 S0 w' [Bx b4 [(vi a__0),(vi a__1),(a__2h).v],Es (List (List Int)) a__2 a__2h,Bx b7 [(vi b__0),(vi b__1),(b__2h).v],Es (List (List Int)) b__2 b__2h,Bx b0 [(vi 0),(vi 0),vn],E (List (List Int)) s2 h0]) r1 () e r12_ (H.sel [0,1,2,3,4,5] rfl) ?_ ?_
 rintro T3 k2 s2 _ w12 o2 hk (H:Cx w0 fp0 S0 w12 [Bx b4 [(vi a__0),(vi a__1),(a__2h).v],Es (List (List Int)) a__2 a__2h,Bx b7 [(vi b__0),(vi b__1),(b__2h).v],Es (List (List Int)) b__2 b__2h,Bx b0 [(vi 0),(vi 0),vn],E (List (List Int)) s2 h0]) f12
 refine jA (z:=true) (cB hk) ?_
 refine sq (sq ?_)
 obtain ⟨a7,e,f13⟩:=aA f12
 have HH:=H;obtain ⟨p3,m3,h5,c12,c13,c14,c15,H⟩:=HH.elL 3 rfl e
 refine dA c12 c13 c14 ?_
 refine bA c15 ?_
 refine kB H [13,15,14,0,1] (.pure 0 (.pure 1 (.fst 2 (.fst 3 (.fst 4 (.fst 6 (.fst 7 (.fst 8 (.fst 9 (.fst 5 (.fst 10 (.act 11 (.act 12 (.act 13 (.act 14 (.act 15 .done)))))))))))))))) bB [] trivial (by kernel_rfl) ?_
 intro w13 H
 have hX:Ext w13 w13:=Upd.refl _ _
 obtain ⟨a8,e,f14⟩:=aA f13
 replace H:=H.sel [6,0,1,2,3,4,5] rfl
 replace H:=H.toEH (α:=List Int)
 have HH:=H;obtain ⟨p4,m4,h6,c16,c17,c18,c19,H⟩:=HH.peekL e
 refine dA c16 c17 c18 ?_
 obtain ⟨a9,e,f15⟩:=aA f14
 obtain ⟨p5,m5,c20,c21,c22,c23⟩:=(H.rs (α:=List Int) 1 rfl).at1 e
 refine dA c20 c21 c22 ?_
 refine gA c19 ?_
 refine gA c23 ?_
 obtain ⟨y0,i0,f16⟩:=aA f15
 refine eA (iU i0) H trivial ?_
 rintro _ _ w15 ⟨rfl,rfl⟩ hx H
 refine hold_ hX hx fun hX=>?_
 refine jE (α:=Int) gok rfl rfl rfl rfl H ?_;intro h7 w16 hx H
 refine hold_ hX hx fun hX=>?_
 replace H:=H.sel [1,0,2,3,4,5,6,7] rfl
 replace H:=H.takeK 0 rfl
 obtain ⟨a10,e,f17⟩:=aA f16
 refine append_ (α:=Int) gok rfl rfl rfl rfl (H.sel [0,2,1,3,4,5,6,7,8] rfl) e ?_;intro h8 w17 H
 refine hold trivial ?_
 refine dA c16 c17 c18 ?_
 refine hold trivial ?_
 replace H:=H.sel [1,0,2,3,4,5,6,7] rfl
 refine stX0 H c16 rfl rfl ?_;intro w18 H
 obtain ⟨a11,e,f18⟩:=aA f17
 replace H:=H.sel [1,0,2,3,4,5,6,7] rfl
 replace H:=H.put c17 e
 refine hold trivial ?_
 refine arK hk x2 ?_
 obtain rfl:=oi_ f18
 exact ⟨(),r12_,H.sel [2,3,4,5,6,0] rfl⟩
 rintro T4 _ w19 H;try dsimp only at H
 refine jA (z:=false) dB ?_
 refine sq ?_
 refine arK hk x0 ?_
 obtain rfl:=oi_ f11
 exact ⟨(),r8_,H.sel [0,1,2,3,4,5] rfl⟩
 rintro T5 _ w20 H;try dsimp only at H
 refine jA (z:=false) dB ?_
 refine sq (sq ?_)
 refine fld gok rfl rfl rfl rfl (bA (H.bx 0 rfl (j:=2) rfl) ?_)
 refine nA (H.rs (α:=List (List Int)) 1 rfl).len ?_
 refine fld gok rfl rfl rfl rfl (bA (H.bx 2 rfl (j:=2) rfl) ?_)
 refine nA (H.rs (α:=List (List Int)) 3 rfl).len ?_
 obtain ⟨a13,e,f19⟩:=aA f1
 refine arO e ?_
 obtain ⟨y1,i1,f20⟩:=aA f19
 refine callF0_ (Cv_ i1) H ⟨Vw.own 5 rfl,trivial⟩ ?_
 rintro _ _ w21 ⟨h9,rfl,rfl⟩ H
 refine nA (H.ro (α:=List (List Int)) 0 rfl).len ?_
 replace H:=H.frz
 have x3:=(H.rs (α:=List (List Int)) 0 rfl).max
 obtain ⟨r3,e,f21⟩:=aA f20
 replace H:=H.nil (α:=List Int)
 refine nB _ y1.length (fun (k3:Nat) (s3:List (List Int)) (g0:Hd)=>[(0,(vi p_)),(4,(vp b4)),(5,(vp b7)),(6,(vp b0)),(7,(vi a__1)),(14,(g0).v),(85,(h9).v),(86,(vi ((y1.length:Nat):Int))),(87,(vi ((k3:Nat):Int)))]) (fun _ (s3:List (List Int)) (g0:Hd) w'=>Cx w0 fp0 S0 w' [Bx b4 [(vi a__0),(vi a__1),(a__2h).v],Es (List (List Int)) a__2 a__2h,Bx b7 [(vi b__0),(vi b__1),(b__2h).v],Es (List (List Int)) b__2 b__2h,Bx b0 [(vi 0),(vi 0),vn],E (List (List Int)) s3 g0,Es (List (List Int)) y1 h9]) [] nilH e r9_ (H.sel [2,3,4,5,6,0,1] rfl) ?_ ?_
 rintro T6 k3 s3 g0 w22 o3 hk (H:Cx w0 fp0 S0 w22 [Bx b4 [(vi a__0),(vi a__1),(a__2h).v],Es (List (List Int)) a__2 a__2h,Bx b7 [(vi b__0),(vi b__1),(b__2h).v],Es (List (List Int)) b__2 b__2h,Bx b0 [(vi 0),(vi 0),vn],E (List (List Int)) s3 g0,Es (List (List Int)) y1 h9]) f22
 refine jA (z:=true) (cB hk) ?_
 refine sq (sq ?_)
 obtain ⟨a14,e,f23⟩:=aA f22
 have HH:=H;obtain ⟨p6,m6,h10,c24,c25,c26,c27,H⟩:=HH.elL 6 rfl e
 refine dA c24 c25 c26 ?_
 refine bA c27 ?_
 refine kB H [] (.fst 0 (.fst 1 (.fst 3 (.fst 5 (.fst 7 (.fst 8 (.fst 2 (.fst 4 (.fst 6 (.fst 9 (.fst 10 (.fst 11 (.act 12 (.fst 13 .done)))))))))))))) bB [] trivial (by kernel_rfl) ?_
 intro w23 H
 have hX:Ext w23 w23:=Upd.refl _ _
 refine oA (fun _=>fld gok rfl rfl rfl rfl ⟨rfl,rfl⟩) ?_
 refine oA (fun _=>fld gok rfl rfl rfl rfl ⟨rfl,rfl⟩) ?_
 refine oA (fun _=>fld gok rfl rfl rfl rfl ⟨rfl,rfl⟩) ?_
 refine gA (H.bx 1 rfl (j:=0) rfl) ?_
 obtain ⟨a15,e,f24⟩:=aA f23
 refine arO e ?_
 refine gA (H.bx 1 rfl (j:=2) rfl) ?_
 refine gA (H.bx 1 rfl (j:=2) rfl) ?_
 refine nA (H.rs (α:=List (List Int)) 2 rfl).len ?_
 obtain ⟨a16,e,f25⟩:=aA f24
 refine tH (α:=Int) gok rfl rfl H 0 rfl e rfl rfl ?_;intro h11 HH;have H:=HH
 obtain ⟨y2,i2,f26⟩:=aA f25
 refine eA (Ag_ i2) H ⟨Vw.sh 3 rfl,Vw.sh 0 rfl,trivial⟩ ?_
 rintro _ _ w24 ⟨h12,rfl,rfl⟩ hx H
 refine hold_ hX hx fun hX=>?_
 refine kB H [] (.fst 0 (.fst 1 (.fst 2 (.fst 5 (.fst 7 (.fst 8 (.fst 3 (.fst 4 (.fst 6 (.fst 9 (.fst 10 (.fst 11 (.act 12 (.fst 13 .done)))))))))))))) bB [] trivial (by kernel_rfl) ?_
 intro w25 H
 have hX:Ext w25 w25:=Upd.refl _ _
 refine oA (fun _=>fld gok rfl rfl rfl rfl ⟨rfl,rfl⟩) ?_
 refine oA (fun _=>fld gok rfl rfl rfl rfl ⟨rfl,rfl⟩) ?_
 refine oA (fun _=>fld gok rfl rfl rfl rfl ⟨rfl,rfl⟩) ?_
 refine gA (H.bx 5 rfl (j:=1) rfl) ?_
 obtain ⟨a17,e,f27⟩:=aA f26
 refine arO e ?_
 refine gA (H.bx 5 rfl (j:=2) rfl) ?_
 refine gA (H.bx 3 rfl (j:=2) rfl) ?_
 refine nA (H.rs (α:=List (List Int)) 4 rfl).len ?_
 obtain ⟨a18,e,f28⟩:=aA f27
 refine tH (α:=Int) (hi:=none) gok rfl rfl H 2 rfl e rfl (congrArg (fun n:Nat=>some (n:Int)) (H.rs (α:=List Int) 2 rfl).len) ?_;intro h13 HH;have H:=HH
 obtain ⟨y3,i3,f29⟩:=aA f28
 refine eA (Ag_ i3) H ⟨Vw.sh 7 rfl,Vw.sh 0 rfl,trivial⟩ ?_
 rintro _ _ w26 ⟨h14,rfl,rfl⟩ hx H
 refine hold_ hX hx fun hX=>?_
 refine kB H [9,11,10,12,0] (.pure 0 (.fst 1 (.fst 2 (.fst 6 (.fst 7 (.fst 8 (.fst 3 (.fst 4 (.act 5 (.act 9 (.act 10 (.act 11 (.act 12 .done))))))))))))) bB [] trivial (by kernel_rfl) ?_
 intro w27 H
 have hX:Ext w27 w27:=Upd.refl _ _
 refine oA (fun _=>fld gok rfl rfl rfl rfl ⟨rfl,rfl⟩) ?_
 obtain ⟨a19,e,f30⟩:=aA f29
 replace H:=H.frz
 refine tH (α:=Int) (hi:=none) gok rfl rfl H 0 rfl e rfl (congrArg (fun n:Nat=>some (n:Int)) (H.rs (α:=List Int) 0 rfl).len) ?_;intro h16 HH;have H:=HH
 refine gA (H.bx 6 rfl (j:=0) rfl) ?_
 obtain ⟨a20,e,f31⟩:=aA f30
 replace H:=H.sel [3,0,1,2,4,5,6,7,8,9,10,11,12] rfl
 replace H:=H.frz
 refine tH (α:=Int) gok rfl rfl H 0 rfl e rfl rfl ?_;intro h17 HH;have H:=HH
 obtain ⟨y4,i4,f32⟩:=aA f31
 refine eA (gM i4) H ⟨Vw.sh 0 rfl,trivial⟩ ?_
 rintro _ _ w28 ⟨h18,rfl,rfl⟩ hx H
 refine hold_ hX hx fun hX=>?_
 obtain ⟨a21,e,f33⟩:=aA f32
 refine xM (α:=Int) gok rfl rfl rfl rfl H (Vw.sh 2 rfl) e ?_;intro h19 w29 H
 refine hold trivial ?_
 refine pC (α:=List Int) (g:=h19) gok rfl rfl rfl rfl rfl H ?_;intro h20 w30 hx H
 refine hold trivial ?_
 obtain ⟨a22,e,f34⟩:=aA f33
 refine append_ (α:=List Int) gok rfl rfl rfl rfl (H.sel [13,0,1,2,3,4,5,6,7,8,9,10,11,12,14] rfl) e ?_;intro h21 w31 H
 refine hold trivial ?_
 refine hold trivial ?_
 refine arK hk x3 ?_
 obtain rfl:=oi_ f34
 exact ⟨h21,r9_,H.sel [8,9,10,11,12,0,13] rfl⟩
 rintro T7 g1 w32 H;try dsimp only at H
 refine jA (z:=false) dB ?_
 refine sq ?_
 refine fld gok rfl rfl rfl rfl (bA (H.bx 0 rfl (j:=0) rfl) ?_)
 refine fld gok rfl rfl rfl rfl (bA (H.bx 2 rfl (j:=1) rfl) ?_)
 obtain ⟨⟨y5_0,y5_1,y5_2⟩,i5,f35⟩:=aA f21
 refine callF0_ (An_ i5) H ⟨Vw.own 5 rfl,trivial⟩ ?_
 rintro _ _ w33 ⟨h22,rfl,rfl⟩ H
 refine stA gok [(vi y5_0),(vi y5_1),(h22).v] rfl (H.sel [5,0,1,2,3,4,6,7] rfl) rfl rfl rfl ?_;intro w34 H
 refine cA [(vi y5_0),(vi y5_1),(h22).v] rfl (H.bz_ 0 rfl) ?_
 cases f35
 exact ⟨_,_,rfl,⟨h22,rfl,rfl⟩,(H.sel [1] rfl).close ⟨cloE,trivial⟩⟩
theorem F1_ {p_ a__0 a__1:Int}{a__2:List (List Int)}{a__2h:Hd}{b__0 b__1:Int}{b__2:List (List Int)}{b__2h:Hd}{y_0 y_1:Int}{y_2:List (List Int)} (hF:rP p_ (a__0,a__1,a__2) (b__0,b__1,b__2)=some (y_0,y_1,y_2)) :
  kA Tryz.prog 66 #[(vi p_),(.agg #[(vi a__0),(vi a__1),(a__2h).v]),(.agg #[(vi b__0),(vi b__1),(b__2h).v])] [Es (List (List Int)) a__2 a__2h,Es (List (List Int)) b__2 b__2h] [] (fun v Γ'=>∃ z0:Hd,v=(.agg #[(vi y_0),(vi y_1),(z0).v])∧Γ'=[E (List (List Int)) y_2 z0]):=by
 intro w0 S0 fp0 hI hS
 have H:=Cx.start hI hS;dsimp at H
 refine iA (args:=[_,_,_]) gok Tryz.func66 rfl _ rfl rfl rfl ?_
 refine xA H ?_;intro b4 w3 hx H
 refine xA H ?_;intro b7 w6 hx H
 refine sA gok rfl H ?_;intro b0 w9 hx H
 refine kB H [] (.fst 0 (.fst 2 (.fst 5 (.fst 7 (.fst 1 (.fst 3 (.fst 4 (.fst 10 (.fst 6 (.fst 8 (.fst 9 (.fst 11 .done)))))))))))) bB [] trivial (by kernel_rfl) ?_
 intro w1 H
 have hX:Ext w1 w1:=Upd.refl _ _
 refine oA (fun _=>fld gok rfl rfl rfl rfl ⟨rfl,rfl⟩) ?_
 refine oA (fun _=>fld gok rfl rfl rfl rfl ⟨rfl,rfl⟩) ?_
 refine oA (fun _=>fld gok rfl rfl rfl rfl ⟨rfl,rfl⟩) ?_
 refine oA (fun _=>fld gok rfl rfl rfl rfl ⟨rfl,rfl⟩) ?_
 refine gA (H.bx 2 rfl (j:=0) rfl) ?_
 refine gA (H.bx 1 rfl (j:=0) rfl) ?_
 obtain ⟨a0,e,f0⟩:=aA hF
 refine arO e ?_
 refine gA (H.bx 2 rfl (j:=1) rfl) ?_
 refine gA (H.bx 1 rfl (j:=1) rfl) ?_
 obtain ⟨a1,e,f1⟩:=aA f0
 refine arO e ?_
 refine sq ?_
 refine fld gok rfl rfl rfl rfl (bA (H.bx 2 rfl (j:=2) rfl) ?_)
 refine nA (H.rs (α:=List (List Int)) 3 rfl).len ?_
 have x0:=(H.rs (α:=List (List Int)) 3 rfl).max
 obtain ⟨r0,e,f2⟩:=aA f1
 replace H:=H.nil (α:=List Int)
 refine nB _ a__2.length (fun (k0:Nat) (s0:List (List Int)) (g0:Hd)=>[(0,(vi p_)),(4,(vp b4)),(5,(vp b7)),(6,(vp b0)),(7,(vi a0)),(8,(vi a1)),(9,(g0).v),(31,(a__2h).v),(32,(vi ((a__2.length:Nat):Int))),(33,(vi ((k0:Nat):Int)))]) (fun _ (s0:List (List Int)) (g0:Hd) w'=>Cx w0 fp0 S0 w' [Bx b4 [(vi a__0),(vi a__1),(a__2h).v],Es (List (List Int)) a__2 a__2h,Bx b7 [(vi b__0),(vi b__1),(b__2h).v],Es (List (List Int)) b__2 b__2h,Bx b0 [(vi 0),(vi 0),vn],E (List (List Int)) s0 g0]) [] nilH e r10_ (H.sel [3,4,2,5,1,0] rfl) ?_ ?_
 rintro T0 k0 s0 g0 w2 o0 hk (H:Cx w0 fp0 S0 w2 [Bx b4 [(vi a__0),(vi a__1),(a__2h).v],Es (List (List Int)) a__2 a__2h,Bx b7 [(vi b__0),(vi b__1),(b__2h).v],Es (List (List Int)) b__2 b__2h,Bx b0 [(vi 0),(vi 0),vn],E (List (List Int)) s0 g0]) f3
 refine jA (z:=true) (cB hk) ?_
 refine sq (sq ?_)
 obtain ⟨a2,e,f4⟩:=aA f3
 have HH:=H;obtain ⟨p0,m0,h0,c0,c1,c2,c3,H⟩:=HH.elL 1 rfl e
 refine dA c0 c1 c2 ?_
 refine bA c3 ?_
 obtain ⟨a3,e,f5⟩:=aA f4
 refine arO e ?_
 obtain ⟨a4,e,f6⟩:=aA f5
 refine nE (α:=Int) gok rfl rfl rfl rfl (xE e) H ?_;intro h1 w4 hx H
 refine sq ?_
 refine nA (H.rs (α:=List Int) 1 rfl).len ?_
 have x1:=(H.rs (α:=List Int) 1 rfl).max
 obtain ⟨r1,e,f7⟩:=aA f6
 refine nB _ a2.length (fun (k1:Nat) (s1:List Int) (_:Unit)=>[(0,(vi p_)),(4,(vp b4)),(5,(vp b7)),(6,(vp b0)),(7,(vi a0)),(8,(vi a1)),(9,(g0).v),(12,(h1).v),(31,(a__2h).v),(32,(vi ((a__2.length:Nat):Int))),(33,(vi ((k0:Nat):Int))),(41,(h0).v),(42,(vi ((a2.length:Nat):Int))),(43,(vi ((k1:Nat):Int)))]) (fun _ (s1:List Int) (_:Unit) w'=>Cx w0 fp0 S0 w' [Bx b4 [(vi a__0),(vi a__1),(a__2h).v],Es (List (List Int)) a__2 a__2h,Bx b7 [(vi b__0),(vi b__1),(b__2h).v],Es (List (List Int)) b__2 b__2h,Bx b0 [(vi 0),(vi 0),vn],E (List (List Int)) s0 g0,E (List Int) s1 h1,Es (List Int) a2 h0]) a4 () e r14_ (H.sel [2,3,4,5,6,7,0,1] rfl) ?_ ?_
 rintro T1 k1 s1 _ w5 o1 hk (H:Cx w0 fp0 S0 w5 [Bx b4 [(vi a__0),(vi a__1),(a__2h).v],Es (List (List Int)) a__2 a__2h,Bx b7 [(vi b__0),(vi b__1),(b__2h).v],Es (List (List Int)) b__2 b__2h,Bx b0 [(vi 0),(vi 0),vn],E (List (List Int)) s0 g0,E (List Int) s1 h1,Es (List Int) a2 h0]) f8
 refine jA (z:=true) (cB hk) ?_
 refine sq (sq ?_)
 obtain ⟨a5,e,f9⟩:=aA f8
 obtain ⟨p1,m1,c4,c5,c6,c7⟩:=(H.rs (α:=List Int) 7 rfl).at1 e
 refine dA c4 c5 c6 ?_
 refine bA c7 ?_
 refine fld gok rfl rfl rfl rfl (bA (H.bx 0 rfl (j:=0) rfl) ?_)
 refine boolB_ f9 (fun f11=>?_) fun f15=>?_
 obtain ⟨a7,e,f12⟩:=aA f11
 refine arO e ?_
 refine fld gok rfl rfl rfl rfl (bA (H.bx 0 rfl (j:=0) rfl) ?_)
 obtain ⟨a8,e,f13⟩:=aA f12
 refine arO e ?_
 obtain ⟨a9,i0,f14⟩:=aA f13
 obtain ⟨p2,m2,c8,c9,c10⟩:=(H.ro (α:=List Int) 6 rfl).setp i0
 refine dA c8 c9 c10 ?_
 replace H:=H.sel [6,0,1,2,3,4,5,7] rfl
 refine wC (α:=Int) H c8 c9 i0 ?_;intro w7 H
 refine arK hk x1 ?_
 obtain rfl:=oi_ f14
 exact ⟨(),r14_,H.sel [1,2,3,4,5,6,0,7] rfl⟩
 obtain ⟨a10,i1,f16⟩:=aA f15
 obtain ⟨p3,m3,c11,c12,c13⟩:=(H.ro (α:=List Int) 6 rfl).setp i1
 refine dA c11 c12 c13 ?_
 replace H:=H.sel [6,0,1,2,3,4,5,7] rfl
 refine wC (α:=Int) H c11 c12 i1 ?_;intro w8 H
 refine arK hk x1 ?_
 obtain rfl:=oi_ f16
 exact ⟨(),r14_,H.sel [1,2,3,4,5,6,0,7] rfl⟩
 rintro T2 _ w10 H;try dsimp only at H
 refine jA (z:=false) dB ?_
 refine sq ?_
 replace H:=H.sel [6,0,1,2,3,4,5,7] rfl
 refine pC (α:=List Int) (g:=h1) gok rfl rfl rfl rfl rfl H ?_;intro h2 w11 hx H
 obtain ⟨a11,e,f17⟩:=aA f7
 refine append_ (α:=List Int) gok rfl rfl rfl rfl (H.sel [6,0,1,2,3,4,5,7] rfl) e ?_;intro h3 w13 H
 refine arK hk x0 ?_
 obtain rfl:=oi_ f17
 exact ⟨h3,r10_,H.sel [1,2,3,4,5,0] rfl⟩
 rintro T3 g1 w14 H;try dsimp only at H
 refine jA (z:=false) dB ?_
 refine sq (sq ?_)
 refine fld gok rfl rfl rfl rfl (bA (H.bx 2 rfl (j:=2) rfl) ?_)
 refine nA (H.rs (α:=List (List Int)) 3 rfl).len ?_
 have x2:=(H.rs (α:=List (List Int)) 3 rfl).max
 obtain ⟨r2,e,f18⟩:=aA f2
 refine nB _ b__2.length (fun (k2:Nat) (s2:List (List Int)) (g2:Hd)=>[(0,(vi p_)),(4,(vp b4)),(5,(vp b7)),(6,(vp b0)),(7,(vi a0)),(8,(vi a1)),(9,(g2).v),(72,(b__2h).v),(73,(vi ((b__2.length:Nat):Int))),(74,(vi ((k2:Nat):Int)))]) (fun _ (s2:List (List Int)) (g2:Hd) w'=>Cx w0 fp0 S0 w' [Bx b4 [(vi a__0),(vi a__1),(a__2h).v],Es (List (List Int)) a__2 a__2h,Bx b7 [(vi b__0),(vi b__1),(b__2h).v],Es (List (List Int)) b__2 b__2h,Bx b0 [(vi 0),(vi 0),vn],E (List (List Int)) s2 g2]) r0 g1 e r10_ (H.sel [0,1,2,3,4,5] rfl) ?_ ?_
 rintro T4 k2 s2 g2 w15 o2 hk (H:Cx w0 fp0 S0 w15 [Bx b4 [(vi a__0),(vi a__1),(a__2h).v],Es (List (List Int)) a__2 a__2h,Bx b7 [(vi b__0),(vi b__1),(b__2h).v],Es (List (List Int)) b__2 b__2h,Bx b0 [(vi 0),(vi 0),vn],E (List (List Int)) s2 g2]) f19
 refine jA (z:=true) (cB hk) ?_
 refine sq (sq ?_)
 obtain ⟨a12,e,f20⟩:=aA f19
 have HH:=H;obtain ⟨p4,m4,h4,c14,c15,c16,c17,H⟩:=HH.elL 3 rfl e
 refine dA c14 c15 c16 ?_
 refine bA c17 ?_
 obtain ⟨a14,e,f21⟩:=aA f20
 refine arO e ?_
 obtain ⟨a16,e,f22⟩:=aA f21
 refine nE (α:=Int) gok rfl rfl rfl rfl (xE e) H ?_;intro h5 w16 hx H
 refine sq ?_
 refine nA (H.rs (α:=List Int) 1 rfl).len ?_
 have x3:=(H.rs (α:=List Int) 1 rfl).max
 obtain ⟨r3,e,f23⟩:=aA f22
 refine nB _ a12.length (fun (k3:Nat) (s3:List Int) (_:Unit)=>[(0,(vi p_)),(4,(vp b4)),(5,(vp b7)),(6,(vp b0)),(7,(vi a0)),(8,(vi a1)),(9,(g2).v),(17,(h5).v),(72,(b__2h).v),(73,(vi ((b__2.length:Nat):Int))),(74,(vi ((k2:Nat):Int))),(82,(h4).v),(83,(vi ((a12.length:Nat):Int))),(84,(vi ((k3:Nat):Int)))]) (fun _ (s3:List Int) (_:Unit) w'=>Cx w0 fp0 S0 w' [Bx b4 [(vi a__0),(vi a__1),(a__2h).v],Es (List (List Int)) a__2 a__2h,Bx b7 [(vi b__0),(vi b__1),(b__2h).v],Es (List (List Int)) b__2 b__2h,Bx b0 [(vi 0),(vi 0),vn],E (List (List Int)) s2 g2,E (List Int) s3 h5,Es (List Int) a12 h4]) a16 () e r14_ (H.sel [2,3,4,5,6,7,0,1] rfl) ?_ ?_
 rintro T5 k3 s3 _ w17 o3 hk (H:Cx w0 fp0 S0 w17 [Bx b4 [(vi a__0),(vi a__1),(a__2h).v],Es (List (List Int)) a__2 a__2h,Bx b7 [(vi b__0),(vi b__1),(b__2h).v],Es (List (List Int)) b__2 b__2h,Bx b0 [(vi 0),(vi 0),vn],E (List (List Int)) s2 g2,E (List Int) s3 h5,Es (List Int) a12 h4]) f24
 refine jA (z:=true) (cB hk) ?_
 refine sq (sq ?_)
 obtain ⟨a17,e,f25⟩:=aA f24
 obtain ⟨p5,m5,c18,c19,c20,c21⟩:=(H.rs (α:=List Int) 7 rfl).at1 e
 refine dA c18 c19 c20 ?_
 refine bA c21 ?_
 refine fld gok rfl rfl rfl rfl (bA (H.bx 2 rfl (j:=0) rfl) ?_)
 refine boolB_ f25 (fun f27=>?_) fun f32=>?_
 refine fld gok rfl rfl rfl rfl (bA (H.bx 0 rfl (j:=1) rfl) ?_)
 obtain ⟨a19,e,f28⟩:=aA f27
 refine arO e ?_
 obtain ⟨a20,e,f29⟩:=aA f28
 refine arO e ?_
 refine fld gok rfl rfl rfl rfl (bA (H.bx 2 rfl (j:=0) rfl) ?_)
 obtain ⟨a21,e,f30⟩:=aA f29
 refine arO e ?_
 obtain ⟨a22,i2,f31⟩:=aA f30
 obtain ⟨p6,m6,c22,c23,c24⟩:=(H.ro (α:=List Int) 6 rfl).setp i2
 refine dA c22 c23 c24 ?_
 replace H:=H.sel [6,0,1,2,3,4,5,7] rfl
 refine wC (α:=Int) H c22 c23 i2 ?_;intro w18 H
 refine arK hk x3 ?_
 obtain rfl:=oi_ f31
 exact ⟨(),r14_,H.sel [1,2,3,4,5,6,0,7] rfl⟩
 refine fld gok rfl rfl rfl rfl (bA (H.bx 0 rfl (j:=0) rfl) ?_)
 obtain ⟨a23,e,f33⟩:=aA f32
 refine arO e ?_
 obtain ⟨a24,i3,f34⟩:=aA f33
 obtain ⟨p7,m7,c25,c26,c27⟩:=(H.ro (α:=List Int) 6 rfl).setp i3
 refine dA c25 c26 c27 ?_
 replace H:=H.sel [6,0,1,2,3,4,5,7] rfl
 refine wC (α:=Int) H c25 c26 i3 ?_;intro w19 H
 refine arK hk x3 ?_
 obtain rfl:=oi_ f34
 exact ⟨(),r14_,H.sel [1,2,3,4,5,6,0,7] rfl⟩
 rintro T6 _ w20 H;try dsimp only at H
 refine jA (z:=false) dB ?_
 refine sq ?_
 replace H:=H.sel [6,0,1,2,3,4,5,7] rfl
 refine pC (α:=List Int) (g:=h5) gok rfl rfl rfl rfl rfl H ?_;intro h6 w21 hx H
 obtain ⟨a25,e,f35⟩:=aA f23
 refine append_ (α:=List Int) gok rfl rfl rfl rfl (H.sel [6,0,1,2,3,4,5,7] rfl) e ?_;intro h7 w22 H
 refine arK hk x2 ?_
 obtain rfl:=oi_ f35
 exact ⟨h7,r10_,H.sel [1,2,3,4,5,0] rfl⟩
 rintro T7 g3 w23 H;try dsimp only at H
 refine jA (z:=false) dB ?_
 refine sq ?_
 obtain ⟨⟨y0_0,y0_1,y0_2⟩,i4,f36⟩:=aA f18
 refine callF0_ (An_ i4) H ⟨Vw.own 5 rfl,trivial⟩ ?_
 rintro _ _ w24 ⟨h8,rfl,rfl⟩ H
 refine stA gok [(vi y0_0),(vi y0_1),(h8).v] rfl (H.sel [5,0,1,2,3,4,6] rfl) rfl rfl rfl ?_;intro w25 H
 refine cA [(vi y0_0),(vi y0_1),(h8).v] rfl (H.bz_ 0 rfl) ?_
 cases f36
 exact ⟨_,_,rfl,⟨h8,rfl,rfl⟩,(H.sel [1] rfl).close ⟨cloE,trivial⟩⟩
theorem Cz_ {p_:Int}{t__0:List Ty4}{t__0h:Hd}{y0_0 y0_1:Int}{y0_2:List (List Int)}{y1:Bool} (hF:aU p_ t__0=some ((y0_0,y0_1,y0_2),y1)) :
  bF Tryz.prog 48 #[(vi p_),(.agg #[(t__0h).v])] [Es (List Ty4) t__0 t__0h] [] (fun v Γ'=>∃ z0:Hd,v=(.tuple #[(.agg #[(vi y0_0),(vi y0_1),(z0).v]),(.bool y1)])∧Γ'=[Es (List (List Int)) y0_2 z0]):=by
 intro w0 S0 fp0 hI hS
 have H:=Cx.start hI hS;dsimp at H
 refine iA (args:=[_,_]) gok Tryz.func48 rfl _ rfl rfl rfl ?_
 refine xA H ?_;intro b3 w2 hx H
 refine sA gok rfl H ?_;intro b6 w5 hx H
 refine sq ?_
 refine cA [(t__0h).v] rfl (H.bz_ 1 rfl) ?_
 obtain ⟨y8,ey8,hF9⟩:=aA hF
 refine callF0_ (nZ ey8) H ⟨Vw.sh 2 rfl,trivial⟩ ?_
 rintro _ _ w1 ⟨rfl,rfl⟩ H
 refine boolB_ hF9 (fun f1=>?_) fun f39=>?_
 refine sq ?_
 refine fld gok rfl rfl rfl rfl (bA (H.bx 1 rfl (j:=0) rfl) ?_)
 refine nA (H.rs (α:=List Ty4) 2 rfl).len ?_
 have x0:=(H.rs (α:=List Ty4) 2 rfl).max
 obtain ⟨r0,e,f2⟩:=aA f1
 replace H:=H.nil (α:=Sh Ty3)
 refine iE _ t__0.length (fun (k0:Nat) (s0:List Ty3) (g0:Hd)=>[(0,(vi p_)),(4,(vp b6)),(6,(g0).v),(17,(t__0h).v),(18,(vi ((t__0.length:Nat):Int))),(19,(vi ((k0:Nat):Int)))]) (fun _ (s0:List Ty3) (g0:Hd) w'=>Cx w0 fp0 S0 w' [Bx b6 [(vi 0),(vi 0),vn],E (List (Sh Ty3)) s0 g0,Es (List Ty4) t__0 t__0h]) [] nilH e r6_ (H.sel [1,0,3] rfl) ?_ ?_
 rintro T0 k0 s0 g0 w3 o0 hk (H:Cx w0 fp0 S0 w3 [Bx b6 [(vi 0),(vi 0),vn],E (List (Sh Ty3)) s0 g0,Es (List Ty4) t__0 t__0h]) hrt f3
 refine jA (z:=true) (cB hk) ?_
 refine sq ?_
 obtain ⟨r1,f4,f5⟩:=aA f3
 refine cut (fun (q0:(List Ty3)×Hd)=>[(0,(vi p_)),(4,(vp b6)),(6,(q0.2).v),(17,(t__0h).v),(18,(vi ((t__0.length:Nat):Int))),(19,(vi ((k0:Nat):Int)))]) (fun (q0:(List Ty3)×Hd) w'=>.inl q0.1=r1∧Cx w0 fp0 S0 w' [Bx b6 [(vi 0),(vi 0),vn],E (List (Sh Ty3)) q0.1 q0.2,Es (List Ty4) t__0 t__0h]) ?_ ?_
 obtain ⟨a1,e,f6⟩:=aA f4
 have HH:=H;obtain ⟨p0,m0,g1,c0,c1,c2,c3,H⟩:=HH.el (α:=Ty4) 2 rfl e
 obtain ⟨a1_0,a1_1,a1_2⟩:=a1
 obtain ⟨_,_,_⟩:=g1
 replace H:=H.sel [1,2,3] rfl
 refine dA c0 c1 c2 ?_
 refine cA [(vi a1_0),(vi a1_1),(.string a1_2)] rfl c3 ?_
 refine sA gok rfl H ?_;intro b0 w4 hx H
 refine stA gok [(vi a1_0),(vi a1_1),(.string a1_2)] rfl H rfl rfl rfl ?_;intro w6 H
 refine sq ?_
 refine fld gok rfl rfl rfl rfl (bA (H.bx 0 rfl (j:=0) rfl) ?_)
 obtain ⟨y0,i0,f7⟩:=aA f6
 refine callF0_ (B6_ i0) H trivial ?_
 rintro _ _ w7 ⟨rfl,rfl⟩ H
 refine boolB_ f7 (fun f9=>?_) fun f35=>?_
 refine sq ?_
 obtain ⟨r2,f10,f11⟩:=aA f9
 refine cut (fun (q1:Bool)=>[(0,(vi p_)),(4,(vp b6)),(6,(g0).v),(8,(vp b0)),(17,(t__0h).v),(18,(vi ((t__0.length:Nat):Int))),(19,(vi ((k0:Nat):Int))),(35,(.bool q1))]) (fun (q1:Bool) w'=>q1=r2∧Cx w0 fp0 S0 w' [Bx b6 [(vi 0),(vi 0),vn],E (List (Sh Ty3)) s0 g0,Bx b0 [(vi a1_0),(vi a1_1),(.string a1_2)],Es (List Ty4) t__0 t__0h]) ?_ ?_
 refine fld gok rfl rfl rfl rfl (bA (H.bx 0 rfl (j:=0) rfl) ?_)
 refine boolB_ f10 (fun f13=>?_) fun f14=>?_
 exact ⟨false,r8_,oi_ f13,H.sel [1,2,0,3] rfl⟩
 refine fld gok rfl rfl rfl rfl (bA (H.bx 0 rfl (j:=0) rfl) ?_)
 obtain ⟨a4,e,f15⟩:=aA f14
 refine tB e ?_
 exact ⟨a4,r8_,oi_ f15,H.sel [1,2,0,3] rfl⟩
 rintro T1 s1 w8 ⟨hr,H⟩;try dsimp only at H
 subst hr
 cases s1
 have f16:=fB f11
 obtain ⟨r3,f17,f18⟩:=aA f16
 refine sH H [] (.fst 0 (.fst 1 (.fst 2 (.fst 3 (.fst 4 (.fst 6 (.fst 7 (.fst 8 (.fst 9 (.fst 10 (.fst 5 (.fst 11 (.alts (.alt 12 (.act 13 (.act 14 (.act 15 .done))) (.alt 13 (.act 12 (.act 14 (.act 15 .done))) .no))))))))))))))) bB [] trivial (by kernel_rfl) (fun (q2:(Int×Int×List (List Int)×Int×Int×List (List Int))×(Hd×Hd×Nat×Nat))=>[(0,(vi p_)),(4,(vp b6)),(6,(g0).v),(8,(vp b0)),(9,(vp q2.2.2.2.2)),(10,(vp q2.2.2.2.1)),(17,(t__0h).v),(18,(vi ((t__0.length:Nat):Int))),(19,(vi ((k0:Nat):Int)))]) (fun (q2:(Int×Int×List (List Int)×Int×Int×List (List Int))×(Hd×Hd×Nat×Nat)) w'=>(q2.1.1,q2.1.2.1,q2.1.2.2.1,q2.1.2.2.2.1,q2.1.2.2.2.2.1,q2.1.2.2.2.2.2)=r3∧Cx w0 fp0 S0 w' [Bx b6 [(vi 0),(vi 0),vn],E (List (Sh Ty3)) s0 g0,Bx b0 [(vi a1_0),(vi a1_1),(.string a1_2)],Bx q2.2.2.2.2 [(vi q2.1.2.2.2.1),(vi q2.1.2.2.2.2.1),(q2.2.2.1).v],Es (List (List Int)) q2.1.2.2.2.2.2 q2.2.2.1,Bx q2.2.2.2.1 [(vi q2.1.1),(vi q2.1.2.1),(q2.2.1).v],Es (List (List Int)) q2.1.2.2.1 q2.2.1,Es (List Ty4) t__0 t__0h]) ?_ ?_
 intro w9 H
 have hX:Ext w9 w9:=Upd.refl _ _
 refine nA (Rdb.len (α:=Sh Ty3) (H.ro (α:=List (Sh Ty3)) 1 rfl)) ?_
 obtain ⟨a5,e,f19⟩:=aA f17
 refine arO e ?_
 obtain ⟨a6,e,f20⟩:=aA f19
 have HH:=H;obtain ⟨p1,m1,g2,c4,c5,c6,c7,H⟩:=HH.ex (α:=Ty3) 1 rfl e
 obtain ⟨a6_0,a6_1,a6_2⟩:=a6
 obtain ⟨_,_,h0⟩:=g2
 replace H:=H.part (β:=List (List Int)) a6_2 (h0:Hd) 0 rfl (fun S h=>(And.right (And.right h)))
 replace H:=H.sel [0,2,3,4,5] rfl
 refine dA c4 c5 c6 ?_
 refine nA (Rdb.len (α:=Sh Ty3) (H.ro (α:=List (Sh Ty3)) 2 rfl)) ?_
 obtain ⟨a7,e,f21⟩:=aA f20
 refine arO e ?_
 obtain ⟨a8,e,f22⟩:=aA f21
 have HH:=H;obtain ⟨p2,m2,g3,c8,c9,c10,c11,H⟩:=HH.ex (α:=Ty3) 2 rfl e
 obtain ⟨a8_0,a8_1,a8_2⟩:=a8
 obtain ⟨_,_,h1⟩:=g3
 replace H:=H.part (β:=List (List Int)) a8_2 (h1:Hd) 0 rfl (fun S h=>(And.right (And.right h)))
 replace H:=H.sel [0,2,3,4,5,6] rfl
 refine dA c8 c9 c10 ?_
 refine sC [(vi a6_0),(vi a6_1),(h0).v] rfl c7 ?_
 refine sC [(vi a8_0),(vi a8_1),(h1).v] rfl c11 ?_
 refine both ?_ ?_
 refine vC gok rfl H ?_;intro b1 w11 hx v0 H;replace v0:=Nat.le_trans hX.size v0
 refine hold_ hX hx fun hX=>?_
 refine vC gok rfl H ?_;intro b2 w12 hx v1 H;replace v1:=Nat.le_trans hX.size v1
 refine hold_ hX hx fun hX=>?_
 refine oC gok [(vi a6_0),(vi a6_1),(h0).v] rfl (H.sel [1,0,2,3,4,5,6,7] rfl) rfl rfl rfl ?_;intro w13 hu H
 replace hX:=hX.fresh hu v0
 refine hold hX ?_
 refine oC gok [(vi a8_0),(vi a8_1),(h1).v] rfl (H.sel [1,0,2,3,4,5,6,7] rfl) rfl rfl rfl ?_;intro w14 hu H
 replace hX:=hX.fresh hu v1
 refine hold hX ?_
 exact ⟨((a8_0,a8_1,a8_2,a6_0,a6_1,a6_2),(h1,h0,b2,b1)),r9_,oi_ f22,H.sel [4,5,6,1,3,0,2,7] rfl⟩
 refine both ?_ ?_
 refine vC gok rfl H ?_;intro b4 w15 hx v2 H;replace v2:=Nat.le_trans hX.size v2
 refine hold_ hX hx fun hX=>?_
 refine vC gok rfl H ?_;intro b5 w16 hx v3 H;replace v3:=Nat.le_trans hX.size v3
 refine hold_ hX hx fun hX=>?_
 refine oC gok [(vi a6_0),(vi a6_1),(h0).v] rfl H rfl rfl rfl ?_;intro w17 hu H
 replace hX:=hX.fresh hu v3
 refine hold hX ?_
 refine oC gok [(vi a8_0),(vi a8_1),(h1).v] rfl (H.sel [1,0,2,3,4,5,6,7] rfl) rfl rfl rfl ?_;intro w18 hu H
 replace hX:=hX.fresh hu v2
 refine hold hX ?_
 exact ⟨((a8_0,a8_1,a8_2,a6_0,a6_1,a6_2),(h1,h0,b4,b5)),r9_,oi_ f22,H.sel [4,5,6,1,3,0,2,7] rfl⟩
 exact trivial
 rintro T2 ⟨⟨s2_0,s2_1,s2_2,s2_3,s2_4,s2_5⟩,⟨g4_0,g4_1,g4_2,g4_3⟩⟩ w19 ⟨hr,H⟩;try dsimp only at H
 subst hr
 refine nA (Rdb.len (α:=Sh Ty3) (H.ro (α:=List (Sh Ty3)) 1 rfl)) ?_
 obtain ⟨a9,e,f23⟩:=aA f18
 refine arO e ?_
 obtain ⟨a10,e,f24⟩:=aA f23
 replace H:=H.sel [1,0,2,3,4,5,6,7] rfl
 refine slO (α:=Sh Ty3) gok rfl rfl H e rfl rfl ?_;intro h2 H
 refine fld gok rfl rfl rfl rfl (bA (H.bx 2 rfl (j:=0) rfl) ?_)
 refine boolB_ f24 (fun f26=>?_) fun f29=>?_
 refine cA [(vi s2_3),(vi s2_4),(g4_1).v] rfl (H.bz_ 3 rfl) ?_
 refine cA [(vi s2_0),(vi s2_1),(g4_0).v] rfl (H.bz_ 5 rfl) ?_
 obtain ⟨⟨y2_0,y2_1,y2_2⟩,i1,f27⟩:=aA f26
 refine callF0_ (F1_ i1) H ⟨Vw.sh 4 rfl,Vw.sh 6 rfl,trivial⟩ ?_
 rintro _ _ w20 ⟨h3,rfl,rfl⟩ H
 replace H:=H.sc (α:=Int) y2_1
 replace H:=H.join (α:=Int) (β:=List (List Int))
 replace H:=H.sc (α:=Int) y2_0
 replace H:=H.join (α:=Int) (β:=Int×List (List Int))
 refine pC (α:=Ty3) (g:=((),(),h3)) gok rfl rfl rfl rfl rfl H ?_;intro h4 w21 hx H
 obtain ⟨a13,e,f28⟩:=aA f27
 replace H:=H.frzE (α:=Ty3)
 refine append_ (α:=Sh Ty3) gok rfl rfl rfl rfl (H.sel [1,0,2,3,4,5,6,7,8] rfl) e ?_;intro h5 w22 H
 exact ⟨(a13,h5),r6_,oi_ f28,H.sel [1,0,7] rfl⟩
 refine cA [(vi s2_3),(vi s2_4),(g4_1).v] rfl (H.bz_ 3 rfl) ?_
 refine cA [(vi s2_0),(vi s2_1),(g4_0).v] rfl (H.bz_ 5 rfl) ?_
 obtain ⟨⟨y3_0,y3_1,y3_2⟩,i2,f30⟩:=aA f29
 refine callF0_ (FQ_ i2) H ⟨Vw.sh 4 rfl,Vw.sh 6 rfl,trivial⟩ ?_
 rintro _ _ w23 ⟨h6,rfl,rfl⟩ H
 replace H:=H.sc (α:=Int) y3_1
 replace H:=H.join (α:=Int) (β:=List (List Int))
 replace H:=H.sc (α:=Int) y3_0
 replace H:=H.join (α:=Int) (β:=Int×List (List Int))
 refine pC (α:=Ty3) (g:=((),(),h6)) gok rfl rfl rfl rfl rfl H ?_;intro h7 w24 hx H
 obtain ⟨a14,e,f31⟩:=aA f30
 replace H:=H.frzE (α:=Ty3)
 refine append_ (α:=Sh Ty3) gok rfl rfl rfl rfl (H.sel [1,0,2,3,4,5,6,7,8] rfl) e ?_;intro h8 w25 H
 exact ⟨(a14,h8),r6_,oi_ f31,H.sel [1,0,7] rfl⟩
 have f32:=eB f11
 refine cA [(vi a1_0),(vi a1_1),(.string a1_2)] rfl (H.bz_ 2 rfl) ?_
 obtain ⟨⟨y4_0,y4_1,y4_2⟩,i3,f33⟩:=aA f32
 refine callF0_ (GD_ i3) H trivial ?_
 rintro _ _ w26 ⟨h9,rfl,rfl⟩ H
 replace H:=H.sc (α:=Int) y4_1
 replace H:=H.join (α:=Int) (β:=List (List Int))
 replace H:=H.sc (α:=Int) y4_0
 replace H:=H.join (α:=Int) (β:=Int×List (List Int))
 refine pC (α:=Ty3) (g:=((),(),h9)) gok rfl rfl rfl rfl rfl H ?_;intro h10 w27 hx H
 obtain ⟨a15,e,f34⟩:=aA f33
 replace H:=H.frzE (α:=Ty3)
 refine append_ (α:=Sh Ty3) gok rfl rfl rfl rfl (H.sel [2,0,1,3,4] rfl) e ?_;intro h11 w28 H
 exact ⟨(a15,h11),r6_,oi_ f34,H.sel [1,0,3] rfl⟩
 refine pB (cs:=#[(vi 0),(vi 0),vn]) gok rfl rfl rfl ?_
 refine stA gok [(vi 0),(vi 0),vn] rfl (H.sel [1,0,2,3] rfl) rfl rfl rfl ?_;intro w29 H
 obtain rfl:=oi_ f35
 have f36:some _=some _:=f5
 obtain rfl:=oi_ f36
 have hr:=hrt _ rfl;subst hr
 have f37:some _=some _:=f2
 refine cA [(vi 0),(vi 0),vn] rfl (H.bz_ 0 rfl) ?_
 replace H:=H.nil (α:=List Int)
 replace H:=H.frz
 cases f37
 exact ⟨_,_,rfl,⟨nilH,rfl,rfl⟩,(H.sel [0] rfl)⟩
 rintro T3 ⟨s3,g5⟩ w30 ⟨hr,H⟩;try dsimp only at H
 subst hr
 refine arK hk x0 ?_
 obtain rfl:=oi_ f5
 exact ⟨s3,g5,rfl,r6_,H.sel [0,1,2] rfl⟩
 rintro T4 s4 g6 w31 hr H;try dsimp only at H
 subst hr
 refine jA (z:=false) dB ?_
 refine sq ?_
 obtain ⟨a16,e,f38⟩:=aA f2
 have HH:=H;obtain ⟨p3,m3,g7,c12,c13,c14,c15,H⟩:=HH.ex (α:=Ty3) 1 rfl e
 obtain ⟨a16_0,a16_1,a16_2⟩:=a16
 obtain ⟨_,_,h12⟩:=g7
 replace H:=H.part (β:=List (List Int)) a16_2 (h12:Hd) 0 rfl (fun S h=>(And.right (And.right h)))
 replace H:=H.sel [0,2,3,4] rfl
 refine dA c12 c13 c14 ?_
 refine cA [(vi a16_0),(vi a16_1),(h12).v] rfl c15 ?_
 refine stA gok [(vi a16_0),(vi a16_1),(h12).v] rfl (H.sel [1,0,2,3] rfl) rfl rfl rfl ?_;intro w32 H
 refine cA [(vi a16_0),(vi a16_1),(h12).v] rfl (H.bz_ 0 rfl) ?_
 cases f38
 exact ⟨_,_,rfl,⟨h12,rfl,rfl⟩,(H.sel [1] rfl)⟩
 refine pB (cs:=#[(vi 0),(vi 0),vn]) gok rfl rfl rfl ?_
 refine stA gok [(vi 0),(vi 0),vn] rfl H rfl rfl rfl ?_;intro w33 H
 refine cA [(vi 0),(vi 0),vn] rfl (H.bz_ 0 rfl) ?_
 replace H:=H.nil (α:=List Int)
 replace H:=H.frz
 cases f39
 exact ⟨_,_,rfl,⟨nilH,rfl,rfl⟩,(H.sel [0] rfl)⟩
theorem GE_ {p_:Int}{r__0:ByteArray}{r__1_0:List Ty4}{r__1_0h:Hd}{r__2_0:List Ty4}{r__2_0h:Hd}{y0_0 y0_1:Int}{y0_2:List (List Int)}{y1_0 y1_1:Int}{y1_2:List (List Int)}{y2:Bool} (hF:vZ p_ (r__0,r__1_0,r__2_0)=some ((y0_0,y0_1,y0_2),(y1_0,y1_1,y1_2),y2)) :
  bF Tryz.prog 43 #[(vi p_),(.agg #[(.string r__0),(r__1_0h).v,(r__2_0h).v])] [Es (List Ty4) r__1_0 r__1_0h,Es (List Ty4) r__2_0 r__2_0h] [] (fun v Γ'=>∃ z0 z1:Hd,v=(.tuple #[(.agg #[(vi y0_0),(vi y0_1),(z0).v]),(.agg #[(vi y1_0),(vi y1_1),(z1).v]),(.bool y2)])∧Γ'=[Es (List (List Int)) y0_2 z0,Es (List (List Int)) y1_2 z1]):=by
 intro w0 S0 fp0 hI hS
 have H:=Cx.start hI hS;dsimp at H
 refine iA (args:=[_,_]) gok Tryz.func43 rfl _ rfl rfl rfl ?_
 refine xA H ?_;intro b4 w3 hx H
 refine sA gok rfl H ?_;intro b7 w6 hx H
 refine sA gok rfl H ?_;intro b0 w9 hx H
 refine sq ?_
 refine cA [(.string r__0),(r__1_0h).v,(r__2_0h).v] rfl (H.bz_ 2 rfl) ?_
 obtain ⟨y0,i0,f0⟩:=aA hF
 refine callF0_ (Gr_ i0) H ⟨Vw.sh 3 rfl,Vw.sh 4 rfl,trivial⟩ ?_
 rintro _ _ w1 ⟨rfl,rfl⟩ H
 refine boolB_ f0 (fun f2=>?_) fun f9=>?_
 refine fld gok rfl rfl rfl rfl ?_
 refine cA [(r__1_0h).v] rfl (H.bxs 2 rfl 1 rfl) ?_
 obtain ⟨y1,e,f3⟩:=aA f2
 obtain ⟨⟨y1_0_0,y1_0_1,y1_0_2⟩,y1_1⟩:=y1
 have i1:=e
 refine qE (Cz_ i1) (Γi:=[]) H [3] rfl (yA uA xB) ?_
 rintro _ _ w2 ⟨h0,rfl,rfl⟩ H
 refine sA gok rfl H ?_;intro b1 w4 hx H
 refine stA gok [(vi y1_0_0),(vi y1_0_1),(h0).v] rfl H rfl rfl rfl ?_;intro w5 H
 refine fld gok rfl rfl rfl rfl ?_
 refine cA [(r__2_0h).v] rfl (H.bxs 4 rfl 2 rfl) ?_
 obtain ⟨y3,e,f4⟩:=aA f3
 obtain ⟨⟨y3_0_0,y3_0_1,y3_0_2⟩,y3_1⟩:=y3
 have i2:=e
 refine qE (Cz_ i2) (Γi:=[]) H [6] rfl (yA uA xB) ?_
 rintro _ _ w7 ⟨h1,rfl,rfl⟩ H
 refine sA gok rfl H ?_;intro b2 w8 hx H
 refine stA gok [(vi y3_0_0),(vi y3_0_1),(h1).v] rfl H rfl rfl rfl ?_;intro w10 H
 obtain ⟨r0,f5,f6⟩:=aA f4
 refine cut (fun (q0:(Int×Int×List (List Int)×Int×Int×List (List Int)×Bool)×(Hd×Hd))=>[(4,(vp b7)),(5,(vp b0)),(6,(.bool q0.1.2.2.2.2.2.2))]) (fun (q0:(Int×Int×List (List Int)×Int×Int×List (List Int)×Bool)×(Hd×Hd)) w'=>(q0.1.1,q0.1.2.1,q0.1.2.2.1,q0.1.2.2.2.1,q0.1.2.2.2.2.1,q0.1.2.2.2.2.2.1,q0.1.2.2.2.2.2.2)=r0∧Cx w0 fp0 S0 w' [Bx b7 [(vi q0.1.2.2.2.1),(vi q0.1.2.2.2.2.1),(q0.2.2).v],Es (List (List Int)) q0.1.2.2.2.2.2.1 q0.2.2,Bx b0 [(vi q0.1.1),(vi q0.1.2.1),(q0.2.1).v],Es (List (List Int)) q0.1.2.2.1 q0.2.1]) ?_ ?_
 refine kB H [6,7,8,0,1,4,5] (.pure 0 (.pure 1 (.fst 2 (.fst 3 (.pure 4 (.pure 5 (.act 6 (.act 7 (.act 8 .done))))))))) bB [((Addr.add ⟨b1,0,none⟩ 0),(vi y1_0_0)),((Addr.add ⟨b1,0,none⟩ 1),(vi y1_0_1)),((Addr.add ⟨b1,0,none⟩ 2),(h0).v),((Addr.add ⟨b2,0,none⟩ 0),(vi y3_0_0)),((Addr.add ⟨b2,0,none⟩ 1),(vi y3_0_1)),((Addr.add ⟨b2,0,none⟩ 2),(h1).v)] ⟨H.bx 2 rfl (j:=0) rfl,H.bx 2 rfl (j:=1) rfl,H.bx 2 rfl (j:=2) rfl,H.bx 0 rfl (j:=0) rfl,H.bx 0 rfl (j:=1) rfl,H.bx 0 rfl (j:=2) rfl,trivial⟩ (by kernel_rfl) ?_
 intro w11 H
 have hX:Ext w11 w11:=Upd.refl _ _
 refine aN 0 [(vi y1_0_0),(vi y1_0_1),(h0).v] rfl r3_ ?_
 refine aN 3 [(vi y3_0_0),(vi y3_0_1),(h1).v] rfl r3_ ?_
 cases y1_1
 have f7:=fB f5
 refine stA gok [(vi y1_0_0),(vi y1_0_1),(h0).v] rfl (H.sel [5,0,1,2,3,4,6,7,8] rfl) rfl rfl rfl ?_;intro w12 H
 refine hold ⟨H.bx 3 rfl (j:=0) rfl,H.bx 3 rfl (j:=1) rfl,H.bx 3 rfl (j:=2) rfl,H.bx 1 rfl (j:=0) rfl,H.bx 1 rfl (j:=1) rfl,H.bx 1 rfl (j:=2) rfl,trivial⟩ ?_
 refine stA gok [(vi y3_0_0),(vi y3_0_1),(h1).v] rfl (H.sel [5,0,1,2,3,4,6,7,8] rfl) rfl rfl rfl ?_;intro w13 H
 refine hold ⟨H.bx 4 rfl (j:=0) rfl,H.bx 4 rfl (j:=1) rfl,H.bx 4 rfl (j:=2) rfl,H.bx 2 rfl (j:=0) rfl,H.bx 2 rfl (j:=1) rfl,H.bx 2 rfl (j:=2) rfl,trivial⟩ ?_
 refine hold ⟨H.bx 4 rfl (j:=0) rfl,H.bx 4 rfl (j:=1) rfl,H.bx 4 rfl (j:=2) rfl,H.bx 2 rfl (j:=0) rfl,H.bx 2 rfl (j:=1) rfl,H.bx 2 rfl (j:=2) rfl,trivial⟩ ?_
 exact ⟨((y3_0_0,y3_0_1,y3_0_2,y1_0_0,y1_0_1,y1_0_2,false),(h1,h0)),r3_,oi_ f7,H.sel [1,5,0,3] rfl⟩
 have f8:=eB f5
 refine stA gok [(vi y1_0_0),(vi y1_0_1),(h0).v] rfl (H.sel [5,0,1,2,3,4,6,7,8] rfl) rfl rfl rfl ?_;intro w15 H
 refine hold ⟨H.bx 3 rfl (j:=0) rfl,H.bx 3 rfl (j:=1) rfl,H.bx 3 rfl (j:=2) rfl,H.bx 1 rfl (j:=0) rfl,H.bx 1 rfl (j:=1) rfl,H.bx 1 rfl (j:=2) rfl,trivial⟩ ?_
 refine stA gok [(vi y3_0_0),(vi y3_0_1),(h1).v] rfl (H.sel [5,0,1,2,3,4,6,7,8] rfl) rfl rfl rfl ?_;intro w16 H
 refine hold ⟨H.bx 4 rfl (j:=0) rfl,H.bx 4 rfl (j:=1) rfl,H.bx 4 rfl (j:=2) rfl,H.bx 2 rfl (j:=0) rfl,H.bx 2 rfl (j:=1) rfl,H.bx 2 rfl (j:=2) rfl,trivial⟩ ?_
 refine hold ⟨H.bx 4 rfl (j:=0) rfl,H.bx 4 rfl (j:=1) rfl,H.bx 4 rfl (j:=2) rfl,H.bx 2 rfl (j:=0) rfl,H.bx 2 rfl (j:=1) rfl,H.bx 2 rfl (j:=2) rfl,trivial⟩ ?_
 exact ⟨((y3_0_0,y3_0_1,y3_0_2,y1_0_0,y1_0_1,y1_0_2,y3_1),(h1,h0)),r3_,oi_ f8,H.sel [1,5,0,3] rfl⟩
 rintro T0 ⟨⟨s0_0,s0_1,s0_2,s0_3,s0_4,s0_5,s0_6⟩,⟨g0_0,g0_1⟩⟩ w17 ⟨hr,H⟩;try dsimp only at H
 subst hr
 refine cA [(vi s0_3),(vi s0_4),(g0_1).v] rfl (H.bz_ 0 rfl) ?_
 refine cA [(vi s0_0),(vi s0_1),(g0_0).v] rfl (H.bz_ 2 rfl) ?_
 cases f6
 exact ⟨_,_,rfl,⟨g0_1,g0_0,rfl,rfl⟩,(H.sel [1,3] rfl)⟩
 refine pB (cs:=#[(vi 0),(vi 0),vn]) gok rfl rfl rfl ?_
 refine pB (cs:=#[(vi 0),(vi 0),vn]) gok rfl rfl rfl ?_
 refine stA gok [(vi 0),(vi 0),vn] rfl (H.sel [1,0,2,3,4] rfl) rfl rfl rfl ?_;intro w18 H
 refine stA gok [(vi 0),(vi 0),vn] rfl (H.sel [1,0,2,3,4] rfl) rfl rfl rfl ?_;intro w19 H
 refine cA [(vi 0),(vi 0),vn] rfl (H.bz_ 1 rfl) ?_
 refine cA [(vi 0),(vi 0),vn] rfl (H.bz_ 0 rfl) ?_
 replace H:=H.nil (α:=List Int)
 replace H:=H.frz
 replace H:=H.nil (α:=List Int)
 replace H:=H.frz
 cases f9
 exact ⟨_,_,rfl,⟨nilH,nilH,rfl,rfl⟩,(H.sel [1,0] rfl)⟩
theorem F0_ {basis_:List (List Int)}{basis_h:Hd}{v_:List Int}{v_h:Hd}{y:List Int} (hF:uY basis_ v_=some y) :
  kA Tryz.prog 56 #[(basis_h).v,(v_h).v] [Es (List (List Int)) basis_ basis_h,Es (List Int) v_ v_h] [] (fun v Γ'=>∃ z0:Hd,v=(z0).v∧Γ'=[E (List Int) y z0]):=by
 intro w0 S0 fp0 hI hS
 have H:=Cx.start hI hS;dsimp at H
 refine iA (args:=[_,_]) gok Tryz.func56 rfl _ rfl rfl rfl ?_
 refine sq ?_
 refine nA (H.rs (α:=List (List Int)) 0 rfl).len ?_
 have x0:=(H.rs (α:=List (List Int)) 0 rfl).max
 obtain ⟨r0,e,f0⟩:=aA hF
 replace H:=H.nil (α:=Int)
 refine nB _ basis_.length (fun (k3:Nat) (s0:List Int) (g0:Hd)=>[(1,(v_h).v),(5,(g0).v),(8,(basis_h).v),(9,(vi ((basis_.length:Nat):Int))),(10,(vi ((k3:Nat):Int)))]) (fun _ (s0:List Int) (g0:Hd) w'=>Cx w0 fp0 S0 w' [Es (List Int) v_ v_h,E (List Int) s0 g0,Es (List (List Int)) basis_ basis_h]) [] nilH e r5_ (H.sel [2,0,1] rfl) ?_ ?_
 rintro T0 k3 s0 g0 w1 o0 hk (H:Cx w0 fp0 S0 w1 [Es (List Int) v_ v_h,E (List Int) s0 g0,Es (List (List Int)) basis_ basis_h]) f1
 refine jA (z:=true) (cB hk) ?_
 refine sq (sq ?_)
 obtain ⟨a0,e,f2⟩:=aA f1
 have HH:=H;obtain ⟨p0,m0,h0,c0,c1,c2,c3,H⟩:=HH.elL 2 rfl e
 refine dA c0 c1 c2 ?_
 refine bA c3 ?_
 obtain ⟨y0,i0,f3⟩:=aA f2
 refine callF0_ (oZ i0) H ⟨Vw.sh 0 rfl,trivial⟩ ?_
 rintro _ _ w2 ⟨rfl,rfl⟩ H
 obtain ⟨a1,e,f4⟩:=aA f3
 obtain ⟨p1,m1,c4,c5,c6,c7⟩:=(H.rs (α:=List Int) 1 rfl).at1 e
 refine dA c4 c5 c6 ?_
 refine bA c7 ?_
 refine jE (α:=Int) gok rfl rfl rfl rfl H ?_;intro h1 w3 hx H
 obtain ⟨a2,e,f5⟩:=aA f4
 refine append_ (α:=Int) gok rfl rfl rfl rfl (H.sel [3,0,1,2,4] rfl) e ?_;intro h2 w4 H
 refine arK hk x0 ?_
 obtain rfl:=oi_ f5
 exact ⟨h2,r5_,H.sel [2,0,3] rfl⟩
 rintro T1 g1 w5 H;try dsimp only at H
 refine jA (z:=false) dB ?_
 refine sq ?_
 cases f0
 exact ⟨_,_,rfl,⟨g1,rfl,rfl⟩,(H.sel [1] rfl).close ⟨cloE,trivial⟩⟩
theorem Gw_ {a_:List Int}{a_h:Hd}{b_:List Int}{b_h:Hd}{y:Bool} (hF:sZ a_ b_=some y) :
  kA Tryz.prog 49 #[(a_h).v,(b_h).v] [Es (List Int) a_ a_h,Es (List Int) b_ b_h] [] (fun v Γ'=>v=(.bool y)∧Γ'=[]):=by
 intro w0 S0 fp0 hI hS
 have H:=Cx.start hI hS;dsimp at H
 refine iA (args:=[_,_]) gok Tryz.func49 rfl _ rfl rfl rfl ?_
 refine sq ?_
 refine nA (H.rs (α:=List Int) 0 rfl).len ?_
 refine nA (H.rs (α:=List Int) 1 rfl).len ?_
 refine boolB_ hF (fun hF5=>?_) fun f8=>?_
 refine sq ?_
 refine nA (H.rs (α:=List Int) 0 rfl).len ?_
 have x0:=(H.rs (α:=List Int) 0 rfl).max
 obtain ⟨r0,e,f0⟩:=aA hF5
 refine iE _ a_.length (fun (k6:Nat) (_:Unit) (_:Unit)=>[(0,(a_h).v),(1,(b_h).v),(12,(vi ((a_.length:Nat):Int))),(13,(vi ((k6:Nat):Int)))]) (fun _ (_:Unit) (_:Unit) w'=>Cx w0 fp0 S0 w' [Es (List Int) a_ a_h,Es (List Int) b_ b_h]) () () e r4_ (H.sel [0,1] rfl) ?_ ?_
 rintro T0 k6 _ _ w1 o0 hk (H:Cx w0 fp0 S0 w1 [Es (List Int) a_ a_h,Es (List Int) b_ b_h]) hrt f1
 refine jA (z:=true) (cB hk) ?_
 refine sq (sq ?_)
 refine kB H [] (.fst 0 (.fst 1 (.fst 2 (.fst 4 (.fst 5 (.fst 6 (.fst 3 (.fst 7 (.fst 8 .done))))))))) bB [] trivial (by kernel_rfl) ?_
 intro w2 H
 have hX:Ext w2 w2:=Upd.refl _ _
 obtain ⟨a0,e,f2⟩:=aA f1
 obtain ⟨p0,m0,c0,c1,c2,c3⟩:=(H.rs (α:=List Int) 0 rfl).at1 e
 refine dA c0 c1 c2 ?_
 obtain ⟨a1,e,f3⟩:=aA f2
 obtain ⟨p1,m1,c4,c5,c6,c7⟩:=(H.rs (α:=List Int) 1 rfl).at1 e
 refine dA c4 c5 c6 ?_
 refine gA c3 ?_
 refine gA c7 ?_
 refine boolB_ f3 (fun f5=>?_) fun f6=>?_
 refine arK hk x0 ?_
 obtain rfl:=oi_ f5
 exact ⟨(),(),rfl,r4_,H.sel [0,1] rfl⟩
 obtain rfl:=oi_ f6
 have hr:=hrt _ rfl;subst hr
 have f7:some _=some _:=f0
 cases f7
 exact ⟨_,_,rfl,⟨rfl,rfl⟩,(H.sel [] rfl).close trivial⟩
 rintro T1 _ _ w3 hr H;try dsimp only at H
 subst hr
 refine jA (z:=false) dB ?_
 refine sq ?_
 cases f0
 exact ⟨_,_,rfl,⟨rfl,rfl⟩,(H.sel [] rfl).close trivial⟩
 cases f8
 exact ⟨_,_,rfl,⟨rfl,rfl⟩,(H.sel [] rfl).close trivial⟩
theorem GZ_ {p_:Int}{basis_:List (List Int)}{basis_h:Hd}{v_:List Int}{v_h:Hd}{y:Bool} (hF:nU p_ basis_ v_=some y) :
  kA Tryz.prog 37 #[(vi p_),(basis_h).v,(v_h).v] [Es (List (List Int)) basis_ basis_h,Es (List Int) v_ v_h] [] (fun v Γ'=>v=(.bool y)∧Γ'=[]):=by
 intro w0 S0 fp0 hI hS
 have H:=Cx.start hI hS;dsimp at H
 refine iA (args:=[_,_,_]) gok Tryz.func37 rfl _ rfl rfl rfl ?_
 refine nA (H.rs (α:=List Int) 1 rfl).len ?_
 obtain ⟨y3,ey3,hF4⟩:=aA hF
 refine callF0_ (F0_ ey3) H ⟨Vw.sh 0 rfl,Vw.sh 1 rfl,trivial⟩ ?_
 rintro _ _ w5 ⟨h6,rfl,rfl⟩ H
 obtain ⟨y8,ey8,hF9⟩:=aA hF4
 refine gC (@Ag_ p_ ((v_.length:Nat):Int) basis_ basis_h y3 h6 y8 ey8) (Γi:=[]) H ⟨Vw.sh 1 rfl,Vw.own 0 rfl,trivial⟩ ?_
 rintro _ _ w1 ⟨h0,rfl,rfl⟩ H
 obtain ⟨y0,i0,f0⟩:=aA hF9
 refine callF0_ (Gw_ i0) H ⟨Vw.own 0 rfl,Vw.sh 3 rfl,trivial⟩ ?_
 rintro _ _ w2 ⟨rfl,rfl⟩ H
 cases f0
 exact ⟨_,_,rfl,⟨rfl,rfl⟩,(H.sel [] rfl).close trivial⟩
theorem Ca_ {p_:Int}{a_:List (List Int)}{a_h:Hd}{b_:List (List Int)}{b_h:Hd}{y:List Int} (hF:fT p_ a_ b_=some y) :
  bF Tryz.prog 46 #[(vi p_),(a_h).v,(b_h).v] [Es (List (List Int)) a_ a_h,Es (List (List Int)) b_ b_h] [] (fun v Γ'=>∃ z0:Hd,v=(z0).v∧Γ'=[Es (List Int) y z0]):=by
 intro w0 S0 fp0 hI hS
 have H:=Cx.start hI hS;dsimp at H
 refine iA (args:=[_,_,_]) gok Tryz.func46 rfl _ rfl rfl rfl ?_
 refine sq ?_
 refine nA (H.rs (α:=List (List Int)) 0 rfl).len ?_
 have x0:=(H.rs (α:=List (List Int)) 0 rfl).max
 obtain ⟨r0,e,f0⟩:=aA hF
 refine iE _ a_.length (fun (k3:Nat) (_:Unit) (_:Unit)=>[(0,(vi p_)),(2,(b_h).v),(9,(a_h).v),(10,(vi ((a_.length:Nat):Int))),(11,(vi ((k3:Nat):Int)))]) (fun _ (_:Unit) (_:Unit) w'=>Cx w0 fp0 S0 w' [Es (List (List Int)) b_ b_h,Es (List (List Int)) a_ a_h]) () () e r5_ (H.sel [1,0] rfl) ?_ ?_
 rintro T0 k3 _ _ w1 o0 hk (H:Cx w0 fp0 S0 w1 [Es (List (List Int)) b_ b_h,Es (List (List Int)) a_ a_h]) hrt f1
 refine jA (z:=true) (cB hk) ?_
 refine sq (sq ?_)
 obtain ⟨a0,e,f2⟩:=aA f1
 have HH:=H;obtain ⟨p0,m0,h0,c0,c1,c2,c3,H⟩:=HH.elL 1 rfl e
 refine dA c0 c1 c2 ?_
 refine bA c3 ?_
 obtain ⟨y0,i0,f3⟩:=aA f2
 refine callF0_ (GZ_ i0) H ⟨Vw.sh 1 rfl,Vw.sh 0 rfl,trivial⟩ ?_
 rintro _ _ w2 ⟨rfl,rfl⟩ H
 refine boolB_ f3 (fun f5=>?_) fun f6=>?_
 refine arK hk x0 ?_
 obtain rfl:=oi_ f5
 exact ⟨(),(),rfl,r5_,H.sel [1,2] rfl⟩
 obtain rfl:=oi_ f6
 have hr:=hrt _ rfl;subst hr
 have f7:some _=some _:=f0
 cases f7
 exact ⟨_,_,rfl,⟨h0,rfl,rfl⟩,(H.sel [0] rfl)⟩
 rintro T1 _ _ w3 hr H;try dsimp only at H
 subst hr
 refine jA (z:=false) dB ?_
 refine sq ?_
 replace H:=H.nil (α:=Int)
 replace H:=H.frz
 cases f0
 exact ⟨_,_,rfl,⟨nilH,rfl,rfl⟩,(H.sel [0] rfl)⟩
theorem FI_ {p_:Int}{r__0:ByteArray}{r__1_0:List Ty4}{r__1_0h:Hd}{r__2_0:List Ty4}{r__2_0h:Hd}{y0 y1:List Int}{y2:Int}{y3:Bool} (hF:jY p_ (r__0,r__1_0,r__2_0)=some (y0,y1,y2,y3)) :
  kA Tryz.prog 26 #[(vi p_),(.agg #[(.string r__0),(r__1_0h).v,(r__2_0h).v])] [Es (List Ty4) r__1_0 r__1_0h,Es (List Ty4) r__2_0 r__2_0h] [] (fun v Γ'=>∃ z0 z1:Hd,v=(.tuple #[(z0).v,(z1).v,(vi y2),(.bool y3)])∧Γ'=[E (List Int) y0 z0,E (List Int) y1 z1]):=by
 intro w0 S0 fp0 hI hS
 have H:=Cx.start hI hS;dsimp at H
 refine iA (args:=[_,_]) gok Tryz.func26 rfl _ rfl rfl rfl ?_
 refine xA H ?_;intro b4 w3 hx H
 refine cA [(.string r__0),(r__1_0h).v,(r__2_0h).v] rfl (H.bz_ 0 rfl) ?_
 obtain ⟨y6,e,hF7⟩:=aA hF
 obtain ⟨⟨y6_0_0,y6_0_1,y6_0_2⟩,⟨y6_1_0,y6_1_1,y6_1_2⟩,y6_2⟩:=y6
 have ey6:=e
 refine qE (GE_ ey6) (Γi:=[]) H [1,2] rfl (yA uA (yA uA xB)) ?_
 rintro _ _ w8 ⟨h9,h0,rfl,rfl⟩ H
 refine sA gok rfl H ?_;intro b0 w1 hx H
 refine sA gok rfl H ?_;intro b1 w2 hx H
 refine stA gok [(vi y6_0_0),(vi y6_0_1),(h9).v] rfl (H.sel [1,0,2,3,4,5,6] rfl) rfl rfl rfl ?_;intro w4 H
 refine stA gok [(vi y6_1_0),(vi y6_1_1),(h0).v] rfl (H.sel [1,0,2,3,4,5,6] rfl) rfl rfl rfl ?_;intro w5 H
 refine sq ?_
 refine boolB_ hF7 (fun f1=>?_) fun f16=>?_
 refine fld gok rfl rfl rfl rfl (bA (H.bx 1 rfl (j:=2) rfl) ?_)
 refine fld gok rfl rfl rfl rfl (bA (H.bx 0 rfl (j:=2) rfl) ?_)
 obtain ⟨y4,i0,f2⟩:=aA f1
 refine qE (Ca_ i0) (Γi:=[]) H [2,3] rfl (yA uA (yA uA xB)) ?_
 rintro _ _ w6 ⟨h1,rfl,rfl⟩ H
 obtain ⟨r0,f3,f4⟩:=aA f2
 refine cut (fun (q0:(Int×List Int)×Hd)=>[(8,(vp b0)),(11,(vi q0.1.1)),(12,(q0.2).v)]) (fun (q0:(Int×List Int)×Hd) w'=>(q0.1.1,q0.1.2)=r0∧Cx w0 fp0 S0 w' [Bx b0 [(vi y6_0_0),(vi y6_0_1),(h9).v],Es (List (List Int)) y6_0_2 h9,Es (List Int) q0.1.2 q0.2]) ?_ ?_
 refine nA (H.rs (α:=List Int) 0 rfl).len ?_
 refine boolB_ f3 (fun f6=>?_) fun f7=>?_
 exact ⟨((1,y4),h1),r3_,oi_ f6,H.sel [2,3,0] rfl⟩
 refine fld gok rfl rfl rfl rfl (bA (H.bx 1 rfl (j:=2) rfl) ?_)
 refine fld gok rfl rfl rfl rfl (bA (H.bx 2 rfl (j:=2) rfl) ?_)
 obtain ⟨y5,i1,f8⟩:=aA f7
 refine qE (Ca_ i1) (Γi:=[]) H [4,3] rfl (yA uA (yA uA xB)) ?_
 rintro _ _ w7 ⟨h2,rfl,rfl⟩ H
 exact ⟨((2,y5),h2),r3_,oi_ f8,H.sel [3,4,0] rfl⟩
 rintro T0 ⟨⟨s0_0,s0_1⟩,g0⟩ w9 ⟨hr,H⟩;try dsimp only at H
 subst hr
 refine sq ?_
 refine nA (H.rs (α:=List Int) 2 rfl).len ?_
 refine boolB_ f4 (fun f10=>?_) fun f15=>?_
 refine kB H [] (.fst 0 (.fst 1 (.fst 5 (.fst 6 (.fst 10 (.fst 2 (.fst 3 (.fst 7 (.fst 8 (.act 4 (.act 9 (.fst 11 (.fst 12 (.fst 13 (.fst 14 .done))))))))))))))) bB [] trivial (by kernel_rfl) ?_
 intro w10 H
 have hX:Ext w10 w10:=Upd.refl _ _
 refine oA (fun _=>fld gok rfl rfl rfl rfl ⟨rfl,rfl⟩) ?_
 refine oA (fun _=>fld gok rfl rfl rfl rfl ⟨rfl,rfl⟩) ?_
 refine gA (H.bx 0 rfl (j:=0) rfl) ?_
 obtain ⟨a3,e,f11⟩:=aA f10
 refine tH (α:=Int) gok rfl rfl H 2 rfl e rfl rfl ?_;intro h3 HH;have H:=HH
 refine gA (H.bx 1 rfl (j:=0) rfl) ?_
 obtain ⟨a4,e,f12⟩:=aA f11
 refine tH (α:=Int) (hi:=none) gok rfl rfl H 3 rfl e rfl (congrArg (fun n:Nat=>some (n:Int)) (H.rs (α:=List Int) 3 rfl).len) ?_;intro h4 HH;have H:=HH
 obtain ⟨y7,i2,f13⟩:=aA f12
 refine eA (gM i2) H ⟨Vw.sh 1 rfl,trivial⟩ ?_
 rintro _ _ w11 ⟨h5,rfl,rfl⟩ hx H
 refine hold_ hX hx fun hX=>?_
 obtain ⟨y8,i3,f14⟩:=aA f13
 refine eA (gM i3) H ⟨Vw.sh 1 rfl,trivial⟩ ?_
 rintro _ _ w12 ⟨h6,rfl,rfl⟩ hx H
 refine hold_ hX hx fun hX=>?_
 cases f14
 exact ⟨_,_,rfl,⟨h5,h6,rfl,rfl⟩,(H.sel [1,0] rfl).close ⟨cloE,cloE,trivial⟩⟩
 replace H:=H.nil (α:=Int)
 replace H:=H.nil (α:=Int)
 cases f15
 exact ⟨_,_,rfl,⟨nilH,nilH,rfl,rfl⟩,(H.sel [1,0] rfl).close ⟨cloE,cloE,trivial⟩⟩
 replace H:=H.nil (α:=Int)
 replace H:=H.nil (α:=Int)
 cases f16
 exact ⟨_,_,rfl,⟨nilH,nilH,rfl,rfl⟩,(H.sel [1,0] rfl).close ⟨cloE,cloE,trivial⟩⟩
theorem oJ {n_ low_ high_:Int}{y:Bool} (hF:uG n_ low_ high_=some y) :
  kA Tryz.prog 120 #[(vi n_),(vi low_),(vi high_)] [] [] (fun v Γ'=>v=(.bool y)∧Γ'=[]):=by
 intro w0 S0 fp0 hI hS
 have H:Cx w0 fp0 S0 w0 []:=Cx.start hI hS
 refine iA (args:=[_,_,_]) gok Tryz.func120 rfl _ rfl rfl rfl ?_
 obtain ⟨r9,f0,f1⟩:=aA hF
 refine cut (fun (q0:Bool)=>[(6,(.bool q0))]) (fun (q0:Bool) w'=>q0=r9∧Cx w0 fp0 S0 w' []) ?_ ?_
 refine boolB_ f0 (fun f3=>?_) fun f4=>?_
 exact ⟨false,⟨rfl,trivial⟩,oi_ f3,H.sel [] rfl⟩
 obtain ⟨a1,e,f5⟩:=aA f4
 refine tB e ?_
 exact ⟨a1,⟨rfl,trivial⟩,oi_ f5,H.sel [] rfl⟩
 rintro T0 s7 w1 ⟨hr,H⟩;try dsimp only at H
 subst hr
 cases f1
 exact ⟨_,_,rfl,⟨rfl,rfl⟩,(H.sel [] rfl).close trivial⟩
theorem FU_ {w__0 w__1:Int}{y:Bool} (hF:qY (w__0,w__1)=some y) :
  kA Tryz.prog 171 #[(.agg #[(vi w__0),(vi w__1)])] [] [] (fun v Γ'=>v=(.bool y)∧Γ'=[]):=by
 intro w0 S0 fp0 hI hS
 have H:Cx w0 fp0 S0 w0 []:=Cx.start hI hS
 refine iA (args:=[_]) gok Tryz.func171 rfl _ rfl rfl rfl ?_
 refine xA H ?_;intro b2 w1 hx H
 obtain ⟨r0,f0,f1⟩:=aA hF
 refine cut (fun (q0:Bool)=>[(2,(.bool q0))]) (fun (q0:Bool) w'=>q0=r0∧Cx w0 fp0 S0 w' []) ?_ ?_
 refine fld gok rfl rfl rfl rfl (bA (H.bx 0 rfl (j:=0) rfl) ?_)
 refine boolB_ f0 (fun f3=>?_) fun f4=>?_
 exact ⟨false,⟨rfl,trivial⟩,oi_ f3,H.sel [] rfl⟩
 refine fld gok rfl rfl rfl rfl (bA (H.bx 0 rfl (j:=1) rfl) ?_)
 obtain ⟨a1,e,f5⟩:=aA f4
 refine tB e ?_
 exact ⟨a1,⟨rfl,trivial⟩,oi_ f5,H.sel [] rfl⟩
 rintro T0 s0 w2 ⟨hr,H⟩;try dsimp only at H
 subst hr
 cases f1
 exact ⟨_,_,rfl,⟨rfl,rfl⟩,(H.sel [] rfl).close trivial⟩
theorem Cc_ {kind_ a__0 a__1 b__0 b__1 y0_0 y0_1:Int}{y1:Bool} (hF:bM kind_ (a__0,a__1) (b__0,b__1)=some ((y0_0,y0_1),y1)) :
  kA Tryz.prog 152 #[(vi kind_),(.agg #[(vi a__0),(vi a__1)]),(.agg #[(vi b__0),(vi b__1)])] [] [] (fun v Γ'=>v=(.tuple #[(.agg #[(vi y0_0),(vi y0_1)]),(.bool y1)])∧Γ'=[]):=by
 intro w0 S0 fp0 hI hS
 have H:Cx w0 fp0 S0 w0 []:=Cx.start hI hS
 refine iA (args:=[_,_,_]) gok Tryz.func152 rfl _ rfl rfl rfl ?_
 refine xA H ?_;intro b2 w1 hx H
 refine xA H ?_;intro b5 w4 hx H
 refine sA gok rfl H ?_;intro b8 w7 hx H
 refine sq ?_
 refine boolB_ hF (fun f1=>?_) fun f5=>?_
 refine fld gok rfl rfl rfl rfl (bA (H.bx 2 rfl (j:=0) rfl) ?_)
 refine fld gok rfl rfl rfl rfl (bA (H.bx 1 rfl (j:=0) rfl) ?_)
 obtain ⟨a1,e,f2⟩:=aA f1
 refine arO e ?_
 refine fld gok rfl rfl rfl rfl (bA (H.bx 2 rfl (j:=1) rfl) ?_)
 refine fld gok rfl rfl rfl rfl (bA (H.bx 1 rfl (j:=1) rfl) ?_)
 obtain ⟨a2,e,f3⟩:=aA f2
 refine arO e ?_
 refine pB (cs:=#[(vi a1),(vi a2)]) gok rfl rfl rfl ?_
 refine sA gok rfl H ?_;intro b0 w2 hx H
 refine stA gok [(vi a1),(vi a2)] rfl H rfl rfl rfl ?_;intro w3 H
 refine kB H [3,4] (.fst 0 (.fst 1 (.act 2 (.act 3 (.act 4 .done))))) bB [] trivial (by kernel_rfl) ?_
 intro w5 H
 have hX:Ext w5 w5:=Upd.refl _ _
 refine sC [(vi a1),(vi a2)] rfl (H.bz_ 0 rfl) ?_
 refine sC [(vi a1),(vi a2)] rfl (H.bz_ 0 rfl) ?_
 obtain ⟨y0,i0,f4⟩:=aA f3
 refine eA (FU_ i0) H trivial ?_
 rintro _ _ w6 ⟨rfl,rfl⟩ hx H
 refine hold_ hX hx fun hX=>?_
 refine stA gok [(vi a1),(vi a2)] rfl (H.sel [1,0,2,3] rfl) rfl rfl rfl ?_;intro w8 H
 refine hold trivial ?_
 refine hold trivial ?_
 refine cA [(vi a1),(vi a2)] rfl (H.bz_ 0 rfl) ?_
 cases f4
 exact ⟨_,_,rfl,⟨rfl,rfl⟩,(H.sel [] rfl).close trivial⟩
 refine kB H [10,11,0,1,2,3,4,5,6,7,8,9] (.pure 0 (.pure 1 (.pure 2 (.pure 3 (.pure 4 (.pure 5 (.pure 6 (.pure 7 (.pure 8 (.pure 9 (.act 10 (.act 11 .done)))))))))))) bB [((Addr.add ⟨b2,0,none⟩ 0),(vi a__0)),((Addr.add ⟨b5,0,none⟩ 1),(vi b__1)),((Addr.add ⟨b2,0,none⟩ 1),(vi a__1)),((Addr.add ⟨b5,0,none⟩ 0),(vi b__0))] ⟨H.bx 2 rfl (j:=0) rfl,H.bx 1 rfl (j:=1) rfl,H.bx 2 rfl (j:=1) rfl,H.bx 1 rfl (j:=0) rfl,trivial⟩ (by kernel_rfl) ?_
 intro w9 H
 have hX:Ext w9 w9:=Upd.refl _ _
 refine oA (fun _=>fld gok rfl rfl rfl rfl ⟨rfl,rfl⟩) ?_
 refine gI 0 rfl ?_
 refine oA (fun _=>fld gok rfl rfl rfl rfl ⟨rfl,rfl⟩) ?_
 refine gI 1 rfl ?_
 refine oA (fun _=>pB (cs:=#[(vi a__0),(vi b__1)]) gok rfl rfl rfl ⟨rfl,rfl⟩) ?_
 refine oA (fun _=>fld gok rfl rfl rfl rfl ⟨rfl,rfl⟩) ?_
 refine gI 2 rfl ?_
 refine oA (fun _=>fld gok rfl rfl rfl rfl ⟨rfl,rfl⟩) ?_
 refine gI 3 rfl ?_
 obtain ⟨a3,e,f6⟩:=aA f5
 refine tB e ?_
 refine stA gok [(vi a__0),(vi b__1)] rfl H rfl rfl rfl ?_;intro w10 H
 refine hold ⟨H.bx 2 rfl (j:=0) rfl,H.bx 1 rfl (j:=1) rfl,H.bx 2 rfl (j:=1) rfl,H.bx 1 rfl (j:=0) rfl,trivial⟩ ?_
 refine hold ⟨H.bx 2 rfl (j:=0) rfl,H.bx 1 rfl (j:=1) rfl,H.bx 2 rfl (j:=1) rfl,H.bx 1 rfl (j:=0) rfl,trivial⟩ ?_
 refine cA [(vi a__0),(vi b__1)] rfl (H.bz_ 0 rfl) ?_
 cases f6
 exact ⟨_,_,rfl,⟨rfl,rfl⟩,(H.sel [] rfl).close trivial⟩
theorem B4_ {kind_:Int}{y:Bool} (hF:iN kind_=some y) :
  kA Tryz.prog 153 #[(vi kind_)] [] [] (fun v Γ'=>v=(.bool y)∧Γ'=[]):=by
 intro w0 S0 fp0 hI hS
 have H:Cx w0 fp0 S0 w0 []:=Cx.start hI hS
 refine iA (args:=[_]) gok Tryz.func153 rfl _ rfl rfl rfl ?_
 obtain ⟨y1,ey1,hF2⟩:=aA hF
 refine callF0_ (oJ ey1) H trivial ?_
 rintro _ _ w3 ⟨rfl,rfl⟩ H
 cases hF2
 exact ⟨_,_,rfl,⟨rfl,rfl⟩,(H.sel [] rfl).close trivial⟩
theorem gP {kind_ y_0 y_1:Int} (hF:yL kind_=some (y_0,y_1)) :
  kA Tryz.prog 96 #[(vi kind_)] [] [] (fun v Γ'=>v=(.agg #[(vi y_0),(vi y_1)])∧Γ'=[]):=by
 intro w0 S0 fp0 hI hS
 have H:Cx w0 fp0 S0 w0 []:=Cx.start hI hS
 refine iA (args:=[_]) gok Tryz.func96 rfl _ rfl rfl rfl ?_
 refine sA gok rfl H ?_;intro b2 w1 hx H
 refine pB (cs:=#[(vi 1),(vi 2)]) gok rfl rfl rfl ?_
 refine pB (cs:=#[(vi 1),(vi 0)]) gok rfl rfl rfl ?_
 refine pB (cs:=#[(vi 2),(vi 1)]) gok rfl rfl rfl ?_
 refine pB (cs:=#[(vi 0),(vi 1)]) gok rfl rfl rfl ?_
 refine pB (cs:=#[(vi 1),(vi 1)]) gok rfl rfl rfl ?_
 refine pB (cs:=#[(vi 1),(vi 1)]) gok rfl rfl rfl ?_
 refine EZ_ (cs:=#[(vi 1),(vi 2),(vi 1),(vi 0),(vi 2),(vi 1),(vi 0),(vi 1),(vi 1),(vi 1),(vi 1),(vi 1)]) gok rfl rfl rfl ?_
 refine sA gok rfl H ?_;intro b5 w4 hx H
 refine stA gok [(vi 1),(vi 2),(vi 1),(vi 0),(vi 2),(vi 1),(vi 0),(vi 1),(vi 1),(vi 1),(vi 1),(vi 1)] rfl H rfl rfl rfl ?_;intro w7 H
 refine sq ?_
 refine boolB_ hF (fun f0=>?_) fun f3=>?_
 obtain ⟨a0,e,f1⟩:=aA f0
 refine arO e ?_
 obtain ⟨a1,e,f2⟩:=aA f1
 obtain ⟨p0,c0,c1,c2⟩:=H.bxV (s:=2) 0 rfl [(1,2),(1,0),(2,1),(0,1),(1,1),(1,1)] (fun x=>[.int .i64 x.1,.int .i64 x.2]) rfl (fun _=>rfl) e
 obtain ⟨a1_0,a1_1⟩:=a1
 refine rX gok rfl rfl c0 c1 ?_
 refine cA [(vi a1_0),(vi a1_1)] rfl c2 ?_
 refine sA gok rfl H ?_;intro b0 w2 hx H
 refine stA gok [(vi a1_0),(vi a1_1)] rfl H rfl rfl rfl ?_;intro w3 H
 refine fld gok rfl rfl rfl rfl (bA (H.bx 0 rfl (j:=1) rfl) ?_)
 refine fld gok rfl rfl rfl rfl (bA (H.bx 0 rfl (j:=0) rfl) ?_)
 refine pB (cs:=#[(vi a1_1),(vi a1_0)]) gok rfl rfl rfl ?_
 refine stA gok [(vi a1_1),(vi a1_0)] rfl (H.sel [2,0,1] rfl) rfl rfl rfl ?_;intro w5 H
 refine cA [(vi a1_1),(vi a1_0)] rfl (H.bz_ 0 rfl) ?_
 cases f2
 exact ⟨_,_,rfl,⟨rfl,rfl⟩,(H.sel [] rfl).close trivial⟩
 obtain ⟨a2,e,f4⟩:=aA f3
 refine arO e ?_
 obtain ⟨a3,e,f5⟩:=aA f4
 obtain ⟨p1,c3,c4,c5⟩:=H.bxV (s:=2) 0 rfl [(1,2),(1,0),(2,1),(0,1),(1,1),(1,1)] (fun x=>[.int .i64 x.1,.int .i64 x.2]) rfl (fun _=>rfl) e
 obtain ⟨a3_0,a3_1⟩:=a3
 refine rX gok rfl rfl c3 c4 ?_
 refine cA [(vi a3_0),(vi a3_1)] rfl c5 ?_
 refine stA gok [(vi a3_0),(vi a3_1)] rfl (H.sel [1,0] rfl) rfl rfl rfl ?_;intro w6 H
 refine cA [(vi a3_0),(vi a3_1)] rfl (H.bz_ 0 rfl) ?_
 cases f5
 exact ⟨_,_,rfl,⟨rfl,rfl⟩,(H.sel [] rfl).close trivial⟩
theorem Ci_ {kind_:Int}{y:Bool} (hF:lN kind_=some y) :
  kA Tryz.prog 85 #[(vi kind_)] [] [] (fun v Γ'=>v=(.bool y)∧Γ'=[]):=by
 intro w0 S0 fp0 hI hS
 have H:Cx w0 fp0 S0 w0 []:=Cx.start hI hS
 refine iA (args:=[_]) gok Tryz.func85 rfl _ rfl rfl rfl ?_
 obtain ⟨r9,f0,f1⟩:=aA hF
 refine cut (fun (q0:Bool)=>[(2,(.bool q0))]) (fun (q0:Bool) w'=>q0=r9∧Cx w0 fp0 S0 w' []) ?_ ?_
 refine boolB_ f0 (fun f3=>?_) fun f5=>?_
 obtain ⟨a1,e,f4⟩:=aA f3
 refine tB e ?_
 exact ⟨a1,⟨rfl,trivial⟩,oi_ f4,H.sel [] rfl⟩
 exact ⟨true,⟨rfl,trivial⟩,oi_ f5,H.sel [] rfl⟩
 rintro T0 s7 w1 ⟨hr,H⟩;try dsimp only at H
 subst hr
 cases f1
 exact ⟨_,_,rfl,⟨rfl,rfl⟩,(H.sel [] rfl).close trivial⟩
theorem BZ_ {kind_ value_:Int}{y:Bool} (hF:fP kind_ value_=some y) :
  kA Tryz.prog 154 #[(vi kind_),(vi value_)] [] [] (fun v Γ'=>v=(.bool y)∧Γ'=[]):=by
 intro w0 S0 fp0 hI hS
 have H:Cx w0 fp0 S0 w0 []:=Cx.start hI hS
 refine iA (args:=[_,_]) gok Tryz.func154 rfl _ rfl rfl rfl ?_
 refine sq ?_
 obtain ⟨y1,ey1,hF2⟩:=aA hF
 refine callF0_ (Ci_ ey1) H trivial ?_
 rintro _ _ w3 ⟨rfl,rfl⟩ H
 cases y1
 have hF4:=fB hF2
 obtain ⟨a5,e,hF6⟩:=aA hF4
 refine tB e ?_
 cases hF6
 exact ⟨_,_,rfl,⟨rfl,rfl⟩,(H.sel [] rfl).close trivial⟩
 have hF7:=eB hF2
 obtain ⟨y8,ey8,hF9⟩:=aA hF7
 refine callF0_ (oJ ey8) H trivial ?_
 rintro _ _ w1 ⟨rfl,rfl⟩ H
 cases hF9
 exact ⟨_,_,rfl,⟨rfl,rfl⟩,(H.sel [] rfl).close trivial⟩
theorem FX_ {n__0 n__1:Int}{n__2:ByteArray}{y0_0 y0_1:Int}{y1:Bool} (hF:mJ (n__0,n__1,n__2)=some ((y0_0,y0_1),y1)) :
  kA Tryz.prog 126 #[(.agg #[(vi n__0),(vi n__1),(.string n__2)])] [] [] (fun v Γ'=>v=(.tuple #[(.agg #[(vi y0_0),(vi y0_1)]),(.bool y1)])∧Γ'=[]):=by
 intro w0 S0 fp0 hI hS
 have H:Cx w0 fp0 S0 w0 []:=Cx.start hI hS
 refine iA (args:=[_]) gok Tryz.func126 rfl _ rfl rfl rfl ?_
 refine xA H ?_;intro b2 w1 hx H
 refine sA gok rfl H ?_;intro b5 w4 hx H
 refine sq ?_
 refine fld gok rfl rfl rfl rfl (bA (H.bx 1 rfl (j:=2) rfl) ?_)
 obtain ⟨a7,e,hF8⟩:=aA hF
 refine neqZ e ?_
 cases a7
 have hF9:=fB hF8
 refine fld gok rfl rfl rfl rfl (bA (H.bx 1 rfl (j:=0) rfl) ?_)
 refine boolB_ hF9 (fun f1=>?_) fun f11=>?_
 refine fld gok rfl rfl rfl rfl (bA (H.bx 1 rfl (j:=0) rfl) ?_)
 refine boolB_ f1 (fun f3=>?_) fun f9=>?_
 refine fld gok rfl rfl rfl rfl (bA (H.bx 1 rfl (j:=0) rfl) ?_)
 obtain ⟨y0,i0,f4⟩:=aA f3
 refine callF0_ (B4_ i0) H trivial ?_
 rintro _ _ w2 ⟨rfl,rfl⟩ H
 cases y0
 have f5:=fB f4
 refine pB (cs:=#[(vi 0),(vi 0)]) gok rfl rfl rfl ?_
 refine stA gok [(vi 0),(vi 0)] rfl H rfl rfl rfl ?_;intro w3 H
 refine cA [(vi 0),(vi 0)] rfl (H.bz_ 0 rfl) ?_
 cases f5
 exact ⟨_,_,rfl,⟨rfl,rfl⟩,(H.sel [] rfl).close trivial⟩
 have f6:=eB f4
 refine kB H [8,9] (.fst 0 (.fst 3 (.fst 5 (.fst 1 (.fst 4 (.fst 6 (.act 2 (.act 7 (.act 8 (.act 9 .done)))))))))) bB [] trivial (by kernel_rfl) ?_
 intro w5 H
 have hX:Ext w5 w5:=Upd.refl _ _
 refine oA (fun _=>fld gok rfl rfl rfl rfl ⟨rfl,rfl⟩) ?_
 refine oA (fun _=>fld gok rfl rfl rfl rfl ⟨rfl,rfl⟩) ?_
 refine oA (fun _=>fld gok rfl rfl rfl rfl ⟨rfl,rfl⟩) ?_
 refine gA (H.bx 1 rfl (j:=0) rfl) ?_
 refine gA (H.bx 1 rfl (j:=0) rfl) ?_
 refine gA (H.bx 1 rfl (j:=1) rfl) ?_
 obtain ⟨⟨y2_0,y2_1⟩,i1,f7⟩:=aA f6
 refine eA (gP i1) H trivial ?_
 rintro _ _ w6 ⟨rfl,rfl⟩ hx H
 refine hold_ hX hx fun hX=>?_
 obtain ⟨y3,i2,f8⟩:=aA f7
 refine eA (BZ_ i2) H trivial ?_
 rintro _ _ w7 ⟨rfl,rfl⟩ hx H
 refine hold_ hX hx fun hX=>?_
 refine stA gok [(vi y2_0),(vi y2_1)] rfl H rfl rfl rfl ?_;intro w8 H
 refine hold trivial ?_
 refine hold trivial ?_
 refine cA [(vi y2_0),(vi y2_1)] rfl (H.bz_ 0 rfl) ?_
 cases f8
 exact ⟨_,_,rfl,⟨rfl,rfl⟩,(H.sel [] rfl).close trivial⟩
 refine kB H [4,5,0,1,2,3] (.pure 0 (.pure 1 (.pure 2 (.pure 3 (.act 4 (.act 5 .done)))))) bB [((Addr.add ⟨b2,0,none⟩ 1),(vi n__1))] ⟨H.bx 1 rfl (j:=1) rfl,trivial⟩ (by kernel_rfl) ?_
 intro w9 H
 have hX:Ext w9 w9:=Upd.refl _ _
 refine oA (fun _=>pB (cs:=#[(vi 2),(vi 2)]) gok rfl rfl rfl ⟨rfl,rfl⟩) ?_
 refine oA (fun _=>fld gok rfl rfl rfl rfl ⟨rfl,rfl⟩) ?_
 refine gI 0 rfl ?_
 obtain ⟨a2,e,f10⟩:=aA f9
 refine tB e ?_
 refine stA gok [(vi 2),(vi 2)] rfl H rfl rfl rfl ?_;intro w10 H
 refine hold ⟨H.bx 1 rfl (j:=1) rfl,trivial⟩ ?_
 refine hold ⟨H.bx 1 rfl (j:=1) rfl,trivial⟩ ?_
 refine cA [(vi 2),(vi 2)] rfl (H.bz_ 0 rfl) ?_
 cases f10
 exact ⟨_,_,rfl,⟨rfl,rfl⟩,(H.sel [] rfl).close trivial⟩
 refine kB H [8,9] (.fst 0 (.fst 2 (.fst 5 (.fst 1 (.fst 3 (.fst 4 (.fst 6 (.act 7 (.act 8 (.act 9 .done)))))))))) bB [] trivial (by kernel_rfl) ?_
 intro w11 H
 have hX:Ext w11 w11:=Upd.refl _ _
 refine oA (fun _=>fld gok rfl rfl rfl rfl ⟨rfl,rfl⟩) ?_
 refine oA (fun _=>fld gok rfl rfl rfl rfl ⟨rfl,rfl⟩) ?_
 refine oA (fun _=>fld gok rfl rfl rfl rfl ⟨rfl,rfl⟩) ?_
 refine gA (H.bx 1 rfl (j:=1) rfl) ?_
 refine gA (H.bx 1 rfl (j:=1) rfl) ?_
 refine oA (fun _=>pB (cs:=#[(vi n__1),(vi n__1)]) gok rfl rfl rfl ⟨rfl,rfl⟩) ?_
 refine gA (H.bx 1 rfl (j:=1) rfl) ?_
 obtain ⟨y4,i3,f12⟩:=aA f11
 refine eA (oJ i3) H trivial ?_
 rintro _ _ w12 ⟨rfl,rfl⟩ hx H
 refine hold_ hX hx fun hX=>?_
 refine stA gok [(vi n__1),(vi n__1)] rfl H rfl rfl rfl ?_;intro w13 H
 refine hold trivial ?_
 refine hold trivial ?_
 refine cA [(vi n__1),(vi n__1)] rfl (H.bz_ 0 rfl) ?_
 cases f12
 exact ⟨_,_,rfl,⟨rfl,rfl⟩,(H.sel [] rfl).close trivial⟩
 have f13:=eB hF8
 refine pB (cs:=#[(vi 0),(vi 0)]) gok rfl rfl rfl ?_
 refine stA gok [(vi 0),(vi 0)] rfl H rfl rfl rfl ?_;intro w14 H
 refine cA [(vi 0),(vi 0)] rfl (H.bz_ 0 rfl) ?_
 cases f13
 exact ⟨_,_,rfl,⟨rfl,rfl⟩,(H.sel [] rfl).close trivial⟩
theorem FA_ {nodes_:List Ty4}{nodes_h:Hd}{y0_0 y0_1:Int}{y1:Bool} (hF:bY nodes_=some ((y0_0,y0_1),y1)) :
  kA Tryz.prog 125 #[(nodes_h).v,(.func (.func 126) #[] #[])] [Es (List Ty4) nodes_ nodes_h] [] (fun v Γ'=>v=(.tuple #[(.agg #[(vi y0_0),(vi y0_1)]),(.bool y1)])∧Γ'=[]):=by
 intro w0 S0 fp0 hI hS
 have H:=Cx.start hI hS;dsimp at H
 refine iA (args:=[_,_]) gok Tryz.func125 rfl _ rfl rfl rfl ?_
 refine sA gok rfl H ?_;intro b3 w2 hx H
 refine sq ?_
 refine nA (H.rs (α:=List Ty4) 1 rfl).len ?_
 obtain ⟨y5,ey5,hF6⟩:=aA hF
 refine gC (@oJ ((nodes_.length:Nat):Int) 1 400 y5 ey5) (Γi:=[]) H trivial ?_
 rintro _ _ w7 ⟨rfl,rfl⟩ H
 refine boolB_ hF6 (fun f0=>?_) fun f52=>?_
 refine wF (α:=Int×Int) gok rfl rfl H ?_;intro h0 w1 hx H
 refine sq ?_
 refine nA (H.rs (α:=List Ty4) 2 rfl).len ?_
 have x0:=(H.rs (α:=List Ty4) 2 rfl).max
 obtain ⟨r0,e,f1⟩:=aA f0
 refine iE _ nodes_.length (fun (k0:Nat) (s0:List (Int×Int)) (g0:Hd)=>[(1,(.func (.func 126) #[] #[])),(4,(vp b3)),(6,(g0).v),(20,(nodes_h).v),(21,(vi ((nodes_.length:Nat):Int))),(22,(vi ((k0:Nat):Int)))]) (fun _ (s0:List (Int×Int)) (g0:Hd) w'=>Cx w0 fp0 S0 w' [Bx b3 [(vi 0),(vi 0)],E (List (Int×Int)) s0 g0,Es (List Ty4) nodes_ nodes_h]) ([]:List (Int×Int)) h0 e r6_ (H.sel [1,0,2] rfl) ?_ ?_
 rintro T0 k0 s0 g0 w3 o0 hk (H:Cx w0 fp0 S0 w3 [Bx b3 [(vi 0),(vi 0)],E (List (Int×Int)) s0 g0,Es (List Ty4) nodes_ nodes_h]) hrt f2
 refine jA (z:=true) (cB hk) ?_
 refine sq ?_
 obtain ⟨r1,f3,f4⟩:=aA f2
 refine cut (fun (q0:(List (Int×Int))×Hd)=>[(1,(.func (.func 126) #[] #[])),(4,(vp b3)),(6,(q0.2).v),(20,(nodes_h).v),(21,(vi ((nodes_.length:Nat):Int))),(22,(vi ((k0:Nat):Int)))]) (fun (q0:(List (Int×Int))×Hd) w'=>.inl q0.1=r1∧Cx w0 fp0 S0 w' [Bx b3 [(vi 0),(vi 0)],E (List (Int×Int)) q0.1 q0.2,Es (List Ty4) nodes_ nodes_h]) ?_ ?_
 obtain ⟨a0,e,f5⟩:=aA f3
 have HH:=H;obtain ⟨p0,m0,g1,c0,c1,c2,c3,H⟩:=HH.el (α:=Ty4) 2 rfl e
 obtain ⟨a0_0,a0_1,a0_2⟩:=a0
 obtain ⟨_,_,_⟩:=g1
 replace H:=H.sel [1,2,3] rfl
 refine dA c0 c1 c2 ?_
 refine cA [(vi a0_0),(vi a0_1),(.string a0_2)] rfl c3 ?_
 refine sA gok rfl H ?_;intro b0 w4 hx H
 refine stA gok [(vi a0_0),(vi a0_1),(.string a0_2)] rfl H rfl rfl rfl ?_;intro w5 H
 refine sq ?_
 obtain ⟨r2,f6,f7⟩:=aA f5
 refine cut (fun (q1:Bool)=>[(1,(.func (.func 126) #[] #[])),(4,(vp b3)),(6,(g0).v),(8,(vp b0)),(20,(nodes_h).v),(21,(vi ((nodes_.length:Nat):Int))),(22,(vi ((k0:Nat):Int))),(33,(.bool q1))]) (fun (q1:Bool) w'=>q1=r2∧Cx w0 fp0 S0 w' [Bx b3 [(vi 0),(vi 0)],E (List (Int×Int)) s0 g0,Bx b0 [(vi a0_0),(vi a0_1),(.string a0_2)],Es (List Ty4) nodes_ nodes_h]) ?_ ?_
 refine fld gok rfl rfl rfl rfl (bA (H.bx 0 rfl (j:=0) rfl) ?_)
 refine boolB_ f6 (fun f9=>?_) fun f10=>?_
 exact ⟨false,r8_,oi_ f9,H.sel [1,2,0,3] rfl⟩
 refine fld gok rfl rfl rfl rfl (bA (H.bx 0 rfl (j:=0) rfl) ?_)
 obtain ⟨a2,e,f11⟩:=aA f10
 refine tB e ?_
 exact ⟨a2,r8_,oi_ f11,H.sel [1,2,0,3] rfl⟩
 rintro T1 s1 w6 ⟨hr,H⟩;try dsimp only at H
 subst hr
 cases s1
 have f12:=fB f7
 refine sq ?_
 obtain ⟨r3,f13,f14⟩:=aA f12
 refine cut (fun (q2:Bool)=>[(1,(.func (.func 126) #[] #[])),(4,(vp b3)),(6,(g0).v),(8,(vp b0)),(20,(nodes_h).v),(21,(vi ((nodes_.length:Nat):Int))),(22,(vi ((k0:Nat):Int))),(59,(.bool q2))]) (fun (q2:Bool) w'=>q2=r3∧Cx w0 fp0 S0 w' [Bx b3 [(vi 0),(vi 0)],E (List (Int×Int)) s0 g0,Bx b0 [(vi a0_0),(vi a0_1),(.string a0_2)],Es (List Ty4) nodes_ nodes_h]) ?_ ?_
 refine fld gok rfl rfl rfl rfl (bA (H.bx 2 rfl (j:=1) rfl) ?_)
 refine boolB_ f13 (fun f16=>?_) fun f21=>?_
 refine fld gok rfl rfl rfl rfl (bA (H.bx 2 rfl (j:=2) rfl) ?_)
 obtain ⟨a4,e,f17⟩:=aA f16
 refine neqZ e ?_
 cases a4
 have f18:=fB f17
 refine nA (H.ro (α:=List (Int×Int)) 1 rfl).len ?_
 obtain ⟨a5,e,f19⟩:=aA f18
 refine tB e ?_
 exact ⟨a5,r8_,oi_ f19,H.sel [0,1,2,3] rfl⟩
 have f20:=eB f17
 exact ⟨true,r8_,oi_ f20,H.sel [0,1,2,3] rfl⟩
 exact ⟨true,r8_,oi_ f21,H.sel [0,1,2,3] rfl⟩
 rintro T2 s2 w8 ⟨hr,H⟩;try dsimp only at H
 subst hr
 cases s2
 have f22:=fB f14
 refine nA (H.ro (α:=List (Int×Int)) 1 rfl).len ?_
 obtain ⟨a6,e,f23⟩:=aA f22
 refine arO e ?_
 obtain ⟨r4,f24,f25⟩:=aA f23
 refine sH H [] (.fst 0 (.fst 2 (.fst 3 (.fst 4 (.fst 5 (.fst 7 (.fst 8 (.fst 9 (.fst 1 (.fst 6 (.fst 10 (.alts (.alt 11 (.fst 12 (.fst 13 (.fst 14 (.act 15 (.act 16 (.fst 17 .done)))))) (.alt 15 (.act 11 (.fst 12 (.fst 13 (.fst 14 (.act 16 (.fst 17 .done)))))) .no)))))))))))))) bB [] trivial (by kernel_rfl) (fun (q3:(Int×Int×Bool)×Nat)=>[(1,(.func (.func 126) #[] #[])),(4,(vp b3)),(6,(g0).v),(11,(vi a6)),(12,(vp q3.2)),(13,(.bool q3.1.2.2)),(20,(nodes_h).v),(21,(vi ((nodes_.length:Nat):Int))),(22,(vi ((k0:Nat):Int)))]) (fun (q3:(Int×Int×Bool)×Nat) w'=>(q3.1.1,q3.1.2.1,q3.1.2.2)=r4∧Cx w0 fp0 S0 w' [Bx b3 [(vi 0),(vi 0)],E (List (Int×Int)) s0 g0,Bx q3.2 [(vi q3.1.1),(vi q3.1.2.1)],Es (List Ty4) nodes_ nodes_h]) ?_ ?_
 intro w9 H
 have hX:Ext w9 w9:=Upd.refl _ _
 refine oA (fun _=>fld gok rfl rfl rfl rfl ⟨rfl,rfl⟩) ?_
 obtain ⟨a7,e,f26⟩:=aA f24
 refine arO e ?_
 obtain ⟨a9,e,f27⟩:=aA f26
 replace H:=H.sel [1,0,2,3] rfl
 replace H:=H.toEH (α:=Int×Int)
 have HH:=H;obtain ⟨p1,m1,g2,c4,c5,c6,c7,H⟩:=HH.peek e
 obtain ⟨a9_0,a9_1⟩:=a9
 obtain ⟨_,_⟩:=g2
 refine dA c4 c5 c6 ?_
 obtain ⟨a10,e,f28⟩:=aA f27
 have HH:=H;obtain ⟨p2,m2,g3,c8,c9,c10,c11,H⟩:=HH.peek e
 obtain ⟨a10_0,a10_1⟩:=a10
 obtain ⟨_,_⟩:=g3
 refine dA c8 c9 c10 ?_
 refine gA (H.bx 2 rfl (j:=0) rfl) ?_
 refine sC [(vi a9_0),(vi a9_1)] rfl c7 ?_
 refine sC [(vi a10_0),(vi a10_1)] rfl c11 ?_
 refine both ?_ ?_
 obtain ⟨y0,e,f29⟩:=aA f28
 obtain ⟨⟨y0_0_0,y0_0_1⟩,y0_1⟩:=y0
 have i0:=e
 refine eA (Cc_ i0) H trivial ?_
 rintro _ _ w10 ⟨rfl,rfl⟩ hx H
 refine hold_ hX hx fun hX=>?_
 refine vC gok rfl H ?_;intro b1 w12 hx v0 H;replace v0:=Nat.le_trans hX.size v0
 refine hold_ hX hx fun hX=>?_
 refine oC gok [(vi y0_0_0),(vi y0_0_1)] rfl H rfl rfl rfl ?_;intro w13 hu H
 replace hX:=hX.fresh hu v0
 refine hold hX ?_
 replace H:=H.sel [1,0,2,3,4] rfl
 replace H:=H.ofEH
 exact ⟨((y0_0_0,y0_0_1,y0_1),b1),r9_,oi_ f29,H.sel [2,0,1,4] rfl⟩
 refine both ?_ ?_
 obtain ⟨a11,o1,f30⟩:=aA f28
 refine vC gok rfl H ?_;intro b2 w14 hx v1 H;replace v1:=Nat.le_trans hX.size v1
 refine hold_ hX hx fun hX=>?_
 have e:=o1
 obtain ⟨⟨a11_0_0,a11_0_1⟩,a11_1⟩:=a11
 have i1:=e
 refine eA (Cc_ i1) H trivial ?_
 rintro _ _ w15 ⟨rfl,rfl⟩ hx H
 refine hold_ hX hx fun hX=>?_
 refine oC gok [(vi a11_0_0),(vi a11_0_1)] rfl H rfl rfl rfl ?_;intro w16 hu H
 replace hX:=hX.fresh hu v1
 refine hold hX ?_
 replace H:=H.sel [1,0,2,3,4] rfl
 replace H:=H.ofEH
 exact ⟨((a11_0_0,a11_0_1,a11_1),b2),r9_,oi_ f30,H.sel [2,0,1,4] rfl⟩
 exact trivial
 rintro T3 ⟨⟨s3_0,s3_1,s3_2⟩,g4⟩ w17 ⟨hr,H⟩;try dsimp only at H
 subst hr
 refine sq ?_
 refine boolB_ f25 (fun f32=>?_) fun f36=>?_
 refine kB H [6,7] (.fst 0 (.fst 1 (.fst 2 (.fst 3 (.fst 4 (.act 5 (.act 6 (.act 7 .done)))))))) bB [] trivial (by kernel_rfl) ?_
 intro w18 H
 have hX:Ext w18 w18:=Upd.refl _ _
 obtain ⟨a13,e,f33⟩:=aA f32
 refine arO e ?_
 obtain ⟨a14,e,f34⟩:=aA f33
 replace H:=H.sel [1,0,2,3] rfl
 refine slOX (α:=Int×Int) gok rfl rfl H e rfl rfl ?_;intro h1 HH;have H:=HH
 refine sC [(vi s3_0),(vi s3_1)] rfl (H.bz_ 2 rfl) ?_
 replace H:=H.sc (α:=Int) s3_1
 replace H:=H.sc (α:=Int) s3_0
 replace H:=H.join (α:=Int) (β:=Int)
 refine pC (α:=Int×Int) (g:=((),())) gok rfl rfl rfl rfl rfl H ?_;intro h2 w19 hx H
 refine hold_ hX hx fun hX=>?_
 obtain ⟨a15,e,f35⟩:=aA f34
 refine append_ (α:=Int×Int) gok rfl rfl rfl rfl (H.sel [1,0,2,3,4] rfl) e ?_;intro h3 w20 H
 refine hold trivial ?_
 refine hold trivial ?_
 exact ⟨(a15,h3),r6_,oi_ f35,H.sel [1,0,3] rfl⟩
 refine pB (cs:=#[(vi 0),(vi 0)]) gok rfl rfl rfl ?_
 refine stA gok [(vi 0),(vi 0)] rfl H rfl rfl rfl ?_;intro w21 H
 obtain rfl:=oi_ f36
 have f37:some _=some _:=f4
 obtain rfl:=oi_ f37
 have hr:=hrt _ rfl;subst hr
 have f38:some _=some _:=f1
 refine cA [(vi 0),(vi 0)] rfl (H.bz_ 0 rfl) ?_
 cases f38
 exact ⟨_,_,rfl,⟨rfl,rfl⟩,(H.sel [] rfl).close trivial⟩
 have f39:=eB f14
 refine pB (cs:=#[(vi 0),(vi 0)]) gok rfl rfl rfl ?_
 refine stA gok [(vi 0),(vi 0)] rfl H rfl rfl rfl ?_;intro w22 H
 obtain rfl:=oi_ f39
 have f40:some _=some _:=f4
 obtain rfl:=oi_ f40
 have hr:=hrt _ rfl;subst hr
 have f41:some _=some _:=f1
 refine cA [(vi 0),(vi 0)] rfl (H.bz_ 0 rfl) ?_
 cases f41
 exact ⟨_,_,rfl,⟨rfl,rfl⟩,(H.sel [] rfl).close trivial⟩
 have f42:=eB f7
 refine cA [(vi a0_0),(vi a0_1),(.string a0_2)] rfl (H.bz_ 2 rfl) ?_
 obtain ⟨y2,e,f43⟩:=aA f42
 obtain ⟨⟨y2_0_0,y2_0_1⟩,y2_1⟩:=y2
 have i2:=e
 refine callF0_ (FX_ i2) H trivial ?_
 rintro _ _ w23 ⟨rfl,rfl⟩ H
 refine sA gok rfl H ?_;intro b4 w24 hx H
 refine stA gok [(vi y2_0_0),(vi y2_0_1)] rfl H rfl rfl rfl ?_;intro w25 H
 refine sq ?_
 refine boolB_ f43 (fun f45=>?_) fun f47=>?_
 refine cA [(vi y2_0_0),(vi y2_0_1)] rfl (H.bz_ 0 rfl) ?_
 replace H:=H.sc (α:=Int) y2_0_1
 replace H:=H.sc (α:=Int) y2_0_0
 replace H:=H.join (α:=Int) (β:=Int)
 refine pC (α:=Int×Int) (g:=((),())) gok rfl rfl rfl rfl rfl H ?_;intro h4 w26 hx H
 obtain ⟨a17,e,f46⟩:=aA f45
 refine append_ (α:=Int×Int) gok rfl rfl rfl rfl (H.sel [3,0,1,2,4,5] rfl) e ?_;intro h5 w27 H
 exact ⟨(a17,h5),r6_,oi_ f46,H.sel [2,0,4] rfl⟩
 refine pB (cs:=#[(vi 0),(vi 0)]) gok rfl rfl rfl ?_
 refine stA gok [(vi 0),(vi 0)] rfl (H.sel [1,0,2,3,4] rfl) rfl rfl rfl ?_;intro w28 H
 obtain rfl:=oi_ f47
 have f48:some _=some _:=f4
 obtain rfl:=oi_ f48
 have hr:=hrt _ rfl;subst hr
 have f49:some _=some _:=f1
 refine cA [(vi 0),(vi 0)] rfl (H.bz_ 0 rfl) ?_
 cases f49
 exact ⟨_,_,rfl,⟨rfl,rfl⟩,(H.sel [] rfl).close trivial⟩
 rintro T4 ⟨s4,g5⟩ w29 ⟨hr,H⟩;try dsimp only at H
 subst hr
 refine arK hk x0 ?_
 obtain rfl:=oi_ f4
 exact ⟨s4,g5,rfl,r6_,H.sel [0,1,2] rfl⟩
 rintro T5 s5 g6 w30 hr H;try dsimp only at H
 subst hr
 refine jA (z:=false) dB ?_
 refine sq ?_
 obtain ⟨a18,e,f50⟩:=aA f1
 replace H:=H.sel [1,0,2] rfl
 replace H:=H.toEH (α:=Int×Int)
 have HH:=H;obtain ⟨p3,m3,g7,c12,c13,c14,c15,H⟩:=HH.peek e
 obtain ⟨a18_0,a18_1⟩:=a18
 obtain ⟨_,_⟩:=g7
 refine dA c12 c13 c14 ?_
 refine cA [(vi a18_0),(vi a18_1)] rfl c15 ?_
 refine nA (H.rohd (α:=Int×Int) 0 rfl).len ?_
 obtain ⟨a19,e,f51⟩:=aA f50
 refine tB e ?_
 refine stA gok [(vi a18_0),(vi a18_1)] rfl (H.sel [1,0,2] rfl) rfl rfl rfl ?_;intro w31 H
 replace H:=H.sel [1,0,2] rfl
 replace H:=H.ofEH
 refine cA [(vi a18_0),(vi a18_1)] rfl (H.bz_ 1 rfl) ?_
 cases f51
 exact ⟨_,_,rfl,⟨rfl,rfl⟩,(H.sel [] rfl).close trivial⟩
 refine pB (cs:=#[(vi 0),(vi 0)]) gok rfl rfl rfl ?_
 refine stA gok [(vi 0),(vi 0)] rfl H rfl rfl rfl ?_;intro w32 H
 refine cA [(vi 0),(vi 0)] rfl (H.bz_ 0 rfl) ?_
 cases f52
 exact ⟨_,_,rfl,⟨rfl,rfl⟩,(H.sel [] rfl).close trivial⟩
theorem nY {t__0:List Ty4}{t__0h:Hd}{y0_0 y0_1:Int}{y1:Bool} (hF:kP t__0=some ((y0_0,y0_1),y1)) :
  kA Tryz.prog 103 #[(.agg #[(t__0h).v])] [Es (List Ty4) t__0 t__0h] [] (fun v Γ'=>v=(.tuple #[(.agg #[(vi y0_0),(vi y0_1)]),(.bool y1)])∧Γ'=[]):=by
 intro w0 S0 fp0 hI hS
 have H:=Cx.start hI hS;dsimp at H
 refine iA (args:=[_]) gok Tryz.func103 rfl _ rfl rfl rfl ?_
 refine xA H ?_;intro b3 w2 hx H
 refine sA gok rfl H ?_;intro b6 w5 hx H
 refine fld gok rfl rfl rfl rfl (bA (H.bx 1 rfl (j:=0) rfl) ?_)
 obtain ⟨y8,e,hF9⟩:=aA hF
 obtain ⟨⟨y8_0_0,y8_0_1⟩,y8_1⟩:=y8
 have ey8:=e
 refine callF0_ (FA_ ey8) H ⟨Vw.sh 2 rfl,trivial⟩ ?_
 rintro _ _ w1 ⟨rfl,rfl⟩ H
 refine stA gok [(vi y8_0_0),(vi y8_0_1)] rfl H rfl rfl rfl ?_;intro w3 H
 refine cA [(vi y8_0_0),(vi y8_0_1)] rfl (H.bz_ 0 rfl) ?_
 cases hF9
 exact ⟨_,_,rfl,⟨rfl,rfl⟩,(H.sel [] rfl).close trivial⟩
theorem Co_ {b_:Int}{y:Bool} (hF:dM b_=some y) :
  kA Tryz.prog 127 #[(.int .u8 b_)] [] [] (fun v Γ'=>v=(.bool y)∧Γ'=[]):=by
 intro w0 S0 fp0 hI hS
 have H:Cx w0 fp0 S0 w0 []:=Cx.start hI hS
 refine iA (args:=[_]) gok Tryz.func127 rfl _ rfl rfl rfl ?_
 obtain ⟨r9,f0,f1⟩:=aA hF
 refine cut (fun (q0:Bool)=>[(2,(.bool q0))]) (fun (q0:Bool) w'=>q0=r9∧Cx w0 fp0 S0 w' []) ?_ ?_
 obtain ⟨a0,e,f2⟩:=aA f0
 refine geqY e ?_
 cases a0
 have f3:=fB f2
 exact ⟨false,⟨rfl,trivial⟩,oi_ f3,H.sel [] rfl⟩
 have f4:=eB f2
 obtain ⟨a1,e,f5⟩:=aA f4
 refine leqY e ?_
 exact ⟨a1,⟨rfl,trivial⟩,oi_ f5,H.sel [] rfl⟩
 rintro T0 s7 w1 ⟨hr,H⟩;try dsimp only at H
 subst hr
 cases f1
 exact ⟨_,_,rfl,⟨rfl,rfl⟩,(H.sel [] rfl).close trivial⟩
theorem FZ_  {y:List ByteArray} (hF:rY=some y) :
  kA Tryz.prog 155 #[] [] [] (fun v Γ'=>∃ z0:Hd,v=(z0).v∧Γ'=[E (List ByteArray) y z0]):=by
 intro w0 S0 fp0 hI hS
 have H:Cx w0 fp0 S0 w0 []:=Cx.start hI hS
 refine iA (args:=[]) gok Tryz.func155 rfl _ rfl rfl rfl ?_
 replace H:=H.sc (α:=ByteArray) ⟨#[99,111,100,101,108,97,121]⟩
 replace H:=H.sc (α:=ByteArray) ⟨#[99,111,115,99,97,108,101]⟩
 replace H:=H.sc (α:=ByteArray) ⟨#[99,111,122,101,114,111]⟩
 replace H:=H.sc (α:=ByteArray) ⟨#[99,111,97,100,100]⟩
 replace H:=H.sc (α:=ByteArray) ⟨#[99,111,100,105,115,99,97,114,100]⟩
 replace H:=H.sc (α:=ByteArray) ⟨#[99,111,99,111,112,121]⟩
 replace H:=H.sc (α:=ByteArray) ⟨#[100,101,108,97,121]⟩
 replace H:=H.sc (α:=ByteArray) ⟨#[115,99,97,108,101]⟩
 replace H:=H.sc (α:=ByteArray) ⟨#[122,101,114,111]⟩
 replace H:=H.sc (α:=ByteArray) ⟨#[97,100,100]⟩
 replace H:=H.sc (α:=ByteArray) ⟨#[100,105,115,99,97,114,100]⟩
 replace H:=H.sc (α:=ByteArray) ⟨#[99,111,112,121]⟩
 replace H:=H.sc (α:=ByteArray) ⟨#[115,119,97,112]⟩
 replace H:=H.sc (α:=ByteArray) ⟨#[105,100]⟩
 replace H:=H.sc (α:=ByteArray) .empty
 refine mA (α:=ByteArray) (us:=[(.string .empty),(.string ⟨#[105,100]⟩),(.string ⟨#[115,119,97,112]⟩),(.string ⟨#[99,111,112,121]⟩),(.string ⟨#[100,105,115,99,97,114,100]⟩),(.string ⟨#[97,100,100]⟩),(.string ⟨#[122,101,114,111]⟩),(.string ⟨#[115,99,97,108,101]⟩),(.string ⟨#[100,101,108,97,121]⟩),(.string ⟨#[99,111,99,111,112,121]⟩),(.string ⟨#[99,111,100,105,115,99,97,114,100]⟩),(.string ⟨#[99,111,97,100,100]⟩),(.string ⟨#[99,111,122,101,114,111]⟩),(.string ⟨#[99,111,115,99,97,108,101]⟩),(.string ⟨#[99,111,100,101,108,97,121]⟩)]) (xs:=[.empty,⟨#[105,100]⟩,⟨#[115,119,97,112]⟩,⟨#[99,111,112,121]⟩,⟨#[100,105,115,99,97,114,100]⟩,⟨#[97,100,100]⟩,⟨#[122,101,114,111]⟩,⟨#[115,99,97,108,101]⟩,⟨#[100,101,108,97,121]⟩,⟨#[99,111,99,111,112,121]⟩,⟨#[99,111,100,105,115,99,97,114,100]⟩,⟨#[99,111,97,100,100]⟩,⟨#[99,111,122,101,114,111]⟩,⟨#[99,111,115,99,97,108,101]⟩,⟨#[99,111,100,101,108,97,121]⟩]) (gs:=[(),(),(),(),(),(),(),(),(),(),(),(),(),(),()]) gok rfl rfl rfl r15_ rfl rfl H ?_;intro h2 w1 hx H
 cases hF
 exact ⟨_,_,rfl,⟨h2,rfl,rfl⟩,(H.sel [0] rfl).close ⟨cloE,trivial⟩⟩
theorem GO_ {word_:ByteArray}{y:Int} (hF:Ab_ word_=some y) :
  kA Tryz.prog 128 #[(.string word_)] [] [] (fun v Γ'=>v=(vi y)∧Γ'=[]):=by
 intro w0 S0 fp0 hI hS
 have H:Cx w0 fp0 S0 w0 []:=Cx.start hI hS
 refine iA (args:=[_]) gok Tryz.func128 rfl _ rfl rfl rfl ?_
 refine sq ?_
 obtain ⟨y1,ey1,hF2⟩:=aA hF
 refine callF0_ (FZ_ ey1) H trivial ?_
 rintro _ _ w3 ⟨h4,rfl,rfl⟩ H
 refine nA (H.ro (α:=List ByteArray) 0 rfl).len ?_
 have x0:=(H.ro (α:=List ByteArray) 0 rfl).max
 obtain ⟨r0,e,f0⟩:=aA hF2
 refine iE _ y1.length (fun (k6:Nat) (_:Unit) (_:Unit)=>[(0,(.string word_)),(5,(h4).v),(6,(vi ((y1.length:Nat):Int))),(7,(vi ((k6:Nat):Int)))]) (fun _ (_:Unit) (_:Unit) w'=>Cx w0 fp0 S0 w' [E (List ByteArray) y1 h4]) () () e r4_ (H.sel [0] rfl) ?_ ?_
 rintro T0 k6 _ _ w1 o0 hk (H:Cx w0 fp0 S0 w1 [E (List ByteArray) y1 h4]) hrt f1
 refine jA (z:=true) (cB hk) ?_
 refine sq (sq ?_)
 obtain ⟨a0,e,f2⟩:=aA f1
 obtain ⟨p0,m0,c0,c1,c2,c3⟩:=(H.ro (α:=List ByteArray) 0 rfl).at1 e
 refine dA c0 c1 c2 ?_
 refine bA c3 ?_
 obtain ⟨a1,e,f3⟩:=aA f2
 refine eqZ e ?_
 cases a1
 have f4:=fB f3
 refine arK hk x0 ?_
 obtain rfl:=oi_ f4
 exact ⟨(),(),rfl,r4_,H.sel [0] rfl⟩
 have f5:=eB f3
 obtain rfl:=oi_ f5
 have hr:=hrt _ rfl;subst hr
 have f6:some _=some _:=f0
 cases f6
 exact ⟨_,_,rfl,⟨rfl,rfl⟩,(H.sel [] rfl).close trivial⟩
 rintro T1 _ _ w2 hr H;try dsimp only at H
 subst hr
 refine jA (z:=false) dB ?_
 refine sq ?_
 cases f0
 exact ⟨_,_,rfl,⟨rfl,rfl⟩,(H.sel [] rfl).close trivial⟩
theorem Gm_ {b_:Int}{y:Bool} (hF:mN b_=some y) :
  kA Tryz.prog 129 #[(.int .u8 b_)] [] [] (fun v Γ'=>v=(.bool y)∧Γ'=[]):=by
 intro w0 S0 fp0 hI hS
 have H:Cx w0 fp0 S0 w0 []:=Cx.start hI hS
 refine iA (args:=[_]) gok Tryz.func129 rfl _ rfl rfl rfl ?_
 obtain ⟨r9,f0,f1⟩:=aA hF
 refine cut (fun (q0:Bool)=>[(2,(.bool q0))]) (fun (q0:Bool) w'=>q0=r9∧Cx w0 fp0 S0 w' []) ?_ ?_
 obtain ⟨a0,e,f2⟩:=aA f0
 refine geqY e ?_
 cases a0
 have f3:=fB f2
 exact ⟨false,⟨rfl,trivial⟩,oi_ f3,H.sel [] rfl⟩
 have f4:=eB f2
 obtain ⟨a1,e,f5⟩:=aA f4
 refine leqY e ?_
 exact ⟨a1,⟨rfl,trivial⟩,oi_ f5,H.sel [] rfl⟩
 rintro T0 s7 w1 ⟨hr,H⟩;try dsimp only at H
 subst hr
 cases f1
 exact ⟨_,_,rfl,⟨rfl,rfl⟩,(H.sel [] rfl).close trivial⟩
theorem GS_ {s_:ByteArray}{y:Bool} (hF:eU s_=some y) :
  kA Tryz.prog 104 #[(.string s_)] [] [] (fun v Γ'=>v=(.bool y)∧Γ'=[]):=by
 intro w0 S0 fp0 hI hS
 have H:Cx w0 fp0 S0 w0 []:=Cx.start hI hS
 refine iA (args:=[_]) gok Tryz.func104 rfl _ rfl rfl rfl ?_
 refine sq ?_
 obtain ⟨r0,f0,f1⟩:=aA hF
 refine cut (fun (q0:Bool)=>[(0,(.string s_)),(18,(.bool q0))]) (fun (q0:Bool) w'=>q0=r0∧Cx w0 fp0 S0 w' []) ?_ ?_
 refine nA (m:=s_.size) rfl ?_
 obtain ⟨y0,i0,f2⟩:=aA f0
 refine gC (@oJ ((s_.size:Nat):Int) 1 8 y0 i0) (Γi:=[]) H trivial ?_
 rintro _ _ w1 ⟨rfl,rfl⟩ H
 refine boolB_ f2 (fun f4=>?_) fun f12=>?_
 obtain ⟨a1,e,f5⟩:=aA f4
 refine iI gok rfl e ?_
 obtain ⟨y1,i1,f6⟩:=aA f5
 refine callF0_ (Co_ i1) H trivial ?_
 rintro _ _ w2 ⟨rfl,rfl⟩ H
 refine boolB_ f6 (fun f8=>?_) fun f11=>?_
 obtain ⟨y2,i2,f9⟩:=aA f8
 refine callF0_ (GO_ i2) H trivial ?_
 rintro _ _ w3 ⟨rfl,rfl⟩ H
 obtain ⟨a3,e,f10⟩:=aA f9
 refine tB e ?_
 exact ⟨a3,⟨rfl,rfl,trivial⟩,oi_ f10,H.sel [] rfl⟩
 exact ⟨true,⟨rfl,rfl,trivial⟩,oi_ f11,H.sel [] rfl⟩
 exact ⟨true,⟨rfl,rfl,trivial⟩,oi_ f12,H.sel [] rfl⟩
 rintro T0 s0 w4 ⟨hr,H⟩;try dsimp only at H
 subst hr
 cases s0
 have f13:=fB f1
 refine sq ?_
 refine nA (m:=s_.size) rfl ?_
 obtain ⟨a4,hn,f14⟩:=aA f13
 obtain ⟨r1,e,f15⟩:=aA f14
 refine iE _ (((s_.size:Nat):Int).toNat) (fun (k0:Nat) (_:Unit) (_:Unit)=>[(0,(.string s_)),(20,(vi ((s_.size:Nat):Int))),(21,(vi ((k0:Nat):Int)))]) (fun _ (_:Unit) (_:Unit) w'=>Cx w0 fp0 S0 w' []) () () e r3_ (H.sel [] rfl) ?_ ?_
 rintro T1 k0 _ _ w5 o0 hk (H:Cx w0 fp0 S0 w5 []) hrt f16
 refine jA (z:=true) (nX hk) ?_
 refine sq (sq ?_)
 obtain ⟨r2,f17,f18⟩:=aA f16
 refine cut (fun (q1:Bool)=>[(0,(.string s_)),(20,(vi ((s_.size:Nat):Int))),(21,(vi ((k0:Nat):Int))),(35,(.bool q1))]) (fun (q1:Bool) w'=>q1=r2∧Cx w0 fp0 S0 w' []) ?_ ?_
 obtain ⟨a5,e,f19⟩:=aA f17
 refine iI gok rfl e ?_
 obtain ⟨y3,i3,f20⟩:=aA f19
 refine callF0_ (Co_ i3) H trivial ?_
 rintro _ _ w6 ⟨rfl,rfl⟩ H
 refine boolB_ f20 (fun f22=>?_) fun f23=>?_
 exact ⟨false,r4_,oi_ f22,H.sel [] rfl⟩
 obtain ⟨a7,e,f24⟩:=aA f23
 refine iI gok rfl e ?_
 obtain ⟨y4,i4,f25⟩:=aA f24
 refine callF0_ (Gm_ i4) H trivial ?_
 rintro _ _ w7 ⟨rfl,rfl⟩ H
 obtain ⟨a8,e,f26⟩:=aA f25
 refine tB e ?_
 exact ⟨a8,r4_,oi_ f26,H.sel [] rfl⟩
 rintro T2 s1 w8 ⟨hr,H⟩;try dsimp only at H
 subst hr
 cases s1
 have f27:=fB f18
 refine arK hk (maxI hn) ?_
 obtain rfl:=oi_ f27
 exact ⟨(),(),rfl,r3_,H.sel [] rfl⟩
 have f28:=eB f18
 obtain rfl:=oi_ f28
 have hr:=hrt _ rfl;subst hr
 have f29:some _=some _:=f15
 cases f29
 exact ⟨_,_,rfl,⟨rfl,rfl⟩,(H.sel [] rfl).close trivial⟩
 rintro T3 _ _ w9 hr H;try dsimp only at H
 subst hr
 refine jA (z:=false) sX ?_
 refine sq ?_
 cases f15
 exact ⟨_,_,rfl,⟨rfl,rfl⟩,(H.sel [] rfl).close trivial⟩
 have f30:=eB f1
 cases f30
 exact ⟨_,_,rfl,⟨rfl,rfl⟩,(H.sel [] rfl).close trivial⟩
theorem sJ {n_:Int}{y:List Int} (hF:wG n_=some y) :
  kA Tryz.prog 87 #[(vi n_)] [] [] (fun v Γ'=>∃ z0:Hd,v=(z0).v∧Γ'=[E (List Int) y z0]):=by
 intro w0 S0 fp0 hI hS
 have H:Cx w0 fp0 S0 w0 []:=Cx.start hI hS
 refine iA (args:=[_]) gok Tryz.func87 rfl _ rfl rfl rfl ?_
 obtain ⟨a1,e,hF2⟩:=aA hF
 refine nE (α:=Int) gok rfl rfl rfl rfl (xE e) H ?_;intro h4 w3 hx H
 cases hF2
 exact ⟨_,_,rfl,⟨h4,rfl,rfl⟩,(H.sel [0] rfl).close ⟨cloE,trivial⟩⟩
theorem kM {n_:Int}{y:List Int} (hF:uJ n_=some y) :
  kA Tryz.prog 161 #[(vi n_)] [] [] (fun v Γ'=>∃ z0:Hd,v=(z0).v∧Γ'=[E (List Int) y z0]):=by
 intro w0 S0 fp0 hI hS
 have H:Cx w0 fp0 S0 w0 []:=Cx.start hI hS
 refine iA (args:=[_]) gok Tryz.func161 rfl _ rfl rfl rfl ?_
 obtain ⟨y1,ey1,hF2⟩:=aA hF
 refine callF0_ (sJ ey1) H trivial ?_
 rintro _ _ w3 ⟨h4,rfl,rfl⟩ H
 refine sq ?_
 refine nA (H.ro (α:=List Int) 0 rfl).len ?_
 have x0:=(H.ro (α:=List Int) 0 rfl).max
 obtain ⟨r0,e,f0⟩:=aA hF2
 refine nB _ y1.length (fun (k6:Nat) (s0:List Int) (_:Unit)=>[(3,(h4).v),(8,(vi ((y1.length:Nat):Int))),(9,(vi ((k6:Nat):Int)))]) (fun _ (s0:List Int) (_:Unit) w'=>Cx w0 fp0 S0 w' [E (List Int) s0 h4]) y1 () e r3_ (H.sel [0] rfl) ?_ ?_
 rintro T0 k6 s0 _ w1 o0 hk (H:Cx w0 fp0 S0 w1 [E (List Int) s0 h4]) f1
 refine jA (z:=true) (cB hk) ?_
 refine sq (sq ?_)
 obtain ⟨a0,i0,f2⟩:=aA f1
 obtain ⟨p0,m0,c0,c1,c2⟩:=(H.ro (α:=List Int) 0 rfl).setp i0
 refine dA c0 c1 c2 ?_
 refine wC (α:=Int) H c0 c1 i0 ?_;intro w2 H
 refine arK hk x0 ?_
 obtain rfl:=oi_ f2
 exact ⟨(),r3_,H.sel [0] rfl⟩
 rintro T1 _ w4 H;try dsimp only at H
 refine jA (z:=false) dB ?_
 refine sq ?_
 cases f0
 exact ⟨_,_,rfl,⟨h4,rfl,rfl⟩,(H.sel [0] rfl).close ⟨cloE,trivial⟩⟩
theorem GT_ {v_:List Int}{v_h:Hd}{at_:List Int}{at_h:Hd}{y:List Int} (hF:CG_ v_ at_=some y) :
  kA Tryz.prog 173 #[(v_h).v,(at_h).v] [Es (List Int) v_ v_h,Es (List Int) at_ at_h] [] (fun v Γ'=>∃ z0:Hd,v=(z0).v∧Γ'=[E (List Int) y z0]):=by
 intro w0 S0 fp0 hI hS
 have H:=Cx.start hI hS;dsimp at H
 refine iA (args:=[_,_]) gok Tryz.func173 rfl _ rfl rfl rfl ?_
 refine nA (H.rs (α:=List Int) 1 rfl).len ?_
 obtain ⟨a3,e,hF4⟩:=aA hF
 refine nE (α:=Int) gok rfl rfl rfl rfl e H ?_;intro h6 w5 hx H
 refine sq ?_
 refine nA (H.rs (α:=List Int) 2 rfl).len ?_
 have x0:=(H.rs (α:=List Int) 2 rfl).max
 obtain ⟨r0,e,f0⟩:=aA hF4
 refine nB _ at_.length (fun (k8:Nat) (s0:List Int) (g0:Hd)=>[(0,(v_h).v),(5,(g0).v),(11,(at_h).v),(12,(vi ((at_.length:Nat):Int))),(13,(vi ((k8:Nat):Int)))]) (fun _ (s0:List Int) (g0:Hd) w'=>Cx w0 fp0 S0 w' [Es (List Int) v_ v_h,E (List Int) s0 g0,Es (List Int) at_ at_h]) a3 h6 e r5_ (H.sel [1,0,2] rfl) ?_ ?_
 rintro T0 k8 s0 g0 w1 o0 hk (H:Cx w0 fp0 S0 w1 [Es (List Int) v_ v_h,E (List Int) s0 g0,Es (List Int) at_ at_h]) f1
 refine jA (z:=true) (cB hk) ?_
 refine sq (sq ?_)
 obtain ⟨a0,e,f2⟩:=aA f1
 obtain ⟨p0,m0,c0,c1,c2,c3⟩:=(H.rs (α:=List Int) 2 rfl).at1 e
 refine dA c0 c1 c2 ?_
 refine bA c3 ?_
 obtain ⟨a1,e,f3⟩:=aA f2
 obtain ⟨p1,m1,c4,c5,c6,c7⟩:=(H.rs (α:=List Int) 0 rfl).at1 e
 refine dA c4 c5 c6 ?_
 refine bA c7 ?_
 refine jE (α:=Int) gok rfl rfl rfl rfl H ?_;intro h0 w2 hx H
 obtain ⟨a2,e,f4⟩:=aA f3
 refine append_ (α:=Int) gok rfl rfl rfl rfl (H.sel [2,0,1,3] rfl) e ?_;intro h1 w3 H
 refine arK hk x0 ?_
 obtain rfl:=oi_ f4
 exact ⟨h1,r5_,H.sel [1,0,2] rfl⟩
 rintro T1 g1 w4 H;try dsimp only at H
 refine jA (z:=false) dB ?_
 refine sq ?_
 cases f0
 exact ⟨_,_,rfl,⟨g1,rfl,rfl⟩,(H.sel [1] rfl).close ⟨cloE,trivial⟩⟩
theorem sI {list_:List Int}{list_h:Hd}{to_:List Int}{to_h:Hd}{y:List Int} (hF:rJ list_ to_=some y) :
  kA Tryz.prog 157 #[(list_h).v,(to_h).v] [Es (List Int) list_ list_h,Es (List Int) to_ to_h] [] (fun v Γ'=>∃ z0:Hd,v=(z0).v∧Γ'=[E (List Int) y z0]):=by
 intro w0 S0 fp0 hI hS
 have H:=Cx.start hI hS;dsimp at H
 refine iA (args:=[_,_]) gok Tryz.func157 rfl _ rfl rfl rfl ?_
 obtain ⟨y3,ey3,hF4⟩:=aA hF
 refine callF0_ (GT_ ey3) H ⟨Vw.sh 1 rfl,Vw.sh 0 rfl,trivial⟩ ?_
 rintro _ _ w5 ⟨h6,rfl,rfl⟩ H
 cases hF4
 exact ⟨_,_,rfl,⟨h6,rfl,rfl⟩,(H.sel [0] rfl).close ⟨cloE,trivial⟩⟩
theorem aM {g__0:Int}{g__1:List Ty2}{g__1h:Hd}{g__2:List Int}{g__2h:Hd}{g__3:List Int}{g__3h:Hd}{count_:Int}{to_:List Int}{to_h:Hd}{y_0:Int}{y_1:List Ty2}{y_2 y_3:List Int} (hF:jP (g__0,g__1,g__2,g__3) count_ to_=some (y_0,y_1,y_2,y_3)) :
  kA Tryz.prog 172 #[(.agg #[(vi g__0),(g__1h).v,(g__2h).v,(g__3h).v]),(vi count_),(to_h).v] [Es (List Ty2) g__1 g__1h,Es (List Int) g__2 g__2h,Es (List Int) g__3 g__3h,Es (List Int) to_ to_h] [] (fun v Γ'=>∃ z0 z1 z2:Hd,v=(.agg #[(vi y_0),(z0).v,(z1).v,(z2).v])∧Γ'=[E (List Ty2) y_1 z0,E (List Int) y_2 z1,E (List Int) y_3 z2]):=by
 intro w0 S0 fp0 hI hS
 have H:=Cx.start hI hS;dsimp at H
 refine iA (args:=[_,_,_]) gok Tryz.func172 rfl _ rfl rfl rfl ?_
 refine xA H ?_;intro b6 w5 hx H
 refine sA gok rfl H ?_;intro b9 w8 hx H
 obtain ⟨r0,f0,f1⟩:=aA hF
 refine sH H [] (.fst 0 (.fst 1 (.fst 3 (.fst 5 (.fst 7 (.fst 2 (.fst 6 (.alts (.alt 4 (.alts (.alt 8 (.fst 9 (.act 10 (.act 11 .done))) (.alt 10 (.act 8 (.fst 9 (.act 11 .done))) .no))) (.alt 10 (.act 4 (.act 8 (.fst 9 (.act 11 .done)))) .no)))))))))) bB [] trivial (by kernel_rfl) (fun (q0:(Int×List Int×List Int)×(Hd×Hd×Nat))=>[(2,(to_h).v),(3,(vp b6)),(6,(vp b9)),(7,(vp q0.2.2.2))]) (fun (q0:(Int×List Int×List Int)×(Hd×Hd×Nat)) w'=>(q0.1.1,q0.1.2.1,q0.1.2.2)=r0∧Cx w0 fp0 S0 w' [Es (List Int) to_ to_h,Bx b6 [(vi g__0),(g__1h).v,(g__2h).v,(g__3h).v],Es (List Ty2) g__1 g__1h,Es (List Int) g__2 g__2h,Es (List Int) g__3 g__3h,Bx b9 [(vi 0),vn,vn,vn],Bx q0.2.2.2 [(vi q0.1.1),vn,(q0.2.1).v,(q0.2.2.1).v],E (List Int) q0.1.2.1 q0.2.1,E (List Int) q0.1.2.2 q0.2.2.1]) ?_ ?_
 intro w1 H
 have hX:Ext w1 w1:=Upd.refl _ _
 refine oA (fun _=>fld gok rfl rfl rfl rfl ⟨rfl,rfl⟩) ?_
 refine oA (fun _=>fld gok rfl rfl rfl rfl ⟨rfl,rfl⟩) ?_
 refine gA (H.bx 1 rfl (j:=2) rfl) ?_
 refine gA (H.bx 1 rfl (j:=3) rfl) ?_
 refine both ?_ ?_
 obtain ⟨y0,i0,f2⟩:=aA f0
 refine eA (sI i0) H ⟨Vw.sh 3 rfl,Vw.sh 5 rfl,trivial⟩ ?_
 rintro _ _ w2 ⟨h0,rfl,rfl⟩ hx H
 refine hold_ hX hx fun hX=>?_
 refine both ?_ ?_
 obtain ⟨y1,i1,f3⟩:=aA f2
 refine eA (sI i1) H ⟨Vw.sh 5 rfl,Vw.sh 6 rfl,trivial⟩ ?_
 rintro _ _ w3 ⟨h1,rfl,rfl⟩ hx H
 refine hold_ hX hx fun hX=>?_
 refine oA (fun _=>pB (cs:=#[(vi count_),vn,(h0).v,(h1).v]) gok rfl rfl rfl ⟨rfl,rfl⟩) ?_
 refine vC gok rfl H ?_;intro b0 w4 hx v0 H;replace v0:=Nat.le_trans hX.size v0
 refine hold_ hX hx fun hX=>?_
 refine oC gok [(vi count_),vn,(h0).v,(h1).v] rfl H rfl rfl rfl ?_;intro w6 hu H
 replace hX:=hX.fresh hu v0
 refine hold hX ?_
 exact ⟨((count_,y0,y1),(h0,h1,b0)),r4_,oi_ f3,H.sel [8,4,5,6,7,3,0,2,1] rfl⟩
 refine both ?_ ?_
 obtain ⟨a0,o0,f4⟩:=aA f2
 refine vC gok rfl H ?_;intro b1 w7 hx v1 H;replace v1:=Nat.le_trans hX.size v1
 refine hold_ hX hx fun hX=>?_
 have i2:=o0
 refine eA (sI i2) H ⟨Vw.sh 6 rfl,Vw.sh 7 rfl,trivial⟩ ?_
 rintro _ _ w9 ⟨h2,rfl,rfl⟩ hx H
 refine hold_ hX hx fun hX=>?_
 refine oA (fun _=>pB (cs:=#[(vi count_),vn,(h0).v,(h2).v]) gok rfl rfl rfl ⟨rfl,rfl⟩) ?_
 refine oC gok [(vi count_),vn,(h0).v,(h2).v] rfl (H.sel [1,0,2,3,4,5,6,7,8] rfl) rfl rfl rfl ?_;intro w10 hu H
 replace hX:=hX.fresh hu v1
 refine hold hX ?_
 exact ⟨((count_,y0,a0),(h0,h2,b1)),r4_,oi_ f4,H.sel [8,4,5,6,7,3,0,2,1] rfl⟩
 exact trivial
 refine both ?_ ?_
 obtain ⟨a1,o1,f5⟩:=aA f0
 obtain ⟨a2,o2,f6⟩:=aA f5
 refine vC gok rfl H ?_;intro b2 w11 hx v2 H;replace v2:=Nat.le_trans hX.size v2
 refine hold_ hX hx fun hX=>?_
 have i3:=o1
 refine eA (sI i3) H ⟨Vw.sh 4 rfl,Vw.sh 6 rfl,trivial⟩ ?_
 rintro _ _ w12 ⟨h3,rfl,rfl⟩ hx H
 refine hold_ hX hx fun hX=>?_
 have i4:=o2
 refine eA (sI i4) H ⟨Vw.sh 6 rfl,Vw.sh 7 rfl,trivial⟩ ?_
 rintro _ _ w13 ⟨h4,rfl,rfl⟩ hx H
 refine hold_ hX hx fun hX=>?_
 refine oA (fun _=>pB (cs:=#[(vi count_),vn,(h3).v,(h4).v]) gok rfl rfl rfl ⟨rfl,rfl⟩) ?_
 refine oC gok [(vi count_),vn,(h3).v,(h4).v] rfl (H.sel [2,0,1,3,4,5,6,7,8] rfl) rfl rfl rfl ?_;intro w14 hu H
 replace hX:=hX.fresh hu v2
 refine hold hX ?_
 exact ⟨((count_,a1,a2),(h3,h4,b2)),r4_,oi_ f6,H.sel [8,4,5,6,7,3,0,2,1] rfl⟩
 exact trivial
 rintro T0 ⟨⟨s0_0,s0_1,s0_2⟩,⟨g0_0,g0_1,g0_2⟩⟩ w15 ⟨hr,H⟩;try dsimp only at H
 subst hr
 refine sq ?_
 refine fld gok rfl rfl rfl rfl (bA (H.bx 1 rfl (j:=1) rfl) ?_)
 refine nA (H.rs (α:=List Ty2) 2 rfl).len ?_
 have x0:=(H.rs (α:=List Ty2) 2 rfl).max
 obtain ⟨r1,e,f7⟩:=aA f1
 replace H:=H.nil (α:=Ty2)
 refine nB _ g__1.length (fun (k0:Nat) (s1:List Ty2) (g1:Hd)=>[(2,(to_h).v),(6,(vp b9)),(7,(vp g0_2)),(21,(g__1h).v),(22,(vi ((g__1.length:Nat):Int))),(23,(vi ((k0:Nat):Int)))]) (fun _ (s1:List Ty2) (g1:Hd) w'=>Cx w0 fp0 S0 w' [Es (List Int) to_ to_h,Bx b9 [(vi 0),vn,vn,vn],Bx g0_2 [(vi s0_0),(g1).v,(g0_0).v,(g0_1).v],E (List Ty2) s1 g1,E (List Int) s0_1 g0_0,E (List Int) s0_2 g0_1,Es (List Ty2) g__1 g__1h]) [] nilH e r6_ (H.sel [1,6,7,0,8,9,3] rfl) ?_ ?_
 rintro T1 k0 s1 g1 w16 o3 hk (H:Cx w0 fp0 S0 w16 [Es (List Int) to_ to_h,Bx b9 [(vi 0),vn,vn,vn],Bx g0_2 [(vi s0_0),(g1).v,(g0_0).v,(g0_1).v],E (List Ty2) s1 g1,E (List Int) s0_1 g0_0,E (List Int) s0_2 g0_1,Es (List Ty2) g__1 g__1h]) f8
 refine jA (z:=true) (cB hk) ?_
 refine sq (sq ?_)
 obtain ⟨a3,e,f9⟩:=aA f8
 have HH:=H;obtain ⟨p0,m0,g2,c0,c1,c2,c3,H⟩:=HH.el (α:=Ty2) 6 rfl e
 obtain ⟨a3_0,a3_1,a3_2,a3_3⟩:=a3
 obtain ⟨_,_,h5,h6⟩:=g2
 replace H:=H.part (β:=List Int) a3_2 (h5:Hd) 0 rfl (fun S h=>(And.left (And.right (And.right h))))
 replace H:=H.part (β:=List Int) a3_3 (h6:Hd) 1 rfl (fun S h=>(And.right (And.right (And.right h))))
 replace H:=H.sel [0,1,3,4,5,6,7,8,9] rfl
 refine dA c0 c1 c2 ?_
 refine cA [(vi a3_0),(vi a3_1),(h5).v,(h6).v] rfl c3 ?_
 refine sA gok rfl H ?_;intro b3 w17 hx H
 refine stA gok [(vi a3_0),(vi a3_1),(h5).v,(h6).v] rfl H rfl rfl rfl ?_;intro w18 H
 refine kB H [16,18,17] (.fst 0 (.fst 2 (.fst 4 (.fst 6 (.fst 8 (.fst 10 (.fst 12 (.fst 1 (.fst 3 (.fst 5 (.fst 7 (.fst 11 (.act 9 (.act 13 (.fst 14 (.act 15 (.act 16 (.act 17 (.act 18 .done))))))))))))))))))) bB [] trivial (by kernel_rfl) ?_
 intro w19 H
 have hX:Ext w19 w19:=Upd.refl _ _
 refine oA (fun _=>fld gok rfl rfl rfl rfl ⟨rfl,rfl⟩) ?_
 refine oA (fun _=>fld gok rfl rfl rfl rfl ⟨rfl,rfl⟩) ?_
 refine oA (fun _=>fld gok rfl rfl rfl rfl ⟨rfl,rfl⟩) ?_
 refine oA (fun _=>fld gok rfl rfl rfl rfl ⟨rfl,rfl⟩) ?_
 refine oA (fun _=>fld gok rfl rfl rfl rfl ⟨rfl,rfl⟩) ?_
 refine gA (H.bx 5 rfl (j:=1) rfl) ?_
 refine gA (H.bx 0 rfl (j:=0) rfl) ?_
 refine gA (H.bx 0 rfl (j:=1) rfl) ?_
 refine gA (H.bx 0 rfl (j:=2) rfl) ?_
 refine gA (H.bx 0 rfl (j:=3) rfl) ?_
 obtain ⟨y2,i5,f10⟩:=aA f9
 refine eA (sI i5) H ⟨Vw.sh 2 rfl,Vw.sh 3 rfl,trivial⟩ ?_
 rintro _ _ w20 ⟨h7,rfl,rfl⟩ hx H
 refine hold_ hX hx fun hX=>?_
 obtain ⟨y3,i6,f11⟩:=aA f10
 refine eA (sI i6) H ⟨Vw.sh 2 rfl,Vw.sh 4 rfl,trivial⟩ ?_
 rintro _ _ w21 ⟨h8,rfl,rfl⟩ hx H
 refine hold_ hX hx fun hX=>?_
 refine oA (fun _=>pB (cs:=#[(vi a3_0),(vi a3_1),(h7).v,(h8).v]) gok rfl rfl rfl ⟨rfl,rfl⟩) ?_
 replace H:=H.sel [1,0,2,3,4,5,6,7,8,9,10,11] rfl
 replace H:=H.join (α:=List Int) (β:=List Int)
 replace H:=H.sc (α:=Int) a3_1
 replace H:=H.join (α:=Int) (β:=List Int×List Int)
 replace H:=H.sc (α:=Int) a3_0
 replace H:=H.join (α:=Int) (β:=Int×List Int×List Int)
 refine pC (α:=Ty2) (g:=((),(),h7,h8)) gok rfl rfl rfl rfl rfl H ?_;intro h9 w22 hx H
 refine hold_ hX hx fun hX=>?_
 obtain ⟨a4,e,f12⟩:=aA f11
 refine append_ (α:=Ty2) gok rfl rfl rfl rfl (H.sel [7,0,1,2,3,4,5,6,8,9,10] rfl) e ?_;intro h10 w23 H
 refine hold trivial ?_
 refine fld gok rfl rfl rfl rfl ?_
 refine hold trivial ?_
 replace H:=H.sel [6,0,1,2,3,4,5,7,8,9] rfl
 refine stB (j:=1) H rfl rfl ?_;intro w24 H
 refine hold trivial ?_
 refine arK hk x0 ?_
 obtain rfl:=oi_ f12
 exact ⟨h10,r6_,H.sel [5,6,0,1,7,8,9] rfl⟩
 rintro T2 g3 w25 H;try dsimp only at H
 refine jA (z:=false) dB ?_
 refine sq ?_
 refine cA [(vi s0_0),(g3).v,(g0_0).v,(g0_1).v] rfl (H.bz_ 2 rfl) ?_
 refine stA gok [(vi s0_0),(g3).v,(g0_0).v,(g0_1).v] rfl (H.sel [1,0,2,3,4,5,6] rfl) rfl rfl rfl ?_;intro w26 H
 refine cA [(vi s0_0),(g3).v,(g0_0).v,(g0_1).v] rfl (H.bz_ 0 rfl) ?_
 cases f7
 exact ⟨_,_,rfl,⟨g3,g0_0,g0_1,rfl,rfl⟩,(H.sel [3,4,5] rfl).close ⟨cloE,cloE,cloE,trivial⟩⟩
theorem qQ {first_ n_:Int}{y:List Int} (hF:xN first_ n_=some y) :
  kA Tryz.prog 158 #[(vi first_),(vi n_)] [] [] (fun v Γ'=>∃ z0:Hd,v=(z0).v∧Γ'=[E (List Int) y z0]):=by
 intro w0 S0 fp0 hI hS
 have H:Cx w0 fp0 S0 w0 []:=Cx.start hI hS
 refine iA (args:=[_,_]) gok Tryz.func158 rfl _ rfl rfl rfl ?_
 obtain ⟨y1,ey1,hF2⟩:=aA hF
 refine callF0_ (kM ey1) H trivial ?_
 rintro _ _ w3 ⟨h4,rfl,rfl⟩ H
 refine sq ?_
 refine nA (H.ro (α:=List Int) 0 rfl).len ?_
 have x0:=(H.ro (α:=List Int) 0 rfl).max
 obtain ⟨r0,e,f0⟩:=aA hF2
 refine nB _ y1.length (fun (k6:Nat) (s0:List Int) (_:Unit)=>[(0,(vi first_)),(5,(h4).v),(10,(vi ((y1.length:Nat):Int))),(11,(vi ((k6:Nat):Int)))]) (fun _ (s0:List Int) (_:Unit) w'=>Cx w0 fp0 S0 w' [E (List Int) s0 h4]) y1 () e r4_ (H.sel [0] rfl) ?_ ?_
 rintro T0 k6 s0 _ w1 o0 hk (H:Cx w0 fp0 S0 w1 [E (List Int) s0 h4]) f1
 refine jA (z:=true) (cB hk) ?_
 refine sq (sq ?_)
 obtain ⟨a0,e,f2⟩:=aA f1
 obtain ⟨p0,m0,c0,c1,c2,c3⟩:=(H.ro (α:=List Int) 0 rfl).at1 e
 refine dA c0 c1 c2 ?_
 refine bA c3 ?_
 obtain ⟨a1,e,f3⟩:=aA f2
 refine arO e ?_
 obtain ⟨a2,i0,f4⟩:=aA f3
 obtain ⟨p1,m1,c4,c5,c6⟩:=(H.ro (α:=List Int) 0 rfl).setp i0
 refine dA c4 c5 c6 ?_
 refine wC (α:=Int) H c4 c5 i0 ?_;intro w2 H
 refine arK hk x0 ?_
 obtain rfl:=oi_ f4
 exact ⟨(),r4_,H.sel [0] rfl⟩
 rintro T1 _ w4 H;try dsimp only at H
 refine jA (z:=false) dB ?_
 refine sq ?_
 cases f0
 exact ⟨_,_,rfl,⟨h4,rfl,rfl⟩,(H.sel [0] rfl).close ⟨cloE,trivial⟩⟩
theorem B3_ {g__0:Int}{g__1:List Ty2}{g__1h:Hd}{g__2:List Int}{g__2h:Hd}{g__3:List Int}{g__3h:Hd}{h__0:Int}{h__1:List Ty2}{h__1h:Hd}{h__2:List Int}{h__2h:Hd}{h__3:List Int}{h__3h:Hd}{y_0:Int}{y_1:List Ty2}{y_2 y_3:List Int} (hF:zS (g__0,g__1,g__2,g__3) (h__0,h__1,h__2,h__3)=some (y_0,y_1,y_2,y_3)) :
  kA Tryz.prog 156 #[(.agg #[(vi g__0),(g__1h).v,(g__2h).v,(g__3h).v]),(.agg #[(vi h__0),(h__1h).v,(h__2h).v,(h__3h).v])] [Es (List Ty2) g__1 g__1h,Es (List Int) g__2 g__2h,Es (List Int) g__3 g__3h,Es (List Ty2) h__1 h__1h,Es (List Int) h__2 h__2h,Es (List Int) h__3 h__3h] [] (fun v Γ'=>∃ z0 z1 z2:Hd,v=(.agg #[(vi y_0),(z0).v,(z1).v,(z2).v])∧Γ'=[E (List Ty2) y_1 z0,E (List Int) y_2 z1,E (List Int) y_3 z2]):=by
 intro w0 S0 fp0 hI hS
 have H:=Cx.start hI hS;dsimp at H
 refine iA (args:=[_,_]) gok Tryz.func156 rfl _ rfl rfl rfl ?_
 refine xA H ?_;intro b8 w7 hx H
 refine xA H ?_;intro b0 w1 hx H
 refine sA gok rfl H ?_;intro b1 w2 hx H
 refine fld gok rfl rfl rfl rfl (bA (H.bx 2 rfl (j:=0) rfl) ?_)
 refine fld gok rfl rfl rfl rfl (bA (H.bx 1 rfl (j:=0) rfl) ?_)
 obtain ⟨a0,e,f0⟩:=aA hF
 refine arO e ?_
 refine pB (cs:=#[(vi a0),vn,vn,vn]) gok rfl rfl rfl ?_
 refine sA gok rfl H ?_;intro b2 w3 hx H
 refine stA gok [(vi a0),vn,vn,vn] rfl H rfl rfl rfl ?_;intro w4 H
 obtain ⟨r0,f1,f2⟩:=aA f0
 refine sH H [] (.fst 1 (.fst 3 (.fst 0 (.fst 2 (.fst 4 (.alts (.alt 5 (.alts (.alt 6 (.act 7 (.act 8 .done)) (.alt 7 (.act 6 (.act 8 .done)) .no))) (.alt 7 (.act 5 (.act 6 (.act 8 .done))) .no)))))))) bB [] trivial (by kernel_rfl) (fun (q0:Ty0×(Hd×Hd×Hd×Nat))=>[(2,(vp b8)),(3,(vp b0)),(4,(vp b1)),(5,(vp b2)),(6,(vp q0.2.2.2.2))]) (fun (q0:Ty0×(Hd×Hd×Hd×Nat)) w'=>(q0.1.1,q0.1.2.1,q0.1.2.2.1,q0.1.2.2.2)=r0∧Cx w0 fp0 S0 w' [Bx b8 [(vi g__0),(g__1h).v,(g__2h).v,(g__3h).v],Es (List Ty2) g__1 g__1h,Es (List Int) g__2 g__2h,Es (List Int) g__3 g__3h,Bx b0 [(vi h__0),(h__1h).v,(h__2h).v,(h__3h).v],Es (List Ty2) h__1 h__1h,Es (List Int) h__2 h__2h,Es (List Int) h__3 h__3h,Bx b1 [(vi 0),vn,vn,vn],Bx b2 [(vi a0),vn,vn,vn],Bx q0.2.2.2.2 [(vi q0.1.1),(q0.2.1).v,(q0.2.2.1).v,(q0.2.2.2.1).v],E (List Ty2) q0.1.2.1 q0.2.1,E (List Int) q0.1.2.2.1 q0.2.2.1,E (List Int) q0.1.2.2.2 q0.2.2.2.1]) ?_ ?_
 intro w5 H
 have hX:Ext w5 w5:=Upd.refl _ _
 refine oA (fun _=>fld gok rfl rfl rfl rfl ⟨rfl,rfl⟩) ?_
 refine oA (fun _=>fld gok rfl rfl rfl rfl ⟨rfl,rfl⟩) ?_
 refine sC [(vi g__0),(g__1h).v,(g__2h).v,(g__3h).v] rfl (H.bz_ 3 rfl) ?_
 refine gA (H.bx 3 rfl (j:=0) rfl) ?_
 refine gA (H.bx 3 rfl (j:=0) rfl) ?_
 refine both ?_ ?_
 obtain ⟨y0,i0,f3⟩:=aA f1
 refine eA (kM i0) H trivial ?_
 rintro _ _ w6 ⟨h0,rfl,rfl⟩ hx H
 refine hold_ hX hx fun hX=>?_
 refine both ?_ ?_
 obtain ⟨⟨y1_0,y1_1,y1_2,y1_3⟩,i1,f4⟩:=aA f3
 refine eA (aM i1) H ⟨Vw.sh 5 rfl,Vw.sh 6 rfl,Vw.sh 7 rfl,Vw.own 0 rfl,trivial⟩ ?_
 rintro _ _ w8 ⟨h1,h2,h3,rfl,rfl⟩ hx H
 refine hold_ hX hx fun hX=>?_
 refine vC gok rfl H ?_;intro b3 w9 hx v0 H;replace v0:=Nat.le_trans hX.size v0
 refine hold_ hX hx fun hX=>?_
 refine oC gok [(vi y1_0),(h1).v,(h2).v,(h3).v] rfl H rfl rfl rfl ?_;intro w11 hu H
 replace hX:=hX.fresh hu v0
 refine hold hX ?_
 exact ⟨((y1_0,y1_1,y1_2,y1_3),(h1,h2,h3,b3)),r5_,oi_ f4,H.sel [8,9,10,11,7,12,13,14,6,5,0,1,2,3] rfl⟩
 refine both ?_ ?_
 obtain ⟨a1,o0,f5⟩:=aA f3
 refine vC gok rfl H ?_;intro b4 w12 hx v1 H;replace v1:=Nat.le_trans hX.size v1
 refine hold_ hX hx fun hX=>?_
 have e:=o0
 obtain ⟨a1_0,a1_1,a1_2,a1_3⟩:=a1
 have i2:=e
 refine eA (aM i2) H ⟨Vw.sh 6 rfl,Vw.sh 7 rfl,Vw.sh 8 rfl,Vw.own 1 rfl,trivial⟩ ?_
 rintro _ _ w14 ⟨h4,h5,h6,rfl,rfl⟩ hx H
 refine hold_ hX hx fun hX=>?_
 refine oC gok [(vi a1_0),(h4).v,(h5).v,(h6).v] rfl (H.sel [3,0,1,2,4,5,6,7,8,9,10,11,12,13,14] rfl) rfl rfl rfl ?_;intro w15 hu H
 replace hX:=hX.fresh hu v1
 refine hold hX ?_
 exact ⟨((a1_0,a1_1,a1_2,a1_3),(h4,h5,h6,b4)),r5_,oi_ f5,H.sel [8,9,10,11,7,12,13,14,6,5,0,1,2,3] rfl⟩
 exact trivial
 refine both ?_ ?_
 obtain ⟨a2,o1,f6⟩:=aA f1
 obtain ⟨a3,o2,f7⟩:=aA f6
 refine vC gok rfl H ?_;intro b5 w16 hx v2 H;replace v2:=Nat.le_trans hX.size v2
 refine hold_ hX hx fun hX=>?_
 have i3:=o1
 refine eA (kM i3) H trivial ?_
 rintro _ _ w17 ⟨h7,rfl,rfl⟩ hx H
 refine hold_ hX hx fun hX=>?_
 have e:=o2
 obtain ⟨a3_0,a3_1,a3_2,a3_3⟩:=a3
 have i4:=e
 refine eA (aM i4) H ⟨Vw.sh 6 rfl,Vw.sh 7 rfl,Vw.sh 8 rfl,Vw.own 0 rfl,trivial⟩ ?_
 rintro _ _ w19 ⟨h8,h9,h10,rfl,rfl⟩ hx H
 refine hold_ hX hx fun hX=>?_
 refine oC gok [(vi a3_0),(h8).v,(h9).v,(h10).v] rfl (H.sel [4,0,1,2,3,5,6,7,8,9,10,11,12,13,14] rfl) rfl rfl rfl ?_;intro w20 hu H
 replace hX:=hX.fresh hu v2
 refine hold hX ?_
 exact ⟨((a3_0,a3_1,a3_2,a3_3),(h8,h9,h10,b5)),r5_,oi_ f7,H.sel [8,9,10,11,7,12,13,14,6,5,0,1,2,3] rfl⟩
 exact trivial
 rintro T0 ⟨⟨s0_0,s0_1,s0_2,s0_3⟩,⟨g0_0,g0_1,g0_2,g0_3⟩⟩ w22 ⟨hr,H⟩;try dsimp only at H
 subst hr
 obtain ⟨r1,f8,f9⟩:=aA f2
 refine sH H [] (.fst 1 (.fst 3 (.fst 5 (.fst 0 (.fst 2 (.fst 4 (.fst 6 (.alts (.alt 7 (.alts (.alt 8 (.act 9 (.act 10 .done)) (.alt 9 (.act 8 (.act 10 .done)) .no))) (.alt 9 (.act 7 (.act 8 (.act 10 .done))) .no)))))))))) bB [] trivial (by kernel_rfl) (fun (q1:Ty0×(Hd×Hd×Hd×Nat))=>[(4,(vp b1)),(5,(vp b2)),(6,(vp g0_3)),(7,(vp q1.2.2.2.2))]) (fun (q1:Ty0×(Hd×Hd×Hd×Nat)) w'=>(q1.1.1,q1.1.2.1,q1.1.2.2.1,q1.1.2.2.2)=r1∧Cx w0 fp0 S0 w' [Bx b1 [(vi 0),vn,vn,vn],Bx b2 [(vi a0),vn,vn,vn],Bx g0_3 [(vi s0_0),(g0_0).v,(g0_1).v,(g0_2).v],E (List Ty2) s0_1 g0_0,E (List Int) s0_2 g0_1,E (List Int) s0_3 g0_2,Bx q1.2.2.2.2 [(vi q1.1.1),(q1.2.1).v,(q1.2.2.1).v,(q1.2.2.2.1).v],E (List Ty2) q1.1.2.1 q1.2.1,E (List Int) q1.1.2.2.1 q1.2.2.1,E (List Int) q1.1.2.2.2 q1.2.2.2.1]) ?_ ?_
 intro w23 H
 have hX:Ext w23 w23:=Upd.refl _ _
 refine oA (fun _=>fld gok rfl rfl rfl rfl ⟨rfl,rfl⟩) ?_
 refine oA (fun _=>fld gok rfl rfl rfl rfl ⟨rfl,rfl⟩) ?_
 refine oA (fun _=>fld gok rfl rfl rfl rfl ⟨rfl,rfl⟩) ?_
 refine sC [(vi h__0),(h__1h).v,(h__2h).v,(h__3h).v] rfl (H.bz_ 4 rfl) ?_
 refine gA (H.bx 4 rfl (j:=0) rfl) ?_
 refine gA (H.bx 0 rfl (j:=0) rfl) ?_
 refine gA (H.bx 4 rfl (j:=0) rfl) ?_
 refine both ?_ ?_
 obtain ⟨y2,i5,f10⟩:=aA f8
 refine eA (qQ i5) H trivial ?_
 rintro _ _ w24 ⟨h11,rfl,rfl⟩ hx H
 refine hold_ hX hx fun hX=>?_
 refine both ?_ ?_
 obtain ⟨⟨y3_0,y3_1,y3_2,y3_3⟩,i6,f11⟩:=aA f10
 refine eA (aM i6) H ⟨Vw.sh 6 rfl,Vw.sh 7 rfl,Vw.sh 8 rfl,Vw.own 0 rfl,trivial⟩ ?_
 rintro _ _ w25 ⟨h12,h13,h14,rfl,rfl⟩ hx H
 refine hold_ hX hx fun hX=>?_
 refine vC gok rfl H ?_;intro b6 w26 hx v3 H;replace v3:=Nat.le_trans hX.size v3
 refine hold_ hX hx fun hX=>?_
 refine oC gok [(vi y3_0),(h12).v,(h13).v,(h14).v] rfl H rfl rfl rfl ?_;intro w27 hu H
 replace hX:=hX.fresh hu v3
 refine hold hX ?_
 exact ⟨((y3_0,y3_1,y3_2,y3_3),(h12,h13,h14,b6)),r4_,oi_ f11,H.sel [13,14,15,16,17,18,0,1,2,3] rfl⟩
 refine both ?_ ?_
 obtain ⟨a4,o3,f12⟩:=aA f10
 refine vC gok rfl H ?_;intro b7 w28 hx v4 H;replace v4:=Nat.le_trans hX.size v4
 refine hold_ hX hx fun hX=>?_
 have e:=o3
 obtain ⟨a4_0,a4_1,a4_2,a4_3⟩:=a4
 have i7:=e
 refine eA (aM i7) H ⟨Vw.sh 7 rfl,Vw.sh 8 rfl,Vw.sh 9 rfl,Vw.own 1 rfl,trivial⟩ ?_
 rintro _ _ w29 ⟨h15,h16,h17,rfl,rfl⟩ hx H
 refine hold_ hX hx fun hX=>?_
 refine oC gok [(vi a4_0),(h15).v,(h16).v,(h17).v] rfl (H.sel [3,0,1,2,4,5,6,7,8,9,10,11,12,13,14,15,16,17,18] rfl) rfl rfl rfl ?_;intro w30 hu H
 replace hX:=hX.fresh hu v4
 refine hold hX ?_
 exact ⟨((a4_0,a4_1,a4_2,a4_3),(h15,h16,h17,b7)),r4_,oi_ f12,H.sel [13,14,15,16,17,18,0,1,2,3] rfl⟩
 exact trivial
 refine both ?_ ?_
 obtain ⟨a5,o4,f13⟩:=aA f8
 obtain ⟨a6,o5,f14⟩:=aA f13
 refine vC gok rfl H ?_;intro b9 w31 hx v5 H;replace v5:=Nat.le_trans hX.size v5
 refine hold_ hX hx fun hX=>?_
 have i8:=o4
 refine eA (qQ i8) H trivial ?_
 rintro _ _ w32 ⟨h18,rfl,rfl⟩ hx H
 refine hold_ hX hx fun hX=>?_
 have e:=o5
 obtain ⟨a6_0,a6_1,a6_2,a6_3⟩:=a6
 have i9:=e
 refine eA (aM i9) H ⟨Vw.sh 7 rfl,Vw.sh 8 rfl,Vw.sh 9 rfl,Vw.own 0 rfl,trivial⟩ ?_
 rintro _ _ w33 ⟨h19,h20,h21,rfl,rfl⟩ hx H
 refine hold_ hX hx fun hX=>?_
 refine oC gok [(vi a6_0),(h19).v,(h20).v,(h21).v] rfl (H.sel [4,0,1,2,3,5,6,7,8,9,10,11,12,13,14,15,16,17,18] rfl) rfl rfl rfl ?_;intro w34 hu H
 replace hX:=hX.fresh hu v5
 refine hold hX ?_
 exact ⟨((a6_0,a6_1,a6_2,a6_3),(h19,h20,h21,b9)),r4_,oi_ f14,H.sel [13,14,15,16,17,18,0,1,2,3] rfl⟩
 exact trivial
 rintro T1 ⟨⟨s1_0,s1_1,s1_2,s1_3⟩,⟨g1_0,g1_1,g1_2,g1_3⟩⟩ w35 ⟨hr,H⟩;try dsimp only at H
 subst hr
 refine fld gok rfl rfl rfl rfl (bA (H.bx 2 rfl (j:=1) rfl) ?_)
 refine fld gok rfl rfl rfl rfl (bA (H.bx 6 rfl (j:=1) rfl) ?_)
 obtain ⟨a7,e,f15⟩:=aA f9
 refine append_ (α:=Ty2) gok rfl rfl rfl rfl (H.sel [3,7,0,1,2,4,5,6,8,9] rfl) e ?_;intro h22 w36 H
 refine fld gok rfl rfl rfl rfl ?_
 replace H:=H.sel [2,0,1,3,4,5,6,7,8] rfl
 refine stB (j:=1) H rfl rfl ?_;intro w37 H
 refine cA [(vi a0),(h22).v,vn,vn] rfl (H.bz_ 0 rfl) ?_
 refine stA gok [(vi a0),(h22).v,vn,vn] rfl (H.sel [2,0,1,3,4,5,6,7,8] rfl) rfl rfl rfl ?_;intro w38 H
 refine cA [(vi a0),(h22).v,vn,vn] rfl (H.bz_ 0 rfl) ?_
 replace H:=H.nil (α:=Int)
 replace H:=H.nil (α:=Int)
 cases f15
 exact ⟨_,_,rfl,⟨h22,nilH,nilH,rfl,rfl⟩,(H.sel [4,1,0] rfl).close ⟨cloE,cloE,cloE,trivial⟩⟩
theorem kH {list_:List Int}{list_h:Hd}{y:List Int} (hF:xG list_=some y) :
  kA Tryz.prog 39 #[(list_h).v] [Es (List Int) list_ list_h] [] (fun v Γ'=>∃ z0:Hd,v=(z0).v∧Γ'=[E (List Int) y z0]):=by
 intro w0 S0 fp0 hI hS
 have H:=Cx.start hI hS;dsimp at H
 refine iA (args:=[_]) gok Tryz.func39 rfl _ rfl rfl rfl ?_
 refine wF (α:=Int) gok rfl rfl H ?_;intro h3 w2 hx H
 obtain ⟨a5,e,hF6⟩:=aA hF
 refine xM (α:=Int) gok rfl rfl rfl rfl H (Vw.sh 0 rfl) e ?_;intro h8 w7 H
 cases hF6
 exact ⟨_,_,rfl,⟨h8,rfl,rfl⟩,(H.sel [0] rfl).close ⟨cloE,trivial⟩⟩
theorem wS {c_:List Int}{c_h:Hd}{w_ y:Int} (hF:sK c_ w_=some y) :
  kA Tryz.prog 176 #[(c_h).v,(vi w_)] [Es (List Int) c_ c_h] [] (fun v Γ'=>v=(vi y)∧Γ'=[]):=by
 intro w0 S0 fp0 hI hS
 have H:Cx w0 fp0 S0 w0 [Es (List Int) c_ c_h]:=Cx.start hI hS
 refine iA (args:=[_,_]) gok Tryz.func176 rfl _ rfl rfl rfl ?_
 obtain ⟨r0,f0,f1⟩:=aA hF
 refine cut (fun (q0:Int)=>[(1,(vi q0))]) (fun (q0:Int) w'=>q0=r0∧Cx w0 fp0 S0 w' []) ?_ ?_
 refine oE _ (fun (s0:Int) (_:Unit)=>[(0,(c_h).v),(1,(vi s0))]) (fun (s0:Int) (_:Unit) w'=>Cx w0 fp0 S0 w' [Es (List Int) c_ c_h]) w_ () f0 ⟨rfl,rfl,trivial⟩ (H.sel [0] rfl) ?_
 rintro T0 s0 _ w1 o0 (H:Cx w0 fp0 S0 w1 [Es (List Int) c_ c_h]) hrt f2
 refine sq ?_
 obtain ⟨a0,e,f3⟩:=aA f2
 obtain ⟨p0,m0,c0,c1,c2,c3⟩:=(H.rs (α:=List Int) 0 rfl).at1 e
 refine dA c0 c1 c2 ?_
 refine bA c3 ?_
 refine boolB_ f3 (fun f5=>?_) fun f7=>?_
 obtain rfl:=oi_ f5
 have f6:some _=some _:=congrArg some (hrt _ rfl).symm
 exact ⟨s0,⟨rfl,trivial⟩,oi_ f6,H.sel [] rfl⟩
 obtain ⟨a2,e,f8⟩:=aA f7
 obtain ⟨p1,m1,c4,c5,c6,c7⟩:=(H.rs (α:=List Int) 0 rfl).at1 e
 refine dA c4 c5 c6 ?_
 refine bA c7 ?_
 obtain rfl:=oi_ f8
 exact ⟨a2,(),rfl,⟨rfl,rfl,trivial⟩,H.sel [0] rfl⟩
 rintro T1 s1 w2 ⟨hr,H⟩;try dsimp only at H
 subst hr
 cases f1
 exact ⟨_,_,rfl,⟨rfl,rfl⟩,(H.sel [] rfl).close trivial⟩
theorem FG_ {c_:List Int}{c_h:Hd}{v_ w_:Int}{y:List Int} (hF:yS c_ v_ w_=some y) :
  kA Tryz.prog 174 #[(c_h).v,(vi v_),(vi w_)] [] [E (List Int) c_ c_h] (fun v Γ'=>v=(.tuple #[])∧Γ'=[E (List Int) y c_h]):=by
 intro w0 S0 fp0 hI hS
 have H:Cx w0 fp0 S0 w0 [E (List Int) c_ c_h]:=Cx.start hI hS
 refine iA (args:=[_,_,_]) gok Tryz.func174 rfl _ rfl rfl rfl ?_
 obtain ⟨y2,ey2,hF3⟩:=aA hF
 refine callF0_ (wS ey2) H ⟨Vw.own 0 rfl,trivial⟩ ?_
 rintro _ _ w4 ⟨rfl,rfl⟩ H
 obtain ⟨y5,ey5,hF6⟩:=aA hF3
 refine callF0_ (wS ey5) H ⟨Vw.own 0 rfl,trivial⟩ ?_
 rintro _ _ w7 ⟨rfl,rfl⟩ H
 obtain ⟨a8,e,hF9⟩:=aA hF6
 refine max_ e ?_
 obtain ⟨a0,e,f0⟩:=aA hF9
 refine min_ e ?_
 obtain ⟨a1,i0,f1⟩:=aA f0
 obtain ⟨p0,m0,c0,c1,c2⟩:=(H.ro (α:=List Int) 0 rfl).setp i0
 refine dA c0 c1 c2 ?_
 refine wC (α:=Int) H c0 c1 i0 ?_;intro w1 H
 cases f1
 exact ⟨_,_,rfl,⟨rfl,rfl⟩,(H.sel [0] rfl).close ⟨cloE,trivial⟩⟩
theorem xS {list_:List Int}{list_h:Hd}{c0_b:Nat}{c0_:List Bool}{c0_h:Hd}{c1_b:Nat}{c1_:List Int}{c1_h:Hd}{y:List Bool} (hF:tK list_ c0_ c1_=some y) :
  kA Tryz.prog 175 #[(list_h).v,(vp c0_b),(vp c1_b)] [Es (List Int) list_ list_h,Es (List Int) c1_ c1_h] [Bx c0_b [(c0_h).v],E (List Bool) c0_ c0_h,Bx c1_b [(c1_h).v]] (fun v Γ'=>v=(.tuple #[])∧Γ'=[Bx c0_b [(c0_h).v],E (List Bool) y c0_h,Bx c1_b [(c1_h).v]]):=by
 intro w0 S0 fp0 hI hS
 have H:=Cx.start hI hS;dsimp at H
 refine iA (args:=[_,_,_]) gok Tryz.func175 rfl _ rfl rfl rfl ?_
 refine nA (H.rs (α:=List Int) 0 rfl).len ?_
 have x0:=(H.rs (α:=List Int) 0 rfl).max
 obtain ⟨r0,e,f0⟩:=aA hF
 refine nB _ list_.length (fun (k6:Nat) (s0:List Bool) (_:Unit)=>[(1,(vp c0_b)),(2,(vp c1_b)),(6,(list_h).v),(7,(vi ((list_.length:Nat):Int))),(8,(vi ((k6:Nat):Int)))]) (fun _ (s0:List Bool) (_:Unit) w'=>Cx w0 fp0 S0 w' [Bx c0_b [(c0_h).v],E (List Bool) s0 c0_h,Bx c1_b [(c1_h).v],Es (List Int) c1_ c1_h,Es (List Int) list_ list_h]) c0_ () e r5_ (H.sel [2,3,4,1,0] rfl) ?_ ?_
 rintro T0 k6 s0 _ w1 o0 hk (H:Cx w0 fp0 S0 w1 [Bx c0_b [(c0_h).v],E (List Bool) s0 c0_h,Bx c1_b [(c1_h).v],Es (List Int) c1_ c1_h,Es (List Int) list_ list_h]) f1
 refine jA (z:=true) (cB hk) ?_
 refine sq (sq ?_)
 obtain ⟨a0,e,f2⟩:=aA f1
 obtain ⟨p0,m0,c0,c1,c2,c3⟩:=(H.rs (α:=List Int) 4 rfl).at1 e
 refine dA c0 c1 c2 ?_
 refine bA c3 ?_
 refine kB H [5] (.fst 2 (.fst 0 (.fst 1 (.act 3 (.fst 4 (.act 5 .done)))))) bB [] trivial (by kernel_rfl) ?_
 intro w2 H
 have hX:Ext w2 w2:=Upd.refl _ _
 refine gA (H.bx0 0 rfl) ?_
 refine gA (H.bx0 2 rfl) ?_
 obtain ⟨y0,i0,f3⟩:=aA f2
 refine eA (wS i0) H ⟨Vw.sh 3 rfl,trivial⟩ ?_
 rintro _ _ w3 ⟨rfl,rfl⟩ hx H
 refine hold_ hX hx fun hX=>?_
 obtain ⟨a1,i1,f4⟩:=aA f3
 obtain ⟨p1,m1,c4,c5,c6⟩:=(H.ro (α:=List Bool) 1 rfl).setp i1
 refine dA c4 c5 c6 ?_
 replace H:=H.sel [1,0,2,3,4] rfl
 refine wC (α:=Bool) H c4 c5 i1 ?_;intro w4 H
 refine hold trivial ?_
 refine arK hk x0 ?_
 obtain rfl:=oi_ f4
 exact ⟨(),r5_,H.sel [1,0,2,3,4] rfl⟩
 rintro T1 _ w5 H;try dsimp only at H
 refine jA (z:=false) dB ?_
 refine sq ?_
 cases f0
 exact ⟨_,_,rfl,⟨rfl,rfl⟩,(H.sel [0,1,2] rfl).close ⟨cloB,cloE,cloB,trivial⟩⟩
end Go.Proofs.YtlggnmkelgplnaaGreatDoor
