/-
 Contracts, printed by a program (wip/y/gen.py): each function of Go computes its partial function. Condition of each: its partial function yields a value.
-/
import Derived.Test.YtlggnmkelgplnaaGreatDoorZCall
namespace Go.Proofs.YtlggnmkelgplnaaGreatDoor
open Go Go.Proofs.YtlggnmkelgplnaaGreatDoor.RW
set_option maxRecDepth 100000
set_option maxHeartbeats 2000000
set_option linter.unusedVariables false
theorem GA_ {g__0:Int}{g__1:List Ty2}{g__1h:Hd}{g__2:List Int}{g__2h:Hd}{g__3:List Int}{g__3h:Hd}{a_:List Int}{a_h:Hd}{b_:List Int}{b_h:Hd}{y_0:Int}{y_1:List Ty2}{y_2 y_3:List Int} (hF:CF_ (g__0,g__1,g__2,g__3) a_ b_=some (y_0,y_1,y_2,y_3)) :
  kA Tryz.prog 170 #[(.agg #[(vi g__0),(g__1h).v,(g__2h).v,(g__3h).v]),(a_h).v,(b_h).v] [Es (List Ty2) g__1 g__1h,Es (List Int) g__2 g__2h,Es (List Int) g__3 g__3h,Es (List Int) a_ a_h,Es (List Int) b_ b_h] [] (fun v Γ'=>∃ z0 z1 z2:Hd,v=(.agg #[(vi y_0),(z0).v,(z1).v,(z2).v])∧Γ'=[E (List Ty2) y_1 z0,E (List Int) y_2 z1,E (List Int) y_3 z2]):=by
 intro w0 S0 fp0 hI hS
 have H:=Cx.start hI hS;dsimp at H
 refine iA (args:=[_,_,_]) gok Tryz.func170 rfl _ rfl rfl rfl ?_
 refine xA H ?_;intro b7 w6 hx H
 refine sA gok rfl H ?_;intro b0 w9 hx H
 refine cA [(vi g__0),(g__1h).v,(g__2h).v,(g__3h).v] rfl (H.bz_ 1 rfl) ?_
 obtain ⟨y0,e,f0⟩:=aA hF
 obtain ⟨⟨y0_0_0,y0_0_1,y0_0_2,y0_0_3⟩,y0_1⟩:=y0
 have i0:=e
 refine callF0_ (Gf_ i0) H ⟨Vw.sh 2 rfl,Vw.sh 3 rfl,Vw.sh 4 rfl,Vw.sh 5 rfl,Vw.sh 6 rfl,trivial⟩ ?_
 rintro _ _ w1 ⟨h0,h1,h2,h3,rfl,rfl⟩ H
 refine sA gok rfl H ?_;intro b1 w2 hx H
 refine stA gok [(vi y0_0_0),(h0).v,(h1).v,(h2).v] rfl H rfl rfl rfl ?_;intro w3 H
 refine cA [(vi y0_0_0),(h0).v,(h1).v,(h2).v] rfl (H.bz_ 0 rfl) ?_
 refine stA gok [(vi y0_0_0),(h0).v,(h1).v,(h2).v] rfl (H.sel [5,0,1,2,3,4,6,7,8,9,10,11] rfl) rfl rfl rfl ?_;intro w4 H
 refine cA [(vi y0_0_0),(h0).v,(h1).v,(h2).v] rfl (H.bz_ 0 rfl) ?_
 cases f0
 exact ⟨_,_,rfl,⟨h0,h1,h2,rfl,rfl⟩,(H.sel [2,3,4] rfl).close ⟨cloE,cloE,cloE,trivial⟩⟩
theorem G0_ {a__0:Int}{a__1:List Ty2}{a__1h:Hd}{a__2:List Int}{a__2h:Hd}{a__3:List Int}{a__3h:Hd}{b__0:Int}{b__1:List Ty2}{b__1h:Hd}{b__2:List Int}{b__2h:Hd}{b__3:List Int}{b__3h:Hd}{y_0:Int}{y_1:List Ty2}{y_2 y_3:List Int} (hF:oU (a__0,a__1,a__2,a__3) (b__0,b__1,b__2,b__3)=some (y_0,y_1,y_2,y_3)) :
  kA Tryz.prog 150 #[(.agg #[(vi a__0),(a__1h).v,(a__2h).v,(a__3h).v]),(.agg #[(vi b__0),(b__1h).v,(b__2h).v,(b__3h).v])] [Es (List Ty2) a__1 a__1h,Es (List Int) a__2 a__2h,Es (List Int) a__3 a__3h,Es (List Ty2) b__1 b__1h,Es (List Int) b__2 b__2h,Es (List Int) b__3 b__3h] [] (fun v Γ'=>∃ z0 z1 z2:Hd,v=(.agg #[(vi y_0),(z0).v,(z1).v,(z2).v])∧Γ'=[E (List Ty2) y_1 z0,E (List Int) y_2 z1,E (List Int) y_3 z2]):=by
 intro w0 S0 fp0 hI hS
 have H:=Cx.start hI hS;dsimp at H
 refine iA (args:=[_,_]) gok Tryz.func150 rfl _ rfl rfl rfl ?_
 refine xA H ?_;intro b8 w7 hx H
 refine xA H ?_;intro b0 w1 hx H
 refine sA gok rfl H ?_;intro b1 w2 hx H
 refine cA [(vi a__0),(a__1h).v,(a__2h).v,(a__3h).v] rfl (H.bz_ 2 rfl) ?_
 refine cA [(vi b__0),(b__1h).v,(b__2h).v,(b__3h).v] rfl (H.bz_ 1 rfl) ?_
 obtain ⟨⟨y0_0,y0_1,y0_2,y0_3⟩,i0,f0⟩:=aA hF
 refine callF0_ (Ce_ i0) H ⟨Vw.sh 3 rfl,Vw.sh 4 rfl,Vw.sh 5 rfl,Vw.sh 6 rfl,Vw.sh 7 rfl,Vw.sh 8 rfl,trivial⟩ ?_
 rintro _ _ w3 ⟨h0,h1,h2,rfl,rfl⟩ H
 refine sA gok rfl H ?_;intro b2 w4 hx H
 refine stA gok [(vi y0_0),(h0).v,(h1).v,(h2).v] rfl H rfl rfl rfl ?_;intro w5 H
 refine kB H [] (.fst 0 (.fst 3 (.fst 1 (.fst 2 (.fst 6 (.fst 4 (.fst 5 (.fst 7 .done)))))))) bB [] trivial (by kernel_rfl) ?_
 intro w6 H
 have hX:Ext w6 w6:=Upd.refl _ _
 refine oA (fun _=>fld gok rfl rfl rfl rfl ⟨rfl,rfl⟩) ?_
 refine oA (fun _=>fld gok rfl rfl rfl rfl ⟨rfl,rfl⟩) ?_
 refine gA (H.bx 6 rfl (j:=2) rfl) ?_
 refine nA (H.rs (α:=List Int) 8 rfl).len ?_
 refine gA (H.bx 6 rfl (j:=3) rfl) ?_
 refine nA (H.rs (α:=List Int) 9 rfl).len ?_
 refine kB H [] (.fst 0 (.fst 2 (.fst 5 (.fst 7 (.fst 1 (.fst 3 (.fst 6 (.fst 8 (.act 4 (.act 9 (.fst 10 (.fst 11 .done)))))))))))) bB [] trivial (by kernel_rfl) ?_
 intro w8 H
 have hX:Ext w8 w8:=Upd.refl _ _
 refine oA (fun _=>fld gok rfl rfl rfl rfl ⟨rfl,rfl⟩) ?_
 refine oA (fun _=>fld gok rfl rfl rfl rfl ⟨rfl,rfl⟩) ?_
 refine gA (H.bx 0 rfl (j:=3) rfl) ?_
 obtain ⟨a0,e,f1⟩:=aA f0
 replace H:=H.sel [3,0,1,2,4,5,6,7,8,9,10,11,12] rfl
 replace H:=H.frz
 refine tH (α:=Int) gok rfl rfl H 0 rfl e rfl rfl ?_;intro h3 HH;have H:=HH
 refine gA (H.bx 2 rfl (j:=2) rfl) ?_
 obtain ⟨a1,e,f2⟩:=aA f1
 replace H:=H.sel [4,0,1,2,3,5,6,7,8,9,10,11,12,13] rfl
 replace H:=H.frz
 refine tH (α:=Int) (hi:=none) gok rfl rfl H 0 rfl e rfl (congrArg (fun n:Nat=>some (n:Int)) (H.rs (α:=List Int) 0 rfl).len) ?_;intro h4 HH;have H:=HH
 obtain ⟨y1,i1,f3⟩:=aA f2
 refine eA (gM i1) H ⟨Vw.sh 2 rfl,trivial⟩ ?_
 rintro _ _ w9 ⟨h5,rfl,rfl⟩ hx H
 refine hold_ hX hx fun hX=>?_
 obtain ⟨y2,i2,f4⟩:=aA f3
 refine eA (gM i2) H ⟨Vw.sh 1 rfl,trivial⟩ ?_
 rintro _ _ w11 ⟨h6,rfl,rfl⟩ hx H
 refine hold_ hX hx fun hX=>?_
 refine fld gok rfl rfl rfl rfl (bA (H.bx 6 rfl (j:=2) rfl) ?_)
 obtain ⟨a2,e,f5⟩:=aA f4
 refine slS (α:=Int) gok rfl rfl H 3 rfl e rfl rfl ?_;intro h7 H
 refine fld gok rfl rfl rfl rfl ?_
 replace H:=H.sel [7,0,1,2,3,4,5,6,8,9,10,11,12,13,14,15,16,17] rfl
 refine stB (j:=2) H rfl rfl ?_;intro w12 H
 refine fld gok rfl rfl rfl rfl (bA (H.bx 0 rfl (j:=3) rfl) ?_)
 obtain ⟨a3,e,f6⟩:=aA f5
 refine slS (α:=Int) (hi:=none) gok rfl rfl H 7 rfl e rfl (congrArg (fun n:Nat=>some (n:Int)) (H.rs (α:=List Int) 7 rfl).len) ?_;intro h8 H
 refine fld gok rfl rfl rfl rfl ?_
 replace H:=H.sel [1,0,2,3,4,5,6,7,8,9,10,11,12,13,14,15,16,17,18] rfl
 refine stB (j:=3) H rfl rfl ?_;intro w14 H
 refine cA [(vi y0_0),(h0).v,(h7).v,(h8).v] rfl (H.bz_ 0 rfl) ?_
 obtain ⟨⟨y3_0,y3_1,y3_2,y3_3⟩,i3,f7⟩:=aA f6
 refine callF0_ (GA_ i3) H ⟨Vw.own 9 rfl,Vw.sh 2 rfl,Vw.sh 1 rfl,Vw.own 4 rfl,Vw.own 3 rfl,trivial⟩ ?_
 rintro _ _ w15 ⟨h9,h10,h11,rfl,rfl⟩ H
 refine stA gok [(vi y3_0),(h9).v,(h10).v,(h11).v] rfl (H.sel [13,0,1,2,3,4,5,6,7,8,9,10,11,12,14,15,16,17,18,19,20,21] rfl) rfl rfl rfl ?_;intro w16 H
 refine cA [(vi y3_0),(h9).v,(h10).v,(h11).v] rfl (H.bz_ 0 rfl) ?_
 cases f7
 exact ⟨_,_,rfl,⟨h9,h10,h11,rfl,rfl⟩,(H.sel [1,2,3] rfl).close ⟨cloE,cloE,cloE,trivial⟩⟩
theorem hU {l_:List Int}{l_h:Hd}{lo_ hi_:Int}{y:Bool} (hF:yK l_ lo_ hi_=some y) :
  kA Tryz.prog 177 #[(l_h).v,(vi lo_),(vi hi_)] [Es (List Int) l_ l_h] [] (fun v Γ'=>v=(.bool y)∧Γ'=[]):=by
 intro w0 S0 fp0 hI hS
 have H:Cx w0 fp0 S0 w0 [Es (List Int) l_ l_h]:=Cx.start hI hS
 refine iA (args:=[_,_,_]) gok Tryz.func177 rfl _ rfl rfl rfl ?_
 refine sq ?_
 refine nA (H.rs (α:=List Int) 0 rfl).len ?_
 have x0:=(H.rs (α:=List Int) 0 rfl).max
 obtain ⟨r0,e,f0⟩:=aA hF
 refine iE _ l_.length (fun (k2:Nat) (_:Unit) (_:Unit)=>[(1,(vi lo_)),(2,(vi hi_)),(9,(l_h).v),(10,(vi ((l_.length:Nat):Int))),(11,(vi ((k2:Nat):Int)))]) (fun _ (_:Unit) (_:Unit) w'=>Cx w0 fp0 S0 w' [Es (List Int) l_ l_h]) () () e r5_ (H.sel [0] rfl) ?_ ?_
 rintro T0 k2 _ _ w1 o0 hk (H:Cx w0 fp0 S0 w1 [Es (List Int) l_ l_h]) hrt f1
 refine jA (z:=true) (cB hk) ?_
 refine sq (sq ?_)
 obtain ⟨a0,e,f2⟩:=aA f1
 obtain ⟨p0,m0,c0,c1,c2,c3⟩:=(H.rs (α:=List Int) 0 rfl).at1 e
 refine dA c0 c1 c2 ?_
 refine bA c3 ?_
 obtain ⟨y0,i0,f3⟩:=aA f2
 refine callF0_ (tJ i0) H trivial ?_
 rintro _ _ w2 ⟨rfl,rfl⟩ H
 refine boolB_ f3 (fun f5=>?_) fun f6=>?_
 refine arK hk x0 ?_
 obtain rfl:=oi_ f5
 exact ⟨(),(),rfl,r5_,H.sel [0] rfl⟩
 obtain rfl:=oi_ f6
 have hr:=hrt _ rfl;subst hr
 have f7:some _=some _:=f0
 cases f7
 exact ⟨_,_,rfl,⟨rfl,rfl⟩,(H.sel [] rfl).close trivial⟩
 rintro T1 _ _ w3 hr H;try dsimp only at H
 subst hr
 refine jA (z:=false) dB ?_
 refine sq ?_
 cases f0
 exact ⟨_,_,rfl,⟨rfl,rfl⟩,(H.sel [] rfl).close trivial⟩
theorem GB_ {e__0 e__1:Int}{e__2:List Int}{e__2h:Hd}{e__3:List Int}{e__3h:Hd}{wires_:Int}{y:Bool} (hF:zT (e__0,e__1,e__2,e__3) wires_=some y) :
  kA Tryz.prog 178 #[(.agg #[(vi e__0),(vi e__1),(e__2h).v,(e__3h).v]),(vi wires_)] [Es (List Int) e__2 e__2h,Es (List Int) e__3 e__3h] [] (fun v Γ'=>v=(.bool y)∧Γ'=[]):=by
 intro w0 S0 fp0 hI hS
 have H:=Cx.start hI hS;dsimp at H
 refine iA (args:=[_,_]) gok Tryz.func178 rfl _ rfl rfl rfl ?_
 refine xA H ?_;intro b4 w3 hx H
 refine sq ?_
 obtain ⟨r0,f0,f1⟩:=aA hF
 refine cut (fun (q0:Bool)=>[(1,(vi wires_)),(2,(vp b4)),(19,(.bool q0))]) (fun (q0:Bool) w'=>q0=r0∧Cx w0 fp0 S0 w' [Bx b4 [(vi e__0),(vi e__1),(e__2h).v,(e__3h).v],Es (List Int) e__2 e__2h,Es (List Int) e__3 e__3h]) ?_ ?_
 refine fld gok rfl rfl rfl rfl (bA (H.bx 0 rfl (j:=0) rfl) ?_)
 obtain ⟨y0,i0,f2⟩:=aA f0
 refine callF0_ (tJ i0) H trivial ?_
 rintro _ _ w1 ⟨rfl,rfl⟩ H
 refine boolB_ f2 (fun f4=>?_) fun f7=>?_
 refine fld gok rfl rfl rfl rfl (bA (H.bx 0 rfl (j:=0) rfl) ?_)
 refine fld gok rfl rfl rfl rfl (bA (H.bx 0 rfl (j:=1) rfl) ?_)
 refine pB (cs:=#[(vi e__0),(vi e__1),(.string .empty)]) gok rfl rfl rfl ?_
 obtain ⟨y1,i1,f5⟩:=aA f4
 refine callF0_ (Cu_ i1) H trivial ?_
 rintro _ _ w2 ⟨rfl,rfl⟩ H
 obtain ⟨a1,e,f6⟩:=aA f5
 refine tB e ?_
 exact ⟨a1,r3_,oi_ f6,H.sel [0,1,2] rfl⟩
 exact ⟨true,r3_,oi_ f7,H.sel [0,1,2] rfl⟩
 rintro T0 s0 w4 ⟨hr,H⟩;try dsimp only at H
 subst hr
 cases s0
 have f8:=fB f1
 refine fld gok rfl rfl rfl rfl (bA (H.bx 0 rfl (j:=0) rfl) ?_)
 obtain ⟨⟨y2_0,y2_1⟩,i2,f9⟩:=aA f8
 refine callF0_ (mZ i2) H trivial ?_
 rintro _ _ w5 ⟨rfl,rfl⟩ H
 obtain ⟨r1,f10,f11⟩:=aA f9
 refine cut (fun (q1:Bool)=>[(4,(.bool q1))]) (fun (q1:Bool) w'=>q1=r1∧Cx w0 fp0 S0 w' []) ?_ ?_
 refine fld gok rfl rfl rfl rfl (bA (H.bx 0 rfl (j:=2) rfl) ?_)
 refine nA (H.rs (α:=List Int) 1 rfl).len ?_
 refine boolB_ f10 (fun f13=>?_) fun f14=>?_
 exact ⟨false,⟨rfl,trivial⟩,oi_ f13,H.sel [] rfl⟩
 refine fld gok rfl rfl rfl rfl (bA (H.bx 0 rfl (j:=3) rfl) ?_)
 refine nA (H.rs (α:=List Int) 2 rfl).len ?_
 refine boolB_ f14 (fun f16=>?_) fun f17=>?_
 exact ⟨false,⟨rfl,trivial⟩,oi_ f16,H.sel [] rfl⟩
 refine fld gok rfl rfl rfl rfl (bA (H.bx 0 rfl (j:=2) rfl) ?_)
 obtain ⟨a4,e,f18⟩:=aA f17
 refine arO e ?_
 obtain ⟨y3,i3,f19⟩:=aA f18
 refine callF0_ (hU i3) H ⟨Vw.sh 1 rfl,trivial⟩ ?_
 rintro _ _ w6 ⟨rfl,rfl⟩ H
 cases y3
 have f20:=fB f19
 exact ⟨false,⟨rfl,trivial⟩,oi_ f20,H.sel [] rfl⟩
 have f21:=eB f19
 refine fld gok rfl rfl rfl rfl (bA (H.bx 0 rfl (j:=3) rfl) ?_)
 obtain ⟨a5,e,f22⟩:=aA f21
 refine arO e ?_
 obtain ⟨y4,i4,f23⟩:=aA f22
 refine callF0_ (hU i4) H ⟨Vw.sh 2 rfl,trivial⟩ ?_
 rintro _ _ w7 ⟨rfl,rfl⟩ H
 exact ⟨y4,⟨rfl,trivial⟩,oi_ f23,H.sel [] rfl⟩
 rintro T1 s1 w8 ⟨hr,H⟩;try dsimp only at H
 subst hr
 cases f11
 exact ⟨_,_,rfl,⟨rfl,rfl⟩,(H.sel [] rfl).close trivial⟩
 have f24:=eB f1
 cases f24
 exact ⟨_,_,rfl,⟨rfl,rfl⟩,(H.sel [] rfl).close trivial⟩
theorem Cl_ {g__0:Int}{g__1:List Ty2}{g__1h:Hd}{g__2:List Int}{g__2h:Hd}{g__3:List Int}{g__3h:Hd}{y:Bool} (hF:wP (g__0,g__1,g__2,g__3)=some y) :
  kA Tryz.prog 165 #[(.agg #[(vi g__0),(g__1h).v,(g__2h).v,(g__3h).v])] [Es (List Ty2) g__1 g__1h,Es (List Int) g__2 g__2h,Es (List Int) g__3 g__3h] [] (fun v Γ'=>v=(.bool y)∧Γ'=[]):=by
 intro w0 S0 fp0 hI hS
 have H:=Cx.start hI hS;dsimp at H
 refine iA (args:=[_]) gok Tryz.func165 rfl _ rfl rfl rfl ?_
 refine xA H ?_;intro b5 w4 hx H
 refine sq ?_
 obtain ⟨r0,f0,f1⟩:=aA hF
 refine cut (fun (q0:Bool)=>[(1,(vp b5)),(47,(.bool q0))]) (fun (q0:Bool) w'=>q0=r0∧Cx w0 fp0 S0 w' [Bx b5 [(vi g__0),(g__1h).v,(g__2h).v,(g__3h).v],Es (List Ty2) g__1 g__1h,Es (List Int) g__2 g__2h,Es (List Int) g__3 g__3h]) ?_ ?_
 refine fld gok rfl rfl rfl rfl (bA (H.bx 0 rfl (j:=0) rfl) ?_)
 obtain ⟨y0,i0,f2⟩:=aA f0
 refine callF0_ (tJ i0) H trivial ?_
 rintro _ _ w1 ⟨rfl,rfl⟩ H
 refine boolB_ f2 (fun f4=>?_) fun f22=>?_
 refine fld gok rfl rfl rfl rfl (bA (H.bx 0 rfl (j:=1) rfl) ?_)
 refine nA (H.rs (α:=List Ty2) 1 rfl).len ?_
 refine boolB_ f4 (fun f6=>?_) fun f21=>?_
 refine fld gok rfl rfl rfl rfl (bA (H.bx 0 rfl (j:=2) rfl) ?_)
 refine nA (H.rs (α:=List Int) 2 rfl).len ?_
 refine boolB_ f6 (fun f8=>?_) fun f20=>?_
 refine fld gok rfl rfl rfl rfl (bA (H.bx 0 rfl (j:=3) rfl) ?_)
 refine nA (H.rs (α:=List Int) 3 rfl).len ?_
 refine boolB_ f8 (fun f10=>?_) fun f19=>?_
 refine fld gok rfl rfl rfl rfl (bA (H.bx 0 rfl (j:=2) rfl) ?_)
 refine fld gok rfl rfl rfl rfl (bA (H.bx 0 rfl (j:=0) rfl) ?_)
 obtain ⟨a4,e,f11⟩:=aA f10
 refine arO e ?_
 obtain ⟨y1,i1,f12⟩:=aA f11
 refine callF0_ (hU i1) H ⟨Vw.sh 2 rfl,trivial⟩ ?_
 rintro _ _ w2 ⟨rfl,rfl⟩ H
 refine boolB_ f12 (fun f14=>?_) fun f18=>?_
 refine fld gok rfl rfl rfl rfl (bA (H.bx 0 rfl (j:=3) rfl) ?_)
 refine fld gok rfl rfl rfl rfl (bA (H.bx 0 rfl (j:=0) rfl) ?_)
 obtain ⟨a6,e,f15⟩:=aA f14
 refine arO e ?_
 obtain ⟨y2,i2,f16⟩:=aA f15
 refine callF0_ (hU i2) H ⟨Vw.sh 3 rfl,trivial⟩ ?_
 rintro _ _ w3 ⟨rfl,rfl⟩ H
 obtain ⟨a7,e,f17⟩:=aA f16
 refine tB e ?_
 exact ⟨a7,⟨rfl,rfl,trivial⟩,oi_ f17,H.sel [0,1,2,3] rfl⟩
 exact ⟨true,⟨rfl,rfl,trivial⟩,oi_ f18,H.sel [0,1,2,3] rfl⟩
 exact ⟨true,⟨rfl,rfl,trivial⟩,oi_ f19,H.sel [0,1,2,3] rfl⟩
 exact ⟨true,⟨rfl,rfl,trivial⟩,oi_ f20,H.sel [0,1,2,3] rfl⟩
 exact ⟨true,⟨rfl,rfl,trivial⟩,oi_ f21,H.sel [0,1,2,3] rfl⟩
 exact ⟨true,⟨rfl,rfl,trivial⟩,oi_ f22,H.sel [0,1,2,3] rfl⟩
 rintro T0 s0 w5 ⟨hr,H⟩;try dsimp only at H
 subst hr
 cases s0
 have f23:=fB f1
 refine sq ?_
 refine fld gok rfl rfl rfl rfl (bA (H.bx 0 rfl (j:=1) rfl) ?_)
 refine nA (H.rs (α:=List Ty2) 1 rfl).len ?_
 have x0:=(H.rs (α:=List Ty2) 1 rfl).max
 obtain ⟨r1,e,f24⟩:=aA f23
 refine iE _ g__1.length (fun (k0:Nat) (_:Unit) (_:Unit)=>[(1,(vp b5)),(49,(g__1h).v),(50,(vi ((g__1.length:Nat):Int))),(51,(vi ((k0:Nat):Int)))]) (fun _ (_:Unit) (_:Unit) w'=>Cx w0 fp0 S0 w' [Bx b5 [(vi g__0),(g__1h).v,(g__2h).v,(g__3h).v],Es (List Ty2) g__1 g__1h,Es (List Int) g__2 g__2h,Es (List Int) g__3 g__3h]) () () e r4_ (H.sel [0,1,2,3] rfl) ?_ ?_
 rintro T1 k0 _ _ w6 o0 hk (H:Cx w0 fp0 S0 w6 [Bx b5 [(vi g__0),(g__1h).v,(g__2h).v,(g__3h).v],Es (List Ty2) g__1 g__1h,Es (List Int) g__2 g__2h,Es (List Int) g__3 g__3h]) hrt f25
 refine jA (z:=true) (cB hk) ?_
 refine sq (sq ?_)
 obtain ⟨a8,e,f26⟩:=aA f25
 have HH:=H;obtain ⟨p0,m0,g0,c0,c1,c2,c3,H⟩:=HH.el (α:=Ty2) 1 rfl e
 obtain ⟨a8_0,a8_1,a8_2,a8_3⟩:=a8
 obtain ⟨_,_,h0,h1⟩:=g0
 replace H:=H.part (β:=List Int) a8_2 (h0:Hd) 0 rfl (fun S h=>(And.left (And.right (And.right h))))
 replace H:=H.part (β:=List Int) a8_3 (h1:Hd) 1 rfl (fun S h=>(And.right (And.right (And.right h))))
 replace H:=H.sel [0,1,3,4,5,6] rfl
 refine dA c0 c1 c2 ?_
 refine cA [(vi a8_0),(vi a8_1),(h0).v,(h1).v] rfl c3 ?_
 refine sA gok rfl H ?_;intro b0 w7 hx H
 refine stA gok [(vi a8_0),(vi a8_1),(h0).v,(h1).v] rfl H rfl rfl rfl ?_;intro w8 H
 refine cA [(vi a8_0),(vi a8_1),(h0).v,(h1).v] rfl (H.bz_ 0 rfl) ?_
 refine fld gok rfl rfl rfl rfl (bA (H.bx 3 rfl (j:=0) rfl) ?_)
 obtain ⟨y3,i3,f27⟩:=aA f26
 refine callF0_ (GB_ i3) H ⟨Vw.sh 2 rfl,Vw.sh 1 rfl,trivial⟩ ?_
 rintro _ _ w9 ⟨rfl,rfl⟩ H
 refine boolB_ f27 (fun f29=>?_) fun f30=>?_
 refine arK hk x0 ?_
 obtain rfl:=oi_ f29
 exact ⟨(),(),rfl,r4_,H.sel [3,4,5,6] rfl⟩
 obtain rfl:=oi_ f30
 have hr:=hrt _ rfl;subst hr
 have f31:some _=some _:=f24
 cases f31
 exact ⟨_,_,rfl,⟨rfl,rfl⟩,(H.sel [] rfl).close trivial⟩
 rintro T2 _ _ w10 hr H;try dsimp only at H
 subst hr
 refine jA (z:=false) dB ?_
 refine sq ?_
 refine cA [(vi g__0),(g__1h).v,(g__2h).v,(g__3h).v] rfl (H.bz_ 0 rfl) ?_
 obtain ⟨⟨y4_0,y4_1⟩,i4,f32⟩:=aA f24
 refine callF0_ (Cd_ i4) H ⟨Vw.sh 1 rfl,Vw.sh 2 rfl,Vw.sh 3 rfl,trivial⟩ ?_
 rintro _ _ w11 ⟨h2,h3,rfl,rfl⟩ H
 refine sq ?_
 refine nA (H.ro (α:=List Int) 0 rfl).len ?_
 have x1:=(H.ro (α:=List Int) 0 rfl).max
 obtain ⟨r2,e,f33⟩:=aA f32
 refine iE _ y4_0.length (fun (k1:Nat) (_:Unit) (_:Unit)=>[(5,(h2).v),(6,(h3).v),(67,(vi ((y4_0.length:Nat):Int))),(68,(vi ((k1:Nat):Int)))]) (fun _ (_:Unit) (_:Unit) w'=>Cx w0 fp0 S0 w' [E (List Int) y4_0 h2,E (List Int) y4_1 h3]) () () e r4_ (H.sel [0,1] rfl) ?_ ?_
 rintro T3 k1 _ _ w12 o1 hk (H:Cx w0 fp0 S0 w12 [E (List Int) y4_0 h2,E (List Int) y4_1 h3]) hrt f34
 refine jA (z:=true) (cB hk) ?_
 refine sq (sq ?_)
 refine kB H [] (.fst 0 (.fst 1 (.fst 2 (.fst 4 (.fst 5 (.fst 6 (.fst 3 (.fst 7 (.fst 8 (.fst 9 .done)))))))))) bB [] trivial (by kernel_rfl) ?_
 intro w13 H
 have hX:Ext w13 w13:=Upd.refl _ _
 obtain ⟨a10,e,f35⟩:=aA f34
 obtain ⟨p1,m1,c4,c5,c6,c7⟩:=(H.ro (α:=List Int) 0 rfl).at1 e
 refine dA c4 c5 c6 ?_
 obtain ⟨a11,e,f36⟩:=aA f35
 obtain ⟨p2,m2,c8,c9,c10,c11⟩:=(H.ro (α:=List Int) 1 rfl).at1 e
 refine dA c8 c9 c10 ?_
 refine gA c7 ?_
 refine gA c11 ?_
 obtain ⟨a12,e,f37⟩:=aA f36
 refine arO e ?_
 refine boolB_ f37 (fun f39=>?_) fun f40=>?_
 refine arK hk x1 ?_
 obtain rfl:=oi_ f39
 exact ⟨(),(),rfl,r4_,H.sel [0,1] rfl⟩
 obtain rfl:=oi_ f40
 have hr:=hrt _ rfl;subst hr
 have f41:some _=some _:=f33
 cases f41
 exact ⟨_,_,rfl,⟨rfl,rfl⟩,(H.sel [] rfl).close trivial⟩
 rintro T4 _ _ w14 hr H;try dsimp only at H
 subst hr
 refine jA (z:=false) dB ?_
 refine sq ?_
 cases f33
 exact ⟨_,_,rfl,⟨rfl,rfl⟩,(H.sel [] rfl).close trivial⟩
 have f42:=eB f1
 cases f42
 exact ⟨_,_,rfl,⟨rfl,rfl⟩,(H.sel [] rfl).close trivial⟩
theorem CR_ {g__0:Int}{g__1:List Ty2}{g__1h:Hd}{g__2:List Int}{g__2h:Hd}{g__3:List Int}{g__3h:Hd}{y0_0:Int}{y0_1:List Ty2}{y0_2 y0_3:List Int}{y1:Bool} (hF:sU (g__0,g__1,g__2,g__3)=some ((y0_0,y0_1,y0_2,y0_3),y1)) :
  bF Tryz.prog 149 #[(.agg #[(vi g__0),(g__1h).v,(g__2h).v,(g__3h).v])] [Es (List Ty2) g__1 g__1h,Es (List Int) g__2 g__2h,Es (List Int) g__3 g__3h] [] (fun v Γ'=>∃ z0 z1 z2:Hd,v=(.tuple #[(.agg #[(vi y0_0),(z0).v,(z1).v,(z2).v]),(.bool y1)])∧Γ'=[Es (List Ty2) y0_1 z0,Es (List Int) y0_2 z1,Es (List Int) y0_3 z2]):=by
 intro w0 S0 fp0 hI hS
 have H:=Cx.start hI hS;dsimp at H
 refine iA (args:=[_]) gok Tryz.func149 rfl _ rfl rfl rfl ?_
 refine xA H ?_;intro b5 w4 hx H
 refine sA gok rfl H ?_;intro b8 w7 hx H
 refine sq ?_
 refine cA [(vi g__0),(g__1h).v,(g__2h).v,(g__3h).v] rfl (H.bz_ 1 rfl) ?_
 obtain ⟨y0,i0,f0⟩:=aA hF
 refine callF0_ (Cl_ i0) H ⟨Vw.sh 2 rfl,Vw.sh 3 rfl,Vw.sh 4 rfl,trivial⟩ ?_
 rintro _ _ w1 ⟨rfl,rfl⟩ H
 refine boolB_ f0 (fun f2=>?_) fun f3=>?_
 refine cA [(vi g__0),(g__1h).v,(g__2h).v,(g__3h).v] rfl (H.bz_ 1 rfl) ?_
 refine stA gok [(vi g__0),(g__1h).v,(g__2h).v,(g__3h).v] rfl H rfl rfl rfl ?_;intro w2 H
 refine cA [(vi g__0),(g__1h).v,(g__2h).v,(g__3h).v] rfl (H.bz_ 0 rfl) ?_
 cases f2
 exact ⟨_,_,rfl,⟨g__1h,g__2h,g__3h,rfl,rfl⟩,(H.sel [2,3,4] rfl)⟩
 refine pB (cs:=#[(vi 0),vn,vn,vn]) gok rfl rfl rfl ?_
 refine stA gok [(vi 0),vn,vn,vn] rfl H rfl rfl rfl ?_;intro w3 H
 refine cA [(vi 0),vn,vn,vn] rfl (H.bz_ 0 rfl) ?_
 replace H:=H.nil (α:=Ty2)
 replace H:=H.frz
 replace H:=H.nil (α:=Int)
 replace H:=H.frz
 replace H:=H.nil (α:=Int)
 replace H:=H.frz
 cases f3
 exact ⟨_,_,rfl,⟨nilH,nilH,nilH,rfl,rfl⟩,(H.sel [2,1,0] rfl)⟩
theorem G1_ {a__0:Int}{a__1:List Ty2}{a__1h:Hd}{a__2:List Int}{a__2h:Hd}{a__3:List Int}{a__3h:Hd}{b__0:Int}{b__1:List Ty2}{b__1h:Hd}{b__2:List Int}{b__2h:Hd}{b__3:List Int}{b__3h:Hd}{y_0:Int}{y_1:List Ty2}{y_2 y_3:List Int} (hF:Al_ (a__0,a__1,a__2,a__3) (b__0,b__1,b__2,b__3)=some (y_0,y_1,y_2,y_3)) :
  kA Tryz.prog 151 #[(.agg #[(vi a__0),(a__1h).v,(a__2h).v,(a__3h).v]),(.agg #[(vi b__0),(b__1h).v,(b__2h).v,(b__3h).v])] [Es (List Ty2) a__1 a__1h,Es (List Int) a__2 a__2h,Es (List Int) a__3 a__3h,Es (List Ty2) b__1 b__1h,Es (List Int) b__2 b__2h,Es (List Int) b__3 b__3h] [] (fun v Γ'=>∃ z0 z1 z2:Hd,v=(.agg #[(vi y_0),(z0).v,(z1).v,(z2).v])∧Γ'=[E (List Ty2) y_1 z0,E (List Int) y_2 z1,E (List Int) y_3 z2]):=by
 intro w0 S0 fp0 hI hS
 have H:=Cx.start hI hS;dsimp at H
 refine iA (args:=[_,_]) gok Tryz.func151 rfl _ rfl rfl rfl ?_
 refine xA H ?_;intro b8 w7 hx H
 refine xA H ?_;intro b0 w1 hx H
 refine sA gok rfl H ?_;intro b1 w2 hx H
 refine cA [(vi a__0),(a__1h).v,(a__2h).v,(a__3h).v] rfl (H.bz_ 2 rfl) ?_
 refine cA [(vi b__0),(b__1h).v,(b__2h).v,(b__3h).v] rfl (H.bz_ 1 rfl) ?_
 obtain ⟨⟨y0_0,y0_1,y0_2,y0_3⟩,i0,f0⟩:=aA hF
 refine callF0_ (Ce_ i0) H ⟨Vw.sh 3 rfl,Vw.sh 4 rfl,Vw.sh 5 rfl,Vw.sh 6 rfl,Vw.sh 7 rfl,Vw.sh 8 rfl,trivial⟩ ?_
 rintro _ _ w3 ⟨h0,h1,h2,rfl,rfl⟩ H
 refine stA gok [(vi y0_0),(h0).v,(h1).v,(h2).v] rfl (H.sel [3,0,1,2,4,5,6,7,8,9,10,11] rfl) rfl rfl rfl ?_;intro w4 H
 refine cA [(vi y0_0),(h0).v,(h1).v,(h2).v] rfl (H.bz_ 0 rfl) ?_
 cases f0
 exact ⟨_,_,rfl,⟨h0,h1,h2,rfl,rfl⟩,(H.sel [1,2,3] rfl).close ⟨cloE,cloE,cloE,trivial⟩⟩
theorem Ge_:∀ (fuel:Nat) (t__0:List Ty4) (t__0h:Hd) (y0_0:Int) (y0_1:List Ty2) (y0_2 y0_3:List Int) (y1:Bool) (hF:sP fuel t__0=some ((y0_0,y0_1,y0_2,y0_3),y1)),
  bF Tryz.prog 124 #[(.agg #[(t__0h).v])] [Es (List Ty4) t__0 t__0h] [] (fun v Γ'=>∃ z0 z1 z2:Hd,v=(.tuple #[(.agg #[(vi y0_0),(z0).v,(z1).v,(z2).v]),(.bool y1)])∧Γ'=[Es (List Ty2) y0_1 z0,Es (List Int) y0_2 z1,Es (List Int) y0_3 z2]):=by
 intro fuel
 induction fuel with
 | zero=>intro t__0 t__0h y0_0 y0_1 y0_2 y0_3 y1 hF;cases hF
 | succ fuel ih=>
  intro t__0 t__0h y0_0 y0_1 y0_2 y0_3 y1 hF
  intro w0 S0 fp0 hI hS
  have H:=Cx.start hI hS;dsimp at H
  refine iA (args:=[_]) gok Tryz.func124 rfl _ rfl rfl rfl ?_
  refine xA H ?_;intro b3 w2 hx H
  refine sA gok rfl H ?_;intro b6 w5 hx H
  refine cA [(t__0h).v] rfl (H.bz_ 1 rfl) ?_
  obtain ⟨y8,ey8,hF9⟩:=aA hF
  refine callF0_ (GY_ ey8) H ⟨Vw.sh 2 rfl,trivial⟩ ?_
  rintro _ _ w1 ⟨rfl,rfl⟩ H
  refine sq ?_
  refine boolB_ hF9 (fun f1=>?_) fun f20=>?_
  refine cA [(t__0h).v] rfl (H.bz_ 1 rfl) ?_
  obtain ⟨⟨y0_0_0,y0_1_0⟩,i0,f2⟩:=aA f1
  refine qE (Ga_ i0) (Γi:=[]) H [2] rfl (yA uA xB) ?_
  rintro _ _ w3 ⟨h0,h1,rfl,rfl⟩ H
  refine sA gok rfl H ?_;intro b0 w4 hx H
  refine sA gok rfl H ?_;intro b1 w6 hx H
  refine stA gok [(h0).v] rfl (H.sel [1,0,2,3,4,5,6] rfl) rfl rfl rfl ?_;intro w7 H
  refine stA gok [(h1).v] rfl (H.sel [1,0,2,3,4,5,6] rfl) rfl rfl rfl ?_;intro w8 H
  refine cA [(h0).v] rfl (H.bz_ 1 rfl) ?_
  obtain ⟨y2,e,f3⟩:=aA f2
  obtain ⟨⟨y2_0_0,y2_0_1,y2_0_2,y2_0_3⟩,y2_1⟩:=y2
  have i1:=e
  refine qE (ih y0_0_0 h0 y2_0_0 y2_0_1 y2_0_2 y2_0_3 y2_1 i1) (Γi:=[]) H [2] rfl (yA uA xB) ?_
  rintro _ _ w9 ⟨h2,h3,h4,rfl,rfl⟩ H
  refine sA gok rfl H ?_;intro b2 w11 hx H
  refine stA gok [(vi y2_0_0),(h2).v,(h3).v,(h4).v] rfl H rfl rfl rfl ?_;intro w12 H
  refine cA [(h1).v] rfl (H.bz_ 4 rfl) ?_
  obtain ⟨y3,e,f4⟩:=aA f3
  obtain ⟨⟨y3_0_0,y3_0_1,y3_0_2,y3_0_3⟩,y3_1⟩:=y3
  have i2:=e
  refine qE (ih y0_1_0 h1 y3_0_0 y3_0_1 y3_0_2 y3_0_3 y3_1 i2) (Γi:=[]) H [7] rfl (yA uA xB) ?_
  rintro _ _ w13 ⟨h5,h6,h7,rfl,rfl⟩ H
  refine sA gok rfl H ?_;intro b4 w14 hx H
  refine stA gok [(vi y3_0_0),(h5).v,(h6).v,(h7).v] rfl H rfl rfl rfl ?_;intro w15 H
  refine sq ?_
  obtain ⟨r0,f5,f6⟩:=aA f4
  refine cut (fun (q0:Bool)=>[(2,(vp b6)),(4,(vi y8)),(7,(vp b2)),(9,(vp b4)),(40,(.bool q0))]) (fun (q0:Bool) w'=>q0=r0∧Cx w0 fp0 S0 w' [Bx b6 [(vi 0),vn,vn,vn],Bx b2 [(vi y2_0_0),(h2).v,(h3).v,(h4).v],Es (List Ty2) y2_0_1 h2,Es (List Int) y2_0_2 h3,Es (List Int) y2_0_3 h4,Bx b4 [(vi y3_0_0),(h5).v,(h6).v,(h7).v],Es (List Ty2) y3_0_1 h5,Es (List Int) y3_0_2 h6,Es (List Int) y3_0_3 h7]) ?_ ?_
  refine boolB_ f5 (fun f8=>?_) fun f10=>?_
  obtain ⟨a2,e,f9⟩:=aA f8
  refine tB e ?_
  exact ⟨a2,r5_,oi_ f9,H.sel [12,4,5,6,7,0,1,2,3] rfl⟩
  exact ⟨true,r5_,oi_ f10,H.sel [12,4,5,6,7,0,1,2,3] rfl⟩
  rintro T0 s0 w17 ⟨hr,H⟩;try dsimp only at H
  subst hr
  cases s0
  have f11:=fB f6
  refine sq ?_
  refine boolB_ f11 (fun f13=>?_) fun f16=>?_
  refine cA [(vi y2_0_0),(h2).v,(h3).v,(h4).v] rfl (H.bz_ 1 rfl) ?_
  refine cA [(vi y3_0_0),(h5).v,(h6).v,(h7).v] rfl (H.bz_ 5 rfl) ?_
  obtain ⟨⟨y4_0,y4_1,y4_2,y4_3⟩,i3,f14⟩:=aA f13
  refine callF0_ (G1_ i3) H ⟨Vw.sh 2 rfl,Vw.sh 3 rfl,Vw.sh 4 rfl,Vw.sh 6 rfl,Vw.sh 7 rfl,Vw.sh 8 rfl,trivial⟩ ?_
  rintro _ _ w18 ⟨h8,h9,h10,rfl,rfl⟩ H
  obtain ⟨y5,e,f15⟩:=aA f14
  obtain ⟨⟨y5_0_0,y5_0_1,y5_0_2,y5_0_3⟩,y5_1⟩:=y5
  have i4:=e
  replace H:=H.frz
  replace H:=H.sel [1,0,2,3,4,5,6,7,8,9,10,11] rfl
  replace H:=H.frz
  replace H:=H.sel [2,0,1,3,4,5,6,7,8,9,10,11] rfl
  replace H:=H.frz
  refine qE (CR_ i4) (Γi:=[]) H [2,1,0] rfl (yA uA (yA uA (yA uA xB))) ?_
  rintro _ _ w19 ⟨h11,h12,h13,rfl,rfl⟩ H
  refine stA gok [(vi y5_0_0),(h11).v,(h12).v,(h13).v] rfl (H.sel [6,0,1,2,3,4,5,7,8,9,10,11,12,13,14] rfl) rfl rfl rfl ?_;intro w20 H
  refine cA [(vi y5_0_0),(h11).v,(h12).v,(h13).v] rfl (H.bz_ 0 rfl) ?_
  cases f15
  exact ⟨_,_,rfl,⟨h11,h12,h13,rfl,rfl⟩,(H.sel [1,2,3] rfl)⟩
  refine cA [(vi y2_0_0),(h2).v,(h3).v,(h4).v] rfl (H.bz_ 1 rfl) ?_
  refine cA [(vi y3_0_0),(h5).v,(h6).v,(h7).v] rfl (H.bz_ 5 rfl) ?_
  obtain ⟨⟨y6_0,y6_1,y6_2,y6_3⟩,i5,f17⟩:=aA f16
  refine callF0_ (G0_ i5) H ⟨Vw.sh 2 rfl,Vw.sh 3 rfl,Vw.sh 4 rfl,Vw.sh 6 rfl,Vw.sh 7 rfl,Vw.sh 8 rfl,trivial⟩ ?_
  rintro _ _ w22 ⟨h14,h15,h16,rfl,rfl⟩ H
  obtain ⟨y7,e,f18⟩:=aA f17
  obtain ⟨⟨y7_0_0,y7_0_1,y7_0_2,y7_0_3⟩,y7_1⟩:=y7
  have i6:=e
  replace H:=H.frz
  replace H:=H.sel [1,0,2,3,4,5,6,7,8,9,10,11] rfl
  replace H:=H.frz
  replace H:=H.sel [2,0,1,3,4,5,6,7,8,9,10,11] rfl
  replace H:=H.frz
  refine qE (CR_ i6) (Γi:=[]) H [2,1,0] rfl (yA uA (yA uA (yA uA xB))) ?_
  rintro _ _ w23 ⟨h18,h20,h21,rfl,rfl⟩ H
  refine stA gok [(vi y7_0_0),(h18).v,(h20).v,(h21).v] rfl (H.sel [6,0,1,2,3,4,5,7,8,9,10,11,12,13,14] rfl) rfl rfl rfl ?_;intro w25 H
  refine cA [(vi y7_0_0),(h18).v,(h20).v,(h21).v] rfl (H.bz_ 0 rfl) ?_
  cases f18
  exact ⟨_,_,rfl,⟨h18,h20,h21,rfl,rfl⟩,(H.sel [1,2,3] rfl)⟩
  have f19:=eB f6
  refine pB (cs:=#[(vi 0),vn,vn,vn]) gok rfl rfl rfl ?_
  refine stA gok [(vi 0),vn,vn,vn] rfl H rfl rfl rfl ?_;intro w26 H
  refine cA [(vi 0),vn,vn,vn] rfl (H.bz_ 0 rfl) ?_
  replace H:=H.nil (α:=Ty2)
  replace H:=H.frz
  replace H:=H.nil (α:=Int)
  replace H:=H.frz
  replace H:=H.nil (α:=Int)
  replace H:=H.frz
  cases f19
  exact ⟨_,_,rfl,⟨nilH,nilH,nilH,rfl,rfl⟩,(H.sel [2,1,0] rfl)⟩
  refine fld gok rfl rfl rfl rfl (bA (H.bx 1 rfl (j:=0) rfl) ?_)
  obtain ⟨a4,e,f21⟩:=aA f20
  have HH:=H;obtain ⟨p0,m0,g0,c0,c1,c2,c3,H⟩:=HH.el (α:=Ty4) 2 rfl e
  obtain ⟨a4_0,a4_1,a4_2⟩:=a4
  obtain ⟨_,_,_⟩:=g0
  replace H:=H.sel [1,2,3] rfl
  refine dA c0 c1 c2 ?_
  refine cA [(vi a4_0),(vi a4_1),(.string a4_2)] rfl c3 ?_
  obtain ⟨⟨y9_0,y9_1,y9_2,y9_3⟩,i7,f22⟩:=aA f21
  refine callF0_ (Cx_ i7) H trivial ?_
  rintro _ _ w29 ⟨h22,h23,h24,rfl,rfl⟩ H
  refine stA gok [(vi y9_0),(h22).v,(h23).v,(h24).v] rfl (H.sel [3,0,1,2,4,5] rfl) rfl rfl rfl ?_;intro w30 H
  refine cA [(vi y9_0),(h22).v,(h23).v,(h24).v] rfl (H.bz_ 0 rfl) ?_
  replace H:=H.sel [1,0,2,3,4,5] rfl
  replace H:=H.frz
  replace H:=H.sel [2,0,1,3,4,5] rfl
  replace H:=H.frz
  replace H:=H.sel [3,0,1,2,4,5] rfl
  replace H:=H.frz
  cases f22
  exact ⟨_,_,rfl,⟨h22,h23,h24,rfl,rfl⟩,(H.sel [2,1,0] rfl)⟩
theorem Cw_ {t__0:List Ty4}{t__0h:Hd}{y0_0:Int}{y0_1:List Ty2}{y0_2 y0_3:List Int}{y1:Bool} (hF:yT t__0=some ((y0_0,y0_1,y0_2,y0_3),y1)) :
  bF Tryz.prog 124 #[(.agg #[(t__0h).v])] [Es (List Ty4) t__0 t__0h] [] (fun v Γ'=>∃ z0 z1 z2:Hd,v=(.tuple #[(.agg #[(vi y0_0),(z0).v,(z1).v,(z2).v]),(.bool y1)])∧Γ'=[Es (List Ty2) y0_1 z0,Es (List Int) y0_2 z1,Es (List Int) y0_3 z2]):=Ge_ _ t__0 t__0h y0_0 y0_1 y0_2 y0_3 y1 hF
theorem Gc_ {r__0:ByteArray}{r__1_0:List Ty4}{r__1_0h:Hd}{r__2_0:List Ty4}{r__2_0h:Hd}{y0_0:Int}{y0_1:List Ty2}{y0_2 y0_3:List Int}{y1_0:Int}{y1_1:List Ty2}{y1_2 y1_3:List Int}{y2:Bool} (hF:cZ (r__0,r__1_0,r__2_0)=some ((y0_0,y0_1,y0_2,y0_3),(y1_0,y1_1,y1_2,y1_3),y2)) :
  bF Tryz.prog 102 #[(.agg #[(.string r__0),(r__1_0h).v,(r__2_0h).v])] [Es (List Ty4) r__1_0 r__1_0h,Es (List Ty4) r__2_0 r__2_0h] [] (fun v Γ'=>∃ z0 z1 z2 z3 z4 z5:Hd,v=(.tuple #[(.agg #[(vi y0_0),(z0).v,(z1).v,(z2).v]),(.agg #[(vi y1_0),(z3).v,(z4).v,(z5).v]),(.bool y2)])∧Γ'=[Es (List Ty2) y0_1 z0,Es (List Int) y0_2 z1,Es (List Int) y0_3 z2,Es (List Ty2) y1_1 z3,Es (List Int) y1_2 z4,Es (List Int) y1_3 z5]):=by
 intro w0 S0 fp0 hI hS
 have H:=Cx.start hI hS;dsimp at H
 refine iA (args:=[_]) gok Tryz.func102 rfl _ rfl rfl rfl ?_
 refine xA H ?_;intro b4 w3 hx H
 refine sA gok rfl H ?_;intro b7 w6 hx H
 refine sA gok rfl H ?_;intro b0 w9 hx H
 refine fld gok rfl rfl rfl rfl ?_
 refine cA [(r__1_0h).v] rfl (H.bxs 2 rfl 1 rfl) ?_
 obtain ⟨⟨y0_0,y0_1,y0_2⟩,i0,f0⟩:=aA hF
 refine callF0_ (Ct_ i0) H ⟨Vw.sh 3 rfl,trivial⟩ ?_
 rintro _ _ w1 ⟨rfl,rfl⟩ H
 refine fld gok rfl rfl rfl rfl ?_
 refine cA [(r__2_0h).v] rfl (H.bxs 2 rfl 2 rfl) ?_
 obtain ⟨⟨y1_0,y1_1,y1_2⟩,i1,f1⟩:=aA f0
 refine callF0_ (Ct_ i1) H ⟨Vw.sh 4 rfl,trivial⟩ ?_
 rintro _ _ w2 ⟨rfl,rfl⟩ H
 refine sq ?_
 obtain ⟨r0,f2,f3⟩:=aA f1
 refine cut (fun (q0:Bool)=>[(1,(vp b4)),(2,(vp b7)),(3,(vp b0)),(50,(.bool q0))]) (fun (q0:Bool) w'=>q0=r0∧Cx w0 fp0 S0 w' [Bx b4 [(.string r__0),(r__1_0h).v,(r__2_0h).v],Es (List Ty4) r__1_0 r__1_0h,Es (List Ty4) r__2_0 r__2_0h,Bx b7 [(vi 0),vn,vn,vn],Bx b0 [(vi 0),vn,vn,vn]]) ?_ ?_
 refine fld gok rfl rfl rfl rfl (bA (H.bx 2 rfl (j:=0) rfl) ?_)
 obtain ⟨y3,i2,f4⟩:=aA f2
 refine callF0_ (Gu_ i2) H trivial ?_
 rintro _ _ w4 ⟨rfl,rfl⟩ H
 refine boolB_ f4 (fun f6=>?_) fun f17=>?_
 refine boolB_ f6 (fun f8=>?_) fun f16=>?_
 refine boolB_ f8 (fun f10=>?_) fun f15=>?_
 refine boolB_ f10 (fun f12=>?_) fun f14=>?_
 obtain ⟨a4,e,f13⟩:=aA f12
 refine tB e ?_
 exact ⟨a4,r4_,oi_ f13,H.sel [2,3,4,1,0] rfl⟩
 exact ⟨true,r4_,oi_ f14,H.sel [2,3,4,1,0] rfl⟩
 exact ⟨true,r4_,oi_ f15,H.sel [2,3,4,1,0] rfl⟩
 exact ⟨true,r4_,oi_ f16,H.sel [2,3,4,1,0] rfl⟩
 exact ⟨true,r4_,oi_ f17,H.sel [2,3,4,1,0] rfl⟩
 rintro T0 s0 w5 ⟨hr,H⟩;try dsimp only at H
 subst hr
 cases s0
 have f18:=fB f3
 refine fld gok rfl rfl rfl rfl ?_
 refine cA [(r__1_0h).v] rfl (H.bxs 0 rfl 1 rfl) ?_
 obtain ⟨y4,e,f19⟩:=aA f18
 obtain ⟨⟨y4_0_0,y4_0_1,y4_0_2,y4_0_3⟩,y4_1⟩:=y4
 have i3:=e
 refine qE (Cw_ i3) (Γi:=[]) H [1] rfl (yA uA xB) ?_
 rintro _ _ w7 ⟨h0,h1,h2,rfl,rfl⟩ H
 refine sA gok rfl H ?_;intro b1 w8 hx H
 refine stA gok [(vi y4_0_0),(h0).v,(h1).v,(h2).v] rfl H rfl rfl rfl ?_;intro w10 H
 refine fld gok rfl rfl rfl rfl ?_
 refine cA [(r__2_0h).v] rfl (H.bxs 4 rfl 2 rfl) ?_
 obtain ⟨y5,e,f20⟩:=aA f19
 obtain ⟨⟨y5_0_0,y5_0_1,y5_0_2,y5_0_3⟩,y5_1⟩:=y5
 have i4:=e
 refine qE (Cw_ i4) (Γi:=[]) H [6] rfl (yA uA xB) ?_
 rintro _ _ w11 ⟨h3,h4,h5,rfl,rfl⟩ H
 refine sA gok rfl H ?_;intro b2 w12 hx H
 refine stA gok [(vi y5_0_0),(h3).v,(h4).v,(h5).v] rfl H rfl rfl rfl ?_;intro w13 H
 obtain ⟨r1,f21,f22⟩:=aA f20
 refine cut (fun (q1:(Int×(List Ty2)×List Int×List Int×Int×(List Ty2)×List Int×List Int×Bool)×(Hd×Hd×Hd×Hd×Hd×Hd))=>[(2,(vp b7)),(3,(vp b0)),(4,(.bool q1.1.2.2.2.2.2.2.2.2))]) (fun (q1:(Int×(List Ty2)×List Int×List Int×Int×(List Ty2)×List Int×List Int×Bool)×(Hd×Hd×Hd×Hd×Hd×Hd)) w'=>(q1.1.1,q1.1.2.1,q1.1.2.2.1,q1.1.2.2.2.1,q1.1.2.2.2.2.1,q1.1.2.2.2.2.2.1,q1.1.2.2.2.2.2.2.1,q1.1.2.2.2.2.2.2.2.1,q1.1.2.2.2.2.2.2.2.2)=r1∧Cx w0 fp0 S0 w' [Bx b7 [(vi q1.1.2.2.2.2.1),(q1.2.2.2.2.1).v,(q1.2.2.2.2.2.1).v,(q1.2.2.2.2.2.2).v],Es (List Ty2) q1.1.2.2.2.2.2.1 q1.2.2.2.2.1,Es (List Int) q1.1.2.2.2.2.2.2.1 q1.2.2.2.2.2.1,Es (List Int) q1.1.2.2.2.2.2.2.2.1 q1.2.2.2.2.2.2,Bx b0 [(vi q1.1.1),(q1.2.1).v,(q1.2.2.1).v,(q1.2.2.2.1).v],Es (List Ty2) q1.1.2.1 q1.2.1,Es (List Int) q1.1.2.2.1 q1.2.2.1,Es (List Int) q1.1.2.2.2.1 q1.2.2.2.1]) ?_ ?_
 refine kB H [6,7,8,0,1,4,5] (.pure 0 (.pure 1 (.fst 2 (.fst 3 (.pure 4 (.pure 5 (.act 6 (.act 7 (.act 8 .done))))))))) bB [((Addr.add ⟨b1,0,none⟩ 0),(vi y4_0_0)),((Addr.add ⟨b1,0,none⟩ 1),(h0).v),((Addr.add ⟨b1,0,none⟩ 2),(h1).v),((Addr.add ⟨b1,0,none⟩ 3),(h2).v),((Addr.add ⟨b2,0,none⟩ 0),(vi y5_0_0)),((Addr.add ⟨b2,0,none⟩ 1),(h3).v),((Addr.add ⟨b2,0,none⟩ 2),(h4).v),((Addr.add ⟨b2,0,none⟩ 3),(h5).v)] ⟨H.bx 4 rfl (j:=0) rfl,H.bx 4 rfl (j:=1) rfl,H.bx 4 rfl (j:=2) rfl,H.bx 4 rfl (j:=3) rfl,H.bx 0 rfl (j:=0) rfl,H.bx 0 rfl (j:=1) rfl,H.bx 0 rfl (j:=2) rfl,H.bx 0 rfl (j:=3) rfl,trivial⟩ (by kernel_rfl) ?_
 intro w15 H
 have hX:Ext w15 w15:=Upd.refl _ _
 refine aN 0 [(vi y4_0_0),(h0).v,(h1).v,(h2).v] rfl r4_ ?_
 refine aN 4 [(vi y5_0_0),(h3).v,(h4).v,(h5).v] rfl r4_ ?_
 cases y4_1
 have f23:=fB f21
 refine stA gok [(vi y4_0_0),(h0).v,(h1).v,(h2).v] rfl (H.sel [11,0,1,2,3,4,5,6,7,8,9,10,12] rfl) rfl rfl rfl ?_;intro w16 H
 refine hold ⟨H.bx 5 rfl (j:=0) rfl,H.bx 5 rfl (j:=1) rfl,H.bx 5 rfl (j:=2) rfl,H.bx 5 rfl (j:=3) rfl,H.bx 1 rfl (j:=0) rfl,H.bx 1 rfl (j:=1) rfl,H.bx 1 rfl (j:=2) rfl,H.bx 1 rfl (j:=3) rfl,trivial⟩ ?_
 refine stA gok [(vi y5_0_0),(h3).v,(h4).v,(h5).v] rfl (H.sel [12,0,1,2,3,4,5,6,7,8,9,10,11] rfl) rfl rfl rfl ?_;intro w18 H
 refine hold ⟨H.bx 6 rfl (j:=0) rfl,H.bx 6 rfl (j:=1) rfl,H.bx 6 rfl (j:=2) rfl,H.bx 6 rfl (j:=3) rfl,H.bx 2 rfl (j:=0) rfl,H.bx 2 rfl (j:=1) rfl,H.bx 2 rfl (j:=2) rfl,H.bx 2 rfl (j:=3) rfl,trivial⟩ ?_
 refine hold ⟨H.bx 6 rfl (j:=0) rfl,H.bx 6 rfl (j:=1) rfl,H.bx 6 rfl (j:=2) rfl,H.bx 6 rfl (j:=3) rfl,H.bx 2 rfl (j:=0) rfl,H.bx 2 rfl (j:=1) rfl,H.bx 2 rfl (j:=2) rfl,H.bx 2 rfl (j:=3) rfl,trivial⟩ ?_
 exact ⟨((y5_0_0,y5_0_1,y5_0_2,y5_0_3,y4_0_0,y4_0_1,y4_0_2,y4_0_3,false),(h3,h4,h5,h0,h1,h2)),r3_,oi_ f23,H.sel [1,7,8,9,0,3,4,5] rfl⟩
 have f24:=eB f21
 refine stA gok [(vi y4_0_0),(h0).v,(h1).v,(h2).v] rfl (H.sel [11,0,1,2,3,4,5,6,7,8,9,10,12] rfl) rfl rfl rfl ?_;intro w19 H
 refine hold ⟨H.bx 5 rfl (j:=0) rfl,H.bx 5 rfl (j:=1) rfl,H.bx 5 rfl (j:=2) rfl,H.bx 5 rfl (j:=3) rfl,H.bx 1 rfl (j:=0) rfl,H.bx 1 rfl (j:=1) rfl,H.bx 1 rfl (j:=2) rfl,H.bx 1 rfl (j:=3) rfl,trivial⟩ ?_
 refine stA gok [(vi y5_0_0),(h3).v,(h4).v,(h5).v] rfl (H.sel [12,0,1,2,3,4,5,6,7,8,9,10,11] rfl) rfl rfl rfl ?_;intro w20 H
 refine hold ⟨H.bx 6 rfl (j:=0) rfl,H.bx 6 rfl (j:=1) rfl,H.bx 6 rfl (j:=2) rfl,H.bx 6 rfl (j:=3) rfl,H.bx 2 rfl (j:=0) rfl,H.bx 2 rfl (j:=1) rfl,H.bx 2 rfl (j:=2) rfl,H.bx 2 rfl (j:=3) rfl,trivial⟩ ?_
 refine hold ⟨H.bx 6 rfl (j:=0) rfl,H.bx 6 rfl (j:=1) rfl,H.bx 6 rfl (j:=2) rfl,H.bx 6 rfl (j:=3) rfl,H.bx 2 rfl (j:=0) rfl,H.bx 2 rfl (j:=1) rfl,H.bx 2 rfl (j:=2) rfl,H.bx 2 rfl (j:=3) rfl,trivial⟩ ?_
 exact ⟨((y5_0_0,y5_0_1,y5_0_2,y5_0_3,y4_0_0,y4_0_1,y4_0_2,y4_0_3,y5_1),(h3,h4,h5,h0,h1,h2)),r3_,oi_ f24,H.sel [1,7,8,9,0,3,4,5] rfl⟩
 rintro T1 ⟨⟨s1_0,s1_1,s1_2,s1_3,s1_4,s1_5,s1_6,s1_7,s1_8⟩,⟨g0_0,g0_1,g0_2,g0_3,g0_4,g0_5⟩⟩ w21 ⟨hr,H⟩;try dsimp only at H
 subst hr
 refine cA [(vi s1_4),(g0_3).v,(g0_4).v,(g0_5).v] rfl (H.bz_ 0 rfl) ?_
 refine cA [(vi s1_0),(g0_0).v,(g0_1).v,(g0_2).v] rfl (H.bz_ 4 rfl) ?_
 cases f22
 exact ⟨_,_,rfl,⟨g0_3,g0_4,g0_5,g0_0,g0_1,g0_2,rfl,rfl⟩,(H.sel [1,2,3,5,6,7] rfl)⟩
 have f25:=eB f3
 refine pB (cs:=#[(vi 0),vn,vn,vn]) gok rfl rfl rfl ?_
 refine pB (cs:=#[(vi 0),vn,vn,vn]) gok rfl rfl rfl ?_
 refine stA gok [(vi 0),vn,vn,vn] rfl (H.sel [3,0,1,2,4] rfl) rfl rfl rfl ?_;intro w22 H
 refine stA gok [(vi 0),vn,vn,vn] rfl (H.sel [4,0,1,2,3] rfl) rfl rfl rfl ?_;intro w23 H
 refine cA [(vi 0),vn,vn,vn] rfl (H.bz_ 1 rfl) ?_
 refine cA [(vi 0),vn,vn,vn] rfl (H.bz_ 0 rfl) ?_
 replace H:=H.nil (α:=Ty2)
 replace H:=H.frz
 replace H:=H.nil (α:=Int)
 replace H:=H.frz
 replace H:=H.nil (α:=Int)
 replace H:=H.frz
 replace H:=H.nil (α:=Ty2)
 replace H:=H.frz
 replace H:=H.nil (α:=Int)
 replace H:=H.frz
 replace H:=H.nil (α:=Int)
 replace H:=H.frz
 cases f25
 exact ⟨_,_,rfl,⟨nilH,nilH,nilH,nilH,nilH,nilH,rfl,rfl⟩,(H.sel [5,4,3,2,1,0] rfl)⟩
theorem Hh_ {r__0:ByteArray}{r__1_0:List Ty4}{r__1_0h:Hd}{r__2_0:List Ty4}{r__2_0h:Hd}{y:Bool} (hF:As_ (r__0,r__1_0,r__2_0)=some y) :
  kA Tryz.prog 74 #[(.agg #[(.string r__0),(r__1_0h).v,(r__2_0h).v])] [Es (List Ty4) r__1_0 r__1_0h,Es (List Ty4) r__2_0 r__2_0h] [] (fun v Γ'=>v=(.bool y)∧Γ'=[]):=by
 intro w0 S0 fp0 hI hS
 have H:=Cx.start hI hS;dsimp at H
 refine iA (args:=[_]) gok Tryz.func74 rfl _ rfl rfl rfl ?_
 refine xA H ?_;intro b4 w3 hx H
 refine cA [(.string r__0),(r__1_0h).v,(r__2_0h).v] rfl (H.bz_ 0 rfl) ?_
 obtain ⟨y6,e,hF7⟩:=aA hF
 obtain ⟨⟨y6_0_0,y6_0_1,y6_0_2,y6_0_3⟩,⟨y6_1_0,y6_1_1,y6_1_2,y6_1_3⟩,y6_2⟩:=y6
 have ey6:=e
 refine qE (Gc_ ey6) (Γi:=[]) H [1,2] rfl (yA uA (yA uA xB)) ?_
 rintro _ _ w8 ⟨h9,h0,h1,h2,h3,h4,rfl,rfl⟩ H
 refine sA gok rfl H ?_;intro b0 w1 hx H
 refine sA gok rfl H ?_;intro b1 w2 hx H
 refine stA gok [(vi y6_0_0),(h9).v,(h0).v,(h1).v] rfl (H.sel [1,0,2,3,4,5,6,7,8,9,10] rfl) rfl rfl rfl ?_;intro w4 H
 refine stA gok [(vi y6_1_0),(h2).v,(h3).v,(h4).v] rfl (H.sel [1,0,2,3,4,5,6,7,8,9,10] rfl) rfl rfl rfl ?_;intro w5 H
 cases hF7
 exact ⟨_,_,rfl,⟨rfl,rfl⟩,(H.sel [] rfl).close trivial⟩
theorem Cy_ {p_:Int}{y:Bool} (hF:dQ p_=some y) :
  kA Tryz.prog 77 #[(vi p_)] [] [] (fun v Γ'=>v=(.bool y)∧Γ'=[]):=by
 intro w0 S0 fp0 hI hS
 have H:Cx w0 fp0 S0 w0 []:=Cx.start hI hS
 refine iA (args:=[_]) gok Tryz.func77 rfl _ rfl rfl rfl ?_
 refine sq ?_
 obtain ⟨y1,ey1,hF2⟩:=aA hF
 refine callF0_ (tJ ey1) H trivial ?_
 rintro _ _ w3 ⟨rfl,rfl⟩ H
 refine boolB_ hF2 (fun hF6=>?_) fun f15=>?_
 obtain ⟨r0,f0,f1⟩:=aA hF6
 refine cut (fun (q0:Unit)=>[]) (fun (q0:Unit) w'=>.inl ()=r0∧Cx w0 fp0 S0 w' []) ?_ ?_
 refine oE _ (fun (s0:Int) (_:Unit)=>[(0,(vi p_)),(3,(vi s0))]) (fun (s0:Int) (_:Unit) w'=>Cx w0 fp0 S0 w' []) 2 () f0 ⟨rfl,rfl,trivial⟩ (H.sel [] rfl) ?_
 rintro T0 s0 _ w1 o0 (H:Cx w0 fp0 S0 w1 []) hrt f2
 refine sq ?_
 obtain ⟨a0,e,f3⟩:=aA f2
 refine arO e ?_
 refine boolB_ f3 (fun f5=>?_) fun f7=>?_
 obtain rfl:=oi_ f5
 have f6:some _=some _:=congrArg some (hrt _ rfl).symm
 exact ⟨(),trivial,oi_ f6,H.sel [] rfl⟩
 refine sq ?_
 obtain ⟨a2,e,f8⟩:=aA f7
 refine aG e ?_
 refine boolB_ f8 (fun f10=>?_) fun f12=>?_
 obtain ⟨a5,e,f11⟩:=aA f10
 refine arO e ?_
 obtain rfl:=oi_ f11
 exact ⟨a5,(),rfl,⟨rfl,rfl,trivial⟩,H.sel [] rfl⟩
 obtain rfl:=oi_ f12
 have f13:some _=some _:=congrArg some (hrt _ rfl).symm
 obtain rfl:=oi_ f13
 have f14:some _=some _:=f1
 cases f14
 exact ⟨_,_,rfl,⟨rfl,rfl⟩,(H.sel [] rfl).close trivial⟩
 rintro T1 _ w2 ⟨hr,H⟩;try dsimp only at H
 subst hr
 cases f1
 exact ⟨_,_,rfl,⟨rfl,rfl⟩,(H.sel [] rfl).close trivial⟩
 cases f15
 exact ⟨_,_,rfl,⟨rfl,rfl⟩,(H.sel [] rfl).close trivial⟩
theorem nZ {p_:Int}{t__0:List Ty4}{t__0h:Hd}{y:Bool} (hF:zP p_ t__0=some y) :
  kA Tryz.prog 62 #[(vi p_),(.agg #[(t__0h).v])] [Es (List Ty4) t__0 t__0h] [] (fun v Γ'=>v=(.bool y)∧Γ'=[]):=by
 intro w0 S0 fp0 hI hS
 have H:=Cx.start hI hS;dsimp at H
 refine iA (args:=[_,_]) gok Tryz.func62 rfl _ rfl rfl rfl ?_
 refine xA H ?_;intro b3 w2 hx H
 refine sq ?_
 refine cA [(t__0h).v] rfl (H.bz_ 0 rfl) ?_
 obtain ⟨y5,e,hF6⟩:=aA hF
 obtain ⟨⟨y5_0_0,y5_0_1,y5_0_2⟩,y5_1⟩:=y5
 have ey5:=e
 refine callF0_ (lZ ey5) H ⟨Vw.sh 1 rfl,trivial⟩ ?_
 rintro _ _ w7 ⟨h8,h0,h1,rfl,rfl⟩ H
 refine sA gok rfl H ?_;intro b0 w1 hx H
 refine stA gok [(h8).v,(h0).v,(h1).v] rfl H rfl rfl rfl ?_;intro w3 H
 obtain ⟨r0,f0,f1⟩:=aA hF6
 refine cut (fun (q0:Bool)=>[(0,(vi p_)),(3,(vp b3)),(20,(.bool q0))]) (fun (q0:Bool) w'=>q0=r0∧Cx w0 fp0 S0 w' [Bx b3 [(t__0h).v],Es (List Ty4) t__0 t__0h]) ?_ ?_
 refine boolB_ f0 (fun f3=>?_) fun f6=>?_
 obtain ⟨y0,i0,f4⟩:=aA f3
 refine callF0_ (Cy_ i0) H trivial ?_
 rintro _ _ w4 ⟨rfl,rfl⟩ H
 obtain ⟨a1,e,f5⟩:=aA f4
 refine tB e ?_
 exact ⟨a1,r3_,oi_ f5,H.sel [4,5] rfl⟩
 exact ⟨true,r3_,oi_ f6,H.sel [4,5] rfl⟩
 rintro T0 s0 w5 ⟨hr,H⟩;try dsimp only at H
 subst hr
 cases s0
 have f7:=fB f1
 refine sq ?_
 refine fld gok rfl rfl rfl rfl (bA (H.bx 0 rfl (j:=0) rfl) ?_)
 refine nA (H.rs (α:=List Ty4) 1 rfl).len ?_
 have x0:=(H.rs (α:=List Ty4) 1 rfl).max
 obtain ⟨r1,e,f8⟩:=aA f7
 refine iE _ t__0.length (fun (k0:Nat) (_:Unit) (_:Unit)=>[(0,(vi p_)),(22,(t__0h).v),(23,(vi ((t__0.length:Nat):Int))),(24,(vi ((k0:Nat):Int)))]) (fun _ (_:Unit) (_:Unit) w'=>Cx w0 fp0 S0 w' [Es (List Ty4) t__0 t__0h]) () () e r4_ (H.sel [1] rfl) ?_ ?_
 rintro T1 k0 _ _ w6 o0 hk (H:Cx w0 fp0 S0 w6 [Es (List Ty4) t__0 t__0h]) hrt f9
 refine jA (z:=true) (cB hk) ?_
 refine sq (sq ?_)
 obtain ⟨a2,e,f10⟩:=aA f9
 have HH:=H;obtain ⟨p0,m0,g0,c0,c1,c2,c3,H⟩:=HH.el (α:=Ty4) 0 rfl e
 obtain ⟨a2_0,a2_1,a2_2⟩:=a2
 obtain ⟨_,_,_⟩:=g0
 replace H:=H.sel [1] rfl
 refine dA c0 c1 c2 ?_
 refine cA [(vi a2_0),(vi a2_1),(.string a2_2)] rfl c3 ?_
 refine sA gok rfl H ?_;intro b1 w8 hx H
 refine stA gok [(vi a2_0),(vi a2_1),(.string a2_2)] rfl H rfl rfl rfl ?_;intro w9 H
 obtain ⟨r2,f11,f12⟩:=aA f10
 refine cut (fun (q1:Bool)=>[(0,(vi p_)),(22,(t__0h).v),(23,(vi ((t__0.length:Nat):Int))),(24,(vi ((k0:Nat):Int))),(41,(.bool q1))]) (fun (q1:Bool) w'=>q1=r2∧Cx w0 fp0 S0 w' [Es (List Ty4) t__0 t__0h]) ?_ ?_
 refine fld gok rfl rfl rfl rfl (bA (H.bx 0 rfl (j:=0) rfl) ?_)
 refine boolB_ f11 (fun f14=>?_) fun f19=>?_
 refine fld gok rfl rfl rfl rfl (bA (H.bx 0 rfl (j:=0) rfl) ?_)
 refine boolB_ f14 (fun f16=>?_) fun f17=>?_
 exact ⟨false,r5_,oi_ f16,H.sel [1] rfl⟩
 refine fld gok rfl rfl rfl rfl (bA (H.bx 0 rfl (j:=1) rfl) ?_)
 obtain ⟨a5,e,f18⟩:=aA f17
 refine tB e ?_
 exact ⟨a5,r5_,oi_ f18,H.sel [1] rfl⟩
 refine fld gok rfl rfl rfl rfl (bA (H.bx 0 rfl (j:=1) rfl) ?_)
 obtain ⟨a6,e,f20⟩:=aA f19
 refine tB e ?_
 exact ⟨a6,r5_,oi_ f20,H.sel [1] rfl⟩
 rintro T2 s1 w10 ⟨hr,H⟩;try dsimp only at H
 subst hr
 cases s1
 have f21:=fB f12
 refine arK hk x0 ?_
 obtain rfl:=oi_ f21
 exact ⟨(),(),rfl,r4_,H.sel [0] rfl⟩
 have f22:=eB f12
 obtain rfl:=oi_ f22
 have hr:=hrt _ rfl;subst hr
 have f23:some _=some _:=f8
 cases f23
 exact ⟨_,_,rfl,⟨rfl,rfl⟩,(H.sel [] rfl).close trivial⟩
 rintro T3 _ _ w11 hr H;try dsimp only at H
 subst hr
 refine jA (z:=false) dB ?_
 refine sq ?_
 cases f8
 exact ⟨_,_,rfl,⟨rfl,rfl⟩,(H.sel [] rfl).close trivial⟩
 have f24:=eB f1
 cases f24
 exact ⟨_,_,rfl,⟨rfl,rfl⟩,(H.sel [] rfl).close trivial⟩
theorem Gr_ {p_:Int}{r__0:ByteArray}{r__1_0:List Ty4}{r__1_0h:Hd}{r__2_0:List Ty4}{r__2_0h:Hd}{y:Bool} (hF:pZ p_ (r__0,r__1_0,r__2_0)=some y) :
  kA Tryz.prog 58 #[(vi p_),(.agg #[(.string r__0),(r__1_0h).v,(r__2_0h).v])] [Es (List Ty4) r__1_0 r__1_0h,Es (List Ty4) r__2_0 r__2_0h] [] (fun v Γ'=>v=(.bool y)∧Γ'=[]):=by
 intro w0 S0 fp0 hI hS
 have H:=Cx.start hI hS;dsimp at H
 refine iA (args:=[_,_]) gok Tryz.func58 rfl _ rfl rfl rfl ?_
 refine xA H ?_;intro b4 w3 hx H
 obtain ⟨r0,f0,f1⟩:=aA hF
 refine cut (fun (q0:Bool)=>[(4,(.bool q0))]) (fun (q0:Bool) w'=>q0=r0∧Cx w0 fp0 S0 w' []) ?_ ?_
 refine cA [(.string r__0),(r__1_0h).v,(r__2_0h).v] rfl (H.bz_ 0 rfl) ?_
 obtain ⟨y0,i0,f2⟩:=aA f0
 refine callF0_ (Hh_ i0) H ⟨Vw.sh 1 rfl,Vw.sh 2 rfl,trivial⟩ ?_
 rintro _ _ w1 ⟨rfl,rfl⟩ H
 cases y0
 have f3:=fB f2
 exact ⟨false,⟨rfl,trivial⟩,oi_ f3,H.sel [] rfl⟩
 have f4:=eB f2
 refine fld gok rfl rfl rfl rfl ?_
 refine cA [(r__1_0h).v] rfl (H.bxs 0 rfl 1 rfl) ?_
 obtain ⟨y1,i1,f5⟩:=aA f4
 refine callF0_ (nZ i1) H ⟨Vw.sh 1 rfl,trivial⟩ ?_
 rintro _ _ w2 ⟨rfl,rfl⟩ H
 cases y1
 have f6:=fB f5
 exact ⟨false,⟨rfl,trivial⟩,oi_ f6,H.sel [] rfl⟩
 have f7:=eB f5
 refine fld gok rfl rfl rfl rfl ?_
 refine cA [(r__2_0h).v] rfl (H.bxs 0 rfl 2 rfl) ?_
 obtain ⟨y2,i2,f8⟩:=aA f7
 refine callF0_ (nZ i2) H ⟨Vw.sh 2 rfl,trivial⟩ ?_
 rintro _ _ w4 ⟨rfl,rfl⟩ H
 exact ⟨y2,⟨rfl,trivial⟩,oi_ f8,H.sel [] rfl⟩
 rintro T0 s0 w5 ⟨hr,H⟩;try dsimp only at H
 subst hr
 cases f1
 exact ⟨_,_,rfl,⟨rfl,rfl⟩,(H.sel [] rfl).close trivial⟩
theorem B6_ {kind_:Int}{y:Bool} (hF:uK kind_=some y) :
  kA Tryz.prog 63 #[(vi kind_)] [] [] (fun v Γ'=>v=(.bool y)∧Γ'=[]):=by
 intro w0 S0 fp0 hI hS
 have H:Cx w0 fp0 S0 w0 []:=Cx.start hI hS
 refine iA (args:=[_]) gok Tryz.func63 rfl _ rfl rfl rfl ?_
 obtain ⟨r9,f0,f1⟩:=aA hF
 refine cut (fun (q0:Bool)=>[(2,(.bool q0))]) (fun (q0:Bool) w'=>q0=r9∧Cx w0 fp0 S0 w' []) ?_ ?_
 refine boolB_ f0 (fun f3=>?_) fun f4=>?_
 exact ⟨false,⟨rfl,trivial⟩,oi_ f3,H.sel [] rfl⟩
 obtain ⟨a1,e,f5⟩:=aA f4
 refine tB e ?_
 exact ⟨a1,⟨rfl,trivial⟩,oi_ f5,H.sel [] rfl⟩
 rintro T0 s7 w1 ⟨hr,H⟩;try dsimp only at H
 subst hr
 cases f1
 exact ⟨_,_,rfl,⟨rfl,rfl⟩,(H.sel [] rfl).close trivial⟩
theorem Gz_ {p_ g__0:Int}{g__1:List Ty2}{g__1h:Hd}{g__2:List Int}{g__2h:Hd}{g__3:List Int}{g__3h:Hd}{y:Bool} (hF:uZ p_ (g__0,g__1,g__2,g__3)=some y) :
  kA Tryz.prog 137 #[(vi p_),(.agg #[(vi g__0),(g__1h).v,(g__2h).v,(g__3h).v])] [Es (List Ty2) g__1 g__1h,Es (List Int) g__2 g__2h,Es (List Int) g__3 g__3h] [] (fun v Γ'=>v=(.bool y)∧Γ'=[]):=by
 intro w0 S0 fp0 hI hS
 have H:=Cx.start hI hS;dsimp at H
 refine iA (args:=[_,_]) gok Tryz.func137 rfl _ rfl rfl rfl ?_
 refine xA H ?_;intro b5 w4 hx H
 refine sq ?_
 obtain ⟨r0,f0,f1⟩:=aA hF
 refine cut (fun (q0:Bool)=>[(0,(vi p_)),(3,(vp b5)),(14,(.bool q0))]) (fun (q0:Bool) w'=>q0=r0∧Cx w0 fp0 S0 w' [Bx b5 [(vi g__0),(g__1h).v,(g__2h).v,(g__3h).v],Es (List Ty2) g__1 g__1h,Es (List Int) g__2 g__2h,Es (List Int) g__3 g__3h]) ?_ ?_
 obtain ⟨y0,i0,f2⟩:=aA f0
 refine callF0_ (Cy_ i0) H trivial ?_
 rintro _ _ w1 ⟨rfl,rfl⟩ H
 refine boolB_ f2 (fun f4=>?_) fun f7=>?_
 refine cA [(vi g__0),(g__1h).v,(g__2h).v,(g__3h).v] rfl (H.bz_ 0 rfl) ?_
 obtain ⟨y1,i1,f5⟩:=aA f4
 refine callF0_ (Cl_ i1) H ⟨Vw.sh 1 rfl,Vw.sh 2 rfl,Vw.sh 3 rfl,trivial⟩ ?_
 rintro _ _ w2 ⟨rfl,rfl⟩ H
 obtain ⟨a1,e,f6⟩:=aA f5
 refine tB e ?_
 exact ⟨a1,r3_,oi_ f6,H.sel [0,1,2,3] rfl⟩
 exact ⟨true,r3_,oi_ f7,H.sel [0,1,2,3] rfl⟩
 rintro T0 s0 w3 ⟨hr,H⟩;try dsimp only at H
 subst hr
 cases s0
 have f8:=fB f1
 refine sq ?_
 refine fld gok rfl rfl rfl rfl (bA (H.bx 0 rfl (j:=1) rfl) ?_)
 refine nA (H.rs (α:=List Ty2) 1 rfl).len ?_
 have x0:=(H.rs (α:=List Ty2) 1 rfl).max
 obtain ⟨r1,e,f9⟩:=aA f8
 refine iE _ g__1.length (fun (k0:Nat) (_:Unit) (_:Unit)=>[(0,(vi p_)),(16,(g__1h).v),(17,(vi ((g__1.length:Nat):Int))),(18,(vi ((k0:Nat):Int)))]) (fun _ (_:Unit) (_:Unit) w'=>Cx w0 fp0 S0 w' [Es (List Ty2) g__1 g__1h]) () () e r4_ (H.sel [1] rfl) ?_ ?_
 rintro T1 k0 _ _ w5 o0 hk (H:Cx w0 fp0 S0 w5 [Es (List Ty2) g__1 g__1h]) hrt f10
 refine jA (z:=true) (cB hk) ?_
 refine sq (sq ?_)
 obtain ⟨a2,e,f11⟩:=aA f10
 have HH:=H;obtain ⟨p0,m0,g0,c0,c1,c2,c3,H⟩:=HH.el (α:=Ty2) 0 rfl e
 obtain ⟨a2_0,a2_1,a2_2,a2_3⟩:=a2
 obtain ⟨_,_,h0,h1⟩:=g0
 replace H:=H.part (β:=List Int) a2_2 (h0:Hd) 0 rfl (fun S h=>(And.left (And.right (And.right h))))
 replace H:=H.part (β:=List Int) a2_3 (h1:Hd) 1 rfl (fun S h=>(And.right (And.right (And.right h))))
 replace H:=H.sel [0,1,3] rfl
 refine dA c0 c1 c2 ?_
 refine cA [(vi a2_0),(vi a2_1),(h0).v,(h1).v] rfl c3 ?_
 refine sA gok rfl H ?_;intro b0 w6 hx H
 refine stA gok [(vi a2_0),(vi a2_1),(h0).v,(h1).v] rfl H rfl rfl rfl ?_;intro w7 H
 refine fld gok rfl rfl rfl rfl (bA (H.bx 0 rfl (j:=1) rfl) ?_)
 refine boolB_ f11 (fun f13=>?_) fun f14=>?_
 refine arK hk x0 ?_
 obtain rfl:=oi_ f13
 exact ⟨(),(),rfl,r4_,H.sel [3] rfl⟩
 obtain rfl:=oi_ f14
 have hr:=hrt _ rfl;subst hr
 have f15:some _=some _:=f9
 cases f15
 exact ⟨_,_,rfl,⟨rfl,rfl⟩,(H.sel [] rfl).close trivial⟩
 rintro T2 _ _ w8 hr H;try dsimp only at H
 subst hr
 refine jA (z:=false) dB ?_
 refine sq ?_
 cases f9
 exact ⟨_,_,rfl,⟨rfl,rfl⟩,(H.sel [] rfl).close trivial⟩
 have f16:=eB f1
 cases f16
 exact ⟨_,_,rfl,⟨rfl,rfl⟩,(H.sel [] rfl).close trivial⟩
theorem Gh_ {p_ g__0:Int}{g__1:List Ty2}{g__1h:Hd}{g__2:List Int}{g__2h:Hd}{g__3:List Int}{g__3h:Hd}{y:Bool} (hF:fZ p_ (g__0,g__1,g__2,g__3)=some y) :
  kA Tryz.prog 108 #[(vi p_),(.agg #[(vi g__0),(g__1h).v,(g__2h).v,(g__3h).v])] [Es (List Ty2) g__1 g__1h,Es (List Int) g__2 g__2h,Es (List Int) g__3 g__3h] [] (fun v Γ'=>v=(.bool y)∧Γ'=[]):=by
 intro w0 S0 fp0 hI hS
 have H:=Cx.start hI hS;dsimp at H
 refine iA (args:=[_,_]) gok Tryz.func108 rfl _ rfl rfl rfl ?_
 refine xA H ?_;intro b5 w4 hx H
 refine sq ?_
 refine cA [(vi g__0),(g__1h).v,(g__2h).v,(g__3h).v] rfl (H.bz_ 0 rfl) ?_
 obtain ⟨y7,ey7,hF8⟩:=aA hF
 refine callF0_ (Gz_ ey7) H ⟨Vw.sh 1 rfl,Vw.sh 2 rfl,Vw.sh 3 rfl,trivial⟩ ?_
 rintro _ _ w9 ⟨rfl,rfl⟩ H
 refine boolB_ hF8 (fun f1=>?_) fun f10=>?_
 refine sq ?_
 refine fld gok rfl rfl rfl rfl (bA (H.bx 0 rfl (j:=1) rfl) ?_)
 refine nA (H.rs (α:=List Ty2) 1 rfl).len ?_
 have x0:=(H.rs (α:=List Ty2) 1 rfl).max
 obtain ⟨r0,e,f2⟩:=aA f1
 refine iE _ g__1.length (fun (k0:Nat) (_:Unit) (_:Unit)=>[(12,(g__1h).v),(13,(vi ((g__1.length:Nat):Int))),(14,(vi ((k0:Nat):Int)))]) (fun _ (_:Unit) (_:Unit) w'=>Cx w0 fp0 S0 w' [Es (List Ty2) g__1 g__1h]) () () e r3_ (H.sel [1] rfl) ?_ ?_
 rintro T0 k0 _ _ w1 o0 hk (H:Cx w0 fp0 S0 w1 [Es (List Ty2) g__1 g__1h]) hrt f3
 refine jA (z:=true) (cB hk) ?_
 refine sq (sq ?_)
 obtain ⟨a1,e,f4⟩:=aA f3
 have HH:=H;obtain ⟨p0,m0,g0,c0,c1,c2,c3,H⟩:=HH.el (α:=Ty2) 0 rfl e
 obtain ⟨a1_0,a1_1,a1_2,a1_3⟩:=a1
 obtain ⟨_,_,h0,h1⟩:=g0
 replace H:=H.part (β:=List Int) a1_2 (h0:Hd) 0 rfl (fun S h=>(And.left (And.right (And.right h))))
 replace H:=H.part (β:=List Int) a1_3 (h1:Hd) 1 rfl (fun S h=>(And.right (And.right (And.right h))))
 replace H:=H.sel [0,1,3] rfl
 refine dA c0 c1 c2 ?_
 refine cA [(vi a1_0),(vi a1_1),(h0).v,(h1).v] rfl c3 ?_
 refine sA gok rfl H ?_;intro b0 w2 hx H
 refine stA gok [(vi a1_0),(vi a1_1),(h0).v,(h1).v] rfl H rfl rfl rfl ?_;intro w3 H
 refine fld gok rfl rfl rfl rfl (bA (H.bx 0 rfl (j:=0) rfl) ?_)
 obtain ⟨y0,i0,f5⟩:=aA f4
 refine callF0_ (B6_ i0) H trivial ?_
 rintro _ _ w5 ⟨rfl,rfl⟩ H
 refine boolB_ f5 (fun f7=>?_) fun f8=>?_
 refine arK hk x0 ?_
 obtain rfl:=oi_ f7
 exact ⟨(),(),rfl,r3_,H.sel [3] rfl⟩
 obtain rfl:=oi_ f8
 have hr:=hrt _ rfl;subst hr
 have f9:some _=some _:=f2
 cases f9
 exact ⟨_,_,rfl,⟨rfl,rfl⟩,(H.sel [] rfl).close trivial⟩
 rintro T1 _ _ w6 hr H;try dsimp only at H
 subst hr
 refine jA (z:=false) dB ?_
 refine sq ?_
 cases f2
 exact ⟨_,_,rfl,⟨rfl,rfl⟩,(H.sel [] rfl).close trivial⟩
 cases f10
 exact ⟨_,_,rfl,⟨rfl,rfl⟩,(H.sel [] rfl).close trivial⟩
theorem G5_ {p_ a_ b_ y:Int} (hF:Am_ p_ a_ b_=some y) :
  kA Tryz.prog 180 #[(vi p_),(vi a_),(vi b_)] [] [] (fun v Γ'=>v=(vi y)∧Γ'=[]):=by
 intro w0 S0 fp0 hI hS
 have H:Cx w0 fp0 S0 w0 []:=Cx.start hI hS
 refine iA (args:=[_,_,_]) gok Tryz.func180 rfl _ rfl rfl rfl ?_
 obtain ⟨a1,e,hF2⟩:=aA hF
 refine arO e ?_
 obtain ⟨a3,e,hF4⟩:=aA hF2
 refine aG e ?_
 cases hF4
 exact ⟨_,_,rfl,⟨rfl,rfl⟩,(H.sel [] rfl).close trivial⟩
theorem zA {p_ n_:Int}{at_:List Int}{at_h:Hd}{values_:List Int}{values_h:Hd}{y:List Int} (hF:pF p_ n_ at_ values_=some y) :
  kA Tryz.prog 166 #[(vi p_),(vi n_),(at_h).v,(values_h).v] [Es (List Int) at_ at_h,Es (List Int) values_ values_h] [] (fun v Γ'=>∃ z0:Hd,v=(z0).v∧Γ'=[E (List Int) y z0]):=by
 intro w0 S0 fp0 hI hS
 have H:=Cx.start hI hS;dsimp at H
 refine iA (args:=[_,_,_,_]) gok Tryz.func166 rfl _ rfl rfl rfl ?_
 obtain ⟨a3,e,hF4⟩:=aA hF
 refine nE (α:=Int) gok rfl rfl rfl rfl (xE e) H ?_;intro h6 w5 hx H
 refine sq ?_
 refine nA (H.rs (α:=List Int) 1 rfl).len ?_
 have x0:=(H.rs (α:=List Int) 1 rfl).max
 obtain ⟨r0,e,f0⟩:=aA hF4
 refine nB _ at_.length (fun (k8:Nat) (s0:List Int) (_:Unit)=>[(0,(vi p_)),(3,(values_h).v),(9,(h6).v),(14,(at_h).v),(15,(vi ((at_.length:Nat):Int))),(16,(vi ((k8:Nat):Int)))]) (fun _ (s0:List Int) (_:Unit) w'=>Cx w0 fp0 S0 w' [Es (List Int) values_ values_h,E (List Int) s0 h6,Es (List Int) at_ at_h]) a3 () e r6_ (H.sel [2,0,1] rfl) ?_ ?_
 rintro T0 k8 s0 _ w1 o0 hk (H:Cx w0 fp0 S0 w1 [Es (List Int) values_ values_h,E (List Int) s0 h6,Es (List Int) at_ at_h]) f1
 refine jA (z:=true) (cB hk) ?_
 refine sq (sq ?_)
 obtain ⟨a0,e,f2⟩:=aA f1
 obtain ⟨p0,m0,c0,c1,c2,c3⟩:=(H.rs (α:=List Int) 2 rfl).at1 e
 refine dA c0 c1 c2 ?_
 refine bA c3 ?_
 refine kB H [13] (.fst 0 (.fst 1 (.fst 2 (.fst 3 (.fst 4 (.fst 5 (.fst 7 (.fst 8 (.fst 9 (.fst 6 (.fst 10 (.act 11 (.fst 12 (.act 13 .done)))))))))))))) bB [] trivial (by kernel_rfl) ?_
 intro w2 H
 have hX:Ext w2 w2:=Upd.refl _ _
 obtain ⟨a1,e,f3⟩:=aA f2
 obtain ⟨p1,m1,c4,c5,c6,c7⟩:=(H.ro (α:=List Int) 1 rfl).at1 e
 refine dA c4 c5 c6 ?_
 obtain ⟨a2,e,f4⟩:=aA f3
 obtain ⟨p2,m2,c8,c9,c10,c11⟩:=(H.rs (α:=List Int) 0 rfl).at1 e
 refine dA c8 c9 c10 ?_
 refine gA c7 ?_
 refine gA c11 ?_
 obtain ⟨y0,i0,f5⟩:=aA f4
 refine eA (G5_ i0) H trivial ?_
 rintro _ _ w3 ⟨rfl,rfl⟩ hx H
 refine hold_ hX hx fun hX=>?_
 obtain ⟨a4,i1,f6⟩:=aA f5
 obtain ⟨p3,m3,c12,c13,c14⟩:=(H.ro (α:=List Int) 1 rfl).setp i1
 refine dA c12 c13 c14 ?_
 replace H:=H.sel [1,0,2] rfl
 refine wC (α:=Int) H c12 c13 i1 ?_;intro w4 H
 refine hold trivial ?_
 refine arK hk x0 ?_
 obtain rfl:=oi_ f6
 exact ⟨(),r6_,H.sel [1,0,2] rfl⟩
 rintro T1 _ w6 H;try dsimp only at H
 refine jA (z:=false) dB ?_
 refine sq ?_
 cases f0
 exact ⟨_,_,rfl,⟨h6,rfl,rfl⟩,(H.sel [1] rfl).close ⟨cloE,trivial⟩⟩
theorem iU {p_ a_ y:Int} (hF:vN p_ a_=some y) :
  kA Tryz.prog 80 #[(vi p_),(vi a_)] [] [] (fun v Γ'=>v=(vi y)∧Γ'=[]):=by
 intro w0 S0 fp0 hI hS
 have H:Cx w0 fp0 S0 w0 []:=Cx.start hI hS
 refine iA (args:=[_,_]) gok Tryz.func80 rfl _ rfl rfl rfl ?_
 obtain ⟨a1,e,hF2⟩:=aA hF
 refine arO e ?_
 obtain ⟨a3,e,hF4⟩:=aA hF2
 refine aG e ?_
 cases hF4
 exact ⟨_,_,rfl,⟨rfl,rfl⟩,(H.sel [] rfl).close trivial⟩
end Go.Proofs.YtlggnmkelgplnaaGreatDoor
