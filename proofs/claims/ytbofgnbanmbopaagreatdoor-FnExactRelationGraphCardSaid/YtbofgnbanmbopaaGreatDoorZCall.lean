/-
 Contracts, printed by a program (wip/y/gen.py): each function of Go computes its partial function. Condition of each: its partial function yields a value.
-/
import Derived.Test.YtbofgnbanmbopaaGreatDoorZMan
namespace Go.Proofs.YtbofgnbanmbopaaGreatDoor
open Go Go.Proofs.YtbofgnbanmbopaaGreatDoor.RW
set_option maxRecDepth 100000
set_option maxHeartbeats 1000000
set_option linter.unusedVariables false
theorem Ct_ (a_:List Int) (a_h:Hd) (left_:Int) (y:Int) (hF:jS a_ left_=some y) :
  nA Tryz.prog 43 #[(a_h).v,(.int .i64 left_)] [Es (List Int) a_ a_h] [] (fun v Γ'=>v=(.int .i64 y)∧Γ'=[]):=by
 intro w0 S0 fp0 hI hS
 have H:Cx w0 fp0 S0 w0 [Es (List Int) a_ a_h]:=Cx.start hI hS
 clear hI hS
 refine lA (args:=[_,_]) gok Tryz.func43 rfl _ rfl rfl rfl ?_
 refine kA (H.rs (α:=List Int) 0 rfl).len ?_
 obtain ⟨a2,e,hF3⟩:=aA hF;clear hF
 refine arO e ?_;clear e
 refine sq ?_
 obtain ⟨a4,e,hF5⟩:=aA hF3;clear hF3
 refine gA e ?_;clear e
 cases a4
 ·
  have hF6:=fA hF5;clear hF5
  cases hF6
  exact ⟨_,_,rfl,⟨rfl,rfl⟩,(H.sel [] rfl).close trivial⟩
 ·
  have hF7:=eA hF5;clear hF5
  cases hF7
  exact ⟨_,_,rfl,⟨rfl,rfl⟩,(H.sel [] rfl).close trivial⟩
theorem B9_ (a_:List (List Int)) (a_h:Hd) (left_:Int) (y:Int) (hF:lN a_ left_=some y) :
  nA Tryz.prog 20 #[(a_h).v,(.int .i64 left_)] [Es (List (List Int)) a_ a_h] [] (fun v Γ'=>v=(.int .i64 y)∧Γ'=[]):=by
 intro w0 S0 fp0 hI hS
 have H:Cx w0 fp0 S0 w0 [Es (List (List Int)) a_ a_h]:=Cx.start hI hS
 clear hI hS
 refine lA (args:=[_,_]) gok Tryz.func20 rfl _ rfl rfl rfl ?_
 refine kA (H.rs (α:=List (List Int)) 0 rfl).len ?_
 obtain ⟨a2,e,hF3⟩:=aA hF;clear hF
 refine arO e ?_;clear e
 refine sq ?_
 obtain ⟨a4,e,hF5⟩:=aA hF3;clear hF3
 refine gA e ?_;clear e
 cases a4
 ·
  have hF6:=fA hF5;clear hF5
  obtain ⟨r0,f0,f1⟩:=aA hF6;clear hF6
  refine cut (fun (q0:Int)=>[(1,(.int .i64 q0))]) (fun (q0:Int) w'=>.inl q0=r0∧Cx w0 fp0 S0 w' []) ?_ ?_
  ·
   refine xC _ (fun (s0:Int×Int) (_:Unit)=>[(0,(a_h).v),(1,(.int .i64 s0.1)),(5,(.int .i64 s0.2))]) (fun (s0:Int×Int) (_:Unit) w'=>Cx w0 fp0 S0 w' [Es (List (List Int)) a_ a_h]) (a2,0) () f0 ⟨rfl,rfl,rfl,trivial⟩ (H.sel [0] rfl) ?_
   ·
    clear H
    rintro T0 ⟨s0_0,s0_1⟩ _ w1 o0 (H:Cx w0 fp0 S0 w1 [Es (List (List Int)) a_ a_h]) hrt f2
    refine sq ?_
    refine kA (H.rs (α:=List (List Int)) 0 rfl).len ?_
    obtain ⟨a0,e,f3⟩:=aA f2;clear f2
    refine gA e ?_;clear e
    cases a0
    ·
     have f4:=fA f3;clear f3
     have hs:=Option.some.inj f4;subst hs;clear f4
     have f5:some _=some _:=congrArg some (hrt _ rfl).symm
     exact ⟨s0_0,⟨rfl,trivial⟩,Option.some.inj f5,H.sel [] rfl⟩
    ·
     have f6:=eA f3;clear f3
     refine sq ?_
     obtain ⟨a1,e,f7⟩:=aA f6;clear f6
     have HH:=H;clear H;obtain ⟨p0,m0,h0,c0,c1,c2,c3,H⟩:=HH.elL 0 rfl e;clear HH
     clear e
     refine dA c0 c1 c2 ?_;clear c0 c1 c2
     refine cA c3 ?_;clear c3
     obtain ⟨y0,e,f8⟩:=aA f7;clear f7
     have i0:=e;clear e
     refine iA (Ct_ a1 h0 s0_0 y0 i0) (Γi:=[]) H ⟨Vw.sh 0 rfl,trivial⟩ ?_;clear H i0
     rintro _ _ w2 ⟨rfl,rfl⟩ H
     obtain ⟨a3,e,f9⟩:=aA f8;clear f8
     refine gA e ?_;clear e
     cases a3
     ·
      have f10:=fA f9;clear f9
      obtain ⟨a5,e,f11⟩:=aA f10;clear f10
      refine arO e ?_;clear e
      have hs:=Option.some.inj f11;subst hs;clear f11
      exact ⟨(y0,a5),(),rfl,⟨rfl,rfl,rfl,trivial⟩,H.sel [1] rfl⟩
     ·
      have f12:=eA f9;clear f9
      have hs:=Option.some.inj f12;subst hs;clear f12
      have f13:some _=some _:=congrArg some (hrt _ rfl).symm
      have hs:=Option.some.inj f13;subst hs;clear f13
      have f14:some _=some _:=f1;clear f1
      cases f14
      exact ⟨_,_,rfl,⟨rfl,rfl⟩,(H.sel [] rfl).close trivial⟩
  ·
   clear f0 H
   rintro T1 s1 w3 ⟨hr,(H:Cx w0 fp0 S0 w3 [])⟩
   subst hr
   cases f1
   exact ⟨_,_,rfl,⟨rfl,rfl⟩,(H.sel [] rfl).close trivial⟩
 ·
  have f15:=eA hF5;clear hF5
  cases f15
  exact ⟨_,_,rfl,⟨rfl,rfl⟩,(H.sel [] rfl).close trivial⟩
theorem BH_ (a__0:Int) (a__1:Int) (a__2:List (List Int)) (a__2h:Hd) (left_:Int) (y:Int) (hF:fR (a__0,a__1,a__2) left_=some y) :
  nA Tryz.prog 5 #[(.agg #[(.int .i64 a__0),(.int .i64 a__1),(a__2h).v]),(.int .i64 left_)] [Es (List (List Int)) a__2 a__2h] [] (fun v Γ'=>v=(.int .i64 y)∧Γ'=[]):=by
 intro w0 S0 fp0 hI hS
 have H:Cx w0 fp0 S0 w0 [Es (List (List Int)) a__2 a__2h]:=Cx.start hI hS
 clear hI hS
 refine lA (args:=[_,_]) gok Tryz.func5 rfl _ rfl rfl rfl ?_
 refine jB H ?_;clear H;intro b3 w2 hx H
 clear hx
 refine fld gok rfl rfl rfl rfl ?_
 refine cA (H.bx 0 rfl (j:=2) rfl) ?_
 obtain ⟨y5,e,hF6⟩:=aA hF;clear hF
 have ey5:=e;clear e
 refine iA (B9_ a__2 a__2h left_ y5 ey5) (Γi:=[]) H ⟨Vw.sh 1 rfl,trivial⟩ ?_;clear H ey5
 rintro _ _ w7 ⟨rfl,rfl⟩ H
 refine sq ?_
 obtain ⟨a8,e,hF9⟩:=aA hF6;clear hF6
 refine gA e ?_;clear e
 cases a8
 ·
  have f0:=fA hF9;clear hF9
  cases f0
  exact ⟨_,_,rfl,⟨rfl,rfl⟩,(H.sel [] rfl).close trivial⟩
 ·
  have f1:=eA hF9;clear hF9
  cases f1
  exact ⟨_,_,rfl,⟨rfl,rfl⟩,(H.sel [] rfl).close trivial⟩
theorem Cs_ (a_:List Int) (a_h:Hd) (y:List Int) (hF:iS a_=some y) :
  nA Tryz.prog 49 #[(a_h).v] [Es (List Int) a_ a_h] [] (fun v Γ'=>∃ z0:Hd,v=(z0).v∧Γ'=[E (List Int) y z0]):=by
 intro w0 S0 fp0 hI hS
 have H:Cx w0 fp0 S0 w0 [Es (List Int) a_ a_h]:=Cx.start hI hS
 clear hI hS
 refine lA (args:=[_]) gok Tryz.func49 rfl _ rfl rfl rfl ?_
 refine kA (H.rs (α:=List Int) 0 rfl).len ?_
 obtain ⟨a2,e,hF3⟩:=aA hF;clear hF
 refine qD (α:=Int) gok rfl rfl rfl rfl (cE e) H ?_;clear e H;intro h5 w4 hx H
 clear hx
 obtain ⟨r0,f0,f1⟩:=aA hF3;clear hF3
 refine cut (fun (q0:List Int)=>[(3,(h5).v)]) (fun (q0:List Int) w'=>q0=r0∧Cx w0 fp0 S0 w' [E (List Int) q0 h5]) ?_ ?_
 ·
  refine xC _ (fun (s0:List Int×Int) (_:Unit)=>[(0,(a_h).v),(3,(h5).v),(4,(.int .i64 s0.2))]) (fun (s0:List Int×Int) (_:Unit) w'=>Cx w0 fp0 S0 w' [Es (List Int) a_ a_h,E (List Int) s0.1 h5]) (a2,0) () f0 ⟨rfl,rfl,rfl,trivial⟩ (H.sel [1,0] rfl) ?_
  ·
   clear H
   rintro T0 ⟨s0_0,s0_1⟩ _ w1 o0 (H:Cx w0 fp0 S0 w1 [Es (List Int) a_ a_h,E (List Int) s0_0 h5]) hrt f2
   refine sq ?_
   refine kA (H.rs (α:=List Int) 0 rfl).len ?_
   obtain ⟨a0,e,f3⟩:=aA f2;clear f2
   refine gA e ?_;clear e
   cases a0
   ·
    have f4:=fA f3;clear f3
    have hs:=Option.some.inj f4;subst hs;clear f4
    have f5:some _=some _:=congrArg some (hrt _ rfl).symm
    exact ⟨s0_0,⟨rfl,trivial⟩,Option.some.inj f5,H.sel [1] rfl⟩
   ·
    have f6:=eA f3;clear f3
    refine sq ?_
    obtain ⟨a1,e,f7⟩:=aA f6;clear f6
    obtain ⟨p0,m0,c0,c1,c2,c3⟩:=(H.rs (α:=List Int) 0 rfl).at1 e;clear e
    refine dA c0 c1 c2 ?_;clear c0 c1 c2
    refine cA c3 ?_;clear c3
    obtain ⟨a3,e,f8⟩:=aA f7;clear f7
    have i0:=e;clear e
    obtain ⟨p1,m1,c4,c5,c6⟩:=(H.ro (α:=List Int) 1 rfl).setp i0
    refine dA c4 c5 c6 ?_
    replace H:=H.sel [1,0] rfl
    refine gC (α:=Int) H c4 c5 i0 ?_;clear H c4 c5 c6 i0;intro w2 H
    obtain ⟨a4,e,f9⟩:=aA f8;clear f8
    refine arO e ?_;clear e
    have hs:=Option.some.inj f9;subst hs;clear f9
    exact ⟨(a3,a4),(),rfl,⟨rfl,rfl,rfl,trivial⟩,H.sel [1,0] rfl⟩
 ·
  clear f0 H
  rintro T1 s1 w3 ⟨hr,(H:Cx w0 fp0 S0 w3 [E (List Int) s1 h5])⟩
  subst hr
  cases f1
  exact ⟨_,_,rfl,⟨h5,rfl,rfl⟩,(H.sel [0] rfl).close ⟨cloE,trivial⟩⟩
theorem B8_ (a_:List (List Int)) (a_h:Hd) (y:List (List Int)) (hF:dL a_=some y) :
  nA Tryz.prog 23 #[(a_h).v] [Es (List (List Int)) a_ a_h] [] (fun v Γ'=>∃ z0:Hd,v=(z0).v∧Γ'=[E (List (List Int)) y z0]):=by
 intro w0 S0 fp0 hI hS
 have H:Cx w0 fp0 S0 w0 [Es (List (List Int)) a_ a_h]:=Cx.start hI hS
 clear hI hS
 refine lA (args:=[_]) gok Tryz.func23 rfl _ rfl rfl rfl ?_
 refine kA (H.rs (α:=List (List Int)) 0 rfl).len ?_
 obtain ⟨a2,e,hF3⟩:=aA hF;clear hF
 refine qD (α:=List Int) gok rfl rfl rfl rfl (cE e) H ?_;clear e H;intro h5 w4 hx H
 clear hx
 obtain ⟨r0,f0,f1⟩:=aA hF3;clear hF3
 refine cut (fun (q0:List (List Int))=>[(3,(h5).v)]) (fun (q0:List (List Int)) w'=>q0=r0∧Cx w0 fp0 S0 w' [E (List (List Int)) q0 h5]) ?_ ?_
 ·
  refine xC _ (fun (s0:List (List Int)×Int) (_:Unit)=>[(0,(a_h).v),(3,(h5).v),(4,(.int .i64 s0.2))]) (fun (s0:List (List Int)×Int) (_:Unit) w'=>Cx w0 fp0 S0 w' [Es (List (List Int)) a_ a_h,E (List (List Int)) s0.1 h5]) (a2,0) () f0 ⟨rfl,rfl,rfl,trivial⟩ (H.sel [1,0] rfl) ?_
  ·
   clear H
   rintro T0 ⟨s0_0,s0_1⟩ _ w1 o0 (H:Cx w0 fp0 S0 w1 [Es (List (List Int)) a_ a_h,E (List (List Int)) s0_0 h5]) hrt f2
   refine sq ?_
   refine kA (H.rs (α:=List (List Int)) 0 rfl).len ?_
   obtain ⟨a0,e,f3⟩:=aA f2;clear f2
   refine gA e ?_;clear e
   cases a0
   ·
    have f4:=fA f3;clear f3
    have hs:=Option.some.inj f4;subst hs;clear f4
    have f5:some _=some _:=congrArg some (hrt _ rfl).symm
    exact ⟨s0_0,⟨rfl,trivial⟩,Option.some.inj f5,H.sel [1] rfl⟩
   ·
    have f6:=eA f3;clear f3
    refine sq ?_
    obtain ⟨a1,e,f7⟩:=aA f6;clear f6
    have HH:=H;clear H;obtain ⟨p0,m0,h0,c0,c1,c2,c3,H⟩:=HH.elL 0 rfl e;clear HH
    clear e
    refine dA c0 c1 c2 ?_;clear c0 c1 c2
    refine cA c3 ?_;clear c3
    obtain ⟨y0,e,f8⟩:=aA f7;clear f7
    have i0:=e;clear e
    refine iA (Cs_ a1 h0 y0 i0) (Γi:=[]) H ⟨Vw.sh 0 rfl,trivial⟩ ?_;clear H i0
    rintro _ _ w2 ⟨h1,rfl,rfl⟩ H
    obtain ⟨a3,e,f9⟩:=aA f8;clear f8
    have i1:=e;clear e
    obtain ⟨p1,m1,c4,c5,c6⟩:=(H.ro (α:=List (List Int)) 3 rfl).setp i1
    refine dA c4 c5 c6 ?_
    replace H:=H.sel [3,0,1,2] rfl
    refine setL H c4 c5 i1 ?_;clear H c4 c5 c6 i1;intro w3 H
    obtain ⟨a4,e,f10⟩:=aA f9;clear f9
    refine arO e ?_;clear e
    have hs:=Option.some.inj f10;subst hs;clear f10
    exact ⟨(a3,a4),(),rfl,⟨rfl,rfl,rfl,trivial⟩,H.sel [2,0] rfl⟩
 ·
  clear f0 H
  rintro T1 s1 w5 ⟨hr,(H:Cx w0 fp0 S0 w5 [E (List (List Int)) s1 h5])⟩
  subst hr
  cases f1
  exact ⟨_,_,rfl,⟨h5,rfl,rfl⟩,(H.sel [0] rfl).close ⟨cloE,trivial⟩⟩
theorem bN (a__0:Int) (a__1:Int) (a__2:List (List Int)) (a__2h:Hd) (y_0:Int) (y_1:Int) (y_2:List (List Int)) (hF:pJ (a__0,a__1,a__2)=some (y_0,y_1,y_2)) :
  nA Tryz.prog 7 #[(.agg #[(.int .i64 a__0),(.int .i64 a__1),(a__2h).v])] [Es (List (List Int)) a__2 a__2h] [] (fun v Γ'=>∃ z0:Hd,v=(.agg #[(.int .i64 y_0),(.int .i64 y_1),(z0).v])∧Γ'=[E (List (List Int)) y_2 z0]):=by
 intro w0 S0 fp0 hI hS
 have H:Cx w0 fp0 S0 w0 [Es (List (List Int)) a__2 a__2h]:=Cx.start hI hS
 clear hI hS
 refine lA (args:=[_]) gok Tryz.func7 rfl _ rfl rfl rfl ?_
 refine jB H ?_;clear H;intro b3 w2 hx H
 clear hx
 refine sB gok rfl H ?_;clear H;intro b6 w5 hx H
 clear hx
 refine sB gok rfl H ?_;clear H;intro b9 w8 hx H
 clear hx
 refine fld gok rfl rfl rfl rfl ?_
 refine cA (H.bx 2 rfl (j:=0) rfl) ?_
 refine fld gok rfl rfl rfl rfl ?_
 refine stB (j:=0) H rfl rfl ?_;clear H;intro w1 H
 refine fld gok rfl rfl rfl rfl ?_
 refine cA (H.bx 2 rfl (j:=1) rfl) ?_
 refine fld gok rfl rfl rfl rfl ?_
 refine stB (j:=1) H rfl rfl ?_;clear H;intro w3 H
 refine fld gok rfl rfl rfl rfl ?_
 refine cA (H.bx 2 rfl (j:=2) rfl) ?_
 obtain ⟨y0,e,f0⟩:=aA hF;clear hF
 have i0:=e;clear e
 refine iA (B8_ a__2 a__2h y0 i0) (Γi:=[]) H ⟨Vw.sh 3 rfl,trivial⟩ ?_;clear H i0
 rintro _ _ w4 ⟨h0,rfl,rfl⟩ H
 refine fld gok rfl rfl rfl rfl ?_
 replace H:=H.sel [1,0,2,3,4] rfl
 refine stB (j:=2) H rfl rfl ?_;clear H;intro w6 H
 refine vA [(.int .i64 a__0),(.int .i64 a__1),(h0).v] rfl (fun j u hj=>H.bx 0 rfl hj) ?_
 replace H:=H.sel [2,0,1,3,4] rfl
 refine stA gok [(.int .i64 a__0),(.int .i64 a__1),(h0).v] rfl H rfl rfl rfl ?_;clear H;intro w7 H
 refine vA [(.int .i64 a__0),(.int .i64 a__1),(h0).v] rfl (fun j u hj=>H.bx 0 rfl hj) ?_
 cases f0
 exact ⟨_,_,rfl,⟨h0,rfl,rfl⟩,(H.sel [2] rfl).close ⟨cloE,trivial⟩⟩
theorem hG (n_:Int) (lo_:Int) (hi_:Int) (y:Bool) (hF:aF n_ lo_ hi_=some y) :
  nA Tryz.prog 44 #[(.int .i64 n_),(.int .i64 lo_),(.int .i64 hi_)] [] [] (fun v Γ'=>v=(.bool y)∧Γ'=[]):=by
 intro w0 S0 fp0 hI hS
 have H:Cx w0 fp0 S0 w0 []:=Cx.start hI hS
 clear hI hS
 refine lA (args:=[_,_,_]) gok Tryz.func44 rfl _ rfl rfl rfl ?_
 obtain ⟨r9,f0,f1⟩:=aA hF;clear hF
 refine cut (fun (q0:Bool)=>[(6,(.bool q0))]) (fun (q0:Bool) w'=>q0=r9∧Cx w0 fp0 S0 w' []) ?_ ?_
 ·
  obtain ⟨a0,e,f2⟩:=aA f0;clear f0
  refine gA e ?_;clear e
  cases a0
  ·
   have f3:=fA f2;clear f2
   exact ⟨false,⟨rfl,trivial⟩,Option.some.inj f3,H.sel [] rfl⟩
  ·
   have f4:=eA f2;clear f2
   obtain ⟨a1,e,f5⟩:=aA f4;clear f4
   refine gA e ?_;clear e
   exact ⟨a1,⟨rfl,trivial⟩,Option.some.inj f5,H.sel [] rfl⟩
 ·
  clear f0 H
  rintro T0 s7 w1 ⟨hr,(H:Cx w0 fp0 S0 w1 [])⟩
  subst hr
  cases f1
  exact ⟨_,_,rfl,⟨rfl,rfl⟩,(H.sel [] rfl).close trivial⟩
theorem Cn_ (p_:Int) (y:Bool) (hF:tN p_=some y) :
  nA Tryz.prog 34 #[(.int .i64 p_)] [] [] (fun v Γ'=>v=(.bool y)∧Γ'=[]):=by
 intro w0 S0 fp0 hI hS
 have H:Cx w0 fp0 S0 w0 []:=Cx.start hI hS
 clear hI hS
 refine lA (args:=[_]) gok Tryz.func34 rfl _ rfl rfl rfl ?_
 refine sq ?_
 obtain ⟨y1,e,hF2⟩:=aA hF;clear hF
 have ey1:=e;clear e
 refine iA (hG p_ 2 97 y1 ey1) (Γi:=[]) H trivial ?_;clear H ey1
 rintro _ _ w3 ⟨rfl,rfl⟩ H
 obtain ⟨a4,e,hF5⟩:=aA hF2;clear hF2
 refine gA e ?_;clear e
 cases a4
 ·
  have hF6:=fA hF5;clear hF5
  obtain ⟨r0,f0,f1⟩:=aA hF6;clear hF6
  refine cut (fun (q0:Unit)=>[]) (fun (q0:Unit) w'=>.inl ()=r0∧Cx w0 fp0 S0 w' []) ?_ ?_
  ·
   refine xC _ (fun (s0:Int) (_:Unit)=>[(0,(.int .i64 p_)),(3,(.int .i64 s0))]) (fun (s0:Int) (_:Unit) w'=>Cx w0 fp0 S0 w' []) 2 () f0 ⟨rfl,rfl,trivial⟩ (H.sel [] rfl) ?_
   ·
    clear H
    rintro T0 s0 _ w1 o0 (H:Cx w0 fp0 S0 w1 []) hrt f2
    refine sq ?_
    obtain ⟨a0,e,f3⟩:=aA f2;clear f2
    refine arO e ?_;clear e
    obtain ⟨a1,e,f4⟩:=aA f3;clear f3
    refine gA e ?_;clear e
    cases a1
    ·
     have f5:=fA f4;clear f4
     have hs:=Option.some.inj f5;subst hs;clear f5
     have f6:some _=some _:=congrArg some (hrt _ rfl).symm
     exact ⟨(),trivial,Option.some.inj f6,H.sel [] rfl⟩
    ·
     have f7:=eA f4;clear f4
     refine sq ?_
     obtain ⟨a2,e,f8⟩:=aA f7;clear f7
     refine aG e ?_;clear e
     obtain ⟨a3,e,f9⟩:=aA f8;clear f8
     refine gA e ?_;clear e
     cases a3
     ·
      have f10:=fA f9;clear f9
      obtain ⟨a5,e,f11⟩:=aA f10;clear f10
      refine arO e ?_;clear e
      have hs:=Option.some.inj f11;subst hs;clear f11
      exact ⟨a5,(),rfl,⟨rfl,rfl,trivial⟩,H.sel [] rfl⟩
     ·
      have f12:=eA f9;clear f9
      have hs:=Option.some.inj f12;subst hs;clear f12
      have f13:some _=some _:=congrArg some (hrt _ rfl).symm
      have hs:=Option.some.inj f13;subst hs;clear f13
      have f14:some _=some _:=f1;clear f1
      cases f14
      exact ⟨_,_,rfl,⟨rfl,rfl⟩,(H.sel [] rfl).close trivial⟩
  ·
   clear f0 H
   rintro T1 _ w2 ⟨hr,(H:Cx w0 fp0 S0 w2 [])⟩
   subst hr
   cases f1
   exact ⟨_,_,rfl,⟨rfl,rfl⟩,(H.sel [] rfl).close trivial⟩
 ·
  have f15:=eA hF5;clear hF5
  cases f15
  exact ⟨_,_,rfl,⟨rfl,rfl⟩,(H.sel [] rfl).close trivial⟩
theorem kL (l_:List Int) (l_h:Hd) (lo_:Int) (hi_:Int) (y:Bool) (hF:uG l_ lo_ hi_=some y) :
  nA Tryz.prog 73 #[(l_h).v,(.int .i64 lo_),(.int .i64 hi_)] [Es (List Int) l_ l_h] [] (fun v Γ'=>v=(.bool y)∧Γ'=[]):=by
 intro w0 S0 fp0 hI hS
 have H:Cx w0 fp0 S0 w0 [Es (List Int) l_ l_h]:=Cx.start hI hS
 clear hI hS
 refine lA (args:=[_,_,_]) gok Tryz.func73 rfl _ rfl rfl rfl ?_
 refine sq ?_
 refine kA (H.rs (α:=List Int) 0 rfl).len ?_
 have x0:=(H.rs (α:=List Int) 0 rfl).max
 obtain ⟨r0,e,f0⟩:=aA hF;clear hF
 refine qF _ l_.length (fun (k2:Nat) (_:Unit) (_:Unit)=>[(1,(.int .i64 lo_)),(2,(.int .i64 hi_)),(9,(l_h).v),(10,(.int .i64 ((l_.length:Nat):Int))),(11,(.int .i64 ((k2:Nat):Int)))]) (fun _ (_:Unit) (_:Unit) w'=>Cx w0 fp0 S0 w' [Es (List Int) l_ l_h]) () () e ⟨rfl,rfl,rfl,rfl,rfl,trivial⟩ (H.sel [0] rfl) ?_ ?_
 ·
  clear H e
  rintro T0 k2 _ _ w1 o0 hk (H:Cx w0 fp0 S0 w1 [Es (List Int) l_ l_h]) hrt f1
  refine jA (z:=true) (cB hk) ?_
  refine sq ?_
  refine sq ?_
  obtain ⟨a0,e,f2⟩:=aA f1;clear f1
  obtain ⟨p0,m0,c0,c1,c2,c3⟩:=(H.rs (α:=List Int) 0 rfl).at1 e;clear e
  refine dA c0 c1 c2 ?_;clear c0 c1 c2
  refine cA c3 ?_;clear c3
  obtain ⟨y0,e,f3⟩:=aA f2;clear f2
  have i0:=e;clear e
  refine iA (hG a0 lo_ hi_ y0 i0) (Γi:=[]) H trivial ?_;clear H i0
  rintro _ _ w2 ⟨rfl,rfl⟩ H
  obtain ⟨a1,e,f4⟩:=aA f3;clear f3
  refine gA e ?_;clear e
  cases a1
  ·
   have f5:=fA f4;clear f4
   refine arK hk x0 ?_
   have hs:=Option.some.inj f5;subst hs;clear f5
   exact ⟨(),(),rfl,⟨rfl,rfl,rfl,rfl,rfl,trivial⟩,H.sel [0] rfl⟩
  ·
   have f6:=eA f4;clear f4
   have hs:=Option.some.inj f6;subst hs;clear f6
   have hr:=hrt _ rfl;subst hr
   have f7:some _=some _:=f0
   cases f7
   exact ⟨_,_,rfl,⟨rfl,rfl⟩,(H.sel [] rfl).close trivial⟩
 ·
  clear H e
  rintro T1 _ _ w3 hr (H:Cx w0 fp0 S0 w3 [Es (List Int) l_ l_h])
  subst hr
  refine jA (z:=false) dB ?_
  refine sq ?_
  cases f0
  exact ⟨_,_,rfl,⟨rfl,rfl⟩,(H.sel [] rfl).close trivial⟩
theorem CM_ (p_:Int) (l_:List Int) (l_h:Hd) (y:Bool) (hF:uS p_ l_=some y) :
  nA Tryz.prog 57 #[(.int .i64 p_),(l_h).v] [Es (List Int) l_ l_h] [] (fun v Γ'=>v=(.bool y)∧Γ'=[]):=by
 intro w0 S0 fp0 hI hS
 have H:Cx w0 fp0 S0 w0 [Es (List Int) l_ l_h]:=Cx.start hI hS
 clear hI hS
 refine lA (args:=[_,_]) gok Tryz.func57 rfl _ rfl rfl rfl ?_
 obtain ⟨a2,e,hF3⟩:=aA hF;clear hF
 refine arO e ?_;clear e
 obtain ⟨y4,e,hF5⟩:=aA hF3;clear hF3
 have ey4:=e;clear e
 refine iA (kL l_ l_h 0 a2 y4 ey4) (Γi:=[]) H ⟨Vw.sh 0 rfl,trivial⟩ ?_;clear H ey4
 rintro _ _ w6 ⟨rfl,rfl⟩ H
 cases hF5
 exact ⟨_,_,rfl,⟨rfl,rfl⟩,(H.sel [] rfl).close trivial⟩
theorem Ch_ (p_:Int) (size_:Int) (rows_:List (List Int)) (rows_h:Hd) (y:Bool) (hF:bS p_ size_ rows_=some y) :
  nA Tryz.prog 68 #[(.int .i64 p_),(.int .i64 size_),(rows_h).v] [Es (List (List Int)) rows_ rows_h] [] (fun v Γ'=>v=(.bool y)∧Γ'=[]):=by
 intro w0 S0 fp0 hI hS
 have H:Cx w0 fp0 S0 w0 [Es (List (List Int)) rows_ rows_h]:=Cx.start hI hS
 clear hI hS
 refine lA (args:=[_,_,_]) gok Tryz.func68 rfl _ rfl rfl rfl ?_
 refine sq ?_
 refine kA (H.rs (α:=List (List Int)) 0 rfl).len ?_
 have x0:=(H.rs (α:=List (List Int)) 0 rfl).max
 obtain ⟨r0,e,f0⟩:=aA hF;clear hF
 refine qF _ rows_.length (fun (k2:Nat) (_:Unit) (_:Unit)=>[(0,(.int .i64 p_)),(1,(.int .i64 size_)),(9,(rows_h).v),(10,(.int .i64 ((rows_.length:Nat):Int))),(11,(.int .i64 ((k2:Nat):Int)))]) (fun _ (_:Unit) (_:Unit) w'=>Cx w0 fp0 S0 w' [Es (List (List Int)) rows_ rows_h]) () () e ⟨rfl,rfl,rfl,rfl,rfl,trivial⟩ (H.sel [0] rfl) ?_ ?_
 ·
  clear H e
  rintro T0 k2 _ _ w1 o0 hk (H:Cx w0 fp0 S0 w1 [Es (List (List Int)) rows_ rows_h]) hrt f1
  refine jA (z:=true) (cB hk) ?_
  refine sq ?_
  refine sq ?_
  obtain ⟨a0,e,f2⟩:=aA f1;clear f1
  have HH:=H;clear H;obtain ⟨p0,m0,h0,c0,c1,c2,c3,H⟩:=HH.elL 0 rfl e;clear HH
  clear e
  refine dA c0 c1 c2 ?_;clear c0 c1 c2
  refine cA c3 ?_;clear c3
  obtain ⟨r1,f3,f4⟩:=aA f2;clear f2
  refine cut (fun (q0:Bool)=>[(0,(.int .i64 p_)),(1,(.int .i64 size_)),(9,(rows_h).v),(10,(.int .i64 ((rows_.length:Nat):Int))),(11,(.int .i64 ((k2:Nat):Int))),(24,(.bool q0))]) (fun (q0:Bool) w'=>q0=r1∧Cx w0 fp0 S0 w' [Es (List (List Int)) rows_ rows_h]) ?_ ?_
  ·
   refine kA (H.rs (α:=List Int) 0 rfl).len ?_
   obtain ⟨a1,e,f5⟩:=aA f3;clear f3
   refine gA e ?_;clear e
   cases a1
   ·
    have f6:=fA f5;clear f5
    obtain ⟨y0,e,f7⟩:=aA f6;clear f6
    have i0:=e;clear e
    refine iA (CM_ p_ a0 h0 y0 i0) (Γi:=[]) H ⟨Vw.sh 0 rfl,trivial⟩ ?_;clear H i0
    rintro _ _ w2 ⟨rfl,rfl⟩ H
    obtain ⟨a2,e,f8⟩:=aA f7;clear f7
    refine gA e ?_;clear e
    exact ⟨a2,⟨rfl,rfl,rfl,rfl,rfl,rfl,trivial⟩,Option.some.inj f8,H.sel [1] rfl⟩
   ·
    have f9:=eA f5;clear f5
    exact ⟨true,⟨rfl,rfl,rfl,rfl,rfl,rfl,trivial⟩,Option.some.inj f9,H.sel [1] rfl⟩
  ·
   clear f3 H
   rintro T1 s0 w3 ⟨hr,(H:Cx w0 fp0 S0 w3 [Es (List (List Int)) rows_ rows_h])⟩
   subst hr
   cases s0
   ·
    have f10:=fA f4;clear f4
    refine arK hk x0 ?_
    have hs:=Option.some.inj f10;subst hs;clear f10
    exact ⟨(),(),rfl,⟨rfl,rfl,rfl,rfl,rfl,trivial⟩,H.sel [0] rfl⟩
   ·
    have f11:=eA f4;clear f4
    have hs:=Option.some.inj f11;subst hs;clear f11
    have hr:=hrt _ rfl;subst hr
    have f12:some _=some _:=f0
    cases f12
    exact ⟨_,_,rfl,⟨rfl,rfl⟩,(H.sel [] rfl).close trivial⟩
 ·
  clear H e
  rintro T2 _ _ w4 hr (H:Cx w0 fp0 S0 w4 [Es (List (List Int)) rows_ rows_h])
  subst hr
  refine jA (z:=false) dB ?_
  refine sq ?_
  cases f0
  exact ⟨_,_,rfl,⟨rfl,rfl⟩,(H.sel [] rfl).close trivial⟩
theorem dW (l_:List Int) (l_h:Hd) (y:List Int) (hF:mL l_=some y) :
  nA Tryz.prog 48 #[(l_h).v] [Es (List Int) l_ l_h] [] (fun v Γ'=>∃ z0:Hd,v=(z0).v∧Γ'=[E (List Int) y z0]):=by
 intro w0 S0 fp0 hI hS
 have H:Cx w0 fp0 S0 w0 [Es (List Int) l_ l_h]:=Cx.start hI hS
 clear hI hS
 refine lA (args:=[_]) gok Tryz.func48 rfl _ rfl rfl rfl ?_
 refine lit0 (α:=Int) gok rfl rfl H ?_;clear H;intro h3 w2 hx H
 clear hx
 obtain ⟨a5,e,hF6⟩:=aA hF;clear hF
 refine nC (α:=Int) gok rfl rfl rfl rfl H (Vw.sh 0 rfl) e ?_;clear e H;intro h8 w7 H
 cases hF6
 exact ⟨_,_,rfl,⟨h8,rfl,rfl⟩,(H.sel [0] rfl).close ⟨cloE,trivial⟩⟩
theorem CA_ (p_:Int) (a_:Int) (y:Int) (hF:wN p_ a_=some y) :
  nA Tryz.prog 84 #[(.int .i64 p_),(.int .i64 a_)] [] [] (fun v Γ'=>v=(.int .i64 y)∧Γ'=[]):=by
 intro w0 S0 fp0 hI hS
 have H:Cx w0 fp0 S0 w0 []:=Cx.start hI hS
 clear hI hS
 refine lA (args:=[_,_]) gok Tryz.func84 rfl _ rfl rfl rfl ?_
 obtain ⟨r0,f0,f1⟩:=aA hF;clear hF
 refine cut (fun (q0:Unit)=>[]) (fun (q0:Unit) w'=>.inl ()=r0∧Cx w0 fp0 S0 w' []) ?_ ?_
 ·
  refine xC _ (fun (s0:Int) (_:Unit)=>[(0,(.int .i64 p_)),(1,(.int .i64 a_)),(5,(.int .i64 s0))]) (fun (s0:Int) (_:Unit) w'=>Cx w0 fp0 S0 w' []) 1 () f0 ⟨rfl,rfl,rfl,trivial⟩ (H.sel [] rfl) ?_
  ·
   clear H
   rintro T0 s0 _ w1 o0 (H:Cx w0 fp0 S0 w1 []) hrt f2
   refine sq ?_
   obtain ⟨a0,e,f3⟩:=aA f2;clear f2
   refine gA e ?_;clear e
   cases a0
   ·
    have f4:=fA f3;clear f3
    have hs:=Option.some.inj f4;subst hs;clear f4
    have f5:some _=some _:=congrArg some (hrt _ rfl).symm
    exact ⟨(),trivial,Option.some.inj f5,H.sel [] rfl⟩
   ·
    have f6:=eA f3;clear f3
    refine sq ?_
    obtain ⟨a1,e,f7⟩:=aA f6;clear f6
    refine arO e ?_;clear e
    obtain ⟨a2,e,f8⟩:=aA f7;clear f7
    refine aG e ?_;clear e
    obtain ⟨a3,e,f9⟩:=aA f8;clear f8
    refine gA e ?_;clear e
    cases a3
    ·
     have f10:=fA f9;clear f9
     obtain ⟨a4,e,f11⟩:=aA f10;clear f10
     refine arO e ?_;clear e
     have hs:=Option.some.inj f11;subst hs;clear f11
     exact ⟨a4,(),rfl,⟨rfl,rfl,rfl,trivial⟩,H.sel [] rfl⟩
    ·
     have f12:=eA f9;clear f9
     have hs:=Option.some.inj f12;subst hs;clear f12
     have f13:some _=some _:=congrArg some (hrt _ rfl).symm
     have hs:=Option.some.inj f13;subst hs;clear f13
     have f14:some _=some _:=f1;clear f1
     cases f14
     exact ⟨_,_,rfl,⟨rfl,rfl⟩,(H.sel [] rfl).close trivial⟩
 ·
  clear f0 H
  rintro T1 _ w2 ⟨hr,(H:Cx w0 fp0 S0 w2 [])⟩
  subst hr
  cases f1
  exact ⟨_,_,rfl,⟨rfl,rfl⟩,(H.sel [] rfl).close trivial⟩
theorem eW (p_:Int) (a_:Int) (b_:Int) (y:Int) (hF:uF p_ a_ b_=some y) :
  nA Tryz.prog 85 #[(.int .i64 p_),(.int .i64 a_),(.int .i64 b_)] [] [] (fun v Γ'=>v=(.int .i64 y)∧Γ'=[]):=by
 intro w0 S0 fp0 hI hS
 have H:Cx w0 fp0 S0 w0 []:=Cx.start hI hS
 clear hI hS
 refine lA (args:=[_,_,_]) gok Tryz.func85 rfl _ rfl rfl rfl ?_
 obtain ⟨a1,e,hF2⟩:=aA hF;clear hF
 refine arO e ?_;clear e
 obtain ⟨a3,e,hF4⟩:=aA hF2;clear hF2
 refine aG e ?_;clear e
 cases hF4
 exact ⟨_,_,rfl,⟨rfl,rfl⟩,(H.sel [] rfl).close trivial⟩
theorem Cz_ (p_:Int) (a_:Int) (b_:Int) (y:Int) (hF:wI p_ a_ b_=some y) :
  nA Tryz.prog 86 #[(.int .i64 p_),(.int .i64 a_),(.int .i64 b_)] [] [] (fun v Γ'=>v=(.int .i64 y)∧Γ'=[]):=by
 intro w0 S0 fp0 hI hS
 have H:Cx w0 fp0 S0 w0 []:=Cx.start hI hS
 clear hI hS
 refine lA (args:=[_,_,_]) gok Tryz.func86 rfl _ rfl rfl rfl ?_
 obtain ⟨a1,e,hF2⟩:=aA hF;clear hF
 refine arO e ?_;clear e
 obtain ⟨a3,e,hF4⟩:=aA hF2;clear hF2
 refine arO e ?_;clear e
 obtain ⟨a5,e,hF6⟩:=aA hF4;clear hF4
 refine aG e ?_;clear e
 cases hF6
 exact ⟨_,_,rfl,⟨rfl,rfl⟩,(H.sel [] rfl).close trivial⟩
theorem BW_ (p_:Int) (size_:Int) (rows_:List (List Int)) (rows_h:Hd) (y:List (List Int)) (hF:sR p_ size_ rows_=some y) :
  nA Tryz.prog 70 #[(.int .i64 p_),(.int .i64 size_),(rows_h).v] [Es (List (List Int)) rows_ rows_h] [] (fun v Γ'=>∃ z0:Hd,v=(z0).v∧Γ'=[E (List (List Int)) y z0]):=by
 intro w0 S0 fp0 hI hS
 have H:Cx w0 fp0 S0 w0 [Es (List (List Int)) rows_ rows_h]:=Cx.start hI hS
 clear hI hS
 refine lA (args:=[_,_,_]) gok Tryz.func70 rfl _ rfl rfl rfl ?_
 refine sq ?_
 refine kA (H.rs (α:=List (List Int)) 0 rfl).len ?_
 have x0:=(H.rs (α:=List (List Int)) 0 rfl).max
 obtain ⟨r0,e,f0⟩:=aA hF;clear hF
 replace H:=H.nil (α:=List Int)
 refine fB _ rows_.length (fun (k2:Nat) (s0:List (List Int)) (g0:Hd)=>[(0,(.int .i64 p_)),(1,(.int .i64 size_)),(7,(g0).v),(19,(rows_h).v),(20,(.int .i64 ((rows_.length:Nat):Int))),(21,(.int .i64 ((k2:Nat):Int)))]) (fun _ (s0:List (List Int)) (g0:Hd) w'=>Cx w0 fp0 S0 w' [E (List (List Int)) s0 g0,Es (List (List Int)) rows_ rows_h]) [] nilH e ⟨rfl,rfl,rfl,rfl,rfl,rfl,trivial⟩ (H.sel [0,1] rfl) ?_ ?_
 ·
  clear H e
  rintro T0 k2 s0 g0 w1 o0 hk (H:Cx w0 fp0 S0 w1 [E (List (List Int)) s0 g0,Es (List (List Int)) rows_ rows_h]) f1
  refine jA (z:=true) (cB hk) ?_
  refine sq ?_
  refine sq ?_
  obtain ⟨a0,e,f2⟩:=aA f1;clear f1
  have HH:=H;clear H;obtain ⟨p0,m0,h0,c0,c1,c2,c3,H⟩:=HH.elL 1 rfl e;clear HH
  clear e
  refine dA c0 c1 c2 ?_;clear c0 c1 c2
  refine cA c3 ?_;clear c3
  obtain ⟨y0,e,f3⟩:=aA f2;clear f2
  have i0:=e;clear e
  refine iA (dW a0 h0 y0 i0) (Γi:=[]) H ⟨Vw.sh 0 rfl,trivial⟩ ?_;clear H i0
  rintro _ _ w2 ⟨h1,rfl,rfl⟩ H
  refine gF (α:=List Int) (g:=h1) gok rfl rfl rfl rfl rfl H ?_;clear H;intro h2 w3 hx H
  clear hx
  obtain ⟨a1,e,f4⟩:=aA f3;clear f3
  replace H:=H.sel [2,0,1,3] rfl
  refine append_ (α:=List Int) gok rfl rfl rfl rfl H e ?_;clear e H;intro h3 w4 H
  refine arK hk x0 ?_
  have hs:=Option.some.inj f4;subst hs;clear f4
  exact ⟨h3,⟨rfl,rfl,rfl,rfl,rfl,rfl,trivial⟩,H.sel [0,2] rfl⟩
 ·
  clear H e
  rintro T1 g1 w5 (H:Cx w0 fp0 S0 w5 [E (List (List Int)) r0 g1,Es (List (List Int)) rows_ rows_h])
  refine jA (z:=false) dB ?_
  refine sq ?_
  obtain ⟨r1,f5,f6⟩:=aA f0;clear f0
  refine cut (fun (q0:List (List Int)×Int)=>[(7,(g1).v),(10,(.int .i64 q0.2))]) (fun (q0:List (List Int)×Int) w'=>(q0.1,q0.2)=r1∧Cx w0 fp0 S0 w' [E (List (List Int)) q0.1 g1]) ?_ ?_
  ·
   refine xC _ (fun (s1:List (List Int)×Int×Int) (_:Unit)=>[(0,(.int .i64 p_)),(1,(.int .i64 size_)),(7,(g1).v),(10,(.int .i64 s1.2.1)),(11,(.int .i64 s1.2.2))]) (fun (s1:List (List Int)×Int×Int) (_:Unit) w'=>Cx w0 fp0 S0 w' [E (List (List Int)) s1.1 g1]) (r0,0,0) () f5 ⟨rfl,rfl,rfl,rfl,rfl,trivial⟩ (H.sel [0] rfl) ?_
   ·
    clear H
    rintro T2 ⟨s1_0,s1_1,s1_2⟩ _ w6 o1 (H:Cx w0 fp0 S0 w6 [E (List (List Int)) s1_0 g1]) hrt f7
    refine sq ?_
    obtain ⟨r2,f8,f9⟩:=aA f7;clear f7
    refine cut (fun (q1:Bool)=>[(0,(.int .i64 p_)),(1,(.int .i64 size_)),(7,(g1).v),(10,(.int .i64 s1_1)),(11,(.int .i64 s1_2)),(39,(.bool q1))]) (fun (q1:Bool) w'=>q1=r2∧Cx w0 fp0 S0 w' [E (List (List Int)) s1_0 g1]) ?_ ?_
    ·
     obtain ⟨a2,e,f10⟩:=aA f8;clear f8
     refine gA e ?_;clear e
     cases a2
     ·
      have f11:=fA f10;clear f10
      exact ⟨false,⟨rfl,rfl,rfl,rfl,rfl,rfl,trivial⟩,Option.some.inj f11,H.sel [0] rfl⟩
     ·
      have f12:=eA f10;clear f10
      refine kA (H.ro (α:=List (List Int)) 0 rfl).len ?_
      obtain ⟨a3,e,f13⟩:=aA f12;clear f12
      refine gA e ?_;clear e
      exact ⟨a3,⟨rfl,rfl,rfl,rfl,rfl,rfl,trivial⟩,Option.some.inj f13,H.sel [0] rfl⟩
    ·
     clear f8 H
     rintro T3 s2 w7 ⟨hr,(H:Cx w0 fp0 S0 w7 [E (List (List Int)) s1_0 g1])⟩
     subst hr
     cases s2
     ·
      have f14:=fA f9;clear f9
      have hs:=Option.some.inj f14;subst hs;clear f14
      have f15:some _=some _:=congrArg some (hrt _ rfl).symm
      exact ⟨(s1_0,s1_1),⟨rfl,rfl,trivial⟩,Option.some.inj f15,H.sel [0] rfl⟩
     ·
      have f16:=eA f9;clear f9
      obtain ⟨r3,f17,f18⟩:=aA f16;clear f16
      refine cut (fun (q2:List (List Int)×Int)=>[(0,(.int .i64 p_)),(1,(.int .i64 size_)),(7,(g1).v),(10,(.int .i64 q2.2)),(11,(.int .i64 s1_2))]) (fun (q2:List (List Int)×Int) w'=>(q2.1,q2.2)=r3∧Cx w0 fp0 S0 w' [E (List (List Int)) q2.1 g1]) ?_ ?_
      ·
       obtain ⟨r4,f19,f20⟩:=aA f17;clear f17
       refine cut (fun (q3:Int)=>[(0,(.int .i64 p_)),(1,(.int .i64 size_)),(7,(g1).v),(10,(.int .i64 s1_1)),(11,(.int .i64 s1_2)),(12,(.int .i64 q3))]) (fun (q3:Int) w'=>q3=r4∧Cx w0 fp0 S0 w' [E (List (List Int)) s1_0 g1]) ?_ ?_
       ·
        refine xC _ (fun (s3:Int) (_:Unit)=>[(0,(.int .i64 p_)),(1,(.int .i64 size_)),(7,(g1).v),(10,(.int .i64 s1_1)),(11,(.int .i64 s1_2)),(12,(.int .i64 s3))]) (fun (s3:Int) (_:Unit) w'=>Cx w0 fp0 S0 w' [E (List (List Int)) s1_0 g1]) s1_1 () f19 ⟨rfl,rfl,rfl,rfl,rfl,rfl,trivial⟩ (H.sel [0] rfl) ?_
        ·
         clear H
         rintro T4 s3 _ w8 o2 (H:Cx w0 fp0 S0 w8 [E (List (List Int)) s1_0 g1]) hrt f21
         refine sq ?_
         obtain ⟨r5,f22,f23⟩:=aA f21;clear f21
         refine cut (fun (q4:Bool)=>[(0,(.int .i64 p_)),(1,(.int .i64 size_)),(7,(g1).v),(10,(.int .i64 s1_1)),(11,(.int .i64 s1_2)),(12,(.int .i64 s3)),(56,(.bool q4))]) (fun (q4:Bool) w'=>q4=r5∧Cx w0 fp0 S0 w' [E (List (List Int)) s1_0 g1]) ?_ ?_
         ·
          refine kA (H.ro (α:=List (List Int)) 0 rfl).len ?_
          obtain ⟨a4,e,f24⟩:=aA f22;clear f22
          refine gA e ?_;clear e
          cases a4
          ·
           have f25:=fA f24;clear f24
           exact ⟨false,⟨rfl,rfl,rfl,rfl,rfl,rfl,rfl,trivial⟩,Option.some.inj f25,H.sel [0] rfl⟩
          ·
           have f26:=eA f24;clear f24
           obtain ⟨a5,e,f27⟩:=aA f26;clear f26
           replace H:=H.toEH (α:=List Int)
           have HH:=H;clear H;obtain ⟨p1,m1,h4,c4,c5,c6,c7,H⟩:=HH.peekL e;clear HH
           clear e
           refine dA c4 c5 c6 ?_
           refine cA c7 ?_;clear c7
           obtain ⟨a6,e,f28⟩:=aA f27;clear f27
           obtain ⟨p2,m2,c8,c9,c10,c11⟩:=(H.rh (α:=List Int) 0 rfl 0 rfl).at1 e;clear e
           refine dA c8 c9 c10 ?_;clear c8 c9 c10
           refine cA c11 ?_;clear c11
           obtain ⟨a7,e,f29⟩:=aA f28;clear f28
           refine gA e ?_;clear e
           replace H:=H.ofEH
           exact ⟨a7,⟨rfl,rfl,rfl,rfl,rfl,rfl,rfl,trivial⟩,Option.some.inj f29,H.sel [0] rfl⟩
         ·
          clear f22 H
          rintro T5 s4 w9 ⟨hr,(H:Cx w0 fp0 S0 w9 [E (List (List Int)) s1_0 g1])⟩
          subst hr
          cases s4
          ·
           have f30:=fA f23;clear f23
           have hs:=Option.some.inj f30;subst hs;clear f30
           have f31:some _=some _:=congrArg some (hrt _ rfl).symm
           exact ⟨s3,⟨rfl,rfl,rfl,rfl,rfl,rfl,trivial⟩,Option.some.inj f31,H.sel [0] rfl⟩
          ·
           have f32:=eA f23;clear f23
           obtain ⟨a8,e,f33⟩:=aA f32;clear f32
           refine arO e ?_;clear e
           have hs:=Option.some.inj f33;subst hs;clear f33
           exact ⟨a8,(),rfl,⟨rfl,rfl,rfl,rfl,rfl,rfl,trivial⟩,H.sel [0] rfl⟩
       ·
        clear f19 H
        rintro T6 s5 w10 ⟨hr,(H:Cx w0 fp0 S0 w10 [E (List (List Int)) s1_0 g1])⟩
        subst hr
        refine sq ?_
        refine kA (H.ro (α:=List (List Int)) 0 rfl).len ?_
        obtain ⟨a9,e,f34⟩:=aA f20;clear f20
        refine gA e ?_;clear e
        cases a9
        ·
         have f35:=fA f34;clear f34
         obtain ⟨a10,e,f36⟩:=aA f35;clear f35
         replace H:=H.toEH (α:=List Int)
         have HH:=H;clear H;obtain ⟨p3,m3,h5,c12,c13,c14,c15,H⟩:=HH.peekL e;clear HH
         clear e
         refine dA c12 c13 c14 ?_
         refine cA c15 ?_;clear c15
         obtain ⟨a11,e,f37⟩:=aA f36;clear f36
         have HH:=H;clear H;obtain ⟨p4,m4,h6,c16,c17,c18,c19,H⟩:=HH.peekL e;clear HH
         clear e
         refine dA c16 c17 c18 ?_
         refine cA c19 ?_;clear c19
         refine dA c12 c13 c14 ?_
         refine stZ1 (ki:=1) (kj:=0) H rfl rfl c12 ?_;clear H;intro w11 H
         refine dA c16 c17 c18 ?_
         obtain ⟨a12,e,f38⟩:=aA f37;clear f37
         refine stZ2 H c13 c17 c16 e ?_;clear H e;intro w12 H
         obtain ⟨a13,e,f39⟩:=aA f38;clear f38
         replace H:=H.toEH (α:=List Int)
         have HH:=H;clear H;obtain ⟨p5,m5,h7,c20,c21,c22,c23,H⟩:=HH.peekL e;clear HH
         clear e
         refine dA c20 c21 c22 ?_
         refine cA c23 ?_;clear c23
         obtain ⟨a14,e,f40⟩:=aA f39;clear f39
         obtain ⟨p6,m6,c24,c25,c26,c27⟩:=(H.rh (α:=List Int) 0 rfl 0 rfl).at1 e;clear e
         refine dA c24 c25 c26 ?_;clear c24 c25 c26
         refine cA c27 ?_;clear c27
         obtain ⟨y1,e,f41⟩:=aA f40;clear f40
         have i1:=e;clear e
         refine iA (CA_ p_ a14 y1 i1) (Γi:=[]) H trivial ?_;clear H i1
         rintro _ _ w13 ⟨rfl,rfl⟩ H
         refine sq ?_
         obtain ⟨a15,e,f42⟩:=aA f41;clear f41
         have HH:=H;clear H;obtain ⟨p7,m7,h8,c28,c29,c30,c31,H⟩:=HH.peekL e;clear HH
         clear e
         refine dA c28 c29 c30 ?_
         refine cA c31 ?_;clear c31
         have x1:=(H.rh (α:=List Int) 0 rfl 0 rfl).max
         refine kA (H.rh (α:=List Int) 0 rfl 0 rfl).len ?_
         replace H:=H.ofEH
         obtain ⟨r6,e,f43⟩:=aA f42;clear f42
         refine fB _ a15.length (fun (k0:Nat) (s6:List (List Int)) (_:Unit)=>[(0,(.int .i64 p_)),(1,(.int .i64 size_)),(7,(g1).v),(10,(.int .i64 s1_1)),(11,(.int .i64 s1_2)),(14,(.int .i64 y1)),(91,(.int .i64 ((a15.length:Nat):Int))),(92,(.int .i64 ((k0:Nat):Int)))]) (fun _ (s6:List (List Int)) (_:Unit) w'=>Cx w0 fp0 S0 w' [E (List (List Int)) s6 g1]) a12 () e ⟨rfl,rfl,rfl,rfl,rfl,rfl,rfl,rfl,trivial⟩ (H.sel [0] rfl) ?_ ?_
         ·
          clear H e
          rintro T7 k0 s6 _ w14 o3 hk (H:Cx w0 fp0 S0 w14 [E (List (List Int)) s6 g1]) f44
          refine jA (z:=true) (cB hk) ?_
          refine sq ?_
          refine sq ?_
          refine aC H [16] (.fst 0 (.fst 1 (.fst 2 (.fst 4 (.fst 5 (.fst 6 (.fst 7 (.fst 8 (.fst 10 (.fst 13 (.fst 3 (.fst 9 (.fst 11 (.fst 12 (.act 14 (.fst 15 (.act 16 .done))))))))))))))))) vB [] trivial (by kernel_rfl) ?_
          clear H;intro w15 H
          have hX:Ext w15 w15:=Upd.refl _ _
          have H0:=H
          obtain ⟨a16,e,f45⟩:=aA f44;clear f44
          replace H:=H.toEH (α:=List Int)
          have HH:=H;clear H;obtain ⟨p8,m8,h9,c32,c33,c34,c35,H⟩:=HH.peekL e;clear HH
          clear e
          refine dA c32 c33 c34 ?_
          obtain ⟨a17,e,f46⟩:=aA f45;clear f45
          have HH:=H;clear H;obtain ⟨p9,m9,h10,c36,c37,c38,c39,H⟩:=HH.peekL e;clear HH
          clear e
          refine dA c36 c37 c38 ?_
          refine uA c35 ?_;clear c35
          refine uA c39 ?_;clear c39
          obtain ⟨a18,e,f47⟩:=aA f46;clear f46
          obtain ⟨p10,m10,c40,c41,c42,c43⟩:=(H.rh (α:=List Int) 0 rfl 0 rfl).at1 e;clear e
          refine dA c40 c41 c42 ?_;clear c40 c41 c42
          refine uA c43 ?_;clear c43
          obtain ⟨y2,e,f48⟩:=aA f47;clear f47
          have i2:=e;clear e
          refine eB (eW p_ a18 y1 y2 i2) H trivial ?_;clear H i2
          rintro _ _ w16 ⟨rfl,rfl⟩ hx H
          replace hX:=hX.trans0 hx;clear hx
          refine hold hX ?_
          replace H:=H.takeK 1 rfl
          obtain ⟨a19,e,f49⟩:=aA f48;clear f48
          have i3:=e;clear e
          obtain ⟨p11,m11,c44,c45,c46⟩:=(H.ro (α:=List Int) 0 rfl).setp i3
          refine dA c44 c45 c46 ?_
          refine gC (α:=Int) H c44 c45 i3 ?_;clear H c44 c45 c46 i3;intro w17 H
          obtain ⟨a20,e,f50⟩:=aA f49;clear f49
          replace H:=H.put c33 e;clear e
          refine hold trivial ?_
          refine arK hk x1 ?_
          have hs:=Option.some.inj f50;subst hs;clear f50
          exact ⟨(),⟨rfl,rfl,rfl,rfl,rfl,rfl,rfl,rfl,trivial⟩,H.sel [0] rfl⟩
         ·
          clear H e
          rintro T8 _ w18 (H:Cx w0 fp0 S0 w18 [E (List (List Int)) r6 g1])
          refine jA (z:=false) dB ?_
          refine sq ?_
          refine sq ?_
          refine kA (H.ro (α:=List (List Int)) 0 rfl).len ?_
          have x2:=(H.ro (α:=List (List Int)) 0 rfl).max
          obtain ⟨r7,e,f51⟩:=aA f43;clear f43
          refine fB _ r6.length (fun (k1:Nat) (s7:List (List Int)) (_:Unit)=>[(0,(.int .i64 p_)),(1,(.int .i64 size_)),(7,(g1).v),(10,(.int .i64 s1_1)),(11,(.int .i64 s1_2)),(113,(.int .i64 ((r6.length:Nat):Int))),(114,(.int .i64 ((k1:Nat):Int)))]) (fun _ (s7:List (List Int)) (_:Unit) w'=>Cx w0 fp0 S0 w' [E (List (List Int)) s7 g1]) r6 () e ⟨rfl,rfl,rfl,rfl,rfl,rfl,rfl,trivial⟩ (H.sel [0] rfl) ?_ ?_
          ·
           clear H e
           rintro T9 k1 s7 _ w19 o4 hk (H:Cx w0 fp0 S0 w19 [E (List (List Int)) s7 g1]) f52
           refine jA (z:=true) (cB hk) ?_
           refine sq ?_
           obtain ⟨r8,f53,f54⟩:=aA f52;clear f52
           refine cut (fun (q5:List (List Int))=>[(0,(.int .i64 p_)),(1,(.int .i64 size_)),(7,(g1).v),(10,(.int .i64 s1_1)),(11,(.int .i64 s1_2)),(113,(.int .i64 ((r6.length:Nat):Int))),(114,(.int .i64 ((k1:Nat):Int)))]) (fun (q5:List (List Int)) w'=>q5=r8∧Cx w0 fp0 S0 w' [E (List (List Int)) q5 g1]) ?_ ?_
           ·
            refine sq ?_
            obtain ⟨r9,f55,f56⟩:=aA f53;clear f53
            refine cut (fun (q6:Bool)=>[(0,(.int .i64 p_)),(1,(.int .i64 size_)),(7,(g1).v),(10,(.int .i64 s1_1)),(11,(.int .i64 s1_2)),(16,(.int .i64 ((k1:Nat):Int))),(113,(.int .i64 ((r6.length:Nat):Int))),(114,(.int .i64 ((k1:Nat):Int))),(129,(.bool q6))]) (fun (q6:Bool) w'=>q6=r9∧Cx w0 fp0 S0 w' [E (List (List Int)) s7 g1]) ?_ ?_
            ·
             obtain ⟨a21,e,f57⟩:=aA f55;clear f55
             refine gA e ?_;clear e
             cases a21
             ·
              have f58:=fA f57;clear f57
              obtain ⟨a22,e,f59⟩:=aA f58;clear f58
              replace H:=H.toEH (α:=List Int)
              have HH:=H;clear H;obtain ⟨p12,m12,h11,c47,c48,c49,c50,H⟩:=HH.peekL e;clear HH
              clear e
              refine dA c47 c48 c49 ?_
              refine cA c50 ?_;clear c50
              obtain ⟨a23,e,f60⟩:=aA f59;clear f59
              obtain ⟨p13,m13,c51,c52,c53,c54⟩:=(H.rh (α:=List Int) 0 rfl 0 rfl).at1 e;clear e
              refine dA c51 c52 c53 ?_;clear c51 c52 c53
              refine cA c54 ?_;clear c54
              obtain ⟨a24,e,f61⟩:=aA f60;clear f60
              refine gA e ?_;clear e
              replace H:=H.ofEH
              exact ⟨a24,⟨rfl,rfl,rfl,rfl,rfl,rfl,rfl,rfl,rfl,trivial⟩,Option.some.inj f61,H.sel [0] rfl⟩
             ·
              have f62:=eA f57;clear f57
              exact ⟨true,⟨rfl,rfl,rfl,rfl,rfl,rfl,rfl,rfl,rfl,trivial⟩,Option.some.inj f62,H.sel [0] rfl⟩
            ·
             clear f55 H
             rintro T10 s8 w20 ⟨hr,(H:Cx w0 fp0 S0 w20 [E (List (List Int)) s7 g1])⟩
             subst hr
             cases s8
             ·
              have f63:=fA f56;clear f56
              obtain ⟨a25,e,f64⟩:=aA f63;clear f63
              replace H:=H.toEH (α:=List Int)
              have HH:=H;clear H;obtain ⟨p14,m14,h12,c55,c56,c57,c58,H⟩:=HH.peekL e;clear HH
              clear e
              refine dA c55 c56 c57 ?_
              refine cA c58 ?_;clear c58
              obtain ⟨a26,e,f65⟩:=aA f64;clear f64
              obtain ⟨p15,m15,c59,c60,c61,c62⟩:=(H.rh (α:=List Int) 0 rfl 0 rfl).at1 e;clear e
              refine dA c59 c60 c61 ?_;clear c59 c60 c61
              refine cA c62 ?_;clear c62
              replace H:=H.ofEH
              obtain ⟨a27,e,f66⟩:=aA f65;clear f65
              replace H:=H.toEH (α:=List Int)
              have HH:=H;clear H;obtain ⟨p16,m16,h13,c63,c64,c65,c70,H⟩:=HH.peekL e;clear HH
              clear e
              refine dA c63 c64 c65 ?_
              refine cA c70 ?_;clear c70
              have x3:=(H.rh (α:=List Int) 0 rfl 0 rfl).max
              refine kA (H.rh (α:=List Int) 0 rfl 0 rfl).len ?_
              replace H:=H.ofEH
              obtain ⟨r10,e,f67⟩:=aA f66;clear f66
              refine fB _ a27.length (fun (k3:Nat) (s9:List (List Int)) (_:Unit)=>[(0,(.int .i64 p_)),(1,(.int .i64 size_)),(7,(g1).v),(10,(.int .i64 s1_1)),(11,(.int .i64 s1_2)),(16,(.int .i64 ((k1:Nat):Int))),(17,(.int .i64 a26)),(113,(.int .i64 ((r6.length:Nat):Int))),(114,(.int .i64 ((k1:Nat):Int))),(141,(.int .i64 ((a27.length:Nat):Int))),(142,(.int .i64 ((k3:Nat):Int)))]) (fun _ (s9:List (List Int)) (_:Unit) w'=>Cx w0 fp0 S0 w' [E (List (List Int)) s9 g1]) s7 () e ⟨rfl,rfl,rfl,rfl,rfl,rfl,rfl,rfl,rfl,rfl,rfl,trivial⟩ (H.sel [0] rfl) ?_ ?_
              ·
               clear H e
               rintro T11 k3 s9 _ w21 o5 hk (H:Cx w0 fp0 S0 w21 [E (List (List Int)) s9 g1]) f68
               refine jA (z:=true) (cB hk) ?_
               refine sq ?_
               refine sq ?_
               refine aC H [25] (.fst 0 (.fst 1 (.fst 2 (.fst 4 (.fst 5 (.fst 6 (.fst 7 (.fst 8 (.fst 10 (.fst 13 (.fst 14 (.fst 15 (.fst 16 (.fst 17 (.fst 19 (.fst 3 (.fst 9 (.fst 11 (.fst 12 (.fst 18 (.fst 20 (.fst 21 (.act 22 (.act 23 (.fst 24 (.act 25 .done)))))))))))))))))))))))))) vB [] trivial (by kernel_rfl) ?_
               clear H;intro w22 H
               have hX:Ext w22 w22:=Upd.refl _ _
               have H0:=H
               obtain ⟨a28,e,f69⟩:=aA f68;clear f68
               replace H:=H.toEH (α:=List Int)
               have HH:=H;clear H;obtain ⟨p17,m17,h14,c71,c72,c73,c74,H⟩:=HH.peekL e;clear HH
               clear e
               refine dA c71 c72 c73 ?_
               obtain ⟨a29,e,f70⟩:=aA f69;clear f69
               have HH:=H;clear H;obtain ⟨p18,m18,h15,c75,c76,c77,c78,H⟩:=HH.peekL e;clear HH
               clear e
               refine dA c75 c76 c77 ?_
               obtain ⟨a30,e,f71⟩:=aA f70;clear f70
               have HH:=H;clear H;obtain ⟨p19,m19,h16,c79,c80,c81,c82,H⟩:=HH.peekL e;clear HH
               clear e
               refine dA c79 c80 c81 ?_
               refine uA c74 ?_;clear c74
               refine uA c78 ?_;clear c78
               obtain ⟨a31,e,f72⟩:=aA f71;clear f71
               obtain ⟨p20,m20,c83,c84,c85,c86⟩:=(H.rh (α:=List Int) 0 rfl 1 rfl).at1 e;clear e
               refine dA c83 c84 c85 ?_;clear c83 c84 c85
               refine uA c86 ?_;clear c86
               refine uA c82 ?_;clear c82
               obtain ⟨a32,e,f73⟩:=aA f72;clear f72
               obtain ⟨p21,m21,c87,c88,c89,c90⟩:=(H.rh (α:=List Int) 0 rfl 0 rfl).at1 e;clear e
               refine dA c87 c88 c89 ?_;clear c87 c88 c89
               refine uA c90 ?_;clear c90
               obtain ⟨y3,e,f74⟩:=aA f73;clear f73
               have i4:=e;clear e
               refine eB (eW p_ a26 a32 y3 i4) H trivial ?_;clear H i4
               rintro _ _ w23 ⟨rfl,rfl⟩ hx H
               replace hX:=hX.trans0 hx;clear hx
               refine hold hX ?_
               obtain ⟨y4,e,f75⟩:=aA f74;clear f74
               have i5:=e;clear e
               refine eB (Cz_ p_ a31 y3 y4 i5) H trivial ?_;clear H i5
               rintro _ _ w24 ⟨rfl,rfl⟩ hx H
               replace hX:=hX.trans0 hx;clear hx
               refine hold hX ?_
               replace H:=H.takeK 2 rfl
               obtain ⟨a33,e,f76⟩:=aA f75;clear f75
               have i6:=e;clear e
               obtain ⟨p22,m22,c91,c92,c93⟩:=(H.ro (α:=List Int) 0 rfl).setp i6
               refine dA c91 c92 c93 ?_
               refine gC (α:=Int) H c91 c92 i6 ?_;clear H c91 c92 c93 i6;intro w25 H
               obtain ⟨a34,e,f77⟩:=aA f76;clear f76
               replace H:=H.put c72 e;clear e
               refine hold trivial ?_
               refine arK hk x3 ?_
               have hs:=Option.some.inj f77;subst hs;clear f77
               exact ⟨(),⟨rfl,rfl,rfl,rfl,rfl,rfl,rfl,rfl,rfl,rfl,rfl,trivial⟩,H.sel [0] rfl⟩
              ·
               clear H e
               rintro T12 _ w26 (H:Cx w0 fp0 S0 w26 [E (List (List Int)) r10 g1])
               refine jA (z:=false) dB ?_
               refine sq ?_
               exact ⟨r10,⟨rfl,rfl,rfl,rfl,rfl,rfl,rfl,trivial⟩,Option.some.inj f67,H.sel [0] rfl⟩
             ·
              have f78:=eA f56;clear f56
              exact ⟨s7,⟨rfl,rfl,rfl,rfl,rfl,rfl,rfl,trivial⟩,Option.some.inj f78,H.sel [0] rfl⟩
           ·
            clear f53 H
            rintro T13 s10 w27 ⟨hr,(H:Cx w0 fp0 S0 w27 [E (List (List Int)) s10 g1])⟩
            subst hr
            refine arK hk x2 ?_
            have hs:=Option.some.inj f54;subst hs;clear f54
            exact ⟨(),⟨rfl,rfl,rfl,rfl,rfl,rfl,rfl,trivial⟩,H.sel [0] rfl⟩
          ·
           clear H e
           rintro T14 _ w28 (H:Cx w0 fp0 S0 w28 [E (List (List Int)) r7 g1])
           refine jA (z:=false) dB ?_
           refine sq ?_
           obtain ⟨a35,e,f79⟩:=aA f51;clear f51
           refine arO e ?_;clear e
           exact ⟨(r7,a35),⟨rfl,rfl,rfl,rfl,rfl,trivial⟩,Option.some.inj f79,H.sel [0] rfl⟩
        ·
         have f80:=eA f34;clear f34
         exact ⟨(s1_0,s1_1),⟨rfl,rfl,rfl,rfl,rfl,trivial⟩,Option.some.inj f80,H.sel [0] rfl⟩
      ·
       clear f17 H
       rintro T15 ⟨s11_0,s11_1⟩ w29 ⟨hr,(H:Cx w0 fp0 S0 w29 [E (List (List Int)) s11_0 g1])⟩
       subst hr
       obtain ⟨a36,e,f81⟩:=aA f18;clear f18
       refine arO e ?_;clear e
       have hs:=Option.some.inj f81;subst hs;clear f81
       exact ⟨(s11_0,s11_1,a36),(),rfl,⟨rfl,rfl,rfl,rfl,rfl,trivial⟩,H.sel [0] rfl⟩
  ·
   clear f5 H
   rintro T16 ⟨s12_0,s12_1⟩ w30 ⟨hr,(H:Cx w0 fp0 S0 w30 [E (List (List Int)) s12_0 g1])⟩
   subst hr
   obtain ⟨a37,e,f82⟩:=aA f6;clear f6
   refine slO (α:=List Int) gok rfl rfl H e rfl rfl ?_;clear e H;intro h17 H
   cases f82
   exact ⟨_,_,rfl,⟨h17,rfl,rfl⟩,(H.sel [0] rfl).close ⟨cloE,trivial⟩⟩
theorem Cl_ (a_:List Int) (a_h:Hd) (b_:List Int) (b_h:Hd) (y:Bool) (hF:fS a_ b_=some y) :
  nA Tryz.prog 83 #[(a_h).v,(b_h).v] [Es (List Int) a_ a_h,Es (List Int) b_ b_h] [] (fun v Γ'=>v=(.bool y)∧Γ'=[]):=by
 intro w0 S0 fp0 hI hS
 have H:Cx w0 fp0 S0 w0 [Es (List Int) a_ a_h,Es (List Int) b_ b_h]:=Cx.start hI hS
 clear hI hS
 refine lA (args:=[_,_]) gok Tryz.func83 rfl _ rfl rfl rfl ?_
 refine sq ?_
 refine kA (H.rs (α:=List Int) 0 rfl).len ?_
 refine kA (H.rs (α:=List Int) 1 rfl).len ?_
 obtain ⟨a3,e,hF4⟩:=aA hF;clear hF
 refine gA e ?_;clear e
 cases a3
 ·
  have hF5:=fA hF4;clear hF4
  refine sq ?_
  refine kA (H.rs (α:=List Int) 0 rfl).len ?_
  have x0:=(H.rs (α:=List Int) 0 rfl).max
  obtain ⟨r0,e,f0⟩:=aA hF5;clear hF5
  refine qF _ a_.length (fun (k6:Nat) (_:Unit) (_:Unit)=>[(0,(a_h).v),(1,(b_h).v),(12,(.int .i64 ((a_.length:Nat):Int))),(13,(.int .i64 ((k6:Nat):Int)))]) (fun _ (_:Unit) (_:Unit) w'=>Cx w0 fp0 S0 w' [Es (List Int) a_ a_h,Es (List Int) b_ b_h]) () () e ⟨rfl,rfl,rfl,rfl,trivial⟩ (H.sel [0,1] rfl) ?_ ?_
  ·
   clear H e
   rintro T0 k6 _ _ w1 o0 hk (H:Cx w0 fp0 S0 w1 [Es (List Int) a_ a_h,Es (List Int) b_ b_h]) hrt f1
   refine jA (z:=true) (cB hk) ?_
   refine sq ?_
   refine sq ?_
   refine aC H [] (.fst 0 (.fst 1 (.fst 2 (.fst 4 (.fst 5 (.fst 6 (.fst 3 (.fst 7 (.fst 8 .done))))))))) vB [] trivial (by kernel_rfl) ?_
   clear H;intro w2 H
   have hX:Ext w2 w2:=Upd.refl _ _
   have H0:=H
   obtain ⟨a0,e,f2⟩:=aA f1;clear f1
   obtain ⟨p0,m0,c0,c1,c2,c3⟩:=(H.rs (α:=List Int) 0 rfl).at1 e;clear e
   refine dA c0 c1 c2 ?_;clear c0 c1 c2
   obtain ⟨a1,e,f3⟩:=aA f2;clear f2
   obtain ⟨p1,m1,c4,c5,c6,c7⟩:=(H.rs (α:=List Int) 1 rfl).at1 e;clear e
   refine dA c4 c5 c6 ?_;clear c4 c5 c6
   refine uA c3 ?_;clear c3
   refine uA c7 ?_;clear c7
   obtain ⟨a2,e,f4⟩:=aA f3;clear f3
   refine gA e ?_;clear e
   cases a2
   ·
    have f5:=fA f4;clear f4
    refine arK hk x0 ?_
    have hs:=Option.some.inj f5;subst hs;clear f5
    exact ⟨(),(),rfl,⟨rfl,rfl,rfl,rfl,trivial⟩,H.sel [0,1] rfl⟩
   ·
    have f6:=eA f4;clear f4
    have hs:=Option.some.inj f6;subst hs;clear f6
    have hr:=hrt _ rfl;subst hr
    have f7:some _=some _:=f0
    cases f7
    exact ⟨_,_,rfl,⟨rfl,rfl⟩,(H.sel [] rfl).close trivial⟩
  ·
   clear H e
   rintro T1 _ _ w3 hr (H:Cx w0 fp0 S0 w3 [Es (List Int) a_ a_h,Es (List Int) b_ b_h])
   subst hr
   refine jA (z:=false) dB ?_
   refine sq ?_
   cases f0
   exact ⟨_,_,rfl,⟨rfl,rfl⟩,(H.sel [] rfl).close trivial⟩
 ·
  have f8:=eA hF4;clear hF4
  cases f8
  exact ⟨_,_,rfl,⟨rfl,rfl⟩,(H.sel [] rfl).close trivial⟩
theorem Cg_ (a_:List (List Int)) (a_h:Hd) (b_:List (List Int)) (b_h:Hd) (y:Bool) (hF:aS a_ b_=some y) :
  nA Tryz.prog 69 #[(a_h).v,(b_h).v] [Es (List (List Int)) a_ a_h,Es (List (List Int)) b_ b_h] [] (fun v Γ'=>v=(.bool y)∧Γ'=[]):=by
 intro w0 S0 fp0 hI hS
 have H:Cx w0 fp0 S0 w0 [Es (List (List Int)) a_ a_h,Es (List (List Int)) b_ b_h]:=Cx.start hI hS
 clear hI hS
 refine lA (args:=[_,_]) gok Tryz.func69 rfl _ rfl rfl rfl ?_
 refine sq ?_
 refine kA (H.rs (α:=List (List Int)) 0 rfl).len ?_
 refine kA (H.rs (α:=List (List Int)) 1 rfl).len ?_
 obtain ⟨a3,e,hF4⟩:=aA hF;clear hF
 refine gA e ?_;clear e
 cases a3
 ·
  have hF5:=fA hF4;clear hF4
  refine sq ?_
  refine kA (H.rs (α:=List (List Int)) 0 rfl).len ?_
  have x0:=(H.rs (α:=List (List Int)) 0 rfl).max
  obtain ⟨r0,e,f0⟩:=aA hF5;clear hF5
  refine qF _ a_.length (fun (k6:Nat) (_:Unit) (_:Unit)=>[(0,(a_h).v),(1,(b_h).v),(12,(.int .i64 ((a_.length:Nat):Int))),(13,(.int .i64 ((k6:Nat):Int)))]) (fun _ (_:Unit) (_:Unit) w'=>Cx w0 fp0 S0 w' [Es (List (List Int)) a_ a_h,Es (List (List Int)) b_ b_h]) () () e ⟨rfl,rfl,rfl,rfl,trivial⟩ (H.sel [0,1] rfl) ?_ ?_
  ·
   clear H e
   rintro T0 k6 _ _ w1 o0 hk (H:Cx w0 fp0 S0 w1 [Es (List (List Int)) a_ a_h,Es (List (List Int)) b_ b_h]) hrt f1
   refine jA (z:=true) (cB hk) ?_
   refine sq ?_
   refine sq ?_
   refine aC H [] (.fst 0 (.fst 1 (.fst 2 (.fst 4 (.fst 5 (.fst 6 (.fst 3 (.fst 7 (.act 8 (.fst 9 .done)))))))))) vB [] trivial (by kernel_rfl) ?_
   clear H;intro w2 H
   have hX:Ext w2 w2:=Upd.refl _ _
   have H0:=H
   obtain ⟨a0,e,f2⟩:=aA f1;clear f1
   have HH:=H;clear H;obtain ⟨p0,m0,h0,c0,c1,c2,c3,H⟩:=HH.elL 0 rfl e;clear HH
   clear e
   refine dA c0 c1 c2 ?_;clear c0 c1 c2
   obtain ⟨a1,e,f3⟩:=aA f2;clear f2
   have HH:=H;clear H;obtain ⟨p1,m1,h1,c4,c5,c6,c7,H⟩:=HH.elL 2 rfl e;clear HH
   clear e
   refine dA c4 c5 c6 ?_;clear c4 c5 c6
   refine uA c3 ?_;clear c3
   refine uA c7 ?_;clear c7
   obtain ⟨y0,e,f4⟩:=aA f3;clear f3
   have i0:=e;clear e
   refine eB (Cl_ a0 h0 a1 h1 y0 i0) H ⟨Vw.sh 1 rfl,Vw.sh 0 rfl,trivial⟩ ?_;clear H i0
   rintro _ _ w3 ⟨rfl,rfl⟩ hx H
   replace hX:=hX.trans0 hx;clear hx
   refine hold hX ?_
   obtain ⟨a2,e,f5⟩:=aA f4;clear f4
   refine gA e ?_;clear e
   cases a2
   ·
    have f6:=fA f5;clear f5
    refine arK hk x0 ?_
    have hs:=Option.some.inj f6;subst hs;clear f6
    exact ⟨(),(),rfl,⟨rfl,rfl,rfl,rfl,trivial⟩,H.sel [2,3] rfl⟩
   ·
    have f7:=eA f5;clear f5
    have hs:=Option.some.inj f7;subst hs;clear f7
    have hr:=hrt _ rfl;subst hr
    have f8:some _=some _:=f0
    cases f8
    exact ⟨_,_,rfl,⟨rfl,rfl⟩,(H.sel [] rfl).close trivial⟩
  ·
   clear H e
   rintro T1 _ _ w4 hr (H:Cx w0 fp0 S0 w4 [Es (List (List Int)) a_ a_h,Es (List (List Int)) b_ b_h])
   subst hr
   refine jA (z:=false) dB ?_
   refine sq ?_
   cases f0
   exact ⟨_,_,rfl,⟨rfl,rfl⟩,(H.sel [] rfl).close trivial⟩
 ·
  have f9:=eA hF4;clear hF4
  cases f9
  exact ⟨_,_,rfl,⟨rfl,rfl⟩,(H.sel [] rfl).close trivial⟩
theorem Ci_ (p_:Int) (s__0:Int) (s__1:List (List Int)) (s__1h:Hd) (y:Bool) (hF:cS p_ (s__0,s__1)=some y) :
  nA Tryz.prog 45 #[(.int .i64 p_),(.agg #[(.int .i64 s__0),(s__1h).v])] [Es (List (List Int)) s__1 s__1h] [] (fun v Γ'=>v=(.bool y)∧Γ'=[]):=by
 intro w0 S0 fp0 hI hS
 have H:Cx w0 fp0 S0 w0 [Es (List (List Int)) s__1 s__1h]:=Cx.start hI hS
 clear hI hS
 refine lA (args:=[_,_]) gok Tryz.func45 rfl _ rfl rfl rfl ?_
 refine jB H ?_;clear H;intro b3 w2 hx H
 clear hx
 obtain ⟨r0,f0,f1⟩:=aA hF;clear hF
 refine cut (fun (q0:Bool)=>[(4,(.bool q0))]) (fun (q0:Bool) w'=>q0=r0∧Cx w0 fp0 S0 w' []) ?_ ?_
 ·
  refine aC H [] (.fst 0 (.act 1 (.fst 2 (.fst 3 (.fst 4 (.act 5 (.fst 6 (.fst 7 (.fst 8 (.fst 11 (.fst 9 (.fst 10 (.fst 12 (.fst 13 (.fst 14 (.fst 15 (.fst 16 (.fst 17 (.fst 19 (.fst 18 (.fst 20 (.act 21 (.fst 22 (.fst 23 (.fst 24 (.fst 25 (.fst 27 (.fst 30 (.fst 26 (.fst 28 (.fst 31 (.act 29 (.act 32 (.fst 33 (.fst 34 .done))))))))))))))))))))))))))))))))))) vB [] trivial (by kernel_rfl) ?_
  clear H;intro w1 H
  have hX:Ext w1 w1:=Upd.refl _ _
  have H0:=H
  obtain ⟨y0,e,f2⟩:=aA f0;clear f0
  have i0:=e;clear e
  refine eB (Cn_ p_ y0 i0) H trivial ?_;clear H i0
  rintro _ _ w3 ⟨rfl,rfl⟩ hx H
  replace hX:=hX.trans0 hx;clear hx
  refine hold hX ?_
  cases y0
  ·
   have f3:=fA f2;clear f2
   exact ⟨false,⟨rfl,trivial⟩,Option.some.inj f3,H.sel [] rfl⟩
  ·
   have f4:=eA f2;clear f2
   refine xA (fun _=>fld gok rfl rfl rfl rfl ⟨rfl,rfl⟩) ?_
   refine uA (H0.bx 0 rfl (j:=0) rfl) ?_
   obtain ⟨y1,e,f5⟩:=aA f4;clear f4
   have i1:=e;clear e
   refine eB (hG s__0 0 24 y1 i1) H trivial ?_;clear H i1
   rintro _ _ w4 ⟨rfl,rfl⟩ hx H
   replace hX:=hX.trans0 hx;clear hx
   refine hold hX ?_
   cases y1
   ·
    have f6:=fA f5;clear f5
    exact ⟨false,⟨rfl,trivial⟩,Option.some.inj f6,H.sel [] rfl⟩
   ·
    have f7:=eA f5;clear f5
    refine xA (fun _=>fld gok rfl rfl rfl rfl ⟨rfl,rfl⟩) ?_
    refine xA (fun _=>fld gok rfl rfl rfl rfl ⟨rfl,rfl⟩) ?_
    refine uA (H0.bx 0 rfl (j:=1) rfl) ?_
    refine kA (H.rs (α:=List (List Int)) 1 rfl).len ?_
    refine uA (H0.bx 0 rfl (j:=0) rfl) ?_
    obtain ⟨a0,e,f8⟩:=aA f7;clear f7
    refine gA e ?_;clear e
    cases a0
    ·
     have f9:=fA f8;clear f8
     exact ⟨false,⟨rfl,trivial⟩,Option.some.inj f9,H.sel [] rfl⟩
    ·
     have f10:=eA f8;clear f8
     refine xA (fun _=>fld gok rfl rfl rfl rfl ⟨rfl,rfl⟩) ?_
     refine xA (fun _=>fld gok rfl rfl rfl rfl ⟨rfl,rfl⟩) ?_
     refine uA (H0.bx 0 rfl (j:=0) rfl) ?_
     refine uA (H0.bx 0 rfl (j:=1) rfl) ?_
     obtain ⟨y2,e,f11⟩:=aA f10;clear f10
     have i2:=e;clear e
     refine eB (Ch_ p_ s__0 s__1 s__1h y2 i2) H ⟨Vw.sh 1 rfl,trivial⟩ ?_;clear H i2
     rintro _ _ w5 ⟨rfl,rfl⟩ hx H
     replace hX:=hX.trans0 hx;clear hx
     refine hold hX ?_
     cases y2
     ·
      have f12:=fA f11;clear f11
      exact ⟨false,⟨rfl,trivial⟩,Option.some.inj f12,H.sel [] rfl⟩
     ·
      have f13:=eA f11;clear f11
      refine xA (fun _=>fld gok rfl rfl rfl rfl ⟨rfl,rfl⟩) ?_
      refine xA (fun _=>fld gok rfl rfl rfl rfl ⟨rfl,rfl⟩) ?_
      refine xA (fun _=>fld gok rfl rfl rfl rfl ⟨rfl,rfl⟩) ?_
      refine uA (H0.bx 0 rfl (j:=0) rfl) ?_
      refine uA (H0.bx 0 rfl (j:=1) rfl) ?_
      refine uA (H0.bx 0 rfl (j:=1) rfl) ?_
      obtain ⟨y3,e,f14⟩:=aA f13;clear f13
      have i3:=e;clear e
      refine eB (BW_ p_ s__0 s__1 s__1h y3 i3) H ⟨Vw.sh 1 rfl,trivial⟩ ?_;clear H i3
      rintro _ _ w6 ⟨h0,rfl,rfl⟩ hx H
      replace hX:=hX.trans0 hx;clear hx
      refine hold hX ?_
      obtain ⟨y4,e,f15⟩:=aA f14;clear f14
      have i4:=e;clear e
      refine eB (Cg_ y3 h0 s__1 s__1h y4 i4) H ⟨Vw.own 0 rfl,Vw.sh 2 rfl,trivial⟩ ?_;clear H i4
      rintro _ _ w7 ⟨rfl,rfl⟩ hx H
      replace hX:=hX.trans0 hx;clear hx
      refine hold hX ?_
      exact ⟨y4,⟨rfl,trivial⟩,Option.some.inj f15,H.sel [] rfl⟩
 ·
  clear f0 H
  rintro T0 s0 w8 ⟨hr,(H:Cx w0 fp0 S0 w8 [])⟩
  subst hr
  cases f1
  exact ⟨_,_,rfl,⟨rfl,rfl⟩,(H.sel [] rfl).close trivial⟩
theorem Cj_ (p_:Int) (r__0:Int) (r__1:Int) (r__2:List (List Int)) (r__2h:Hd) (y:Bool) (hF:dS p_ (r__0,r__1,r__2)=some y) :
  nA Tryz.prog 21 #[(.int .i64 p_),(.agg #[(.int .i64 r__0),(.int .i64 r__1),(r__2h).v])] [Es (List (List Int)) r__2 r__2h] [] (fun v Γ'=>v=(.bool y)∧Γ'=[]):=by
 intro w0 S0 fp0 hI hS
 have H:Cx w0 fp0 S0 w0 [Es (List (List Int)) r__2 r__2h]:=Cx.start hI hS
 clear hI hS
 refine lA (args:=[_,_]) gok Tryz.func21 rfl _ rfl rfl rfl ?_
 refine jB H ?_;clear H;intro b3 w2 hx H
 clear hx
 obtain ⟨r0,f0,f1⟩:=aA hF;clear hF
 refine cut (fun (q0:Bool)=>[(4,(.bool q0))]) (fun (q0:Bool) w'=>q0=r0∧Cx w0 fp0 S0 w' []) ?_ ?_
 ·
  refine fld gok rfl rfl rfl rfl ?_
  refine cA (H.bx 0 rfl (j:=0) rfl) ?_
  obtain ⟨y0,e,f2⟩:=aA f0;clear f0
  have i0:=e;clear e
  refine iA (hG r__0 0 24 y0 i0) (Γi:=[]) H trivial ?_;clear H i0
  rintro _ _ w1 ⟨rfl,rfl⟩ H
  cases y0
  ·
   have f3:=fA f2;clear f2
   exact ⟨false,⟨rfl,trivial⟩,Option.some.inj f3,H.sel [] rfl⟩
  ·
   have f4:=eA f2;clear f2
   refine fld gok rfl rfl rfl rfl ?_
   refine cA (H.bx 0 rfl (j:=1) rfl) ?_
   refine fld gok rfl rfl rfl rfl ?_
   refine cA (H.bx 0 rfl (j:=0) rfl) ?_
   obtain ⟨a0,e,f5⟩:=aA f4;clear f4
   refine arO e ?_;clear e
   obtain ⟨y1,e,f6⟩:=aA f5;clear f5
   have i1:=e;clear e
   refine iA (hG r__1 0 a0 y1 i1) (Γi:=[]) H trivial ?_;clear H i1
   rintro _ _ w3 ⟨rfl,rfl⟩ H
   cases y1
   ·
    have f7:=fA f6;clear f6
    exact ⟨false,⟨rfl,trivial⟩,Option.some.inj f7,H.sel [] rfl⟩
   ·
    have f8:=eA f6;clear f6
    refine fld gok rfl rfl rfl rfl ?_
    refine cA (H.bx 0 rfl (j:=0) rfl) ?_
    refine fld gok rfl rfl rfl rfl ?_
    refine cA (H.bx 0 rfl (j:=1) rfl) ?_
    obtain ⟨a1,e,f9⟩:=aA f8;clear f8
    refine arO e ?_;clear e
    refine fld gok rfl rfl rfl rfl ?_
    refine cA (H.bx 0 rfl (j:=2) rfl) ?_
    refine tB (cs:=#[(.int .i64 a1),(r__2h).v]) gok rfl rfl rfl ?_
    obtain ⟨y2,e,f10⟩:=aA f9;clear f9
    have i2:=e;clear e
    refine iA (Ci_ p_ a1 r__2 r__2h y2 i2) (Γi:=[]) H ⟨Vw.sh 1 rfl,trivial⟩ ?_;clear H i2
    rintro _ _ w4 ⟨rfl,rfl⟩ H
    exact ⟨y2,⟨rfl,trivial⟩,Option.some.inj f10,H.sel [] rfl⟩
 ·
  clear f0 H
  rintro T0 s0 w5 ⟨hr,(H:Cx w0 fp0 S0 w5 [])⟩
  subst hr
  cases f1
  exact ⟨_,_,rfl,⟨rfl,rfl⟩,(H.sel [] rfl).close trivial⟩
theorem sG (x_b:Nat) (x__0_0:Int) (x__0_1:List (Int×Int×List Int×List Int)) (x__0_1v:Value) (x__0_2:List Int) (x__0_2v:Value) (x__0_3:List Int) (x__0_3v:Value) (y0_0_0:Int) (y0_0_1:List (Int×Int×List Int×List Int)) (y0_0_2:List Int) (y0_0_3:List Int) (y1:Int) (hF:gE (x__0_0,x__0_1,x__0_2,x__0_3)=some ((y0_0_0,y0_0_1,y0_0_2,y0_0_3),y1)) :
  nA Tryz.prog 46 #[(.pointer (some ⟨x_b,0,none⟩))] [] [Bx x_b [(.int .i64 x__0_0),x__0_1v,x__0_2v,x__0_3v]] (fun v Γ'=>v=(.int .i64 y1)∧Γ'=[Bx x_b [(.int .i64 y0_0_0),x__0_1v,x__0_2v,x__0_3v]]):=by
 intro w0 S0 fp0 hI hS
 have H:Cx w0 fp0 S0 w0 [Bx x_b [(.int .i64 x__0_0),x__0_1v,x__0_2v,x__0_3v]]:=Cx.start hI hS
 clear hI hS
 refine lA (args:=[_]) gok Tryz.func46 rfl _ rfl rfl rfl ?_
 refine fld gok rfl rfl rfl rfl ?_
 refine fld gok rfl rfl rfl rfl ?_
 refine cA (H.bx 0 rfl (j:=0) rfl) ?_
 obtain ⟨a2,e,hF3⟩:=aA hF;clear hF
 refine arO e ?_;clear e
 refine fld gok rfl rfl rfl rfl ?_
 refine fld gok rfl rfl rfl rfl ?_
 refine stB (j:=0) H rfl rfl ?_;clear H;intro w4 H
 refine fld gok rfl rfl rfl rfl ?_
 refine fld gok rfl rfl rfl rfl ?_
 refine cA (H.bx 0 rfl (j:=0) rfl) ?_
 obtain ⟨a5,e,hF6⟩:=aA hF3;clear hF3
 refine arO e ?_;clear e
 cases hF6
 exact ⟨_,_,rfl,⟨rfl,rfl⟩,(H.sel [0] rfl).close ⟨cloB,trivial⟩⟩
theorem Bk_ (x_b:Nat) (x__0_0:Int) (x__0_1:List (Int×Int×List Int×List Int)) (x__0_1v:Value) (x__0_2:List Int) (x__0_2h:Hd) (x__0_3:List Int) (x__0_3v:Value) (n_:Int) (y_0_0:Int) (y_0_1:List (Int×Int×List Int×List Int)) (y_0_2:List Int) (y_0_3:List Int) (hF:qQ (x__0_0,x__0_1,x__0_2,x__0_3) n_=some (y_0_0,y_0_1,y_0_2,y_0_3)) :
  nA Tryz.prog 36 #[(.pointer (some ⟨x_b,0,none⟩)),(.int .i64 n_)] [] [Bx x_b [(.int .i64 x__0_0),x__0_1v,(x__0_2h).v,x__0_3v],E (List Int) x__0_2 x__0_2h] (fun v Γ'=>∃ z0:Hd,v=(.tuple #[])∧Γ'=[Bx x_b [(.int .i64 y_0_0),x__0_1v,(z0).v,x__0_3v],E (List Int) y_0_2 z0]):=by
 intro w0 S0 fp0 hI hS
 have H:Cx w0 fp0 S0 w0 [Bx x_b [(.int .i64 x__0_0),x__0_1v,(x__0_2h).v,x__0_3v],E (List Int) x__0_2 x__0_2h]:=Cx.start hI hS
 clear hI hS
 refine lA (args:=[_,_]) gok Tryz.func36 rfl _ rfl rfl rfl ?_
 refine xC _ (fun (s0:Int×List Int×Int) (g0:Hd)=>[(0,(.pointer (some ⟨x_b,0,none⟩))),(1,(.int .i64 s0.2.2))]) (fun (s0:Int×List Int×Int) (g0:Hd) w'=>Cx w0 fp0 S0 w' [Bx x_b [(.int .i64 s0.1),x__0_1v,(g0).v,x__0_3v],E (List Int) s0.2.1 g0]) (x__0_0,x__0_2,n_) x__0_2h hF ⟨rfl,rfl,trivial⟩ (H.sel [0,1] rfl) ?_
 ·
  clear H
  rintro T0 ⟨s0_0,s0_1,s0_2⟩ g0 w1 o0 (H:Cx w0 fp0 S0 w1 [Bx x_b [(.int .i64 s0_0),x__0_1v,(g0).v,x__0_3v],E (List Int) s0_1 g0]) hrt f0
  refine sq ?_
  obtain ⟨a0,e,f1⟩:=aA f0;clear f0
  refine gA e ?_;clear e
  cases a0
  ·
   have f2:=fA f1;clear f1
   have hs:=Option.some.inj f2;subst hs;clear f2
   have f3:some _=some _:=congrArg some (hrt _ rfl).symm
   cases f3
   exact ⟨_,_,rfl,⟨g0,rfl,rfl⟩,(H.sel [0,1] rfl).close ⟨cloB,cloE,trivial⟩⟩
  ·
   have f4:=eA f1;clear f1
   refine sq ?_
   refine aC H [7,9,13,8,10,11,12,5,0,1,2,3,4,6] (.pure 0 (.pure 1 (.pure 2 (.pure 3 (.pure 4 (.pure 6 (.alts (.alt 5 (.act 7 (.act 8 (.act 9 (.act 10 (.act 11 (.act 12 (.act 13 .done))))))) (.alt 7 (.alts (.alt 5 (.act 8 (.act 9 (.act 10 (.act 11 (.act 12 (.act 13 .done)))))) (.alt 8 (.act 5 (.act 9 (.act 10 (.act 11 (.act 12 (.act 13 .done)))))) .no))) .no))))))))) vB [] trivial (by kernel_rfl) ?_
   clear H;intro w2 H
   have hX:Ext w2 w2:=Upd.refl _ _
   have H0:=H
   refine xA (fun _=>fld gok rfl rfl rfl rfl ⟨rfl,rfl⟩) ?_
   refine xA (fun _=>fld gok rfl rfl rfl rfl ⟨rfl,rfl⟩) ?_
   refine pA ?_ ?_
   ·
    refine cA (H.bx 0 rfl (j:=2) rfl) ?_
    refine hold trivial ?_
    obtain ⟨y0,e,f5⟩:=aA f4;clear f4
    obtain ⟨⟨y0_0_0_0,y0_0_0_1,y0_0_0_2,y0_0_0_3⟩,y0_1⟩:=y0
    have i0:=e;clear e
    refine iA (sG x_b s0_0 x__0_1 x__0_1v s0_1 ((g0).v) x__0_3 x__0_3v y0_0_0_0 y0_0_0_1 y0_0_0_2 y0_0_0_3 y0_1 i0) (Γi:=[Bx x_b [(.int .i64 s0_0),x__0_1v,(g0).v,x__0_3v]]) H trivial ?_;clear H i0
    rintro _ _ w3 ⟨rfl,rfl⟩ H
    refine hold trivial ?_
    refine bB (α:=Int) gok rfl rfl rfl rfl H ?_;clear H;intro h0 w4 hx H
    clear hx
    refine hold trivial ?_
    obtain ⟨a1,e,f6⟩:=aA f5;clear f5
    replace H:=H.sel [2,0,1] rfl
    refine append_ (α:=Int) gok rfl rfl rfl rfl H e ?_;clear e H;intro h1 w5 H
    refine hold trivial ?_
    refine hold trivial ?_
    refine fld gok rfl rfl rfl rfl ?_
    refine hold trivial ?_
    refine fld gok rfl rfl rfl rfl ?_
    refine hold trivial ?_
    replace H:=H.sel [1,0] rfl
    refine stB (j:=2) H rfl rfl ?_;clear H;intro w6 H
    refine hold trivial ?_
    obtain ⟨a2,e,f7⟩:=aA f6;clear f6
    refine arO e ?_;clear e
    have hs:=Option.some.inj f7;subst hs;clear f7
    exact ⟨(y0_0_0_0,a1,a2),h1,rfl,⟨rfl,rfl,trivial⟩,H.sel [0,1] rfl⟩
   ·
    refine pA ?_ ?_
    ·
     obtain ⟨a3,o1,f8⟩:=aA f4;clear f4
     obtain ⟨a4,o2,f9⟩:=aA f8;clear f8
     have e:=o1;clear o1
     obtain ⟨⟨a3_0_0_0,a3_0_0_1,a3_0_0_2,a3_0_0_3⟩,a3_1⟩:=a3
     have i1:=e;clear e
     refine iA (sG x_b s0_0 x__0_1 x__0_1v s0_1 ((g0).v) x__0_3 x__0_3v a3_0_0_0 a3_0_0_1 a3_0_0_2 a3_0_0_3 a3_1 i1) (Γi:=[Bx x_b [(.int .i64 s0_0),x__0_1v,(g0).v,x__0_3v]]) H trivial ?_;clear H i1
     rintro _ _ w7 ⟨rfl,rfl⟩ H
     refine hold trivial ?_
     refine pA ?_ ?_
     ·
      refine cA (H.bx 0 rfl (j:=2) rfl) ?_
      refine hold trivial ?_
      refine bB (α:=Int) gok rfl rfl rfl rfl H ?_;clear H;intro h2 w8 hx H
      clear hx
      refine hold trivial ?_
      have e:=o2;clear o2
      replace H:=H.sel [2,0,1] rfl
      refine append_ (α:=Int) gok rfl rfl rfl rfl H e ?_;clear e H;intro h3 w9 H
      refine hold trivial ?_
      refine hold trivial ?_
      refine fld gok rfl rfl rfl rfl ?_
      refine hold trivial ?_
      refine fld gok rfl rfl rfl rfl ?_
      refine hold trivial ?_
      replace H:=H.sel [1,0] rfl
      refine stB (j:=2) H rfl rfl ?_;clear H;intro w10 H
      refine hold trivial ?_
      obtain ⟨a5,e,f10⟩:=aA f9;clear f9
      refine arO e ?_;clear e
      have hs:=Option.some.inj f10;subst hs;clear f10
      exact ⟨(a3_0_0_0,a4,a5),h3,rfl,⟨rfl,rfl,trivial⟩,H.sel [0,1] rfl⟩
     ·
      refine pA ?_ ?_
      ·
       refine bB (α:=Int) gok rfl rfl rfl rfl H ?_;clear H;intro h4 w11 hx H
       clear hx
       refine hold trivial ?_
       refine cA (H.bx 1 rfl (j:=2) rfl) ?_
       refine hold trivial ?_
       have e:=o2;clear o2
       replace H:=H.sel [2,0,1] rfl
       refine append_ (α:=Int) gok rfl rfl rfl rfl H e ?_;clear e H;intro h5 w12 H
       refine hold trivial ?_
       refine hold trivial ?_
       refine fld gok rfl rfl rfl rfl ?_
       refine hold trivial ?_
       refine fld gok rfl rfl rfl rfl ?_
       refine hold trivial ?_
       replace H:=H.sel [1,0] rfl
       refine stB (j:=2) H rfl rfl ?_;clear H;intro w13 H
       refine hold trivial ?_
       obtain ⟨a6,e,f11⟩:=aA f9;clear f9
       refine arO e ?_;clear e
       have hs:=Option.some.inj f11;subst hs;clear f11
       exact ⟨(a3_0_0_0,a4,a6),h5,rfl,⟨rfl,rfl,trivial⟩,H.sel [0,1] rfl⟩
      ·
       exact trivial
    ·
     exact trivial
theorem qH (x_b:Nat) (x__0_0:Int) (x__0_1:List (Int×Int×List Int×List Int)) (x__0_1h:Hd) (x__0_2:List Int) (x__0_2v:Value) (x__0_3:List Int) (x__0_3v:Value) (kind_:Int) (value_:Int) (in_:List Int) (in_h:Hd) (out_:List Int) (out_h:Hd) (y_0_0:Int) (y_0_1:List (Int×Int×List Int×List Int)) (y_0_2:List Int) (y_0_3:List Int) (hF:aE (x__0_0,x__0_1,x__0_2,x__0_3) kind_ value_ in_ out_=some (y_0_0,y_0_1,y_0_2,y_0_3)) :
  uD Tryz.prog 47 #[(.pointer (some ⟨x_b,0,none⟩)),(.int .i64 kind_),(.int .i64 value_),(in_h).v,(out_h).v] [Es (List Int) in_ in_h,Es (List Int) out_ out_h] [Bx x_b [(.int .i64 x__0_0),(x__0_1h).v,x__0_2v,x__0_3v],E (List (Sh (Int×Int×List Int×List Int))) x__0_1 x__0_1h] (fun v Γ'=>∃ z0:Hd,v=(.tuple #[])∧Γ'=[Bx x_b [(.int .i64 y_0_0),(z0).v,x__0_2v,x__0_3v],E (List (Sh (Int×Int×List Int×List Int))) y_0_1 z0]):=by
 intro w0 S0 fp0 hI hS
 have H:Cx w0 fp0 S0 w0 [Es (List Int) in_ in_h,Es (List Int) out_ out_h,Bx x_b [(.int .i64 x__0_0),(x__0_1h).v,x__0_2v,x__0_3v],E (List (Sh (Int×Int×List Int×List Int))) x__0_1 x__0_1h]:=Cx.start hI hS
 clear hI hS
 refine lA (args:=[_,_,_,_,_]) gok Tryz.func47 rfl _ rfl rfl rfl ?_
 refine fld gok rfl rfl rfl rfl ?_
 refine fld gok rfl rfl rfl rfl ?_
 refine cA (H.bx 2 rfl (j:=1) rfl) ?_
 refine tB (cs:=#[(.int .i64 kind_),(.int .i64 value_),(in_h).v,(out_h).v]) gok rfl rfl rfl ?_
 replace H:=H.dup 0 rfl qA
 replace H:=H.dup 2 rfl qA
 replace H:=H.sel [1,0,2,3,4,5] rfl
 replace H:=H.join (α:=Sh (List Int)) (β:=Sh (List Int))
 replace H:=H.sc (α:=Int) value_
 replace H:=H.join (α:=Int) (β:=Sh (List Int)×Sh (List Int))
 replace H:=H.sc (α:=Int) kind_
 replace H:=H.join (α:=Int) (β:=Int×Sh (List Int)×Sh (List Int))
 refine gF (α:=Int×Int×Sh (List Int)×Sh (List Int)) (x:=(kind_,value_,in_,out_)) (g:=((),(),in_h,out_h)) gok rfl rfl rfl rfl (by rfl) H ?_;clear H;intro h6 w5 hx H
 clear hx
 obtain ⟨a0,e,f0⟩:=aA hF;clear hF
 replace H:=H.frzP (α:=Int×Int×Sh (List Int)×Sh (List Int)) (β:=Int×Int×List Int×List Int) inferInstance (fun x=>x) (fun x=>x) (fun x=>x) (fun l i=>(by simp:l[i]?=l[i]?.map fun x=>x)) rfl (fun _ _ _ _ h=>h) (fun _ _=>rfl)
 replace H:=H.sel [4,0,1,2,3] rfl
 refine append_ (α:=Sh (Int×Int×List Int×List Int)) gok rfl rfl rfl rfl H e ?_;clear e H;intro h0 w1 H
 refine fld gok rfl rfl rfl rfl ?_
 refine fld gok rfl rfl rfl rfl ?_
 replace H:=H.sel [3,0,1,2] rfl
 refine stB (j:=1) H rfl rfl ?_;clear H;intro w2 H
 cases f0
 exact ⟨_,_,rfl,⟨h0,rfl,rfl⟩,(H.sel [0,1] rfl)⟩
theorem Bv_:∀ (fuel:Nat) (x_b:Nat) (x__0_0:Int) (x__0_1:List (Int×Int×List Int×List Int)) (x__0_1h:Hd) (x__0_2:List Int) (x__0_2v:Value) (x__0_3:List Int) (x__0_3v:Value) (w_:Int) (n_:Int) (y0_0_0:Int) (y0_0_1:List (Int×Int×List Int×List Int)) (y0_0_2:List Int) (y0_0_3:List Int) (y1:List Int) (hF:kJ fuel (x__0_0,x__0_1,x__0_2,x__0_3) w_ n_=some ((y0_0_0,y0_0_1,y0_0_2,y0_0_3),y1)),
  uD Tryz.prog 58 #[(.pointer (some ⟨x_b,0,none⟩)),(.int .i64 w_),(.int .i64 n_)] [] [Bx x_b [(.int .i64 x__0_0),(x__0_1h).v,x__0_2v,x__0_3v],E (List (Sh (Int×Int×List Int×List Int))) x__0_1 x__0_1h] (fun v Γ'=>∃ z0 z1:Hd,v=(z1).v∧Γ'=[Bx x_b [(.int .i64 y0_0_0),(z0).v,x__0_2v,x__0_3v],E (List (Sh (Int×Int×List Int×List Int))) y0_0_1 z0,Es (List Int) y1 z1]):=by
 intro fuel
 induction fuel with
 | zero=>intro x_b x__0_0 x__0_1 x__0_1h x__0_2 x__0_2v x__0_3 x__0_3v w_ n_ y0_0_0 y0_0_1 y0_0_2 y0_0_3 y1 hF;cases hF
 | succ fuel ih=>
 intro x_b x__0_0 x__0_1 x__0_1h x__0_2 x__0_2v x__0_3 x__0_3v w_ n_ y0_0_0 y0_0_1 y0_0_2 y0_0_3 y1 hF
 intro w0 S0 fp0 hI hS
 have H:Cx w0 fp0 S0 w0 [Bx x_b [(.int .i64 x__0_0),(x__0_1h).v,x__0_2v,x__0_3v],E (List (Sh (Int×Int×List Int×List Int))) x__0_1 x__0_1h]:=Cx.start hI hS
 clear hI hS
 refine lA (args:=[_,_,_]) gok Tryz.func58 rfl _ rfl rfl rfl ?_
 refine sq ?_
 obtain ⟨a3,e,hF4⟩:=aA hF;clear hF
 refine gA e ?_;clear e
 cases a3
 ·
  have hF5:=fA hF4;clear hF4
  obtain ⟨a6,e,hF7⟩:=aA hF5;clear hF5
  refine gA e ?_;clear e
  cases a6
  ·
   have hF8:=fA hF7;clear hF7
   obtain ⟨y9,e,f0⟩:=aA hF8;clear hF8
   obtain ⟨⟨y9_0_0_0,y9_0_0_1,y9_0_0_2,y9_0_0_3⟩,y9_1⟩:=y9
   have ey9:=e;clear e
   refine iA (sG x_b x__0_0 x__0_1 ((x__0_1h).v) x__0_2 x__0_2v x__0_3 x__0_3v y9_0_0_0 y9_0_0_1 y9_0_0_2 y9_0_0_3 y9_1 ey9) (Γi:=[Bx x_b [(.int .i64 x__0_0),(x__0_1h).v,x__0_2v,x__0_3v]]) H trivial ?_;clear H ey9
   rintro _ _ w1 ⟨rfl,rfl⟩ H
   obtain ⟨y0,e,f1⟩:=aA f0;clear f0
   obtain ⟨⟨y0_0_0_0,y0_0_0_1,y0_0_0_2,y0_0_0_3⟩,y0_1⟩:=y0
   have i0:=e;clear e
   refine iA (sG x_b y9_0_0_0 x__0_1 ((x__0_1h).v) x__0_2 x__0_2v x__0_3 x__0_3v y0_0_0_0 y0_0_0_1 y0_0_0_2 y0_0_0_3 y0_1 i0) (Γi:=[Bx x_b [(.int .i64 y9_0_0_0),(x__0_1h).v,x__0_2v,x__0_3v]]) H trivial ?_;clear H i0
   rintro _ _ w2 ⟨rfl,rfl⟩ H
   refine bB (α:=Int) gok rfl rfl rfl rfl H ?_;clear H;intro h0 w3 hx H
   clear hx
   replace H:=H.sc (α:=Int) y0_1
   replace H:=H.sc (α:=Int) y9_1
   refine rC (α:=Int) (us:=[(.int .i64 y9_1),(.int .i64 y0_1)]) (xs:=[y9_1,y0_1]) (gs:=[(),()]) gok rfl rfl rfl ⟨rfl,rfl,trivial⟩ rfl rfl H ?_;clear H;intro h1 w4 hx H
   clear hx
   obtain ⟨y2,e,f2⟩:=aA f1;clear f1
   obtain ⟨y2_0_0,y2_0_1,y2_0_2,y2_0_3⟩:=y2
   have i1:=e;clear e
   replace H:=H.sel [1,0,2,3] rfl
   replace H:=H.frz
   replace H:=H.sel [1,0,2,3] rfl
   replace H:=H.frz
   replace H:=H.sel [2,3,0,1] rfl
   refine aB (qH x_b y0_0_0_0 x__0_1 x__0_1h x__0_2 x__0_2v x__0_3 x__0_3v 3 0 [w_] h0 [y9_1,y0_1] h1 y2_0_0 y2_0_1 y2_0_2 y2_0_3 i1) (Γi:=[Bx x_b [(.int .i64 y0_0_0_0),(x__0_1h).v,x__0_2v,x__0_3v],E (List (Sh (Int×Int×List Int×List Int))) x__0_1 x__0_1h]) H [1,0] rfl (wA qA (wA qA zA)) ?_;clear H i1
   rintro _ _ w5 ⟨h2,rfl,rfl⟩ H
   refine bB (α:=Int) gok rfl rfl rfl rfl H ?_;clear H;intro h3 w6 hx H
   clear hx
   obtain ⟨a0,e,f3⟩:=aA f2;clear f2
   refine arO e ?_;clear e
   obtain ⟨y3,e,f4⟩:=aA f3;clear f3
   obtain ⟨⟨y3_0_0_0,y3_0_0_1,y3_0_0_2,y3_0_0_3⟩,y3_1⟩:=y3
   have i2:=e;clear e
   replace H:=H.sel [1,2,0,3,4] rfl
   refine aB (ih x_b y2_0_0 y2_0_1 h2 x__0_2 x__0_2v x__0_3 x__0_3v y0_1 a0 y3_0_0_0 y3_0_0_1 y3_0_0_2 y3_0_0_3 y3_1 i2) (Γi:=[Bx x_b [(.int .i64 y2_0_0),(h2).v,x__0_2v,x__0_3v],E (List (Sh (Int×Int×List Int×List Int))) y2_0_1 h2]) H [] rfl zA ?_;clear H i2
   rintro _ _ w7 ⟨h4,h5,rfl,rfl⟩ H
   obtain ⟨a1,e,f5⟩:=aA f4;clear f4
   replace H:=H.sel [3,0,1,2,4,5] rfl
   refine nC (α:=Int) gok rfl rfl rfl rfl H (Vw.sh 2 rfl) e ?_;clear e H;intro h6 w8 H
   replace H:=H.frz
   cases f5
   exact ⟨_,_,rfl,⟨h4,h6,rfl,rfl⟩,(H.sel [1,2,0] rfl)⟩
  ·
   have f6:=eA hF7;clear hF7
   refine bB (α:=Int) gok rfl rfl rfl rfl H ?_;clear H;intro h7 w9 hx H
   clear hx
   replace H:=H.frz
   cases f6
   exact ⟨_,_,rfl,⟨x__0_1h,h7,rfl,rfl⟩,(H.sel [1,2,0] rfl)⟩
 ·
  have f7:=eA hF4;clear hF4
  refine bB (α:=Int) gok rfl rfl rfl rfl H ?_;clear H;intro h8 w10 hx H
  clear hx
  replace H:=H.nil (α:=Int)
  obtain ⟨y4,e,f8⟩:=aA f7;clear f7
  obtain ⟨y4_0_0,y4_0_1,y4_0_2,y4_0_3⟩:=y4
  have i3:=e;clear e
  replace H:=H.sel [1,0,2,3] rfl
  replace H:=H.frz
  replace H:=H.sel [1,0,2,3] rfl
  replace H:=H.frz
  replace H:=H.sel [2,3,0,1] rfl
  refine aB (qH x_b x__0_0 x__0_1 x__0_1h x__0_2 x__0_2v x__0_3 x__0_3v 4 0 [w_] h8 [] nilH y4_0_0 y4_0_1 y4_0_2 y4_0_3 i3) (Γi:=[Bx x_b [(.int .i64 x__0_0),(x__0_1h).v,x__0_2v,x__0_3v],E (List (Sh (Int×Int×List Int×List Int))) x__0_1 x__0_1h]) H [1,0] rfl (wA qA (wA qA zA)) ?_;clear H i3
  rintro _ _ w12 ⟨h9,rfl,rfl⟩ H
  replace H:=H.nil (α:=Int)
  replace H:=H.frz
  cases f8
  exact ⟨_,_,rfl,⟨h9,nilH,rfl,rfl⟩,(H.sel [1,2,0] rfl)⟩
theorem BG_ (x_b:Nat) (x__0_0:Int) (x__0_1:List (Int×Int×List Int×List Int)) (x__0_1h:Hd) (x__0_2:List Int) (x__0_2v:Value) (x__0_3:List Int) (x__0_3v:Value) (w_:Int) (n_:Int) (y0_0_0:Int) (y0_0_1:List (Int×Int×List Int×List Int)) (y0_0_2:List Int) (y0_0_3:List Int) (y1:List Int) (hF:bL (x__0_0,x__0_1,x__0_2,x__0_3) w_ n_=some ((y0_0_0,y0_0_1,y0_0_2,y0_0_3),y1)) :
  uD Tryz.prog 58 #[(.pointer (some ⟨x_b,0,none⟩)),(.int .i64 w_),(.int .i64 n_)] [] [Bx x_b [(.int .i64 x__0_0),(x__0_1h).v,x__0_2v,x__0_3v],E (List (Sh (Int×Int×List Int×List Int))) x__0_1 x__0_1h] (fun v Γ'=>∃ z0 z1:Hd,v=(z1).v∧Γ'=[Bx x_b [(.int .i64 y0_0_0),(z0).v,x__0_2v,x__0_3v],E (List (Sh (Int×Int×List Int×List Int))) y0_0_1 z0,Es (List Int) y1 z1]):=Bv_ _ x_b x__0_0 x__0_1 x__0_1h x__0_2 x__0_2v x__0_3 x__0_3v w_ n_ y0_0_0 y0_0_1 y0_0_2 y0_0_3 y1 hF
theorem Bu_:∀ (fuel:Nat) (x_b:Nat) (x__0_0:Int) (x__0_1:List (Int×Int×List Int×List Int)) (x__0_1h:Hd) (x__0_2:List Int) (x__0_2v:Value) (x__0_3:List Int) (x__0_3v:Value) (l_:List Int) (l_h:Hd) (y0_0_0:Int) (y0_0_1:List (Int×Int×List Int×List Int)) (y0_0_2:List Int) (y0_0_3:List Int) (y1:Int) (hF:yM fuel (x__0_0,x__0_1,x__0_2,x__0_3) l_=some ((y0_0_0,y0_0_1,y0_0_2,y0_0_3),y1)),
  uD Tryz.prog 59 #[(.pointer (some ⟨x_b,0,none⟩)),(l_h).v] [Es (List Int) l_ l_h] [Bx x_b [(.int .i64 x__0_0),(x__0_1h).v,x__0_2v,x__0_3v],E (List (Sh (Int×Int×List Int×List Int))) x__0_1 x__0_1h] (fun v Γ'=>∃ z0:Hd,v=(.int .i64 y1)∧Γ'=[Bx x_b [(.int .i64 y0_0_0),(z0).v,x__0_2v,x__0_3v],E (List (Sh (Int×Int×List Int×List Int))) y0_0_1 z0]):=by
 intro fuel
 induction fuel with
 | zero=>intro x_b x__0_0 x__0_1 x__0_1h x__0_2 x__0_2v x__0_3 x__0_3v l_ l_h y0_0_0 y0_0_1 y0_0_2 y0_0_3 y1 hF;cases hF
 | succ fuel ih=>
 intro x_b x__0_0 x__0_1 x__0_1h x__0_2 x__0_2v x__0_3 x__0_3v l_ l_h y0_0_0 y0_0_1 y0_0_2 y0_0_3 y1 hF
 intro w0 S0 fp0 hI hS
 have H:Cx w0 fp0 S0 w0 [Es (List Int) l_ l_h,Bx x_b [(.int .i64 x__0_0),(x__0_1h).v,x__0_2v,x__0_3v],E (List (Sh (Int×Int×List Int×List Int))) x__0_1 x__0_1h]:=Cx.start hI hS
 clear hI hS
 refine lA (args:=[_,_]) gok Tryz.func59 rfl _ rfl rfl rfl ?_
 refine sq ?_
 refine kA (H.rs (α:=List Int) 0 rfl).len ?_
 obtain ⟨a4,e,hF5⟩:=aA hF;clear hF
 refine gA e ?_;clear e
 cases a4
 ·
  have hF6:=fA hF5;clear hF5
  refine sq ?_
  refine kA (H.rs (α:=List Int) 0 rfl).len ?_
  obtain ⟨a7,e,hF8⟩:=aA hF6;clear hF6
  refine gA e ?_;clear e
  cases a7
  ·
   have hF9:=fA hF8;clear hF8
   refine kA (H.rs (α:=List Int) 0 rfl).len ?_
   obtain ⟨a0,e,f0⟩:=aA hF9;clear hF9
   refine arO e ?_;clear e
   obtain ⟨a1,e,f1⟩:=aA f0;clear f0
   refine slS (α:=Int) gok rfl rfl H 0 rfl e rfl rfl ?_;clear e H;intro h0 H
   obtain ⟨y0,e,f2⟩:=aA f1;clear f1
   obtain ⟨⟨y0_0_0_0,y0_0_0_1,y0_0_0_2,y0_0_0_3⟩,y0_1⟩:=y0
   have i0:=e;clear e
   replace H:=H.sel [2,3,0,1] rfl
   refine aB (ih x_b x__0_0 x__0_1 x__0_1h x__0_2 x__0_2v x__0_3 x__0_3v a1 h0 y0_0_0_0 y0_0_0_1 y0_0_0_2 y0_0_0_3 y0_1 i0) (Γi:=[Bx x_b [(.int .i64 x__0_0),(x__0_1h).v,x__0_2v,x__0_3v],E (List (Sh (Int×Int×List Int×List Int))) x__0_1 x__0_1h]) H [0] rfl (wA qA zA) ?_;clear H i0
   rintro _ _ w1 ⟨h1,rfl,rfl⟩ H
   obtain ⟨y2,e,f3⟩:=aA f2;clear f2
   obtain ⟨⟨y2_0_0_0,y2_0_0_1,y2_0_0_2,y2_0_0_3⟩,y2_1⟩:=y2
   have i1:=e;clear e
   refine iA (sG x_b y0_0_0_0 y0_0_0_1 ((h1).v) x__0_2 x__0_2v x__0_3 x__0_3v y2_0_0_0 y2_0_0_1 y2_0_0_2 y2_0_0_3 y2_1 i1) (Γi:=[Bx x_b [(.int .i64 y0_0_0_0),(h1).v,x__0_2v,x__0_3v]]) H trivial ?_;clear H i1
   rintro _ _ w2 ⟨rfl,rfl⟩ H
   obtain ⟨a2,e,f4⟩:=aA f3;clear f3
   obtain ⟨p0,m0,c0,c1,c2,c3⟩:=(H.rs (α:=List Int) 3 rfl).at1 e;clear e
   refine dA c0 c1 c2 ?_;clear c0 c1 c2
   refine cA c3 ?_;clear c3
   replace H:=H.sc (α:=Int) a2
   replace H:=H.sc (α:=Int) y0_1
   refine rC (α:=Int) (us:=[(.int .i64 y0_1),(.int .i64 a2)]) (xs:=[y0_1,a2]) (gs:=[(),()]) gok rfl rfl rfl ⟨rfl,rfl,trivial⟩ rfl rfl H ?_;clear H;intro h2 w3 hx H
   clear hx
   refine bB (α:=Int) gok rfl rfl rfl rfl H ?_;clear H;intro h3 w4 hx H
   clear hx
   obtain ⟨y3,e,f5⟩:=aA f4;clear f4
   obtain ⟨y3_0_0,y3_0_1,y3_0_2,y3_0_3⟩:=y3
   have i2:=e;clear e
   replace H:=H.sel [1,0,2,3,4,5] rfl
   replace H:=H.frz
   replace H:=H.sel [1,0,2,3,4,5] rfl
   replace H:=H.frz
   replace H:=H.sel [2,3,0,1,4,5] rfl
   refine aB (qH x_b y2_0_0_0 y0_0_0_1 h1 x__0_2 x__0_2v x__0_3 x__0_3v 5 0 [y0_1,a2] h2 [y2_1] h3 y3_0_0 y3_0_1 y3_0_2 y3_0_3 i2) (Γi:=[Bx x_b [(.int .i64 y2_0_0_0),(h1).v,x__0_2v,x__0_3v],E (List (Sh (Int×Int×List Int×List Int))) y0_0_0_1 h1]) H [1,0] rfl (wA qA (wA qA zA)) ?_;clear H i2
   rintro _ _ w5 ⟨h4,rfl,rfl⟩ H
   cases f5
   exact ⟨_,_,rfl,⟨h4,rfl,rfl⟩,(H.sel [0,1] rfl)⟩
  ·
   have f6:=eA hF8;clear hF8
   obtain ⟨y4,e,f7⟩:=aA f6;clear f6
   obtain ⟨⟨y4_0_0_0,y4_0_0_1,y4_0_0_2,y4_0_0_3⟩,y4_1⟩:=y4
   have i3:=e;clear e
   replace H:=H.sel [1,0,2] rfl
   refine iA (sG x_b x__0_0 x__0_1 ((x__0_1h).v) x__0_2 x__0_2v x__0_3 x__0_3v y4_0_0_0 y4_0_0_1 y4_0_0_2 y4_0_0_3 y4_1 i3) (Γi:=[Bx x_b [(.int .i64 x__0_0),(x__0_1h).v,x__0_2v,x__0_3v]]) H trivial ?_;clear H i3
   rintro _ _ w6 ⟨rfl,rfl⟩ H
   refine bB (α:=Int) gok rfl rfl rfl rfl H ?_;clear H;intro h5 w7 hx H
   clear hx
   replace H:=H.nil (α:=Int)
   obtain ⟨y5,e,f8⟩:=aA f7;clear f7
   obtain ⟨y5_0_0,y5_0_1,y5_0_2,y5_0_3⟩:=y5
   have i4:=e;clear e
   replace H:=H.frz
   replace H:=H.sel [1,0,2,3,4] rfl
   replace H:=H.frz
   replace H:=H.sel [2,4,0,1,3] rfl
   refine aB (qH x_b y4_0_0_0 x__0_1 x__0_1h x__0_2 x__0_2v x__0_3 x__0_3v 6 0 [] nilH [y4_1] h5 y5_0_0 y5_0_1 y5_0_2 y5_0_3 i4) (Γi:=[Bx x_b [(.int .i64 y4_0_0_0),(x__0_1h).v,x__0_2v,x__0_3v],E (List (Sh (Int×Int×List Int×List Int))) x__0_1 x__0_1h]) H [1,0] rfl (wA qA (wA qA zA)) ?_;clear H i4
   rintro _ _ w8 ⟨h6,rfl,rfl⟩ H
   cases f8
   exact ⟨_,_,rfl,⟨h6,rfl,rfl⟩,(H.sel [0,1] rfl)⟩
 ·
  have f9:=eA hF5;clear hF5
  obtain ⟨a3,e,f10⟩:=aA f9;clear f9
  obtain ⟨p1,m1,c4,c5,c6,c7⟩:=(H.rs (α:=List Int) 0 rfl).at1 e;clear e
  refine dA c4 c5 c6 ?_;clear c4 c5 c6
  refine cA c7 ?_;clear c7
  cases f10
  exact ⟨_,_,rfl,⟨x__0_1h,rfl,rfl⟩,(H.sel [1,2] rfl)⟩
theorem BF_ (x_b:Nat) (x__0_0:Int) (x__0_1:List (Int×Int×List Int×List Int)) (x__0_1h:Hd) (x__0_2:List Int) (x__0_2v:Value) (x__0_3:List Int) (x__0_3v:Value) (l_:List Int) (l_h:Hd) (y0_0_0:Int) (y0_0_1:List (Int×Int×List Int×List Int)) (y0_0_2:List Int) (y0_0_3:List Int) (y1:Int) (hF:eR (x__0_0,x__0_1,x__0_2,x__0_3) l_=some ((y0_0_0,y0_0_1,y0_0_2,y0_0_3),y1)) :
  uD Tryz.prog 59 #[(.pointer (some ⟨x_b,0,none⟩)),(l_h).v] [Es (List Int) l_ l_h] [Bx x_b [(.int .i64 x__0_0),(x__0_1h).v,x__0_2v,x__0_3v],E (List (Sh (Int×Int×List Int×List Int))) x__0_1 x__0_1h] (fun v Γ'=>∃ z0:Hd,v=(.int .i64 y1)∧Γ'=[Bx x_b [(.int .i64 y0_0_0),(z0).v,x__0_2v,x__0_3v],E (List (Sh (Int×Int×List Int×List Int))) y0_0_1 z0]):=Bu_ _ x_b x__0_0 x__0_1 x__0_1h x__0_2 x__0_2v x__0_3 x__0_3v l_ l_h y0_0_0 y0_0_1 y0_0_2 y0_0_3 y1 hF
theorem Bj_ (x_b:Nat) (x__0_0:Int) (x__0_1:List (Int×Int×List Int×List Int)) (x__0_1h:Hd) (x__0_2:List Int) (x__0_2v:Value) (x__0_3:List Int) (x__0_3v:Value) (in_:List Int) (in_h:Hd) (rows_:List (List Int)) (rows_h:Hd) (cols_:Int) (y0_0_0:Int) (y0_0_1:List (Int×Int×List Int×List Int)) (y0_0_2:List Int) (y0_0_3:List Int) (y1:List Int) (hF:pQ (x__0_0,x__0_1,x__0_2,x__0_3) in_ rows_ cols_=some ((y0_0_0,y0_0_1,y0_0_2,y0_0_3),y1)) :
  uD Tryz.prog 37 #[(.pointer (some ⟨x_b,0,none⟩)),(in_h).v,(rows_h).v,(.int .i64 cols_)] [Es (List Int) in_ in_h,Es (List (List Int)) rows_ rows_h] [Bx x_b [(.int .i64 x__0_0),(x__0_1h).v,x__0_2v,x__0_3v],E (List (Sh (Int×Int×List Int×List Int))) x__0_1 x__0_1h] (fun v Γ'=>∃ z0 z1:Hd,v=(z1).v∧Γ'=[Bx x_b [(.int .i64 y0_0_0),(z0).v,x__0_2v,x__0_3v],E (List (Sh (Int×Int×List Int×List Int))) y0_0_1 z0,Es (List Int) y1 z1]):=by
 intro w0 S0 fp0 hI hS
 have H:Cx w0 fp0 S0 w0 [Es (List Int) in_ in_h,Es (List (List Int)) rows_ rows_h,Bx x_b [(.int .i64 x__0_0),(x__0_1h).v,x__0_2v,x__0_3v],E (List (Sh (Int×Int×List Int×List Int))) x__0_1 x__0_1h]:=Cx.start hI hS
 clear hI hS
 refine lA (args:=[_,_,_,_]) gok Tryz.func37 rfl _ rfl rfl rfl ?_
 obtain ⟨a5,e,hF6⟩:=aA hF;clear hF
 refine qD (α:=List Int) gok rfl rfl rfl rfl (cE e) H ?_;clear e H;intro h8 w7 hx H
 clear hx
 refine sq ?_
 refine kA (H.rs (α:=List (List Int)) 2 rfl).len ?_
 have x0:=(H.rs (α:=List (List Int)) 2 rfl).max
 obtain ⟨r0,e,f0⟩:=aA hF6;clear hF6
 refine fB _ rows_.length (fun (k0:Nat) (s0:Int×(List (Int×Int×List Int×List Int))×List (List Int)) (g0:Hd)=>[(0,(.pointer (some ⟨x_b,0,none⟩))),(1,(in_h).v),(9,(h8).v),(24,(rows_h).v),(25,(.int .i64 ((rows_.length:Nat):Int))),(26,(.int .i64 ((k0:Nat):Int)))]) (fun _ (s0:Int×(List (Int×Int×List Int×List Int))×List (List Int)) (g0:Hd) w'=>Cx w0 fp0 S0 w' [Bx x_b [(.int .i64 s0.1),(g0).v,x__0_2v,x__0_3v],E (List (Sh (Int×Int×List Int×List Int))) s0.2.1 g0,Es (List Int) in_ in_h,E (List (List Int)) s0.2.2 h8,Es (List (List Int)) rows_ rows_h]) (x__0_0,x__0_1,a5) x__0_1h e ⟨rfl,rfl,rfl,rfl,rfl,rfl,trivial⟩ (H.sel [3,4,1,0,2] rfl) ?_ ?_
 ·
  clear H e
  rintro T0 k0 ⟨s0_0,s0_1,s0_2⟩ g0 w1 o0 hk (H:Cx w0 fp0 S0 w1 [Bx x_b [(.int .i64 s0_0),(g0).v,x__0_2v,x__0_3v],E (List (Sh (Int×Int×List Int×List Int))) s0_1 g0,Es (List Int) in_ in_h,E (List (List Int)) s0_2 h8,Es (List (List Int)) rows_ rows_h]) f1
  refine jA (z:=true) (cB hk) ?_
  refine sq ?_
  refine sq ?_
  obtain ⟨a0,e,f2⟩:=aA f1;clear f1
  have HH:=H;clear H;obtain ⟨p0,m0,h0,c0,c1,c2,c3,H⟩:=HH.elL 4 rfl e;clear HH
  clear e
  refine dA c0 c1 c2 ?_;clear c0 c1 c2
  refine cA c3 ?_;clear c3
  refine sq ?_
  refine kA (H.rs (α:=List Int) 0 rfl).len ?_
  have x1:=(H.rs (α:=List Int) 0 rfl).max
  obtain ⟨r1,e,f3⟩:=aA f2;clear f2
  replace H:=H.nil (α:=Int)
  refine fB _ a0.length (fun (k1:Nat) (s1:List Int) (g1:Hd)=>[(0,(.pointer (some ⟨x_b,0,none⟩))),(1,(in_h).v),(9,(h8).v),(10,(.int .i64 ((k0:Nat):Int))),(11,(h0).v),(12,(g1).v),(24,(rows_h).v),(25,(.int .i64 ((rows_.length:Nat):Int))),(26,(.int .i64 ((k0:Nat):Int))),(31,(h0).v),(32,(.int .i64 ((a0.length:Nat):Int))),(33,(.int .i64 ((k1:Nat):Int)))]) (fun _ (s1:List Int) (g1:Hd) w'=>Cx w0 fp0 S0 w' [Bx x_b [(.int .i64 s0_0),(g0).v,x__0_2v,x__0_3v],E (List (Sh (Int×Int×List Int×List Int))) s0_1 g0,Es (List Int) in_ in_h,E (List (List Int)) s0_2 h8,Es (List Int) a0 h0,E (List Int) s1 g1,Es (List (List Int)) rows_ rows_h]) [] nilH e ⟨rfl,rfl,rfl,rfl,rfl,rfl,rfl,rfl,rfl,rfl,rfl,rfl,trivial⟩ (H.sel [2,3,4,5,1,0,6] rfl) ?_ ?_
  ·
   clear H e
   rintro T1 k1 s1 g1 w2 o1 hk (H:Cx w0 fp0 S0 w2 [Bx x_b [(.int .i64 s0_0),(g0).v,x__0_2v,x__0_3v],E (List (Sh (Int×Int×List Int×List Int))) s0_1 g0,Es (List Int) in_ in_h,E (List (List Int)) s0_2 h8,Es (List Int) a0 h0,E (List Int) s1 g1,Es (List (List Int)) rows_ rows_h]) f4
   refine jA (z:=true) (cB hk) ?_
   refine sq ?_
   refine sq ?_
   obtain ⟨a1,e,f5⟩:=aA f4;clear f4
   obtain ⟨p1,m1,c4,c5,c6,c7⟩:=(H.rs (α:=List Int) 4 rfl).at1 e;clear e
   refine dA c4 c5 c6 ?_;clear c4 c5 c6
   refine cA c7 ?_;clear c7
   obtain ⟨a2,e,f6⟩:=aA f5;clear f5
   refine gA e ?_;clear e
   cases a2
   ·
    have f7:=fA f6;clear f6
    refine arK hk x1 ?_
    have hs:=Option.some.inj f7;subst hs;clear f7
    exact ⟨g1,⟨rfl,rfl,rfl,rfl,rfl,rfl,rfl,rfl,rfl,rfl,rfl,rfl,trivial⟩,H.sel [0,1,2,3,4,5,6] rfl⟩
   ·
    have f8:=eA f6;clear f6
    refine bB (α:=Int) gok rfl rfl rfl rfl H ?_;clear H;intro h1 w3 hx H
    clear hx
    obtain ⟨a3,e,f9⟩:=aA f8;clear f8
    replace H:=H.sel [6,0,1,2,3,4,5,7] rfl
    refine append_ (α:=Int) gok rfl rfl rfl rfl H e ?_;clear e H;intro h2 w4 H
    refine arK hk x1 ?_
    have hs:=Option.some.inj f9;subst hs;clear f9
    exact ⟨h2,⟨rfl,rfl,rfl,rfl,rfl,rfl,rfl,rfl,rfl,rfl,rfl,rfl,trivial⟩,H.sel [1,2,3,4,5,0,6] rfl⟩
  ·
   clear H e
   rintro T2 g2 w5 (H:Cx w0 fp0 S0 w5 [Bx x_b [(.int .i64 s0_0),(g0).v,x__0_2v,x__0_3v],E (List (Sh (Int×Int×List Int×List Int))) s0_1 g0,Es (List Int) in_ in_h,E (List (List Int)) s0_2 h8,Es (List Int) a0 h0,E (List Int) r1 g2,Es (List (List Int)) rows_ rows_h])
   refine jA (z:=false) dB ?_
   refine sq ?_
   obtain ⟨a4,e,f10⟩:=aA f3;clear f3
   obtain ⟨p2,m2,c8,c9,c10,c11⟩:=(H.rs (α:=List Int) 2 rfl).at1 e;clear e
   refine dA c8 c9 c10 ?_;clear c8 c9 c10
   refine cA c11 ?_;clear c11
   refine kA (H.ro (α:=List Int) 5 rfl).len ?_
   obtain ⟨y0,e,f11⟩:=aA f10;clear f10
   obtain ⟨⟨y0_0_0_0,y0_0_0_1,y0_0_0_2,y0_0_0_3⟩,y0_1⟩:=y0
   have i0:=e;clear e
   refine aB (BG_ x_b s0_0 s0_1 g0 x__0_2 x__0_2v x__0_3 x__0_3v a4 ((r1.length:Nat):Int) y0_0_0_0 y0_0_0_1 y0_0_0_2 y0_0_0_3 y0_1 i0) (Γi:=[Bx x_b [(.int .i64 s0_0),(g0).v,x__0_2v,x__0_3v],E (List (Sh (Int×Int×List Int×List Int))) s0_1 g0]) H [] rfl zA ?_;clear H i0
   rintro _ _ w6 ⟨h3,h4,rfl,rfl⟩ H
   refine kA (H.rs (α:=List Int) 2 rfl).len ?_
   have x2:=(H.rs (α:=List Int) 2 rfl).max
   obtain ⟨r2,e,f12⟩:=aA f11;clear f11
   refine fB _ y0_1.length (fun (k2:Nat) (s2:Int×(List (Int×Int×List Int×List Int))×List (List Int)) (g3:Hd)=>[(0,(.pointer (some ⟨x_b,0,none⟩))),(1,(in_h).v),(9,(h8).v),(11,(h0).v),(12,(g2).v),(24,(rows_h).v),(25,(.int .i64 ((rows_.length:Nat):Int))),(26,(.int .i64 ((k0:Nat):Int))),(52,(h4).v),(53,(.int .i64 ((y0_1.length:Nat):Int))),(54,(.int .i64 ((k2:Nat):Int)))]) (fun _ (s2:Int×(List (Int×Int×List Int×List Int))×List (List Int)) (g3:Hd) w'=>Cx w0 fp0 S0 w' [Bx x_b [(.int .i64 s2.1),(g3).v,x__0_2v,x__0_3v],E (List (Sh (Int×Int×List Int×List Int))) s2.2.1 g3,Es (List Int) in_ in_h,E (List (List Int)) s2.2.2 h8,Es (List Int) a0 h0,E (List Int) r1 g2,Es (List (List Int)) rows_ rows_h,Es (List Int) y0_1 h4]) (y0_0_0_0,y0_0_0_1,s0_2) h3 e ⟨rfl,rfl,rfl,rfl,rfl,rfl,rfl,rfl,rfl,rfl,rfl,trivial⟩ (H.sel [0,1,3,4,5,6,7,2] rfl) ?_ ?_
   ·
    clear H e
    rintro T3 k2 ⟨s2_0,s2_1,s2_2⟩ g3 w8 o2 hk (H:Cx w0 fp0 S0 w8 [Bx x_b [(.int .i64 s2_0),(g3).v,x__0_2v,x__0_3v],E (List (Sh (Int×Int×List Int×List Int))) s2_1 g3,Es (List Int) in_ in_h,E (List (List Int)) s2_2 h8,Es (List Int) a0 h0,E (List Int) r1 g2,Es (List (List Int)) rows_ rows_h,Es (List Int) y0_1 h4]) f13
    refine jA (z:=true) (cB hk) ?_
    refine sq ?_
    refine sq ?_
    obtain ⟨a6,e,f14⟩:=aA f13;clear f13
    obtain ⟨p3,m3,c12,c13,c14,c15⟩:=(H.rs (α:=List Int) 7 rfl).at1 e;clear e
    refine dA c12 c13 c14 ?_;clear c12 c13 c14
    refine cA c15 ?_;clear c15
    obtain ⟨a7,e,f15⟩:=aA f14;clear f14
    obtain ⟨p4,m4,c16,c17,c18,c19⟩:=(H.ro (α:=List Int) 5 rfl).at1 e;clear e
    refine dA c16 c17 c18 ?_;clear c16 c17 c18
    refine cA c19 ?_;clear c19
    obtain ⟨r3,f16,f17⟩:=aA f15;clear f15
    refine cut (fun (q0:(Int×(List (Int×Int×List Int×List Int))×Int)×Hd)=>[(0,(.pointer (some ⟨x_b,0,none⟩))),(1,(in_h).v),(9,(h8).v),(11,(h0).v),(12,(g2).v),(16,(.int .i64 q0.1.2.2)),(17,(.int .i64 a7)),(24,(rows_h).v),(25,(.int .i64 ((rows_.length:Nat):Int))),(26,(.int .i64 ((k0:Nat):Int))),(52,(h4).v),(53,(.int .i64 ((y0_1.length:Nat):Int))),(54,(.int .i64 ((k2:Nat):Int)))]) (fun (q0:(Int×(List (Int×Int×List Int×List Int))×Int)×Hd) w'=>(q0.1.1,q0.1.2.1,q0.1.2.2)=r3∧Cx w0 fp0 S0 w' [Bx x_b [(.int .i64 q0.1.1),(q0.2).v,x__0_2v,x__0_3v],E (List (Sh (Int×Int×List Int×List Int))) q0.1.2.1 q0.2,Es (List Int) in_ in_h,E (List (List Int)) s2_2 h8,Es (List Int) a0 h0,E (List Int) r1 g2,Es (List (List Int)) rows_ rows_h,Es (List Int) y0_1 h4]) ?_ ?_
    ·
     obtain ⟨a8,e,f18⟩:=aA f16;clear f16
     obtain ⟨p5,m5,c20,c21,c22,c23⟩:=(H.rs (α:=List Int) 4 rfl).at1 e;clear e
     refine dA c20 c21 c22 ?_;clear c20 c21 c22
     refine cA c23 ?_;clear c23
     obtain ⟨a9,e,f19⟩:=aA f18;clear f18
     refine gA e ?_;clear e
     cases a9
     ·
      have f20:=fA f19;clear f19
      exact ⟨((s2_0,s2_1,a6),g3),⟨rfl,rfl,rfl,rfl,rfl,rfl,rfl,rfl,rfl,rfl,rfl,rfl,rfl,trivial⟩,Option.some.inj f20,H.sel [0,1,2,3,4,5,6,7] rfl⟩
     ·
      have f21:=eA f19;clear f19
      obtain ⟨y2,e,f22⟩:=aA f21;clear f21
      obtain ⟨⟨y2_0_0_0,y2_0_0_1,y2_0_0_2,y2_0_0_3⟩,y2_1⟩:=y2
      have i1:=e;clear e
      refine iA (sG x_b s2_0 s2_1 ((g3).v) x__0_2 x__0_2v x__0_3 x__0_3v y2_0_0_0 y2_0_0_1 y2_0_0_2 y2_0_0_3 y2_1 i1) (Γi:=[Bx x_b [(.int .i64 s2_0),(g3).v,x__0_2v,x__0_3v]]) H trivial ?_;clear H i1
      rintro _ _ w9 ⟨rfl,rfl⟩ H
      obtain ⟨a10,e,f23⟩:=aA f22;clear f22
      obtain ⟨p6,m6,c24,c25,c26,c27⟩:=(H.rs (α:=List Int) 4 rfl).at1 e;clear e
      refine dA c24 c25 c26 ?_;clear c24 c25 c26
      refine cA c27 ?_;clear c27
      refine bB (α:=Int) gok rfl rfl rfl rfl H ?_;clear H;intro h5 w10 hx H
      clear hx
      refine bB (α:=Int) gok rfl rfl rfl rfl H ?_;clear H;intro h6 w11 hx H
      clear hx
      obtain ⟨y3,e,f24⟩:=aA f23;clear f23
      obtain ⟨y3_0_0,y3_0_1,y3_0_2,y3_0_3⟩:=y3
      have i2:=e;clear e
      replace H:=H.sel [1,0,2,3,4,5,6,7,8,9] rfl
      replace H:=H.frz
      replace H:=H.sel [1,0,2,3,4,5,6,7,8,9] rfl
      replace H:=H.frz
      replace H:=H.sel [2,3,0,1,4,5,6,7,8,9] rfl
      refine aB (qH x_b y2_0_0_0 s2_1 g3 x__0_2 x__0_2v x__0_3 x__0_3v 7 a10 [a6] h5 [y2_1] h6 y3_0_0 y3_0_1 y3_0_2 y3_0_3 i2) (Γi:=[Bx x_b [(.int .i64 y2_0_0_0),(g3).v,x__0_2v,x__0_3v],E (List (Sh (Int×Int×List Int×List Int))) s2_1 g3]) H [1,0] rfl (wA qA (wA qA zA)) ?_;clear H i2
      rintro _ _ w12 ⟨h7,rfl,rfl⟩ H
      exact ⟨((y3_0_0,y3_0_1,y2_1),h7),⟨rfl,rfl,rfl,rfl,rfl,rfl,rfl,rfl,rfl,rfl,rfl,rfl,rfl,trivial⟩,Option.some.inj f24,H.sel [0,1,4,5,6,7,8,9] rfl⟩
    ·
     clear f16 H
     rintro T4 ⟨⟨s3_0,s3_1,s3_2⟩,g4⟩ w13 ⟨hr,(H:Cx w0 fp0 S0 w13 [Bx x_b [(.int .i64 s3_0),(g4).v,x__0_2v,x__0_3v],E (List (Sh (Int×Int×List Int×List Int))) s3_1 g4,Es (List Int) in_ in_h,E (List (List Int)) s2_2 h8,Es (List Int) a0 h0,E (List Int) r1 g2,Es (List (List Int)) rows_ rows_h,Es (List Int) y0_1 h4])⟩
     subst hr
     obtain ⟨a11,e,f25⟩:=aA f17;clear f17
     replace H:=H.sel [3,0,1,2,4,5,6,7] rfl
     replace H:=H.toEH (α:=List Int)
     have HH:=H;clear H;obtain ⟨p7,m7,h9,c28,c29,c30,c31,H⟩:=HH.peekL e;clear HH
     clear e
     refine dA c28 c29 c30 ?_
     refine cA c31 ?_;clear c31
     refine bB (α:=Int) gok rfl rfl rfl rfl H ?_;clear H;intro h10 w14 hx H
     clear hx
     replace H:=H.sel [1,0,2,3,4,5,6,7,8] rfl
     replace H:=H.takeK 0 rfl
     obtain ⟨a12,e,f26⟩:=aA f25;clear f25
     replace H:=H.sel [0,2,1,3,4,5,6,7,8,9] rfl
     refine append_ (α:=Int) gok rfl rfl rfl rfl H e ?_;clear e H;intro h11 w15 H
     refine dA c28 c29 c30 ?_
     replace H:=H.sel [1,0,2,3,4,5,6,7,8] rfl
     refine stX0 H c28 rfl rfl ?_;clear H;intro w16 H
     obtain ⟨a13,e,f27⟩:=aA f26;clear f26
     replace H:=H.sel [1,0,2,3,4,5,6,7,8] rfl
     replace H:=H.put c29 e;clear e
     refine arK hk x2 ?_
     have hs:=Option.some.inj f27;subst hs;clear f27
     exact ⟨g4,⟨rfl,rfl,rfl,rfl,rfl,rfl,rfl,rfl,rfl,rfl,rfl,trivial⟩,H.sel [1,2,3,0,4,5,6,7] rfl⟩
   ·
    clear H e
    obtain ⟨s4_0,s4_1,s4_2⟩:=r2
    rintro T5 g5 w17 (H:Cx w0 fp0 S0 w17 [Bx x_b [(.int .i64 s4_0),(g5).v,x__0_2v,x__0_3v],E (List (Sh (Int×Int×List Int×List Int))) s4_1 g5,Es (List Int) in_ in_h,E (List (List Int)) s4_2 h8,Es (List Int) a0 h0,E (List Int) r1 g2,Es (List (List Int)) rows_ rows_h,Es (List Int) y0_1 h4])
    refine jA (z:=false) dB ?_
    refine sq ?_
    refine arK hk x0 ?_
    have hs:=Option.some.inj f12;subst hs;clear f12
    exact ⟨g5,⟨rfl,rfl,rfl,rfl,rfl,rfl,trivial⟩,H.sel [0,1,2,3,6] rfl⟩
 ·
  clear H e
  obtain ⟨s5_0,s5_1,s5_2⟩:=r0
  rintro T6 g6 w18 (H:Cx w0 fp0 S0 w18 [Bx x_b [(.int .i64 s5_0),(g6).v,x__0_2v,x__0_3v],E (List (Sh (Int×Int×List Int×List Int))) s5_1 g6,Es (List Int) in_ in_h,E (List (List Int)) s5_2 h8,Es (List (List Int)) rows_ rows_h])
  refine jA (z:=false) dB ?_
  refine sq ?_
  refine sq ?_
  refine kA (H.ro (α:=List (List Int)) 3 rfl).len ?_
  replace H:=H.sel [3,0,1,2,4] rfl
  replace H:=H.frz
  have x3:=(H.rs (α:=List (List Int)) 0 rfl).max
  obtain ⟨r4,e,f28⟩:=aA f0;clear f0
  replace H:=H.nil (α:=Int)
  refine fB _ s5_2.length (fun (k3:Nat) (s6:Int×(List (Int×Int×List Int×List Int))×List Int) (g7:Hd×Hd)=>[(0,(.pointer (some ⟨x_b,0,none⟩))),(19,(g7.2).v),(93,(h8).v),(94,(.int .i64 ((s5_2.length:Nat):Int))),(95,(.int .i64 ((k3:Nat):Int)))]) (fun _ (s6:Int×(List (Int×Int×List Int×List Int))×List Int) (g7:Hd×Hd) w'=>Cx w0 fp0 S0 w' [Bx x_b [(.int .i64 s6.1),(g7.1).v,x__0_2v,x__0_3v],E (List (Sh (Int×Int×List Int×List Int))) s6.2.1 g7.1,E (List Int) s6.2.2 g7.2,Es (List (List Int)) s5_2 h8]) (s5_0,s5_1,[]) (g6,nilH) e ⟨rfl,rfl,rfl,rfl,rfl,trivial⟩ (H.sel [2,3,0,1] rfl) ?_ ?_
  ·
   clear H e
   rintro T7 k3 ⟨s6_0,s6_1,s6_2⟩ ⟨g7_0,g7_1⟩ w19 o3 hk (H:Cx w0 fp0 S0 w19 [Bx x_b [(.int .i64 s6_0),(g7_0).v,x__0_2v,x__0_3v],E (List (Sh (Int×Int×List Int×List Int))) s6_1 g7_0,E (List Int) s6_2 g7_1,Es (List (List Int)) s5_2 h8]) f29
   refine jA (z:=true) (cB hk) ?_
   refine sq ?_
   refine sq ?_
   obtain ⟨a14,e,f30⟩:=aA f29;clear f29
   have HH:=H;clear H;obtain ⟨p8,m8,h12,c32,c33,c34,c35,H⟩:=HH.elL 3 rfl e;clear HH
   clear e
   refine dA c32 c33 c34 ?_;clear c32 c33 c34
   refine cA c35 ?_;clear c35
   obtain ⟨y4,e,f31⟩:=aA f30;clear f30
   obtain ⟨⟨y4_0_0_0,y4_0_0_1,y4_0_0_2,y4_0_0_3⟩,y4_1⟩:=y4
   have i3:=e;clear e
   replace H:=H.sel [1,2,0,3,4] rfl
   refine aB (BF_ x_b s6_0 s6_1 g7_0 x__0_2 x__0_2v x__0_3 x__0_3v a14 h12 y4_0_0_0 y4_0_0_1 y4_0_0_2 y4_0_0_3 y4_1 i3) (Γi:=[Bx x_b [(.int .i64 s6_0),(g7_0).v,x__0_2v,x__0_3v],E (List (Sh (Int×Int×List Int×List Int))) s6_1 g7_0]) H [0] rfl (wA qA zA) ?_;clear H i3
   rintro _ _ w20 ⟨h13,rfl,rfl⟩ H
   refine bB (α:=Int) gok rfl rfl rfl rfl H ?_;clear H;intro h14 w21 hx H
   clear hx
   obtain ⟨a15,e,f32⟩:=aA f31;clear f31
   replace H:=H.sel [4,0,1,2,3,5] rfl
   refine append_ (α:=Int) gok rfl rfl rfl rfl H e ?_;clear e H;intro h15 w22 H
   refine arK hk x3 ?_
   have hs:=Option.some.inj f32;subst hs;clear f32
   exact ⟨(h13,h15),⟨rfl,rfl,rfl,rfl,rfl,trivial⟩,H.sel [1,2,0,4] rfl⟩
  ·
   clear H e
   obtain ⟨s7_0,s7_1,s7_2⟩:=r4
   rintro T8 ⟨g8_0,g8_1⟩ w23 (H:Cx w0 fp0 S0 w23 [Bx x_b [(.int .i64 s7_0),(g8_0).v,x__0_2v,x__0_3v],E (List (Sh (Int×Int×List Int×List Int))) s7_1 g8_0,E (List Int) s7_2 g8_1,Es (List (List Int)) s5_2 h8])
   refine jA (z:=false) dB ?_
   refine sq ?_
   replace H:=H.sel [2,0,1,3] rfl
   replace H:=H.frz
   cases f28
   exact ⟨_,_,rfl,⟨g8_0,g8_1,rfl,rfl⟩,(H.sel [1,2,0] rfl)⟩
theorem Ce_ (n__0:Int) (n__1:Int) (n__2:ByteArray) (y:Bool) (hF:pN (n__0,n__1,n__2)=some y) :
  nA Tryz.prog 89 #[(.agg #[(.int .i64 n__0),(.int .i64 n__1),(.string n__2)])] [] [] (fun v Γ'=>v=(.bool y)∧Γ'=[]):=by
 intro w0 S0 fp0 hI hS
 have H:Cx w0 fp0 S0 w0 []:=Cx.start hI hS
 clear hI hS
 refine lA (args:=[_]) gok Tryz.func89 rfl _ rfl rfl rfl ?_
 refine jB H ?_;clear H;intro b2 w1 hx H
 clear hx
 refine sq ?_
 obtain ⟨r0,f0,f1⟩:=aA hF;clear hF
 refine cut (fun (q0:Bool)=>[(1,(.pointer (some ⟨b2,0,none⟩))),(11,(.bool q0))]) (fun (q0:Bool) w'=>q0=r0∧Cx w0 fp0 S0 w' [Bx b2 [(.int .i64 n__0),(.int .i64 n__1),(.string n__2)]]) ?_ ?_
 ·
  refine fld gok rfl rfl rfl rfl ?_
  refine cA (H.bx 0 rfl (j:=2) rfl) ?_
  obtain ⟨a0,e,f2⟩:=aA f0;clear f0
  refine neqZ e ?_;clear e
  cases a0
  ·
   have f3:=fA f2;clear f2
   refine fld gok rfl rfl rfl rfl ?_
   refine cA (H.bx 0 rfl (j:=0) rfl) ?_
   obtain ⟨y0,e,f4⟩:=aA f3;clear f3
   have i0:=e;clear e
   refine iA (hG n__0 1 14 y0 i0) (Γi:=[]) H trivial ?_;clear H i0
   rintro _ _ w2 ⟨rfl,rfl⟩ H
   obtain ⟨a1,e,f5⟩:=aA f4;clear f4
   refine gA e ?_;clear e
   exact ⟨a1,⟨rfl,rfl,trivial⟩,Option.some.inj f5,H.sel [0] rfl⟩
  ·
   have f6:=eA f2;clear f2
   exact ⟨true,⟨rfl,rfl,trivial⟩,Option.some.inj f6,H.sel [0] rfl⟩
 ·
  clear f0 H
  rintro T0 s0 w3 ⟨hr,(H:Cx w0 fp0 S0 w3 [Bx b2 [(.int .i64 n__0),(.int .i64 n__1),(.string n__2)]])⟩
  subst hr
  cases s0
  ·
   have f7:=fA f1;clear f1
   refine sq ?_
   refine fld gok rfl rfl rfl rfl ?_
   refine cA (H.bx 0 rfl (j:=0) rfl) ?_
   obtain ⟨a2,e,f8⟩:=aA f7;clear f7
   refine gA e ?_;clear e
   cases a2
   ·
    have f9:=fA f8;clear f8
    obtain ⟨r1,f10,f11⟩:=aA f9;clear f9
    refine cut (fun (q1:Bool)=>[(1,(.pointer (some ⟨b2,0,none⟩))),(19,(.bool q1))]) (fun (q1:Bool) w'=>q1=r1∧Cx w0 fp0 S0 w' [Bx b2 [(.int .i64 n__0),(.int .i64 n__1),(.string n__2)]]) ?_ ?_
    ·
     obtain ⟨a3,e,f12⟩:=aA f10;clear f10
     refine gA e ?_;clear e
     cases a3
     ·
      have f13:=fA f12;clear f12
      obtain ⟨a4,e,f14⟩:=aA f13;clear f13
      refine gA e ?_;clear e
      exact ⟨a4,⟨rfl,rfl,trivial⟩,Option.some.inj f14,H.sel [0] rfl⟩
     ·
      have f15:=eA f12;clear f12
      exact ⟨true,⟨rfl,rfl,trivial⟩,Option.some.inj f15,H.sel [0] rfl⟩
    ·
     clear f10 H
     rintro T1 s1 w4 ⟨hr,(H:Cx w0 fp0 S0 w4 [Bx b2 [(.int .i64 n__0),(.int .i64 n__1),(.string n__2)]])⟩
     subst hr
     cases s1
     ·
      have f16:=fA f11;clear f11
      refine fld gok rfl rfl rfl rfl ?_
      refine cA (H.bx 0 rfl (j:=1) rfl) ?_
      obtain ⟨a5,e,f17⟩:=aA f16;clear f16
      refine gA e ?_;clear e
      cases f17
      exact ⟨_,_,rfl,⟨rfl,rfl⟩,(H.sel [] rfl).close trivial⟩
     ·
      have f18:=eA f11;clear f11
      refine fld gok rfl rfl rfl rfl ?_
      refine cA (H.bx 0 rfl (j:=1) rfl) ?_
      obtain ⟨y1,e,f19⟩:=aA f18;clear f18
      have i1:=e;clear e
      refine iA (hG n__1 0 96 y1 i1) (Γi:=[]) H trivial ?_;clear H i1
      rintro _ _ w5 ⟨rfl,rfl⟩ H
      cases f19
      exact ⟨_,_,rfl,⟨rfl,rfl⟩,(H.sel [] rfl).close trivial⟩
   ·
    have f20:=eA f8;clear f8
    refine fld gok rfl rfl rfl rfl ?_
    refine cA (H.bx 0 rfl (j:=1) rfl) ?_
    obtain ⟨y2,e,f21⟩:=aA f20;clear f20
    have i2:=e;clear e
    refine iA (hG n__1 0 12 y2 i2) (Γi:=[]) H trivial ?_;clear H i2
    rintro _ _ w6 ⟨rfl,rfl⟩ H
    cases f21
    exact ⟨_,_,rfl,⟨rfl,rfl⟩,(H.sel [] rfl).close trivial⟩
  ·
   have f22:=eA f1;clear f1
   cases f22
   exact ⟨_,_,rfl,⟨rfl,rfl⟩,(H.sel [] rfl).close trivial⟩
theorem Cf_ (kind_:Int) (y0:Int) (y1:Int) (hF:rN kind_=some (y0,y1)) :
  nA Tryz.prog 90 #[(.int .i64 kind_)] [] [] (fun v Γ'=>v=(.tuple #[(.int .i64 y0),(.int .i64 y1)])∧Γ'=[]):=by
 intro w0 S0 fp0 hI hS
 have H:Cx w0 fp0 S0 w0 []:=Cx.start hI hS
 clear hI hS
 refine lA (args:=[_]) gok Tryz.func90 rfl _ rfl rfl rfl ?_
 refine sq ?_
 obtain ⟨a1,e,hF2⟩:=aA hF;clear hF
 refine gA e ?_;clear e
 cases a1
 ·
  have hF3:=fA hF2;clear hF2
  obtain ⟨r0,f0,f1⟩:=aA hF3;clear hF3
  refine cut (fun (q0:Bool)=>[(4,(.int .i64 kind_)),(7,(.bool q0))]) (fun (q0:Bool) w'=>q0=r0∧Cx w0 fp0 S0 w' []) ?_ ?_
  ·
   obtain ⟨a0,e,f2⟩:=aA f0;clear f0
   refine gA e ?_;clear e
   cases a0
   ·
    have f3:=fA f2;clear f2
    obtain ⟨a2,e,f4⟩:=aA f3;clear f3
    refine gA e ?_;clear e
    exact ⟨a2,⟨rfl,rfl,trivial⟩,Option.some.inj f4,H.sel [] rfl⟩
   ·
    have f5:=eA f2;clear f2
    exact ⟨true,⟨rfl,rfl,trivial⟩,Option.some.inj f5,H.sel [] rfl⟩
  ·
   clear f0 H
   rintro T0 s0 w1 ⟨hr,(H:Cx w0 fp0 S0 w1 [])⟩
   subst hr
   cases s0
   ·
    have f6:=fA f1;clear f1
    obtain ⟨r1,f7,f8⟩:=aA f6;clear f6
    refine cut (fun (q1:Bool)=>[(4,(.int .i64 kind_)),(10,(.bool q1))]) (fun (q1:Bool) w'=>q1=r1∧Cx w0 fp0 S0 w' []) ?_ ?_
    ·
     obtain ⟨a3,e,f9⟩:=aA f7;clear f7
     refine gA e ?_;clear e
     cases a3
     ·
      have f10:=fA f9;clear f9
      obtain ⟨a4,e,f11⟩:=aA f10;clear f10
      refine gA e ?_;clear e
      exact ⟨a4,⟨rfl,rfl,trivial⟩,Option.some.inj f11,H.sel [] rfl⟩
     ·
      have f12:=eA f9;clear f9
      exact ⟨true,⟨rfl,rfl,trivial⟩,Option.some.inj f12,H.sel [] rfl⟩
    ·
     clear f7 H
     rintro T1 s1 w2 ⟨hr,(H:Cx w0 fp0 S0 w2 [])⟩
     subst hr
     cases s1
     ·
      have f13:=fA f8;clear f8
      obtain ⟨r2,f14,f15⟩:=aA f13;clear f13
      refine cut (fun (q2:Bool)=>[(4,(.int .i64 kind_)),(13,(.bool q2))]) (fun (q2:Bool) w'=>q2=r2∧Cx w0 fp0 S0 w' []) ?_ ?_
      ·
       obtain ⟨a5,e,f16⟩:=aA f14;clear f14
       refine gA e ?_;clear e
       cases a5
       ·
        have f17:=fA f16;clear f16
        obtain ⟨a6,e,f18⟩:=aA f17;clear f17
        refine gA e ?_;clear e
        exact ⟨a6,⟨rfl,rfl,trivial⟩,Option.some.inj f18,H.sel [] rfl⟩
       ·
        have f19:=eA f16;clear f16
        exact ⟨true,⟨rfl,rfl,trivial⟩,Option.some.inj f19,H.sel [] rfl⟩
      ·
       clear f14 H
       rintro T2 s2 w3 ⟨hr,(H:Cx w0 fp0 S0 w3 [])⟩
       subst hr
       cases s2
       ·
        have f20:=fA f15;clear f15
        obtain ⟨r3,f21,f22⟩:=aA f20;clear f20
        refine cut (fun (q3:Bool)=>[(16,(.bool q3))]) (fun (q3:Bool) w'=>q3=r3∧Cx w0 fp0 S0 w' []) ?_ ?_
        ·
         obtain ⟨a7,e,f23⟩:=aA f21;clear f21
         refine gA e ?_;clear e
         cases a7
         ·
          have f24:=fA f23;clear f23
          obtain ⟨a8,e,f25⟩:=aA f24;clear f24
          refine gA e ?_;clear e
          exact ⟨a8,⟨rfl,trivial⟩,Option.some.inj f25,H.sel [] rfl⟩
         ·
          have f26:=eA f23;clear f23
          exact ⟨true,⟨rfl,trivial⟩,Option.some.inj f26,H.sel [] rfl⟩
        ·
         clear f21 H
         rintro T3 s3 w4 ⟨hr,(H:Cx w0 fp0 S0 w4 [])⟩
         subst hr
         cases s3
         ·
          have f27:=fA f22;clear f22
          cases f27
          exact ⟨_,_,rfl,⟨rfl,rfl⟩,(H.sel [] rfl).close trivial⟩
         ·
          have f28:=eA f22;clear f22
          cases f28
          exact ⟨_,_,rfl,⟨rfl,rfl⟩,(H.sel [] rfl).close trivial⟩
       ·
        have f29:=eA f15;clear f15
        cases f29
        exact ⟨_,_,rfl,⟨rfl,rfl⟩,(H.sel [] rfl).close trivial⟩
     ·
      have f30:=eA f8;clear f8
      cases f30
      exact ⟨_,_,rfl,⟨rfl,rfl⟩,(H.sel [] rfl).close trivial⟩
   ·
    have f31:=eA f1;clear f1
    cases f31
    exact ⟨_,_,rfl,⟨rfl,rfl⟩,(H.sel [] rfl).close trivial⟩
 ·
  have f32:=eA hF2;clear hF2
  cases f32
  exact ⟨_,_,rfl,⟨rfl,rfl⟩,(H.sel [] rfl).close trivial⟩
theorem Cm_ (e__0:Int) (e__1:Int) (e__2:List Int) (e__2h:Hd) (e__3:List Int) (e__3h:Hd) (wires_:Int) (y:Bool) (hF:sN (e__0,e__1,e__2,e__3) wires_=some y) :
  nA Tryz.prog 74 #[(.agg #[(.int .i64 e__0),(.int .i64 e__1),(e__2h).v,(e__3h).v]),(.int .i64 wires_)] [Es (List Int) e__2 e__2h,Es (List Int) e__3 e__3h] [] (fun v Γ'=>v=(.bool y)∧Γ'=[]):=by
 intro w0 S0 fp0 hI hS
 have H:Cx w0 fp0 S0 w0 [Es (List Int) e__2 e__2h,Es (List Int) e__3 e__3h]:=Cx.start hI hS
 clear hI hS
 refine lA (args:=[_,_]) gok Tryz.func74 rfl _ rfl rfl rfl ?_
 refine jB H ?_;clear H;intro b4 w3 hx H
 clear hx
 refine sq ?_
 obtain ⟨r0,f0,f1⟩:=aA hF;clear hF
 refine cut (fun (q0:Bool)=>[(1,(.int .i64 wires_)),(2,(.pointer (some ⟨b4,0,none⟩))),(19,(.bool q0))]) (fun (q0:Bool) w'=>q0=r0∧Cx w0 fp0 S0 w' [Bx b4 [(.int .i64 e__0),(.int .i64 e__1),(e__2h).v,(e__3h).v],Es (List Int) e__2 e__2h,Es (List Int) e__3 e__3h]) ?_ ?_
 ·
  refine fld gok rfl rfl rfl rfl ?_
  refine cA (H.bx 0 rfl (j:=0) rfl) ?_
  obtain ⟨y0,e,f2⟩:=aA f0;clear f0
  have i0:=e;clear e
  refine iA (hG e__0 3 14 y0 i0) (Γi:=[]) H trivial ?_;clear H i0
  rintro _ _ w1 ⟨rfl,rfl⟩ H
  obtain ⟨a0,e,f3⟩:=aA f2;clear f2
  refine gA e ?_;clear e
  cases a0
  ·
   have f4:=fA f3;clear f3
   refine fld gok rfl rfl rfl rfl ?_
   refine cA (H.bx 0 rfl (j:=0) rfl) ?_
   refine fld gok rfl rfl rfl rfl ?_
   refine cA (H.bx 0 rfl (j:=1) rfl) ?_
   refine tB (cs:=#[(.int .i64 e__0),(.int .i64 e__1),(.string .empty)]) gok rfl rfl rfl ?_
   obtain ⟨y1,e,f5⟩:=aA f4;clear f4
   have i1:=e;clear e
   refine iA (Ce_ e__0 e__1 .empty y1 i1) (Γi:=[]) H trivial ?_;clear H i1
   rintro _ _ w2 ⟨rfl,rfl⟩ H
   obtain ⟨a1,e,f6⟩:=aA f5;clear f5
   refine gA e ?_;clear e
   exact ⟨a1,⟨rfl,rfl,rfl,trivial⟩,Option.some.inj f6,H.sel [0,1,2] rfl⟩
  ·
   have f7:=eA f3;clear f3
   exact ⟨true,⟨rfl,rfl,rfl,trivial⟩,Option.some.inj f7,H.sel [0,1,2] rfl⟩
 ·
  clear f0 H
  rintro T0 s0 w4 ⟨hr,(H:Cx w0 fp0 S0 w4 [Bx b4 [(.int .i64 e__0),(.int .i64 e__1),(e__2h).v,(e__3h).v],Es (List Int) e__2 e__2h,Es (List Int) e__3 e__3h])⟩
  subst hr
  cases s0
  ·
   have f8:=fA f1;clear f1
   refine fld gok rfl rfl rfl rfl ?_
   refine cA (H.bx 0 rfl (j:=0) rfl) ?_
   obtain ⟨y2,e,f9⟩:=aA f8;clear f8
   obtain ⟨y2_0,y2_1⟩:=y2
   have i2:=e;clear e
   refine iA (Cf_ e__0 y2_0 y2_1 i2) (Γi:=[]) H trivial ?_;clear H i2
   rintro _ _ w5 ⟨rfl,rfl⟩ H
   obtain ⟨r1,f10,f11⟩:=aA f9;clear f9
   refine cut (fun (q1:Bool)=>[(4,(.bool q1))]) (fun (q1:Bool) w'=>q1=r1∧Cx w0 fp0 S0 w' []) ?_ ?_
   ·
    refine fld gok rfl rfl rfl rfl ?_
    refine cA (H.bx 0 rfl (j:=2) rfl) ?_
    refine kA (H.rs (α:=List Int) 1 rfl).len ?_
    obtain ⟨a2,e,f12⟩:=aA f10;clear f10
    refine gA e ?_;clear e
    cases a2
    ·
     have f13:=fA f12;clear f12
     exact ⟨false,⟨rfl,trivial⟩,Option.some.inj f13,H.sel [] rfl⟩
    ·
     have f14:=eA f12;clear f12
     refine fld gok rfl rfl rfl rfl ?_
     refine cA (H.bx 0 rfl (j:=3) rfl) ?_
     refine kA (H.rs (α:=List Int) 2 rfl).len ?_
     obtain ⟨a3,e,f15⟩:=aA f14;clear f14
     refine gA e ?_;clear e
     cases a3
     ·
      have f16:=fA f15;clear f15
      exact ⟨false,⟨rfl,trivial⟩,Option.some.inj f16,H.sel [] rfl⟩
     ·
      have f17:=eA f15;clear f15
      refine fld gok rfl rfl rfl rfl ?_
      refine cA (H.bx 0 rfl (j:=2) rfl) ?_
      obtain ⟨a4,e,f18⟩:=aA f17;clear f17
      refine arO e ?_;clear e
      obtain ⟨y3,e,f19⟩:=aA f18;clear f18
      have i3:=e;clear e
      refine iA (kL e__2 e__2h 0 a4 y3 i3) (Γi:=[]) H ⟨Vw.sh 1 rfl,trivial⟩ ?_;clear H i3
      rintro _ _ w6 ⟨rfl,rfl⟩ H
      cases y3
      ·
       have f20:=fA f19;clear f19
       exact ⟨false,⟨rfl,trivial⟩,Option.some.inj f20,H.sel [] rfl⟩
      ·
       have f21:=eA f19;clear f19
       refine fld gok rfl rfl rfl rfl ?_
       refine cA (H.bx 0 rfl (j:=3) rfl) ?_
       obtain ⟨a5,e,f22⟩:=aA f21;clear f21
       refine arO e ?_;clear e
       obtain ⟨y4,e,f23⟩:=aA f22;clear f22
       have i4:=e;clear e
       refine iA (kL e__3 e__3h 0 a5 y4 i4) (Γi:=[]) H ⟨Vw.sh 2 rfl,trivial⟩ ?_;clear H i4
       rintro _ _ w7 ⟨rfl,rfl⟩ H
       exact ⟨y4,⟨rfl,trivial⟩,Option.some.inj f23,H.sel [] rfl⟩
   ·
    clear f10 H
    rintro T1 s1 w8 ⟨hr,(H:Cx w0 fp0 S0 w8 [])⟩
    subst hr
    cases f11
    exact ⟨_,_,rfl,⟨rfl,rfl⟩,(H.sel [] rfl).close trivial⟩
  ·
   have f24:=eA f1;clear f1
   cases f24
   exact ⟨_,_,rfl,⟨rfl,rfl⟩,(H.sel [] rfl).close trivial⟩
theorem BX_ (g__0:Int) (g__1:List (Int×Int×List Int×List Int)) (g__1h:Hd) (g__2:List Int) (g__2h:Hd) (g__3:List Int) (g__3h:Hd) (y0:List Int) (y1:List Int) (hF:tR (g__0,g__1,g__2,g__3)=some (y0,y1)) :
  nA Tryz.prog 75 #[(.agg #[(.int .i64 g__0),(g__1h).v,(g__2h).v,(g__3h).v])] [Es (List (Int×Int×List Int×List Int)) g__1 g__1h,Es (List Int) g__2 g__2h,Es (List Int) g__3 g__3h] [] (fun v Γ'=>∃ z0 z1:Hd,v=(.tuple #[(z0).v,(z1).v])∧Γ'=[E (List Int) y0 z0,E (List Int) y1 z1]):=by
 intro w0 S0 fp0 hI hS
 have H:Cx w0 fp0 S0 w0 [Es (List (Int×Int×List Int×List Int)) g__1 g__1h,Es (List Int) g__2 g__2h,Es (List Int) g__3 g__3h]:=Cx.start hI hS
 clear hI hS
 refine lA (args:=[_]) gok Tryz.func75 rfl _ rfl rfl rfl ?_
 refine jB H ?_;clear H;intro b5 w4 hx H
 clear hx
 refine fld gok rfl rfl rfl rfl ?_
 refine cA (H.bx 0 rfl (j:=0) rfl) ?_
 obtain ⟨a7,e,hF8⟩:=aA hF;clear hF
 refine qD (α:=Int) gok rfl rfl rfl rfl (cE e) H ?_;clear e H;intro h0 w9 hx H
 clear hx
 refine fld gok rfl rfl rfl rfl ?_
 refine cA (H.bx 1 rfl (j:=0) rfl) ?_
 obtain ⟨a0,e,f0⟩:=aA hF8;clear hF8
 refine qD (α:=Int) gok rfl rfl rfl rfl (cE e) H ?_;clear e H;intro h1 w1 hx H
 clear hx
 refine sq ?_
 refine fld gok rfl rfl rfl rfl ?_
 refine cA (H.bx 2 rfl (j:=2) rfl) ?_
 refine kA (H.rs (α:=List Int) 4 rfl).len ?_
 have x0:=(H.rs (α:=List Int) 4 rfl).max
 obtain ⟨r0,e,f1⟩:=aA f0;clear f0
 refine fB _ g__2.length (fun (k0:Nat) (s0:List Int) (_:Unit)=>[(1,(.pointer (some ⟨b5,0,none⟩))),(4,(h0).v),(5,(h1).v),(23,(g__2h).v),(24,(.int .i64 ((g__2.length:Nat):Int))),(25,(.int .i64 ((k0:Nat):Int)))]) (fun _ (s0:List Int) (_:Unit) w'=>Cx w0 fp0 S0 w' [Bx b5 [(.int .i64 g__0),(g__1h).v,(g__2h).v,(g__3h).v],Es (List (Int×Int×List Int×List Int)) g__1 g__1h,Es (List Int) g__2 g__2h,Es (List Int) g__3 g__3h,E (List Int) s0 h0,E (List Int) a0 h1]) a7 () e ⟨rfl,rfl,rfl,rfl,rfl,rfl,trivial⟩ (H.sel [2,3,4,5,1,0] rfl) ?_ ?_
 ·
  clear H e
  rintro T0 k0 s0 _ w2 o0 hk (H:Cx w0 fp0 S0 w2 [Bx b5 [(.int .i64 g__0),(g__1h).v,(g__2h).v,(g__3h).v],Es (List (Int×Int×List Int×List Int)) g__1 g__1h,Es (List Int) g__2 g__2h,Es (List Int) g__3 g__3h,E (List Int) s0 h0,E (List Int) a0 h1]) f2
  refine jA (z:=true) (cB hk) ?_
  refine sq ?_
  refine sq ?_
  obtain ⟨a1,e,f3⟩:=aA f2;clear f2
  obtain ⟨p0,m0,c0,c1,c2,c3⟩:=(H.rs (α:=List Int) 2 rfl).at1 e;clear e
  refine dA c0 c1 c2 ?_;clear c0 c1 c2
  refine cA c3 ?_;clear c3
  obtain ⟨a2,e,f4⟩:=aA f3;clear f3
  obtain ⟨p1,m1,c4,c5,c6,c7⟩:=(H.ro (α:=List Int) 4 rfl).at1 e;clear e
  refine dA c4 c5 c6 ?_;clear c4 c5 c6
  refine cA c7 ?_;clear c7
  obtain ⟨a3,e,f5⟩:=aA f4;clear f4
  refine arO e ?_;clear e
  obtain ⟨a4,e,f6⟩:=aA f5;clear f5
  have i0:=e;clear e
  obtain ⟨p2,m2,c8,c9,c10⟩:=(H.ro (α:=List Int) 4 rfl).setp i0
  refine dA c8 c9 c10 ?_
  replace H:=H.sel [4,0,1,2,3,5] rfl
  refine gC (α:=Int) H c8 c9 i0 ?_;clear H c8 c9 c10 i0;intro w3 H
  refine arK hk x0 ?_
  have hs:=Option.some.inj f6;subst hs;clear f6
  exact ⟨(),⟨rfl,rfl,rfl,rfl,rfl,rfl,trivial⟩,H.sel [1,2,3,4,0,5] rfl⟩
 ·
  clear H e
  rintro T1 _ w5 (H:Cx w0 fp0 S0 w5 [Bx b5 [(.int .i64 g__0),(g__1h).v,(g__2h).v,(g__3h).v],Es (List (Int×Int×List Int×List Int)) g__1 g__1h,Es (List Int) g__2 g__2h,Es (List Int) g__3 g__3h,E (List Int) r0 h0,E (List Int) a0 h1])
  refine jA (z:=false) dB ?_
  refine sq ?_
  refine sq ?_
  refine fld gok rfl rfl rfl rfl ?_
  refine cA (H.bx 0 rfl (j:=3) rfl) ?_
  refine kA (H.rs (α:=List Int) 3 rfl).len ?_
  have x1:=(H.rs (α:=List Int) 3 rfl).max
  obtain ⟨r1,e,f7⟩:=aA f1;clear f1
  refine fB _ g__3.length (fun (k1:Nat) (s1:List Int) (_:Unit)=>[(1,(.pointer (some ⟨b5,0,none⟩))),(4,(h0).v),(5,(h1).v),(37,(g__3h).v),(38,(.int .i64 ((g__3.length:Nat):Int))),(39,(.int .i64 ((k1:Nat):Int)))]) (fun _ (s1:List Int) (_:Unit) w'=>Cx w0 fp0 S0 w' [Bx b5 [(.int .i64 g__0),(g__1h).v,(g__2h).v,(g__3h).v],Es (List (Int×Int×List Int×List Int)) g__1 g__1h,Es (List Int) g__2 g__2h,Es (List Int) g__3 g__3h,E (List Int) r0 h0,E (List Int) s1 h1]) a0 () e ⟨rfl,rfl,rfl,rfl,rfl,rfl,trivial⟩ (H.sel [0,1,2,3,4,5] rfl) ?_ ?_
  ·
   clear H e
   rintro T2 k1 s1 _ w6 o1 hk (H:Cx w0 fp0 S0 w6 [Bx b5 [(.int .i64 g__0),(g__1h).v,(g__2h).v,(g__3h).v],Es (List (Int×Int×List Int×List Int)) g__1 g__1h,Es (List Int) g__2 g__2h,Es (List Int) g__3 g__3h,E (List Int) r0 h0,E (List Int) s1 h1]) f8
   refine jA (z:=true) (cB hk) ?_
   refine sq ?_
   refine sq ?_
   obtain ⟨a5,e,f9⟩:=aA f8;clear f8
   obtain ⟨p3,m3,c11,c12,c13,c14⟩:=(H.rs (α:=List Int) 3 rfl).at1 e;clear e
   refine dA c11 c12 c13 ?_;clear c11 c12 c13
   refine cA c14 ?_;clear c14
   obtain ⟨a6,e,f10⟩:=aA f9;clear f9
   obtain ⟨p4,m4,c15,c16,c17,c18⟩:=(H.ro (α:=List Int) 5 rfl).at1 e;clear e
   refine dA c15 c16 c17 ?_;clear c15 c16 c17
   refine cA c18 ?_;clear c18
   obtain ⟨a8,e,f11⟩:=aA f10;clear f10
   refine arO e ?_;clear e
   obtain ⟨a9,e,f12⟩:=aA f11;clear f11
   have i1:=e;clear e
   obtain ⟨p5,m5,c19,c20,c21⟩:=(H.ro (α:=List Int) 5 rfl).setp i1
   refine dA c19 c20 c21 ?_
   replace H:=H.sel [5,0,1,2,3,4] rfl
   refine gC (α:=Int) H c19 c20 i1 ?_;clear H c19 c20 c21 i1;intro w7 H
   refine arK hk x1 ?_
   have hs:=Option.some.inj f12;subst hs;clear f12
   exact ⟨(),⟨rfl,rfl,rfl,rfl,rfl,rfl,trivial⟩,H.sel [1,2,3,4,5,0] rfl⟩
  ·
   clear H e
   rintro T3 _ w8 (H:Cx w0 fp0 S0 w8 [Bx b5 [(.int .i64 g__0),(g__1h).v,(g__2h).v,(g__3h).v],Es (List (Int×Int×List Int×List Int)) g__1 g__1h,Es (List Int) g__2 g__2h,Es (List Int) g__3 g__3h,E (List Int) r0 h0,E (List Int) r1 h1])
   refine jA (z:=false) dB ?_
   refine sq ?_
   refine sq ?_
   refine fld gok rfl rfl rfl rfl ?_
   refine cA (H.bx 0 rfl (j:=1) rfl) ?_
   refine kA (H.rs (α:=List (Int×Int×List Int×List Int)) 1 rfl).len ?_
   have x2:=(H.rs (α:=List (Int×Int×List Int×List Int)) 1 rfl).max
   obtain ⟨r2,e,f13⟩:=aA f7;clear f7
   refine fB _ g__1.length (fun (k2:Nat) (s2:List Int×List Int) (_:Unit)=>[(4,(h0).v),(5,(h1).v),(51,(g__1h).v),(52,(.int .i64 ((g__1.length:Nat):Int))),(53,(.int .i64 ((k2:Nat):Int)))]) (fun _ (s2:List Int×List Int) (_:Unit) w'=>Cx w0 fp0 S0 w' [E (List Int) s2.1 h0,E (List Int) s2.2 h1,Es (List (Int×Int×List Int×List Int)) g__1 g__1h]) (r0,r1) () e ⟨rfl,rfl,rfl,rfl,rfl,trivial⟩ (H.sel [4,5,1] rfl) ?_ ?_
   ·
    clear H e
    rintro T4 k2 ⟨s2_0,s2_1⟩ _ w10 o2 hk (H:Cx w0 fp0 S0 w10 [E (List Int) s2_0 h0,E (List Int) s2_1 h1,Es (List (Int×Int×List Int×List Int)) g__1 g__1h]) f14
    refine jA (z:=true) (cB hk) ?_
    refine sq ?_
    refine sq ?_
    obtain ⟨a10,e,f15⟩:=aA f14;clear f14
    have HH:=H;clear H;obtain ⟨p6,m6,g0,c22,c23,c24,c25,H⟩:=HH.el (α:=Int×Int×List Int×List Int) 2 rfl e;clear HH
    clear e
    obtain ⟨a10_0,a10_1,a10_2,a10_3⟩:=a10
    obtain ⟨_,_,h2,h3⟩:=g0
    replace H:=H.part (β:=List Int) a10_2 (h2:Hd) 0 rfl (fun S h=>(And.left (And.right (And.right h))))
    replace H:=H.part (β:=List Int) a10_3 (h3:Hd) 1 rfl (fun S h=>(And.right (And.right (And.right h))))
    replace H:=H.sel [0,1,3,4,5] rfl
    refine dA c22 c23 c24 ?_;clear c22 c23 c24
    refine vA [(.int .i64 a10_0),(.int .i64 a10_1),(h2).v,(h3).v] rfl c25 ?_;clear c25
    refine sB gok rfl H ?_;clear H;intro b0 w11 hx H
    clear hx
    refine stA gok [(.int .i64 a10_0),(.int .i64 a10_1),(h2).v,(h3).v] rfl H rfl rfl rfl ?_;clear H;intro w12 H
    refine sq ?_
    refine fld gok rfl rfl rfl rfl ?_
    refine cA (H.bx 0 rfl (j:=3) rfl) ?_
    refine kA (H.rs (α:=List Int) 1 rfl).len ?_
    have x3:=(H.rs (α:=List Int) 1 rfl).max
    obtain ⟨r3,e,f16⟩:=aA f15;clear f15
    refine fB _ a10_3.length (fun (k3:Nat) (s3:List Int) (_:Unit)=>[(4,(h0).v),(5,(h1).v),(11,(.pointer (some ⟨b0,0,none⟩))),(51,(g__1h).v),(52,(.int .i64 ((g__1.length:Nat):Int))),(53,(.int .i64 ((k2:Nat):Int))),(58,(h3).v),(59,(.int .i64 ((a10_3.length:Nat):Int))),(60,(.int .i64 ((k3:Nat):Int)))]) (fun _ (s3:List Int) (_:Unit) w'=>Cx w0 fp0 S0 w' [E (List Int) s3 h0,E (List Int) s2_1 h1,Bx b0 [(.int .i64 a10_0),(.int .i64 a10_1),(h2).v,(h3).v],Es (List Int) a10_2 h2,Es (List Int) a10_3 h3,Es (List (Int×Int×List Int×List Int)) g__1 g__1h]) s2_0 () e ⟨rfl,rfl,rfl,rfl,rfl,rfl,rfl,rfl,rfl,trivial⟩ (H.sel [3,4,0,2,1,5] rfl) ?_ ?_
    ·
     clear H e
     rintro T5 k3 s3 _ w13 o3 hk (H:Cx w0 fp0 S0 w13 [E (List Int) s3 h0,E (List Int) s2_1 h1,Bx b0 [(.int .i64 a10_0),(.int .i64 a10_1),(h2).v,(h3).v],Es (List Int) a10_2 h2,Es (List Int) a10_3 h3,Es (List (Int×Int×List Int×List Int)) g__1 g__1h]) f17
     refine jA (z:=true) (cB hk) ?_
     refine sq ?_
     refine sq ?_
     obtain ⟨a11,e,f18⟩:=aA f17;clear f17
     obtain ⟨p7,m7,c26,c27,c28,c29⟩:=(H.rs (α:=List Int) 4 rfl).at1 e;clear e
     refine dA c26 c27 c28 ?_;clear c26 c27 c28
     refine cA c29 ?_;clear c29
     obtain ⟨a13,e,f19⟩:=aA f18;clear f18
     obtain ⟨p8,m8,c30,c31,c32,c33⟩:=(H.ro (α:=List Int) 0 rfl).at1 e;clear e
     refine dA c30 c31 c32 ?_;clear c30 c31 c32
     refine cA c33 ?_;clear c33
     obtain ⟨a14,e,f20⟩:=aA f19;clear f19
     refine arO e ?_;clear e
     obtain ⟨a15,e,f21⟩:=aA f20;clear f20
     have i2:=e;clear e
     obtain ⟨p9,m9,c34,c35,c36⟩:=(H.ro (α:=List Int) 0 rfl).setp i2
     refine dA c34 c35 c36 ?_
     refine gC (α:=Int) H c34 c35 i2 ?_;clear H c34 c35 c36 i2;intro w15 H
     refine arK hk x3 ?_
     have hs:=Option.some.inj f21;subst hs;clear f21
     exact ⟨(),⟨rfl,rfl,rfl,rfl,rfl,rfl,rfl,rfl,rfl,trivial⟩,H.sel [0,1,2,3,4,5] rfl⟩
    ·
     clear H e
     rintro T6 _ w16 (H:Cx w0 fp0 S0 w16 [E (List Int) r3 h0,E (List Int) s2_1 h1,Bx b0 [(.int .i64 a10_0),(.int .i64 a10_1),(h2).v,(h3).v],Es (List Int) a10_2 h2,Es (List Int) a10_3 h3,Es (List (Int×Int×List Int×List Int)) g__1 g__1h])
     refine jA (z:=false) dB ?_
     refine sq ?_
     refine fld gok rfl rfl rfl rfl ?_
     refine cA (H.bx 2 rfl (j:=2) rfl) ?_
     refine kA (H.rs (α:=List Int) 3 rfl).len ?_
     have x4:=(H.rs (α:=List Int) 3 rfl).max
     obtain ⟨r4,e,f22⟩:=aA f16;clear f16
     refine fB _ a10_2.length (fun (k4:Nat) (s4:List Int) (_:Unit)=>[(4,(h0).v),(5,(h1).v),(51,(g__1h).v),(52,(.int .i64 ((g__1.length:Nat):Int))),(53,(.int .i64 ((k2:Nat):Int))),(72,(h2).v),(73,(.int .i64 ((a10_2.length:Nat):Int))),(74,(.int .i64 ((k4:Nat):Int)))]) (fun _ (s4:List Int) (_:Unit) w'=>Cx w0 fp0 S0 w' [E (List Int) r3 h0,E (List Int) s4 h1,Es (List (Int×Int×List Int×List Int)) g__1 g__1h,Es (List Int) a10_2 h2]) s2_1 () e ⟨rfl,rfl,rfl,rfl,rfl,rfl,rfl,rfl,trivial⟩ (H.sel [0,1,5,3] rfl) ?_ ?_
     ·
      clear H e
      rintro T7 k4 s4 _ w17 o4 hk (H:Cx w0 fp0 S0 w17 [E (List Int) r3 h0,E (List Int) s4 h1,Es (List (Int×Int×List Int×List Int)) g__1 g__1h,Es (List Int) a10_2 h2]) f23
      refine jA (z:=true) (cB hk) ?_
      refine sq ?_
      refine sq ?_
      obtain ⟨a16,e,f24⟩:=aA f23;clear f23
      obtain ⟨p10,m10,c37,c38,c39,c40⟩:=(H.rs (α:=List Int) 3 rfl).at1 e;clear e
      refine dA c37 c38 c39 ?_;clear c37 c38 c39
      refine cA c40 ?_;clear c40
      obtain ⟨a17,e,f25⟩:=aA f24;clear f24
      obtain ⟨p11,m11,c41,c42,c43,c44⟩:=(H.ro (α:=List Int) 1 rfl).at1 e;clear e
      refine dA c41 c42 c43 ?_;clear c41 c42 c43
      refine cA c44 ?_;clear c44
      obtain ⟨a18,e,f26⟩:=aA f25;clear f25
      refine arO e ?_;clear e
      obtain ⟨a19,e,f27⟩:=aA f26;clear f26
      have i3:=e;clear e
      obtain ⟨p12,m12,c45,c46,c47⟩:=(H.ro (α:=List Int) 1 rfl).setp i3
      refine dA c45 c46 c47 ?_
      replace H:=H.sel [1,0,2,3] rfl
      refine gC (α:=Int) H c45 c46 i3 ?_;clear H c45 c46 c47 i3;intro w18 H
      refine arK hk x4 ?_
      have hs:=Option.some.inj f27;subst hs;clear f27
      exact ⟨(),⟨rfl,rfl,rfl,rfl,rfl,rfl,rfl,rfl,trivial⟩,H.sel [1,0,2,3] rfl⟩
     ·
      clear H e
      rintro T8 _ w19 (H:Cx w0 fp0 S0 w19 [E (List Int) r3 h0,E (List Int) r4 h1,Es (List (Int×Int×List Int×List Int)) g__1 g__1h,Es (List Int) a10_2 h2])
      refine jA (z:=false) dB ?_
      refine sq ?_
      refine arK hk x2 ?_
      have hs:=Option.some.inj f22;subst hs;clear f22
      exact ⟨(),⟨rfl,rfl,rfl,rfl,rfl,trivial⟩,H.sel [0,1,2] rfl⟩
   ·
    clear H e
    obtain ⟨s5_0,s5_1⟩:=r2
    rintro T9 _ w20 (H:Cx w0 fp0 S0 w20 [E (List Int) s5_0 h0,E (List Int) s5_1 h1,Es (List (Int×Int×List Int×List Int)) g__1 g__1h])
    refine jA (z:=false) dB ?_
    refine sq ?_
    cases f13
    exact ⟨_,_,rfl,⟨h0,h1,rfl,rfl⟩,(H.sel [0,1] rfl).close ⟨cloE,cloE,trivial⟩⟩
theorem B5_ (g__0:Int) (g__1:List (Int×Int×List Int×List Int)) (g__1h:Hd) (g__2:List Int) (g__2h:Hd) (g__3:List Int) (g__3h:Hd) (y:Bool) (hF:jN (g__0,g__1,g__2,g__3)=some y) :
  nA Tryz.prog 60 #[(.agg #[(.int .i64 g__0),(g__1h).v,(g__2h).v,(g__3h).v])] [Es (List (Int×Int×List Int×List Int)) g__1 g__1h,Es (List Int) g__2 g__2h,Es (List Int) g__3 g__3h] [] (fun v Γ'=>v=(.bool y)∧Γ'=[]):=by
 intro w0 S0 fp0 hI hS
 have H:Cx w0 fp0 S0 w0 [Es (List (Int×Int×List Int×List Int)) g__1 g__1h,Es (List Int) g__2 g__2h,Es (List Int) g__3 g__3h]:=Cx.start hI hS
 clear hI hS
 refine lA (args:=[_]) gok Tryz.func60 rfl _ rfl rfl rfl ?_
 refine jB H ?_;clear H;intro b5 w4 hx H
 clear hx
 refine sq ?_
 obtain ⟨r0,f0,f1⟩:=aA hF;clear hF
 refine cut (fun (q0:Bool)=>[(1,(.pointer (some ⟨b5,0,none⟩))),(47,(.bool q0))]) (fun (q0:Bool) w'=>q0=r0∧Cx w0 fp0 S0 w' [Bx b5 [(.int .i64 g__0),(g__1h).v,(g__2h).v,(g__3h).v],Es (List (Int×Int×List Int×List Int)) g__1 g__1h,Es (List Int) g__2 g__2h,Es (List Int) g__3 g__3h]) ?_ ?_
 ·
  refine fld gok rfl rfl rfl rfl ?_
  refine cA (H.bx 0 rfl (j:=0) rfl) ?_
  obtain ⟨y0,e,f2⟩:=aA f0;clear f0
  have i0:=e;clear e
  refine iA (hG g__0 0 100 y0 i0) (Γi:=[]) H trivial ?_;clear H i0
  rintro _ _ w1 ⟨rfl,rfl⟩ H
  obtain ⟨a0,e,f3⟩:=aA f2;clear f2
  refine gA e ?_;clear e
  cases a0
  ·
   have f4:=fA f3;clear f3
   refine fld gok rfl rfl rfl rfl ?_
   refine cA (H.bx 0 rfl (j:=1) rfl) ?_
   refine kA (H.rs (α:=List (Int×Int×List Int×List Int)) 1 rfl).len ?_
   obtain ⟨a1,e,f5⟩:=aA f4;clear f4
   refine gA e ?_;clear e
   cases a1
   ·
    have f6:=fA f5;clear f5
    refine fld gok rfl rfl rfl rfl ?_
    refine cA (H.bx 0 rfl (j:=2) rfl) ?_
    refine kA (H.rs (α:=List Int) 2 rfl).len ?_
    obtain ⟨a2,e,f7⟩:=aA f6;clear f6
    refine gA e ?_;clear e
    cases a2
    ·
     have f8:=fA f7;clear f7
     refine fld gok rfl rfl rfl rfl ?_
     refine cA (H.bx 0 rfl (j:=3) rfl) ?_
     refine kA (H.rs (α:=List Int) 3 rfl).len ?_
     obtain ⟨a3,e,f9⟩:=aA f8;clear f8
     refine gA e ?_;clear e
     cases a3
     ·
      have f10:=fA f9;clear f9
      refine fld gok rfl rfl rfl rfl ?_
      refine cA (H.bx 0 rfl (j:=2) rfl) ?_
      refine fld gok rfl rfl rfl rfl ?_
      refine cA (H.bx 0 rfl (j:=0) rfl) ?_
      obtain ⟨a4,e,f11⟩:=aA f10;clear f10
      refine arO e ?_;clear e
      obtain ⟨y1,e,f12⟩:=aA f11;clear f11
      have i1:=e;clear e
      refine iA (kL g__2 g__2h 0 a4 y1 i1) (Γi:=[]) H ⟨Vw.sh 2 rfl,trivial⟩ ?_;clear H i1
      rintro _ _ w2 ⟨rfl,rfl⟩ H
      obtain ⟨a5,e,f13⟩:=aA f12;clear f12
      refine gA e ?_;clear e
      cases a5
      ·
       have f14:=fA f13;clear f13
       refine fld gok rfl rfl rfl rfl ?_
       refine cA (H.bx 0 rfl (j:=3) rfl) ?_
       refine fld gok rfl rfl rfl rfl ?_
       refine cA (H.bx 0 rfl (j:=0) rfl) ?_
       obtain ⟨a6,e,f15⟩:=aA f14;clear f14
       refine arO e ?_;clear e
       obtain ⟨y2,e,f16⟩:=aA f15;clear f15
       have i2:=e;clear e
       refine iA (kL g__3 g__3h 0 a6 y2 i2) (Γi:=[]) H ⟨Vw.sh 3 rfl,trivial⟩ ?_;clear H i2
       rintro _ _ w3 ⟨rfl,rfl⟩ H
       obtain ⟨a7,e,f17⟩:=aA f16;clear f16
       refine gA e ?_;clear e
       exact ⟨a7,⟨rfl,rfl,trivial⟩,Option.some.inj f17,H.sel [0,1,2,3] rfl⟩
      ·
       have f18:=eA f13;clear f13
       exact ⟨true,⟨rfl,rfl,trivial⟩,Option.some.inj f18,H.sel [0,1,2,3] rfl⟩
     ·
      have f19:=eA f9;clear f9
      exact ⟨true,⟨rfl,rfl,trivial⟩,Option.some.inj f19,H.sel [0,1,2,3] rfl⟩
    ·
     have f20:=eA f7;clear f7
     exact ⟨true,⟨rfl,rfl,trivial⟩,Option.some.inj f20,H.sel [0,1,2,3] rfl⟩
   ·
    have f21:=eA f5;clear f5
    exact ⟨true,⟨rfl,rfl,trivial⟩,Option.some.inj f21,H.sel [0,1,2,3] rfl⟩
  ·
   have f22:=eA f3;clear f3
   exact ⟨true,⟨rfl,rfl,trivial⟩,Option.some.inj f22,H.sel [0,1,2,3] rfl⟩
 ·
  clear f0 H
  rintro T0 s0 w5 ⟨hr,(H:Cx w0 fp0 S0 w5 [Bx b5 [(.int .i64 g__0),(g__1h).v,(g__2h).v,(g__3h).v],Es (List (Int×Int×List Int×List Int)) g__1 g__1h,Es (List Int) g__2 g__2h,Es (List Int) g__3 g__3h])⟩
  subst hr
  cases s0
  ·
   have f23:=fA f1;clear f1
   refine sq ?_
   refine fld gok rfl rfl rfl rfl ?_
   refine cA (H.bx 0 rfl (j:=1) rfl) ?_
   refine kA (H.rs (α:=List (Int×Int×List Int×List Int)) 1 rfl).len ?_
   have x0:=(H.rs (α:=List (Int×Int×List Int×List Int)) 1 rfl).max
   obtain ⟨r1,e,f24⟩:=aA f23;clear f23
   refine qF _ g__1.length (fun (k0:Nat) (_:Unit) (_:Unit)=>[(1,(.pointer (some ⟨b5,0,none⟩))),(49,(g__1h).v),(50,(.int .i64 ((g__1.length:Nat):Int))),(51,(.int .i64 ((k0:Nat):Int)))]) (fun _ (_:Unit) (_:Unit) w'=>Cx w0 fp0 S0 w' [Bx b5 [(.int .i64 g__0),(g__1h).v,(g__2h).v,(g__3h).v],Es (List (Int×Int×List Int×List Int)) g__1 g__1h,Es (List Int) g__2 g__2h,Es (List Int) g__3 g__3h]) () () e ⟨rfl,rfl,rfl,rfl,trivial⟩ (H.sel [0,1,2,3] rfl) ?_ ?_
   ·
    clear H e
    rintro T1 k0 _ _ w6 o0 hk (H:Cx w0 fp0 S0 w6 [Bx b5 [(.int .i64 g__0),(g__1h).v,(g__2h).v,(g__3h).v],Es (List (Int×Int×List Int×List Int)) g__1 g__1h,Es (List Int) g__2 g__2h,Es (List Int) g__3 g__3h]) hrt f25
    refine jA (z:=true) (cB hk) ?_
    refine sq ?_
    refine sq ?_
    obtain ⟨a8,e,f26⟩:=aA f25;clear f25
    have HH:=H;clear H;obtain ⟨p0,m0,g0,c0,c1,c2,c3,H⟩:=HH.el (α:=Int×Int×List Int×List Int) 1 rfl e;clear HH
    clear e
    obtain ⟨a8_0,a8_1,a8_2,a8_3⟩:=a8
    obtain ⟨_,_,h0,h1⟩:=g0
    replace H:=H.part (β:=List Int) a8_2 (h0:Hd) 0 rfl (fun S h=>(And.left (And.right (And.right h))))
    replace H:=H.part (β:=List Int) a8_3 (h1:Hd) 1 rfl (fun S h=>(And.right (And.right (And.right h))))
    replace H:=H.sel [0,1,3,4,5,6] rfl
    refine dA c0 c1 c2 ?_;clear c0 c1 c2
    refine vA [(.int .i64 a8_0),(.int .i64 a8_1),(h0).v,(h1).v] rfl c3 ?_;clear c3
    refine sB gok rfl H ?_;clear H;intro b0 w7 hx H
    clear hx
    refine stA gok [(.int .i64 a8_0),(.int .i64 a8_1),(h0).v,(h1).v] rfl H rfl rfl rfl ?_;clear H;intro w8 H
    refine vA [(.int .i64 a8_0),(.int .i64 a8_1),(h0).v,(h1).v] rfl (fun j u hj=>H.bx 0 rfl hj) ?_
    refine fld gok rfl rfl rfl rfl ?_
    refine cA (H.bx 3 rfl (j:=0) rfl) ?_
    obtain ⟨y3,e,f27⟩:=aA f26;clear f26
    have i3:=e;clear e
    refine iA (Cm_ a8_0 a8_1 a8_2 h0 a8_3 h1 g__0 y3 i3) (Γi:=[]) H ⟨Vw.sh 2 rfl,Vw.sh 1 rfl,trivial⟩ ?_;clear H i3
    rintro _ _ w9 ⟨rfl,rfl⟩ H
    obtain ⟨a9,e,f28⟩:=aA f27;clear f27
    refine gA e ?_;clear e
    cases a9
    ·
     have f29:=fA f28;clear f28
     refine arK hk x0 ?_
     have hs:=Option.some.inj f29;subst hs;clear f29
     exact ⟨(),(),rfl,⟨rfl,rfl,rfl,rfl,trivial⟩,H.sel [3,4,5,6] rfl⟩
    ·
     have f30:=eA f28;clear f28
     have hs:=Option.some.inj f30;subst hs;clear f30
     have hr:=hrt _ rfl;subst hr
     have f31:some _=some _:=f24
     cases f31
     exact ⟨_,_,rfl,⟨rfl,rfl⟩,(H.sel [] rfl).close trivial⟩
   ·
    clear H e
    rintro T2 _ _ w10 hr (H:Cx w0 fp0 S0 w10 [Bx b5 [(.int .i64 g__0),(g__1h).v,(g__2h).v,(g__3h).v],Es (List (Int×Int×List Int×List Int)) g__1 g__1h,Es (List Int) g__2 g__2h,Es (List Int) g__3 g__3h])
    subst hr
    refine jA (z:=false) dB ?_
    refine sq ?_
    refine vA [(.int .i64 g__0),(g__1h).v,(g__2h).v,(g__3h).v] rfl (fun j u hj=>H.bx 0 rfl hj) ?_
    obtain ⟨y4,e,f32⟩:=aA f24;clear f24
    obtain ⟨y4_0,y4_1⟩:=y4
    have i4:=e;clear e
    refine iA (BX_ g__0 g__1 g__1h g__2 g__2h g__3 g__3h y4_0 y4_1 i4) (Γi:=[]) H ⟨Vw.sh 1 rfl,Vw.sh 2 rfl,Vw.sh 3 rfl,trivial⟩ ?_;clear H i4
    rintro _ _ w11 ⟨h2,h3,rfl,rfl⟩ H
    refine sq ?_
    refine kA (H.ro (α:=List Int) 0 rfl).len ?_
    have x1:=(H.ro (α:=List Int) 0 rfl).max
    obtain ⟨r2,e,f33⟩:=aA f32;clear f32
    refine qF _ y4_0.length (fun (k1:Nat) (_:Unit) (_:Unit)=>[(5,(h2).v),(6,(h3).v),(67,(.int .i64 ((y4_0.length:Nat):Int))),(68,(.int .i64 ((k1:Nat):Int)))]) (fun _ (_:Unit) (_:Unit) w'=>Cx w0 fp0 S0 w' [E (List Int) y4_0 h2,E (List Int) y4_1 h3]) () () e ⟨rfl,rfl,rfl,rfl,trivial⟩ (H.sel [0,1] rfl) ?_ ?_
    ·
     clear H e
     rintro T3 k1 _ _ w12 o1 hk (H:Cx w0 fp0 S0 w12 [E (List Int) y4_0 h2,E (List Int) y4_1 h3]) hrt f34
     refine jA (z:=true) (cB hk) ?_
     refine sq ?_
     refine sq ?_
     refine aC H [] (.fst 0 (.fst 1 (.fst 2 (.fst 4 (.fst 5 (.fst 6 (.fst 3 (.fst 7 (.fst 8 (.fst 9 .done)))))))))) vB [] trivial (by kernel_rfl) ?_
     clear H;intro w13 H
     have hX:Ext w13 w13:=Upd.refl _ _
     have H0:=H
     obtain ⟨a10,e,f35⟩:=aA f34;clear f34
     obtain ⟨p1,m1,c4,c5,c6,c7⟩:=(H.ro (α:=List Int) 0 rfl).at1 e;clear e
     refine dA c4 c5 c6 ?_;clear c4 c5 c6
     obtain ⟨a11,e,f36⟩:=aA f35;clear f35
     obtain ⟨p2,m2,c8,c9,c10,c11⟩:=(H.ro (α:=List Int) 1 rfl).at1 e;clear e
     refine dA c8 c9 c10 ?_;clear c8 c9 c10
     refine uA c7 ?_;clear c7
     refine uA c11 ?_;clear c11
     obtain ⟨a12,e,f37⟩:=aA f36;clear f36
     refine arO e ?_;clear e
     obtain ⟨a13,e,f38⟩:=aA f37;clear f37
     refine gA e ?_;clear e
     cases a13
     ·
      have f39:=fA f38;clear f38
      refine arK hk x1 ?_
      have hs:=Option.some.inj f39;subst hs;clear f39
      exact ⟨(),(),rfl,⟨rfl,rfl,rfl,rfl,trivial⟩,H.sel [0,1] rfl⟩
     ·
      have f40:=eA f38;clear f38
      have hs:=Option.some.inj f40;subst hs;clear f40
      have hr:=hrt _ rfl;subst hr
      have f41:some _=some _:=f33
      cases f41
      exact ⟨_,_,rfl,⟨rfl,rfl⟩,(H.sel [] rfl).close trivial⟩
    ·
     clear H e
     rintro T4 _ _ w14 hr (H:Cx w0 fp0 S0 w14 [E (List Int) y4_0 h2,E (List Int) y4_1 h3])
     subst hr
     refine jA (z:=false) dB ?_
     refine sq ?_
     cases f33
     exact ⟨_,_,rfl,⟨rfl,rfl⟩,(H.sel [] rfl).close trivial⟩
  ·
   have f42:=eA f1;clear f1
   cases f42
   exact ⟨_,_,rfl,⟨rfl,rfl⟩,(H.sel [] rfl).close trivial⟩
theorem aW (n_:Int) (y:List Int) (hF:vN n_=some y) :
  nA Tryz.prog 108 #[(.int .i64 n_)] [] [] (fun v Γ'=>∃ z0:Hd,v=(z0).v∧Γ'=[E (List Int) y z0]):=by
 intro w0 S0 fp0 hI hS
 have H:Cx w0 fp0 S0 w0 []:=Cx.start hI hS
 clear hI hS
 refine lA (args:=[_]) gok Tryz.func108 rfl _ rfl rfl rfl ?_
 obtain ⟨a1,e,hF2⟩:=aA hF;clear hF
 refine qD (α:=Int) gok rfl rfl rfl rfl (cE e) H ?_;clear e H;intro h4 w3 hx H
 clear hx
 refine sq ?_
 refine kA (H.ro (α:=List Int) 0 rfl).len ?_
 have x0:=(H.ro (α:=List Int) 0 rfl).max
 obtain ⟨r0,e,f0⟩:=aA hF2;clear hF2
 refine fB _ a1.length (fun (k6:Nat) (s0:List Int) (_:Unit)=>[(3,(h4).v),(8,(.int .i64 ((a1.length:Nat):Int))),(9,(.int .i64 ((k6:Nat):Int)))]) (fun _ (s0:List Int) (_:Unit) w'=>Cx w0 fp0 S0 w' [E (List Int) s0 h4]) a1 () e ⟨rfl,rfl,rfl,trivial⟩ (H.sel [0] rfl) ?_ ?_
 ·
  clear H e
  rintro T0 k6 s0 _ w1 o0 hk (H:Cx w0 fp0 S0 w1 [E (List Int) s0 h4]) f1
  refine jA (z:=true) (cB hk) ?_
  refine sq ?_
  refine sq ?_
  obtain ⟨a0,e,f2⟩:=aA f1;clear f1
  have i0:=e;clear e
  obtain ⟨p0,m0,c0,c1,c2⟩:=(H.ro (α:=List Int) 0 rfl).setp i0
  refine dA c0 c1 c2 ?_
  refine gC (α:=Int) H c0 c1 i0 ?_;clear H c0 c1 c2 i0;intro w2 H
  refine arK hk x0 ?_
  have hs:=Option.some.inj f2;subst hs;clear f2
  exact ⟨(),⟨rfl,rfl,rfl,trivial⟩,H.sel [0] rfl⟩
 ·
  clear H e
  rintro T1 _ w4 (H:Cx w0 fp0 S0 w4 [E (List Int) r0 h4])
  refine jA (z:=false) dB ?_
  refine sq ?_
  cases f0
  exact ⟨_,_,rfl,⟨h4,rfl,rfl⟩,(H.sel [0] rfl).close ⟨cloE,trivial⟩⟩
theorem oN (wires_:List Int) (wires_h:Hd) (order_:List Int) (order_h:Hd) (l_:List Int) (l_h:Hd) (y0:List Int) (y1:List Int) (hF:eG wires_ order_ l_=some (y0,y1)) :
  nA Tryz.prog 109 #[(wires_h).v,(order_h).v,(l_h).v] [Es (List Int) l_ l_h] [E (List Int) wires_ wires_h,E (List Int) order_ order_h] (fun v Γ'=>∃ z0:Hd,v=(z0).v∧Γ'=[E (List Int) y0 wires_h,E (List Int) y1 z0]):=by
 intro w0 S0 fp0 hI hS
 have H:Cx w0 fp0 S0 w0 [Es (List Int) l_ l_h,E (List Int) wires_ wires_h,E (List Int) order_ order_h]:=Cx.start hI hS
 clear hI hS
 refine lA (args:=[_,_,_]) gok Tryz.func109 rfl _ rfl rfl rfl ?_
 refine sq ?_
 refine kA (H.rs (α:=List Int) 0 rfl).len ?_
 have x0:=(H.rs (α:=List Int) 0 rfl).max
 obtain ⟨r0,e,f0⟩:=aA hF;clear hF
 refine fB _ l_.length (fun (k4:Nat) (s0:List Int×List Int) (g0:Hd)=>[(0,(wires_h).v),(1,(g0).v),(9,(l_h).v),(10,(.int .i64 ((l_.length:Nat):Int))),(11,(.int .i64 ((k4:Nat):Int)))]) (fun _ (s0:List Int×List Int) (g0:Hd) w'=>Cx w0 fp0 S0 w' [E (List Int) s0.1 wires_h,E (List Int) s0.2 g0,Es (List Int) l_ l_h]) (wires_,order_) order_h e ⟨rfl,rfl,rfl,rfl,rfl,trivial⟩ (H.sel [1,2,0] rfl) ?_ ?_
 ·
  clear H e
  rintro T0 k4 ⟨s0_0,s0_1⟩ g0 w1 o0 hk (H:Cx w0 fp0 S0 w1 [E (List Int) s0_0 wires_h,E (List Int) s0_1 g0,Es (List Int) l_ l_h]) f1
  refine jA (z:=true) (cB hk) ?_
  refine sq ?_
  refine sq ?_
  obtain ⟨a0,e,f2⟩:=aA f1;clear f1
  obtain ⟨p0,m0,c0,c1,c2,c3⟩:=(H.rs (α:=List Int) 2 rfl).at1 e;clear e
  refine dA c0 c1 c2 ?_;clear c0 c1 c2
  refine cA c3 ?_;clear c3
  obtain ⟨a1,e,f3⟩:=aA f2;clear f2
  obtain ⟨p1,m1,c4,c5,c6,c7⟩:=(H.ro (α:=List Int) 0 rfl).at1 e;clear e
  refine dA c4 c5 c6 ?_;clear c4 c5 c6
  refine cA c7 ?_;clear c7
  obtain ⟨a2,e,f4⟩:=aA f3;clear f3
  refine gA e ?_;clear e
  cases a2
  ·
   have f5:=fA f4;clear f4
   refine arK hk x0 ?_
   have hs:=Option.some.inj f5;subst hs;clear f5
   exact ⟨g0,⟨rfl,rfl,rfl,rfl,rfl,trivial⟩,H.sel [0,1,2] rfl⟩
  ·
   have f6:=eA f4;clear f4
   refine kA (H.ro (α:=List Int) 1 rfl).len ?_
   obtain ⟨a3,e,f7⟩:=aA f6;clear f6
   have i0:=e;clear e
   obtain ⟨p2,m2,c8,c9,c10⟩:=(H.ro (α:=List Int) 0 rfl).setp i0
   refine dA c8 c9 c10 ?_
   refine gC (α:=Int) H c8 c9 i0 ?_;clear H c8 c9 c10 i0;intro w2 H
   refine bB (α:=Int) gok rfl rfl rfl rfl H ?_;clear H;intro h0 w3 hx H
   clear hx
   obtain ⟨a4,e,f8⟩:=aA f7;clear f7
   replace H:=H.sel [2,0,1,3] rfl
   refine append_ (α:=Int) gok rfl rfl rfl rfl H e ?_;clear e H;intro h1 w4 H
   refine arK hk x0 ?_
   have hs:=Option.some.inj f8;subst hs;clear f8
   exact ⟨h1,⟨rfl,rfl,rfl,rfl,rfl,trivial⟩,H.sel [1,0,2] rfl⟩
 ·
  clear H e
  obtain ⟨s1_0,s1_1⟩:=r0
  rintro T1 g1 w5 (H:Cx w0 fp0 S0 w5 [E (List Int) s1_0 wires_h,E (List Int) s1_1 g1,Es (List Int) l_ l_h])
  refine jA (z:=false) dB ?_
  refine sq ?_
  cases f0
  exact ⟨_,_,rfl,⟨g1,rfl,rfl⟩,(H.sel [0,1] rfl).close ⟨cloE,cloE,trivial⟩⟩
theorem BL_ (g__0:Int) (g__1:List (Int×Int×List Int×List Int)) (g__1h:Hd) (g__2:List Int) (g__2h:Hd) (g__3:List Int) (g__3h:Hd) (y:List Int) (hF:mR (g__0,g__1,g__2,g__3)=some y) :
  nA Tryz.prog 131 #[(.agg #[(.int .i64 g__0),(g__1h).v,(g__2h).v,(g__3h).v])] [Es (List (Int×Int×List Int×List Int)) g__1 g__1h,Es (List Int) g__2 g__2h,Es (List Int) g__3 g__3h] [] (fun v Γ'=>∃ z0:Hd,v=(z0).v∧Γ'=[E (List Int) y z0]):=by
 intro w0 S0 fp0 hI hS
 have H:Cx w0 fp0 S0 w0 [Es (List (Int×Int×List Int×List Int)) g__1 g__1h,Es (List Int) g__2 g__2h,Es (List Int) g__3 g__3h]:=Cx.start hI hS
 clear hI hS
 refine lA (args:=[_]) gok Tryz.func131 rfl _ rfl rfl rfl ?_
 refine jB H ?_;clear H;intro b5 w4 hx H
 clear hx
 refine fld gok rfl rfl rfl rfl ?_
 refine cA (H.bx 0 rfl (j:=0) rfl) ?_
 obtain ⟨a7,e,hF8⟩:=aA hF;clear hF
 refine qD (α:=Int) gok rfl rfl rfl rfl (cE e) H ?_;clear e H;intro h0 w9 hx H
 clear hx
 refine sq ?_
 refine kA (H.ro (α:=List Int) 0 rfl).len ?_
 have x0:=(H.ro (α:=List Int) 0 rfl).max
 obtain ⟨r0,e,f0⟩:=aA hF8;clear hF8
 refine fB _ a7.length (fun (k0:Nat) (s0:List Int) (_:Unit)=>[(1,(.pointer (some ⟨b5,0,none⟩))),(3,(h0).v),(13,(.int .i64 ((a7.length:Nat):Int))),(14,(.int .i64 ((k0:Nat):Int)))]) (fun _ (s0:List Int) (_:Unit) w'=>Cx w0 fp0 S0 w' [Bx b5 [(.int .i64 g__0),(g__1h).v,(g__2h).v,(g__3h).v],Es (List (Int×Int×List Int×List Int)) g__1 g__1h,Es (List Int) g__2 g__2h,Es (List Int) g__3 g__3h,E (List Int) s0 h0]) a7 () e ⟨rfl,rfl,rfl,rfl,trivial⟩ (H.sel [1,2,3,4,0] rfl) ?_ ?_
 ·
  clear H e
  rintro T0 k0 s0 _ w1 o0 hk (H:Cx w0 fp0 S0 w1 [Bx b5 [(.int .i64 g__0),(g__1h).v,(g__2h).v,(g__3h).v],Es (List (Int×Int×List Int×List Int)) g__1 g__1h,Es (List Int) g__2 g__2h,Es (List Int) g__3 g__3h,E (List Int) s0 h0]) f1
  refine jA (z:=true) (cB hk) ?_
  refine sq ?_
  refine sq ?_
  obtain ⟨a0,e,f2⟩:=aA f1;clear f1
  have i0:=e;clear e
  obtain ⟨p0,m0,c0,c1,c2⟩:=(H.ro (α:=List Int) 4 rfl).setp i0
  refine dA c0 c1 c2 ?_
  replace H:=H.sel [4,0,1,2,3] rfl
  refine gC (α:=Int) H c0 c1 i0 ?_;clear H c0 c1 c2 i0;intro w2 H
  refine arK hk x0 ?_
  have hs:=Option.some.inj f2;subst hs;clear f2
  exact ⟨(),⟨rfl,rfl,rfl,rfl,trivial⟩,H.sel [1,2,3,4,0] rfl⟩
 ·
  clear H e
  rintro T1 _ w3 (H:Cx w0 fp0 S0 w3 [Bx b5 [(.int .i64 g__0),(g__1h).v,(g__2h).v,(g__3h).v],Es (List (Int×Int×List Int×List Int)) g__1 g__1h,Es (List Int) g__2 g__2h,Es (List Int) g__3 g__3h,E (List Int) r0 h0])
  refine jA (z:=false) dB ?_
  refine sq ?_
  refine sq ?_
  refine fld gok rfl rfl rfl rfl ?_
  refine cA (H.bx 0 rfl (j:=1) rfl) ?_
  refine kA (H.rs (α:=List (Int×Int×List Int×List Int)) 1 rfl).len ?_
  have x1:=(H.rs (α:=List (Int×Int×List Int×List Int)) 1 rfl).max
  obtain ⟨r1,e,f3⟩:=aA f0;clear f0
  refine fB _ g__1.length (fun (k1:Nat) (s1:List Int) (_:Unit)=>[(3,(h0).v),(22,(g__1h).v),(23,(.int .i64 ((g__1.length:Nat):Int))),(24,(.int .i64 ((k1:Nat):Int)))]) (fun _ (s1:List Int) (_:Unit) w'=>Cx w0 fp0 S0 w' [E (List Int) s1 h0,Es (List (Int×Int×List Int×List Int)) g__1 g__1h]) r0 () e ⟨rfl,rfl,rfl,rfl,trivial⟩ (H.sel [4,1] rfl) ?_ ?_
  ·
   clear H e
   rintro T2 k1 s1 _ w5 o1 hk (H:Cx w0 fp0 S0 w5 [E (List Int) s1 h0,Es (List (Int×Int×List Int×List Int)) g__1 g__1h]) f4
   refine jA (z:=true) (cB hk) ?_
   refine sq ?_
   refine sq ?_
   obtain ⟨a1,e,f5⟩:=aA f4;clear f4
   have HH:=H;clear H;obtain ⟨p1,m1,g0,c3,c4,c5,c6,H⟩:=HH.el (α:=Int×Int×List Int×List Int) 1 rfl e;clear HH
   clear e
   obtain ⟨a1_0,a1_1,a1_2,a1_3⟩:=a1
   obtain ⟨_,_,h1,h2⟩:=g0
   replace H:=H.part (β:=List Int) a1_2 (h1:Hd) 0 rfl (fun S h=>(And.left (And.right (And.right h))))
   replace H:=H.part (β:=List Int) a1_3 (h2:Hd) 1 rfl (fun S h=>(And.right (And.right (And.right h))))
   replace H:=H.sel [0,1,3,4] rfl
   refine dA c3 c4 c5 ?_;clear c3 c4 c5
   refine vA [(.int .i64 a1_0),(.int .i64 a1_1),(h1).v,(h2).v] rfl c6 ?_;clear c6
   refine sB gok rfl H ?_;clear H;intro b0 w6 hx H
   clear hx
   refine stA gok [(.int .i64 a1_0),(.int .i64 a1_1),(h1).v,(h2).v] rfl H rfl rfl rfl ?_;clear H;intro w7 H
   refine fld gok rfl rfl rfl rfl ?_
   refine cA (H.bx 0 rfl (j:=3) rfl) ?_
   refine kA (H.rs (α:=List Int) 1 rfl).len ?_
   have x2:=(H.rs (α:=List Int) 1 rfl).max
   obtain ⟨r2,e,f6⟩:=aA f5;clear f5
   refine fB _ a1_3.length (fun (k2:Nat) (s2:List Int) (_:Unit)=>[(3,(h0).v),(5,(.int .i64 ((k1:Nat):Int))),(22,(g__1h).v),(23,(.int .i64 ((g__1.length:Nat):Int))),(24,(.int .i64 ((k1:Nat):Int))),(30,(h2).v),(31,(.int .i64 ((a1_3.length:Nat):Int))),(32,(.int .i64 ((k2:Nat):Int)))]) (fun _ (s2:List Int) (_:Unit) w'=>Cx w0 fp0 S0 w' [E (List Int) s2 h0,Es (List (Int×Int×List Int×List Int)) g__1 g__1h,Es (List Int) a1_3 h2]) s1 () e ⟨rfl,rfl,rfl,rfl,rfl,rfl,rfl,rfl,trivial⟩ (H.sel [3,4,1] rfl) ?_ ?_
   ·
    clear H e
    rintro T3 k2 s2 _ w8 o2 hk (H:Cx w0 fp0 S0 w8 [E (List Int) s2 h0,Es (List (Int×Int×List Int×List Int)) g__1 g__1h,Es (List Int) a1_3 h2]) f7
    refine jA (z:=true) (cB hk) ?_
    refine sq ?_
    refine sq ?_
    obtain ⟨a2,e,f8⟩:=aA f7;clear f7
    obtain ⟨p2,m2,c7,c8,c9,c10⟩:=(H.rs (α:=List Int) 2 rfl).at1 e;clear e
    refine dA c7 c8 c9 ?_;clear c7 c8 c9
    refine cA c10 ?_;clear c10
    obtain ⟨a3,e,f9⟩:=aA f8;clear f8
    have i1:=e;clear e
    obtain ⟨p3,m3,c11,c12,c13⟩:=(H.ro (α:=List Int) 0 rfl).setp i1
    refine dA c11 c12 c13 ?_
    refine gC (α:=Int) H c11 c12 i1 ?_;clear H c11 c12 c13 i1;intro w10 H
    refine arK hk x2 ?_
    have hs:=Option.some.inj f9;subst hs;clear f9
    exact ⟨(),⟨rfl,rfl,rfl,rfl,rfl,rfl,rfl,rfl,trivial⟩,H.sel [0,1,2] rfl⟩
   ·
    clear H e
    rintro T4 _ w11 (H:Cx w0 fp0 S0 w11 [E (List Int) r2 h0,Es (List (Int×Int×List Int×List Int)) g__1 g__1h,Es (List Int) a1_3 h2])
    refine jA (z:=false) dB ?_
    refine sq ?_
    refine arK hk x1 ?_
    have hs:=Option.some.inj f6;subst hs;clear f6
    exact ⟨(),⟨rfl,rfl,rfl,rfl,trivial⟩,H.sel [0,1] rfl⟩
  ·
   clear H e
   rintro T5 _ w12 (H:Cx w0 fp0 S0 w12 [E (List Int) r1 h0,Es (List (Int×Int×List Int×List Int)) g__1 g__1h])
   refine jA (z:=false) dB ?_
   refine sq ?_
   cases f3
   exact ⟨_,_,rfl,⟨h0,rfl,rfl⟩,(H.sel [0] rfl).close ⟨cloE,trivial⟩⟩
theorem Ck_ (g__0:Int) (g__1:List (Int×Int×List Int×List Int)) (g__1h:Hd) (g__2:List Int) (g__2h:Hd) (g__3:List Int) (g__3h:Hd) (y:List Int) (hF:eS (g__0,g__1,g__2,g__3)=some y) :
  nA Tryz.prog 132 #[(.agg #[(.int .i64 g__0),(g__1h).v,(g__2h).v,(g__3h).v])] [Es (List (Int×Int×List Int×List Int)) g__1 g__1h,Es (List Int) g__2 g__2h,Es (List Int) g__3 g__3h] [] (fun v Γ'=>∃ z0:Hd,v=(z0).v∧Γ'=[E (List Int) y z0]):=by
 intro w0 S0 fp0 hI hS
 have H:Cx w0 fp0 S0 w0 [Es (List (Int×Int×List Int×List Int)) g__1 g__1h,Es (List Int) g__2 g__2h,Es (List Int) g__3 g__3h]:=Cx.start hI hS
 clear hI hS
 refine lA (args:=[_]) gok Tryz.func132 rfl _ rfl rfl rfl ?_
 refine jB H ?_;clear H;intro b5 w4 hx H
 clear hx
 refine fld gok rfl rfl rfl rfl ?_
 refine cA (H.bx 0 rfl (j:=0) rfl) ?_
 obtain ⟨a7,e,hF8⟩:=aA hF;clear hF
 refine qD (α:=Int) gok rfl rfl rfl rfl (cE e) H ?_;clear e H;intro h0 w9 hx H
 clear hx
 refine sq ?_
 refine kA (H.ro (α:=List Int) 0 rfl).len ?_
 have x0:=(H.ro (α:=List Int) 0 rfl).max
 obtain ⟨r0,e,f0⟩:=aA hF8;clear hF8
 refine fB _ a7.length (fun (k0:Nat) (s0:List Int) (_:Unit)=>[(1,(.pointer (some ⟨b5,0,none⟩))),(3,(h0).v),(13,(.int .i64 ((a7.length:Nat):Int))),(14,(.int .i64 ((k0:Nat):Int)))]) (fun _ (s0:List Int) (_:Unit) w'=>Cx w0 fp0 S0 w' [Bx b5 [(.int .i64 g__0),(g__1h).v,(g__2h).v,(g__3h).v],Es (List (Int×Int×List Int×List Int)) g__1 g__1h,Es (List Int) g__2 g__2h,Es (List Int) g__3 g__3h,E (List Int) s0 h0]) a7 () e ⟨rfl,rfl,rfl,rfl,trivial⟩ (H.sel [1,2,3,4,0] rfl) ?_ ?_
 ·
  clear H e
  rintro T0 k0 s0 _ w1 o0 hk (H:Cx w0 fp0 S0 w1 [Bx b5 [(.int .i64 g__0),(g__1h).v,(g__2h).v,(g__3h).v],Es (List (Int×Int×List Int×List Int)) g__1 g__1h,Es (List Int) g__2 g__2h,Es (List Int) g__3 g__3h,E (List Int) s0 h0]) f1
  refine jA (z:=true) (cB hk) ?_
  refine sq ?_
  refine sq ?_
  obtain ⟨a0,e,f2⟩:=aA f1;clear f1
  have i0:=e;clear e
  obtain ⟨p0,m0,c0,c1,c2⟩:=(H.ro (α:=List Int) 4 rfl).setp i0
  refine dA c0 c1 c2 ?_
  replace H:=H.sel [4,0,1,2,3] rfl
  refine gC (α:=Int) H c0 c1 i0 ?_;clear H c0 c1 c2 i0;intro w2 H
  refine arK hk x0 ?_
  have hs:=Option.some.inj f2;subst hs;clear f2
  exact ⟨(),⟨rfl,rfl,rfl,rfl,trivial⟩,H.sel [1,2,3,4,0] rfl⟩
 ·
  clear H e
  rintro T1 _ w3 (H:Cx w0 fp0 S0 w3 [Bx b5 [(.int .i64 g__0),(g__1h).v,(g__2h).v,(g__3h).v],Es (List (Int×Int×List Int×List Int)) g__1 g__1h,Es (List Int) g__2 g__2h,Es (List Int) g__3 g__3h,E (List Int) r0 h0])
  refine jA (z:=false) dB ?_
  refine sq ?_
  refine sq ?_
  refine fld gok rfl rfl rfl rfl ?_
  refine cA (H.bx 0 rfl (j:=1) rfl) ?_
  refine kA (H.rs (α:=List (Int×Int×List Int×List Int)) 1 rfl).len ?_
  have x1:=(H.rs (α:=List (Int×Int×List Int×List Int)) 1 rfl).max
  obtain ⟨r1,e,f3⟩:=aA f0;clear f0
  refine fB _ g__1.length (fun (k1:Nat) (s1:List Int) (_:Unit)=>[(3,(h0).v),(22,(g__1h).v),(23,(.int .i64 ((g__1.length:Nat):Int))),(24,(.int .i64 ((k1:Nat):Int)))]) (fun _ (s1:List Int) (_:Unit) w'=>Cx w0 fp0 S0 w' [E (List Int) s1 h0,Es (List (Int×Int×List Int×List Int)) g__1 g__1h]) r0 () e ⟨rfl,rfl,rfl,rfl,trivial⟩ (H.sel [4,1] rfl) ?_ ?_
  ·
   clear H e
   rintro T2 k1 s1 _ w5 o1 hk (H:Cx w0 fp0 S0 w5 [E (List Int) s1 h0,Es (List (Int×Int×List Int×List Int)) g__1 g__1h]) f4
   refine jA (z:=true) (cB hk) ?_
   refine sq ?_
   refine sq ?_
   obtain ⟨a1,e,f5⟩:=aA f4;clear f4
   have HH:=H;clear H;obtain ⟨p1,m1,g0,c3,c4,c5,c6,H⟩:=HH.el (α:=Int×Int×List Int×List Int) 1 rfl e;clear HH
   clear e
   obtain ⟨a1_0,a1_1,a1_2,a1_3⟩:=a1
   obtain ⟨_,_,h1,h2⟩:=g0
   replace H:=H.part (β:=List Int) a1_2 (h1:Hd) 0 rfl (fun S h=>(And.left (And.right (And.right h))))
   replace H:=H.part (β:=List Int) a1_3 (h2:Hd) 1 rfl (fun S h=>(And.right (And.right (And.right h))))
   replace H:=H.sel [0,1,3,4] rfl
   refine dA c3 c4 c5 ?_;clear c3 c4 c5
   refine vA [(.int .i64 a1_0),(.int .i64 a1_1),(h1).v,(h2).v] rfl c6 ?_;clear c6
   refine sB gok rfl H ?_;clear H;intro b0 w6 hx H
   clear hx
   refine stA gok [(.int .i64 a1_0),(.int .i64 a1_1),(h1).v,(h2).v] rfl H rfl rfl rfl ?_;clear H;intro w7 H
   refine fld gok rfl rfl rfl rfl ?_
   refine cA (H.bx 0 rfl (j:=2) rfl) ?_
   refine kA (H.rs (α:=List Int) 2 rfl).len ?_
   have x2:=(H.rs (α:=List Int) 2 rfl).max
   obtain ⟨r2,e,f6⟩:=aA f5;clear f5
   refine fB _ a1_2.length (fun (k2:Nat) (s2:List Int) (_:Unit)=>[(3,(h0).v),(5,(.int .i64 ((k1:Nat):Int))),(22,(g__1h).v),(23,(.int .i64 ((g__1.length:Nat):Int))),(24,(.int .i64 ((k1:Nat):Int))),(30,(h1).v),(31,(.int .i64 ((a1_2.length:Nat):Int))),(32,(.int .i64 ((k2:Nat):Int)))]) (fun _ (s2:List Int) (_:Unit) w'=>Cx w0 fp0 S0 w' [E (List Int) s2 h0,Es (List (Int×Int×List Int×List Int)) g__1 g__1h,Es (List Int) a1_2 h1]) s1 () e ⟨rfl,rfl,rfl,rfl,rfl,rfl,rfl,rfl,trivial⟩ (H.sel [3,4,2] rfl) ?_ ?_
   ·
    clear H e
    rintro T3 k2 s2 _ w8 o2 hk (H:Cx w0 fp0 S0 w8 [E (List Int) s2 h0,Es (List (Int×Int×List Int×List Int)) g__1 g__1h,Es (List Int) a1_2 h1]) f7
    refine jA (z:=true) (cB hk) ?_
    refine sq ?_
    refine sq ?_
    obtain ⟨a2,e,f8⟩:=aA f7;clear f7
    obtain ⟨p2,m2,c7,c8,c9,c10⟩:=(H.rs (α:=List Int) 2 rfl).at1 e;clear e
    refine dA c7 c8 c9 ?_;clear c7 c8 c9
    refine cA c10 ?_;clear c10
    obtain ⟨a3,e,f9⟩:=aA f8;clear f8
    have i1:=e;clear e
    obtain ⟨p3,m3,c11,c12,c13⟩:=(H.ro (α:=List Int) 0 rfl).setp i1
    refine dA c11 c12 c13 ?_
    refine gC (α:=Int) H c11 c12 i1 ?_;clear H c11 c12 c13 i1;intro w10 H
    refine arK hk x2 ?_
    have hs:=Option.some.inj f9;subst hs;clear f9
    exact ⟨(),⟨rfl,rfl,rfl,rfl,rfl,rfl,rfl,rfl,trivial⟩,H.sel [0,1,2] rfl⟩
   ·
    clear H e
    rintro T4 _ w11 (H:Cx w0 fp0 S0 w11 [E (List Int) r2 h0,Es (List (Int×Int×List Int×List Int)) g__1 g__1h,Es (List Int) a1_2 h1])
    refine jA (z:=false) dB ?_
    refine sq ?_
    refine arK hk x1 ?_
    have hs:=Option.some.inj f6;subst hs;clear f6
    exact ⟨(),⟨rfl,rfl,rfl,rfl,trivial⟩,H.sel [0,1] rfl⟩
  ·
   clear H e
   rintro T5 _ w12 (H:Cx w0 fp0 S0 w12 [E (List Int) r1 h0,Es (List (Int×Int×List Int×List Int)) g__1 g__1h])
   refine jA (z:=false) dB ?_
   refine sq ?_
   cases f3
   exact ⟨_,_,rfl,⟨h0,rfl,rfl⟩,(H.sel [0] rfl).close ⟨cloE,trivial⟩⟩
theorem Co_ (g__0:Int) (g__1:List (Int×Int×List Int×List Int)) (g__1h:Hd) (g__2:List Int) (g__2h:Hd) (g__3:List Int) (g__3h:Hd) (wires_:List Int) (wires_h:Hd) (edges_:List Int) (edges_h:Hd) (order_:List Int) (order_h:Hd) (count_:Int) (y0:List Int) (y1:List Int) (y2:Int) (y3:List Int) (hF:gS (g__0,g__1,g__2,g__3) wires_ edges_ order_ count_=some (y0,y1,y2,y3)) :
  nA Tryz.prog 110 #[(.agg #[(.int .i64 g__0),(g__1h).v,(g__2h).v,(g__3h).v]),(wires_h).v,(edges_h).v,(order_h).v,(.int .i64 count_)] [Es (List (Int×Int×List Int×List Int)) g__1 g__1h,Es (List Int) g__2 g__2h,Es (List Int) g__3 g__3h] [E (List Int) wires_ wires_h,E (List Int) edges_ edges_h,E (List Int) order_ order_h] (fun v Γ'=>∃ z0:Hd,v=(.tuple #[(.int .i64 y2),(z0).v])∧Γ'=[E (List Int) y0 wires_h,E (List Int) y1 edges_h,E (List Int) y3 z0]):=by
 intro w0 S0 fp0 hI hS
 have H:Cx w0 fp0 S0 w0 [Es (List (Int×Int×List Int×List Int)) g__1 g__1h,Es (List Int) g__2 g__2h,Es (List Int) g__3 g__3h,E (List Int) wires_ wires_h,E (List Int) edges_ edges_h,E (List Int) order_ order_h]:=Cx.start hI hS
 clear hI hS
 refine lA (args:=[_,_,_,_,_]) gok Tryz.func110 rfl _ rfl rfl rfl ?_
 refine jB H ?_;clear H;intro b8 w7 hx H
 clear hx
 refine aC H [] (.fst 0 (.fst 2 (.act 1 (.act 3 (.fst 4 (.fst 5 .done)))))) vB [] trivial (by kernel_rfl) ?_
 clear H;intro w1 H
 have hX:Ext w1 w1:=Upd.refl _ _
 have H0:=H
 refine eF [(.int .i64 g__0),(g__1h).v,(g__2h).v,(g__3h).v] rfl (fun j u hj=>H.bx 0 rfl hj) ?_
 refine eF [(.int .i64 g__0),(g__1h).v,(g__2h).v,(g__3h).v] rfl (fun j u hj=>H.bx 0 rfl hj) ?_
 obtain ⟨y4,e,f0⟩:=aA hF;clear hF
 have i0:=e;clear e
 refine eB (BL_ g__0 g__1 g__1h g__2 g__2h g__3 g__3h y4 i0) H ⟨Vw.sh 1 rfl,Vw.sh 2 rfl,Vw.sh 3 rfl,trivial⟩ ?_;clear H i0
 rintro _ _ w2 ⟨h0,rfl,rfl⟩ hx H
 replace hX:=hX.trans0 hx;clear hx
 refine hold hX ?_
 obtain ⟨y5,e,f1⟩:=aA f0;clear f0
 have i1:=e;clear e
 refine eB (Ck_ g__0 g__1 g__1h g__2 g__2h g__3 g__3h y5 i1) H ⟨Vw.sh 2 rfl,Vw.sh 3 rfl,Vw.sh 4 rfl,trivial⟩ ?_;clear H i1
 rintro _ _ w3 ⟨h1,rfl,rfl⟩ hx H
 replace hX:=hX.trans0 hx;clear hx
 refine hold hX ?_
 obtain ⟨r0,f2,f3⟩:=aA f1;clear f1
 refine cut (fun (q0:(List Int×List Int×List Int×Int)×Hd)=>[(3,(q0.2).v),(4,(.int .i64 q0.1.2.2.2))]) (fun (q0:(List Int×List Int×List Int×Int)×Hd) w'=>(q0.1.1,q0.1.2.1,q0.1.2.2.1,q0.1.2.2.2)=r0∧Cx w0 fp0 S0 w' [E (List Int) q0.1.2.2.1 q0.2,E (List Int) q0.1.1 wires_h,E (List Int) q0.1.2.1 edges_h]) ?_ ?_
 ·
  refine xC _ (fun (s0:List Int×List Int×Int×List Int×Int) (g0:Hd)=>[(1,(wires_h).v),(2,(edges_h).v),(3,(g0).v),(4,(.int .i64 s0.2.2.2.2)),(5,(.pointer (some ⟨b8,0,none⟩))),(12,(h0).v),(13,(h1).v),(14,(.int .i64 s0.2.2.1))]) (fun (s0:List Int×List Int×Int×List Int×Int) (g0:Hd) w'=>Cx w0 fp0 S0 w' [E (List Int) s0.1 wires_h,E (List Int) s0.2.1 edges_h,E (List Int) s0.2.2.2.1 g0,Bx b8 [(.int .i64 g__0),(g__1h).v,(g__2h).v,(g__3h).v],Es (List (Int×Int×List Int×List Int)) g__1 g__1h,Es (List Int) g__2 g__2h,Es (List Int) g__3 g__3h,E (List Int) y4 h0,E (List Int) y5 h1]) (wires_,edges_,0,order_,count_) order_h f2 ⟨rfl,rfl,rfl,rfl,rfl,rfl,rfl,rfl,trivial⟩ (H.sel [6,7,8,2,3,4,5,1,0] rfl) ?_
  ·
   clear H
   rintro T0 ⟨s0_0,s0_1,s0_2,s0_3,s0_4⟩ g0 w4 o0 (H:Cx w0 fp0 S0 w4 [E (List Int) s0_0 wires_h,E (List Int) s0_1 edges_h,E (List Int) s0_3 g0,Bx b8 [(.int .i64 g__0),(g__1h).v,(g__2h).v,(g__3h).v],Es (List (Int×Int×List Int×List Int)) g__1 g__1h,Es (List Int) g__2 g__2h,Es (List Int) g__3 g__3h,E (List Int) y4 h0,E (List Int) y5 h1]) hrt f4
   refine sq ?_
   refine kA (H.ro (α:=List Int) 2 rfl).len ?_
   obtain ⟨a0,e,f5⟩:=aA f4;clear f4
   refine gA e ?_;clear e
   cases a0
   ·
    have f6:=fA f5;clear f5
    have hs:=Option.some.inj f6;subst hs;clear f6
    have f7:some _=some _:=congrArg some (hrt _ rfl).symm
    exact ⟨((s0_0,s0_1,s0_3,s0_4),g0),⟨rfl,rfl,trivial⟩,Option.some.inj f7,H.sel [2,0,1] rfl⟩
   ·
    have f8:=eA f5;clear f5
    refine sq ?_
    refine aC H [] (.fst 0 (.fst 1 (.fst 2 (.fst 3 (.fst 7 (.fst 8 (.fst 9 (.fst 10 (.fst 16 (.fst 4 (.fst 5 (.fst 6 (.fst 11 (.fst 12 (.fst 13 (.act 14 (.fst 15 .done))))))))))))))))) vB [] trivial (by kernel_rfl) ?_
    clear H;intro w5 H
    have hX:Ext w5 w5:=Upd.refl _ _
    have H0:=H
    obtain ⟨a1,e,f9⟩:=aA f8;clear f8
    obtain ⟨p0,m0,c0,c1,c2,c3⟩:=(H.ro (α:=List Int) 2 rfl).at1 e;clear e
    refine dA c0 c1 c2 ?_;clear c0 c1 c2
    obtain ⟨a2,e,f10⟩:=aA f9;clear f9
    obtain ⟨p1,m1,c4,c5,c6,c7⟩:=(H.ro (α:=List Int) 2 rfl).at1 e;clear e
    refine dA c4 c5 c6 ?_;clear c4 c5 c6
    refine uA c3 ?_;clear c3
    obtain ⟨a3,e,f11⟩:=aA f10;clear f10
    obtain ⟨p2,m2,c8,c9,c10,c11⟩:=(H.ro (α:=List Int) 8 rfl).at1 e;clear e
    refine dA c8 c9 c10 ?_;clear c8 c9 c10
    refine uA c11 ?_;clear c11
    refine uA c7 ?_;clear c7
    obtain ⟨a4,e,f12⟩:=aA f11;clear f11
    obtain ⟨p3,m3,c12,c13,c14,c15⟩:=(H.ro (α:=List Int) 7 rfl).at1 e;clear e
    refine dA c12 c13 c14 ?_;clear c12 c13 c14
    refine uA c15 ?_;clear c15
    replace H:=H.sc (α:=Int) a4
    replace H:=H.sc (α:=Int) a3
    refine rC (α:=Int) (us:=[(.int .i64 a3),(.int .i64 a4)]) (xs:=[a3,a4]) (gs:=[(),()]) gok rfl rfl rfl ⟨rfl,rfl,trivial⟩ rfl rfl H ?_;clear H;intro h2 w6 hx H
    replace hX:=hX.trans0 hx;clear hx
    refine hold hX ?_
    refine kA (H.ro (α:=List Int) 0 rfl).len ?_
    have x0:=(H.ro (α:=List Int) 0 rfl).max
    obtain ⟨r1,e,f13⟩:=aA f12;clear f12
    refine fB _ ([a3,a4].length) (fun (k0:Nat) (s1:List Int×List Int×List Int×Int) (g1:Hd)=>[(1,(wires_h).v),(2,(edges_h).v),(3,(g1).v),(4,(.int .i64 s1.2.2.2)),(5,(.pointer (some ⟨b8,0,none⟩))),(12,(h0).v),(13,(h1).v),(14,(.int .i64 s0_2)),(41,(h2).v),(42,(.int .i64 (([a3,a4].length:Nat):Int))),(43,(.int .i64 ((k0:Nat):Int)))]) (fun _ (s1:List Int×List Int×List Int×Int) (g1:Hd) w'=>Cx w0 fp0 S0 w' [E (List Int) s1.1 wires_h,E (List Int) s1.2.1 edges_h,E (List Int) s1.2.2.1 g1,Bx b8 [(.int .i64 g__0),(g__1h).v,(g__2h).v,(g__3h).v],Es (List (Int×Int×List Int×List Int)) g__1 g__1h,Es (List Int) g__2 g__2h,Es (List Int) g__3 g__3h,E (List Int) y4 h0,E (List Int) y5 h1,E (List Int) [a3,a4] h2]) (s0_0,s0_1,s0_3,s0_4) g0 e ⟨rfl,rfl,rfl,rfl,rfl,rfl,rfl,rfl,rfl,rfl,rfl,trivial⟩ (H.sel [1,2,3,4,5,6,7,8,9,0] rfl) ?_ ?_
    ·
     clear H e
     rintro T1 k0 ⟨s1_0,s1_1,s1_2,s1_3⟩ g1 w8 o1 hk (H:Cx w0 fp0 S0 w8 [E (List Int) s1_0 wires_h,E (List Int) s1_1 edges_h,E (List Int) s1_2 g1,Bx b8 [(.int .i64 g__0),(g__1h).v,(g__2h).v,(g__3h).v],Es (List (Int×Int×List Int×List Int)) g__1 g__1h,Es (List Int) g__2 g__2h,Es (List Int) g__3 g__3h,E (List Int) y4 h0,E (List Int) y5 h1,E (List Int) [a3,a4] h2]) f14
     refine jA (z:=true) (cB hk) ?_
     refine sq ?_
     obtain ⟨r2,f15,f16⟩:=aA f14;clear f14
     refine cut (fun (q1:(List Int×List Int×List Int×Int)×Hd)=>[(1,(wires_h).v),(2,(edges_h).v),(3,(q1.2).v),(4,(.int .i64 q1.1.2.2.2)),(5,(.pointer (some ⟨b8,0,none⟩))),(12,(h0).v),(13,(h1).v),(14,(.int .i64 s0_2)),(41,(h2).v),(42,(.int .i64 (([a3,a4].length:Nat):Int))),(43,(.int .i64 ((k0:Nat):Int)))]) (fun (q1:(List Int×List Int×List Int×Int)×Hd) w'=>(q1.1.1,q1.1.2.1,q1.1.2.2.1,q1.1.2.2.2)=r2∧Cx w0 fp0 S0 w' [E (List Int) q1.1.1 wires_h,E (List Int) q1.1.2.1 edges_h,E (List Int) q1.1.2.2.1 q1.2,Bx b8 [(.int .i64 g__0),(g__1h).v,(g__2h).v,(g__3h).v],Es (List (Int×Int×List Int×List Int)) g__1 g__1h,Es (List Int) g__2 g__2h,Es (List Int) g__3 g__3h,E (List Int) y4 h0,E (List Int) y5 h1,E (List Int) [a3,a4] h2]) ?_ ?_
     ·
      obtain ⟨a5,e,f17⟩:=aA f15;clear f15
      obtain ⟨p4,m4,c16,c17,c18,c19⟩:=(H.ro (α:=List Int) 9 rfl).at1 e;clear e
      refine dA c16 c17 c18 ?_;clear c16 c17 c18
      refine cA c19 ?_;clear c19
      refine sq ?_
      obtain ⟨r3,f18,f19⟩:=aA f17;clear f17
      refine cut (fun (q2:Bool)=>[(1,(wires_h).v),(2,(edges_h).v),(3,(g1).v),(4,(.int .i64 s1_3)),(5,(.pointer (some ⟨b8,0,none⟩))),(12,(h0).v),(13,(h1).v),(14,(.int .i64 s0_2)),(16,(.int .i64 a5)),(41,(h2).v),(42,(.int .i64 (([a3,a4].length:Nat):Int))),(43,(.int .i64 ((k0:Nat):Int))),(55,(.bool q2))]) (fun (q2:Bool) w'=>q2=r3∧Cx w0 fp0 S0 w' [E (List Int) s1_0 wires_h,E (List Int) s1_1 edges_h,E (List Int) s1_2 g1,Bx b8 [(.int .i64 g__0),(g__1h).v,(g__2h).v,(g__3h).v],Es (List (Int×Int×List Int×List Int)) g__1 g__1h,Es (List Int) g__2 g__2h,Es (List Int) g__3 g__3h,E (List Int) y4 h0,E (List Int) y5 h1,E (List Int) [a3,a4] h2]) ?_ ?_
      ·
       obtain ⟨a6,e,f20⟩:=aA f18;clear f18
       refine gA e ?_;clear e
       cases a6
       ·
        have f21:=fA f20;clear f20
        obtain ⟨a7,e,f22⟩:=aA f21;clear f21
        obtain ⟨p5,m5,c20,c21,c22,c23⟩:=(H.ro (α:=List Int) 1 rfl).at1 e;clear e
        refine dA c20 c21 c22 ?_;clear c20 c21 c22
        refine cA c23 ?_;clear c23
        obtain ⟨a8,e,f23⟩:=aA f22;clear f22
        refine gA e ?_;clear e
        exact ⟨a8,⟨rfl,rfl,rfl,rfl,rfl,rfl,rfl,rfl,rfl,rfl,rfl,rfl,rfl,trivial⟩,Option.some.inj f23,H.sel [0,1,2,3,4,5,6,7,8,9] rfl⟩
       ·
        have f24:=eA f20;clear f20
        exact ⟨true,⟨rfl,rfl,rfl,rfl,rfl,rfl,rfl,rfl,rfl,rfl,rfl,rfl,rfl,trivial⟩,Option.some.inj f24,H.sel [0,1,2,3,4,5,6,7,8,9] rfl⟩
      ·
       clear f18 H
       rintro T2 s2 w9 ⟨hr,(H:Cx w0 fp0 S0 w9 [E (List Int) s1_0 wires_h,E (List Int) s1_1 edges_h,E (List Int) s1_2 g1,Bx b8 [(.int .i64 g__0),(g__1h).v,(g__2h).v,(g__3h).v],Es (List (Int×Int×List Int×List Int)) g__1 g__1h,Es (List Int) g__2 g__2h,Es (List Int) g__3 g__3h,E (List Int) y4 h0,E (List Int) y5 h1,E (List Int) [a3,a4] h2])⟩
       subst hr
       cases s2
       ·
        have f25:=fA f19;clear f19
        obtain ⟨a9,e,f26⟩:=aA f25;clear f25
        have i2:=e;clear e
        obtain ⟨p6,m6,c24,c25,c26⟩:=(H.ro (α:=List Int) 1 rfl).setp i2
        refine dA c24 c25 c26 ?_
        replace H:=H.sel [1,0,2,3,4,5,6,7,8,9] rfl
        refine gC (α:=Int) H c24 c25 i2 ?_;clear H c24 c25 c26 i2;intro w11 H
        obtain ⟨a10,e,f27⟩:=aA f26;clear f26
        refine arO e ?_;clear e
        refine fld gok rfl rfl rfl rfl ?_
        refine cA (H.bx 3 rfl (j:=1) rfl) ?_
        obtain ⟨a11,e,f28⟩:=aA f27;clear f27
        have HH:=H;clear H;obtain ⟨p7,m7,g2,c27,c28,c29,c30,H⟩:=HH.el (α:=Int×Int×List Int×List Int) 4 rfl e;clear HH
        clear e
        obtain ⟨a11_0,a11_1,a11_2,a11_3⟩:=a11
        obtain ⟨_,_,h3,h4⟩:=g2
        replace H:=H.part (β:=List Int) a11_2 (h3:Hd) 0 rfl (fun S h=>(And.left (And.right (And.right h))))
        replace H:=H.part (β:=List Int) a11_3 (h4:Hd) 1 rfl (fun S h=>(And.right (And.right (And.right h))))
        replace H:=H.sel [0,1,3,4,5,6,7,8,9,10,11,12] rfl
        refine dA c27 c28 c29 ?_;clear c27 c28 c29
        refine fld gok rfl rfl rfl rfl ?_
        refine cA (c30 2 _ rfl) ?_
        obtain ⟨y6,e,f29⟩:=aA f28;clear f28
        obtain ⟨y6_0,y6_1⟩:=y6
        have i3:=e;clear e
        replace H:=H.sel [3,4,0,1,2,5,6,7,8,9,10,11] rfl
        refine iA (oN s1_0 wires_h s1_2 g1 a11_2 h3 y6_0 y6_1 i3) (Γi:=[E (List Int) s1_0 wires_h,E (List Int) s1_2 g1]) H ⟨Vw.sh 1 rfl,trivial⟩ ?_;clear H i3
        rintro _ _ w12 ⟨h5,rfl,rfl⟩ H
        refine fld gok rfl rfl rfl rfl ?_
        refine cA (H.bx 5 rfl (j:=1) rfl) ?_
        obtain ⟨a12,e,f30⟩:=aA f29;clear f29
        have HH:=H;clear H;obtain ⟨p8,m8,g3,c31,c32,c33,c34,H⟩:=HH.el (α:=Int×Int×List Int×List Int) 6 rfl e;clear HH
        clear e
        obtain ⟨a12_0,a12_1,a12_2,a12_3⟩:=a12
        obtain ⟨_,_,h6,h7⟩:=g3
        replace H:=H.part (β:=List Int) a12_2 (h6:Hd) 0 rfl (fun S h=>(And.left (And.right (And.right h))))
        replace H:=H.part (β:=List Int) a12_3 (h7:Hd) 1 rfl (fun S h=>(And.right (And.right (And.right h))))
        replace H:=H.sel [0,1,3,4,5,6,7,8,9,10,11,12,13,14] rfl
        refine dA c31 c32 c33 ?_;clear c31 c32 c33
        refine fld gok rfl rfl rfl rfl ?_
        refine cA (c34 3 _ rfl) ?_
        obtain ⟨y7,e,f31⟩:=aA f30;clear f30
        obtain ⟨y7_0,y7_1⟩:=y7
        have i4:=e;clear e
        replace H:=H.sel [2,3,0,1,4,5,6,7,8,9,10,11,12,13] rfl
        refine iA (oN y6_0 wires_h y6_1 h5 a12_3 h7 y7_0 y7_1 i4) (Γi:=[E (List Int) y6_0 wires_h,E (List Int) y6_1 h5]) H ⟨Vw.sh 0 rfl,trivial⟩ ?_;clear H i4
        rintro _ _ w14 ⟨h8,rfl,rfl⟩ H
        exact ⟨((y7_0,a9,y7_1,a10),h8),⟨rfl,rfl,rfl,rfl,rfl,rfl,rfl,rfl,rfl,rfl,rfl,trivial⟩,Option.some.inj f31,H.sel [0,6,1,7,8,9,10,11,12,13] rfl⟩
       ·
        have f32:=eA f19;clear f19
        exact ⟨((s1_0,s1_1,s1_2,s1_3),g1),⟨rfl,rfl,rfl,rfl,rfl,rfl,rfl,rfl,rfl,rfl,rfl,trivial⟩,Option.some.inj f32,H.sel [0,1,2,3,4,5,6,7,8,9] rfl⟩
     ·
      clear f15 H
      rintro T3 ⟨⟨s3_0,s3_1,s3_2,s3_3⟩,g4⟩ w15 ⟨hr,(H:Cx w0 fp0 S0 w15 [E (List Int) s3_0 wires_h,E (List Int) s3_1 edges_h,E (List Int) s3_2 g4,Bx b8 [(.int .i64 g__0),(g__1h).v,(g__2h).v,(g__3h).v],Es (List (Int×Int×List Int×List Int)) g__1 g__1h,Es (List Int) g__2 g__2h,Es (List Int) g__3 g__3h,E (List Int) y4 h0,E (List Int) y5 h1,E (List Int) [a3,a4] h2])⟩
      subst hr
      refine arK hk x0 ?_
      have hs:=Option.some.inj f16;subst hs;clear f16
      exact ⟨g4,⟨rfl,rfl,rfl,rfl,rfl,rfl,rfl,rfl,rfl,rfl,rfl,trivial⟩,H.sel [0,1,2,3,4,5,6,7,8,9] rfl⟩
    ·
     clear H e
     obtain ⟨s4_0,s4_1,s4_2,s4_3⟩:=r1
     rintro T4 g5 w16 (H:Cx w0 fp0 S0 w16 [E (List Int) s4_0 wires_h,E (List Int) s4_1 edges_h,E (List Int) s4_2 g5,Bx b8 [(.int .i64 g__0),(g__1h).v,(g__2h).v,(g__3h).v],Es (List (Int×Int×List Int×List Int)) g__1 g__1h,Es (List Int) g__2 g__2h,Es (List Int) g__3 g__3h,E (List Int) y4 h0,E (List Int) y5 h1,E (List Int) [a3,a4] h2])
     refine jA (z:=false) dB ?_
     refine sq ?_
     obtain ⟨a13,e,f33⟩:=aA f13;clear f13
     refine arO e ?_;clear e
     have hs:=Option.some.inj f33;subst hs;clear f33
     exact ⟨(s4_0,s4_1,a13,s4_2,s4_3),g5,rfl,⟨rfl,rfl,rfl,rfl,rfl,rfl,rfl,rfl,trivial⟩,H.sel [0,1,2,3,4,5,6,7,8] rfl⟩
 ·
  clear f2 H
  rintro T5 ⟨⟨s5_0,s5_1,s5_2,s5_3⟩,g6⟩ w17 ⟨hr,(H:Cx w0 fp0 S0 w17 [E (List Int) s5_2 g6,E (List Int) s5_0 wires_h,E (List Int) s5_1 edges_h])⟩
  subst hr
  cases f3
  exact ⟨_,_,rfl,⟨g6,rfl,rfl⟩,(H.sel [1,2,0] rfl).close ⟨cloE,cloE,cloE,trivial⟩⟩
theorem zV (g__0:Int) (g__1:List (Int×Int×List Int×List Int)) (g__1h:Hd) (g__2:List Int) (g__2h:Hd) (g__3:List Int) (g__3h:Hd) (y0:List Int) (y1:List Int) (y2:List Int) (y3:Int) (hF:uN (g__0,g__1,g__2,g__3)=some (y0,y1,y2,y3)) :
  nA Tryz.prog 91 #[(.agg #[(.int .i64 g__0),(g__1h).v,(g__2h).v,(g__3h).v])] [Es (List (Int×Int×List Int×List Int)) g__1 g__1h,Es (List Int) g__2 g__2h,Es (List Int) g__3 g__3h] [] (fun v Γ'=>∃ z0 z1 z2:Hd,v=(.tuple #[(z0).v,(z1).v,(z2).v,(.int .i64 y3)])∧Γ'=[E (List Int) y0 z0,E (List Int) y1 z1,E (List Int) y2 z2]):=by
 intro w0 S0 fp0 hI hS
 have H:Cx w0 fp0 S0 w0 [Es (List (Int×Int×List Int×List Int)) g__1 g__1h,Es (List Int) g__2 g__2h,Es (List Int) g__3 g__3h]:=Cx.start hI hS
 clear hI hS
 refine lA (args:=[_]) gok Tryz.func91 rfl _ rfl rfl rfl ?_
 refine jB H ?_;clear H;intro b5 w4 hx H
 clear hx
 refine aC H [] (.fst 0 (.fst 3 (.fst 1 (.fst 4 (.fst 5 (.act 2 (.act 6 (.fst 7 (.fst 8 .done))))))))) vB [] trivial (by kernel_rfl) ?_
 clear H;intro w7 H
 have hX:Ext w7 w7:=Upd.refl _ _
 have H0:=H
 refine xA (fun _=>fld gok rfl rfl rfl rfl ⟨rfl,rfl⟩) ?_
 refine xA (fun _=>fld gok rfl rfl rfl rfl ⟨rfl,rfl⟩) ?_
 refine uA (H.bx 0 rfl (j:=0) rfl) ?_
 refine uA (H.bx 0 rfl (j:=1) rfl) ?_
 refine kA (H.rs (α:=List (Int×Int×List Int×List Int)) 1 rfl).len ?_
 obtain ⟨y8,e,hF9⟩:=aA hF;clear hF
 have ey8:=e;clear e
 refine eB (aW g__0 y8 ey8) H trivial ?_;clear H ey8
 rintro _ _ w1 ⟨h0,rfl,rfl⟩ hx H
 replace hX:=hX.trans0 hx;clear hx
 refine hold hX ?_
 obtain ⟨y4,e,f0⟩:=aA hF9;clear hF9
 have i0:=e;clear e
 refine eB (aW ((g__1.length:Nat):Int) y4 i0) H trivial ?_;clear H i0
 rintro _ _ w2 ⟨h1,rfl,rfl⟩ hx H
 replace hX:=hX.trans0 hx;clear hx
 refine hold hX ?_
 refine fld gok rfl rfl rfl rfl ?_
 refine cA (H.bx 2 rfl (j:=2) rfl) ?_
 replace H:=H.nil (α:=Int)
 obtain ⟨y5,e,f1⟩:=aA f0;clear f0
 obtain ⟨y5_0,y5_1⟩:=y5
 have i1:=e;clear e
 replace H:=H.sel [2,0,1,3,4,5,6] rfl
 refine iA (oN y8 h0 [] nilH g__2 g__2h y5_0 y5_1 i1) (Γi:=[E (List Int) y8 h0,E (List Int) [] nilH]) H ⟨Vw.sh 3 rfl,trivial⟩ ?_;clear H i1
 rintro _ _ w3 ⟨h2,rfl,rfl⟩ H
 refine fld gok rfl rfl rfl rfl ?_
 refine cA (H.bx 3 rfl (j:=3) rfl) ?_
 obtain ⟨y6,e,f2⟩:=aA f1;clear f1
 obtain ⟨y6_0,y6_1⟩:=y6
 have i2:=e;clear e
 refine iA (oN y5_0 h0 y5_1 h2 g__3 g__3h y6_0 y6_1 i2) (Γi:=[E (List Int) y5_0 h0,E (List Int) y5_1 h2]) H ⟨Vw.sh 4 rfl,trivial⟩ ?_;clear H i2
 rintro _ _ w5 ⟨h3,rfl,rfl⟩ H
 refine vA [(.int .i64 g__0),(g__1h).v,(g__2h).v,(g__3h).v] rfl (fun j u hj=>H.bx 3 rfl hj) ?_
 obtain ⟨y7,e,f3⟩:=aA f2;clear f2
 obtain ⟨y7_0,y7_1,y7_2,y7_3⟩:=y7
 have i3:=e;clear e
 replace H:=H.sel [0,2,1,3,4,5,6] rfl
 refine iA (Co_ g__0 g__1 g__1h g__2 g__2h g__3 g__3h y6_0 h0 y4 h1 y6_1 h3 0 y7_0 y7_1 y7_2 y7_3 i3) (Γi:=[E (List Int) y6_0 h0,E (List Int) y4 h1,E (List Int) y6_1 h3]) H ⟨Vw.sh 1 rfl,Vw.sh 2 rfl,Vw.sh 3 rfl,trivial⟩ ?_;clear H i3
 rintro _ _ w6 ⟨h4,rfl,rfl⟩ H
 cases f3
 exact ⟨_,_,rfl,⟨h0,h1,h4,rfl,rfl⟩,(H.sel [0,1,2] rfl).close ⟨cloE,cloE,cloE,trivial⟩⟩
theorem tI (l_:List Int) (l_h:Hd) (to_:List Int) (to_h:Hd) (y:List Int) (hF:rJ l_ to_=some y) :
  nA Tryz.prog 115 #[(l_h).v,(to_h).v] [Es (List Int) l_ l_h,Es (List Int) to_ to_h] [] (fun v Γ'=>∃ z0:Hd,v=(z0).v∧Γ'=[E (List Int) y z0]):=by
 intro w0 S0 fp0 hI hS
 have H:Cx w0 fp0 S0 w0 [Es (List Int) l_ l_h,Es (List Int) to_ to_h]:=Cx.start hI hS
 clear hI hS
 refine lA (args:=[_,_]) gok Tryz.func115 rfl _ rfl rfl rfl ?_
 refine sq ?_
 refine kA (H.rs (α:=List Int) 0 rfl).len ?_
 have x0:=(H.rs (α:=List Int) 0 rfl).max
 obtain ⟨r0,e,f0⟩:=aA hF;clear hF
 replace H:=H.nil (α:=Int)
 refine fB _ l_.length (fun (k3:Nat) (s0:List Int) (g0:Hd)=>[(1,(to_h).v),(5,(g0).v),(8,(l_h).v),(9,(.int .i64 ((l_.length:Nat):Int))),(10,(.int .i64 ((k3:Nat):Int)))]) (fun _ (s0:List Int) (g0:Hd) w'=>Cx w0 fp0 S0 w' [Es (List Int) to_ to_h,E (List Int) s0 g0,Es (List Int) l_ l_h]) [] nilH e ⟨rfl,rfl,rfl,rfl,rfl,trivial⟩ (H.sel [2,0,1] rfl) ?_ ?_
 ·
  clear H e
  rintro T0 k3 s0 g0 w1 o0 hk (H:Cx w0 fp0 S0 w1 [Es (List Int) to_ to_h,E (List Int) s0 g0,Es (List Int) l_ l_h]) f1
  refine jA (z:=true) (cB hk) ?_
  refine sq ?_
  refine sq ?_
  obtain ⟨a0,e,f2⟩:=aA f1;clear f1
  obtain ⟨p0,m0,c0,c1,c2,c3⟩:=(H.rs (α:=List Int) 2 rfl).at1 e;clear e
  refine dA c0 c1 c2 ?_;clear c0 c1 c2
  refine cA c3 ?_;clear c3
  obtain ⟨a1,e,f3⟩:=aA f2;clear f2
  obtain ⟨p1,m1,c4,c5,c6,c7⟩:=(H.rs (α:=List Int) 0 rfl).at1 e;clear e
  refine dA c4 c5 c6 ?_;clear c4 c5 c6
  refine cA c7 ?_;clear c7
  refine bB (α:=Int) gok rfl rfl rfl rfl H ?_;clear H;intro h0 w2 hx H
  clear hx
  obtain ⟨a2,e,f4⟩:=aA f3;clear f3
  replace H:=H.sel [2,0,1,3] rfl
  refine append_ (α:=Int) gok rfl rfl rfl rfl H e ?_;clear e H;intro h1 w3 H
  refine arK hk x0 ?_
  have hs:=Option.some.inj f4;subst hs;clear f4
  exact ⟨h1,⟨rfl,rfl,rfl,rfl,rfl,trivial⟩,H.sel [1,0,2] rfl⟩
 ·
  clear H e
  rintro T1 g1 w4 (H:Cx w0 fp0 S0 w4 [Es (List Int) to_ to_h,E (List Int) r0 g1,Es (List Int) l_ l_h])
  refine jA (z:=false) dB ?_
  refine sq ?_
  cases f0
  exact ⟨_,_,rfl,⟨g1,rfl,rfl⟩,(H.sel [1] rfl).close ⟨cloE,trivial⟩⟩
end Go.Proofs.YtbofgnbanmbopaaGreatDoor
