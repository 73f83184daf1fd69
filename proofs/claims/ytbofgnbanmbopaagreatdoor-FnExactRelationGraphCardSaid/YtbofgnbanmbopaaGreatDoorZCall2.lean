/-
 Contracts, printed by a program (wip/y/gen.py): each function of Go computes its partial function. Condition of each: its partial function yields a value.
-/
import Derived.Test.YtbofgnbanmbopaaGreatDoorZCall
namespace Go.Proofs.YtbofgnbanmbopaaGreatDoor
open Go Go.Proofs.YtbofgnbanmbopaaGreatDoor.RW
set_option maxRecDepth 100000
set_option maxHeartbeats 1000000
set_option linter.unusedVariables false
theorem B6_ (g__0:Int) (g__1:List (Int×Int×List Int×List Int)) (g__1h:Hd) (g__2:List Int) (g__2h:Hd) (g__3:List Int) (g__3h:Hd) (y:List (List Int×List Int×List Int×Int)) (hF:xV (g__0,g__1,g__2,g__3)=some y) :
  nA Tryz.prog 92 #[(.agg #[(.int .i64 g__0),(g__1h).v,(g__2h).v,(g__3h).v])] [Es (List (Int×Int×List Int×List Int)) g__1 g__1h,Es (List Int) g__2 g__2h,Es (List Int) g__3 g__3h] [] (fun v Γ'=>∃ z0:Hd,v=(z0).v∧Γ'=[E (List (List Int×List Int×List Int×Int)) y z0]):=by
 intro w0 S0 fp0 hI hS
 have H:Cx w0 fp0 S0 w0 [Es (List (Int×Int×List Int×List Int)) g__1 g__1h,Es (List Int) g__2 g__2h,Es (List Int) g__3 g__3h]:=Cx.start hI hS
 clear hI hS
 refine lA (args:=[_]) gok Tryz.func92 rfl _ rfl rfl rfl ?_
 refine jB H ?_;clear H;intro b5 w4 hx H
 clear hx
 refine vA [(.int .i64 g__0),(g__1h).v,(g__2h).v,(g__3h).v] rfl (fun j u hj=>H.bx 0 rfl hj) ?_
 obtain ⟨y7,e,hF8⟩:=aA hF;clear hF
 obtain ⟨y7_0,y7_1,y7_2,y7_3⟩:=y7
 have ey7:=e;clear e
 refine iA (zV g__0 g__1 g__1h g__2 g__2h g__3 g__3h y7_0 y7_1 y7_2 y7_3 ey7) (Γi:=[]) H ⟨Vw.sh 1 rfl,Vw.sh 2 rfl,Vw.sh 3 rfl,trivial⟩ ?_;clear H ey7
 rintro _ _ w9 ⟨h0,h1,h2,rfl,rfl⟩ H
 refine sq ?_
 refine fld gok rfl rfl rfl rfl ?_
 refine cA (H.bx 3 rfl (j:=1) rfl) ?_
 refine kA (H.rs (α:=List (Int×Int×List Int×List Int)) 4 rfl).len ?_
 have x0:=(H.rs (α:=List (Int×Int×List Int×List Int)) 4 rfl).max
 obtain ⟨r0,e,f0⟩:=aA hF8;clear hF8
 refine fB _ g__1.length (fun (k0:Nat) (_:Unit) (_:Unit)=>[(1,(.pointer (some ⟨b5,0,none⟩))),(4,(h1).v),(7,(.slice none 0 0)),(25,(.int .i64 ((g__1.length:Nat):Int))),(26,(.int .i64 ((k0:Nat):Int)))]) (fun _ (_:Unit) (_:Unit) w'=>Cx w0 fp0 S0 w' [Bx b5 [(.int .i64 g__0),(g__1h).v,(g__2h).v,(g__3h).v],Es (List (Int×Int×List Int×List Int)) g__1 g__1h,Es (List Int) g__2 g__2h,Es (List Int) g__3 g__3h,E (List Int) y7_1 h1]) () () e ⟨rfl,rfl,rfl,rfl,rfl,trivial⟩ (H.sel [3,4,5,6,1] rfl) ?_ ?_
 ·
  clear H e
  rintro T0 k0 _ _ w1 o0 hk (H:Cx w0 fp0 S0 w1 [Bx b5 [(.int .i64 g__0),(g__1h).v,(g__2h).v,(g__3h).v],Es (List (Int×Int×List Int×List Int)) g__1 g__1h,Es (List Int) g__2 g__2h,Es (List Int) g__3 g__3h,E (List Int) y7_1 h1]) f1
  refine jA (z:=true) (cB hk) ?_
  refine sq ?_
  obtain ⟨r1,f2,f3⟩:=aA f1;clear f1
  refine cut (fun (q0:Unit)=>[(1,(.pointer (some ⟨b5,0,none⟩))),(4,(h1).v),(7,(.slice none 0 0)),(25,(.int .i64 ((g__1.length:Nat):Int))),(26,(.int .i64 ((k0:Nat):Int)))]) (fun (q0:Unit) w'=>()=r1∧Cx w0 fp0 S0 w' [Bx b5 [(.int .i64 g__0),(g__1h).v,(g__2h).v,(g__3h).v],Es (List (Int×Int×List Int×List Int)) g__1 g__1h,Es (List Int) g__2 g__2h,Es (List Int) g__3 g__3h,E (List Int) y7_1 h1]) ?_ ?_
  ·
   refine sq ?_
   obtain ⟨a0,e,f4⟩:=aA f2;clear f2
   obtain ⟨p0,m0,c0,c1,c2,c3⟩:=(H.ro (α:=List Int) 4 rfl).at1 e;clear e
   refine dA c0 c1 c2 ?_;clear c0 c1 c2
   refine cA c3 ?_;clear c3
   obtain ⟨a1,e,f5⟩:=aA f4;clear f4
   refine gA e ?_;clear e
   cases a1
   ·
    have f6:=fA f5;clear f5
    refine vA [(.int .i64 g__0),(g__1h).v,(g__2h).v,(g__3h).v] rfl (fun j u hj=>H.bx 0 rfl hj) ?_
    cases f6
   ·
    have f7:=eA f5;clear f5
    exact ⟨(),⟨rfl,rfl,rfl,rfl,rfl,trivial⟩,Option.some.inj f7,H.sel [0,1,2,3,4] rfl⟩
  ·
   clear f2 H
   rintro T1 _ w2 ⟨hr,(H:Cx w0 fp0 S0 w2 [Bx b5 [(.int .i64 g__0),(g__1h).v,(g__2h).v,(g__3h).v],Es (List (Int×Int×List Int×List Int)) g__1 g__1h,Es (List Int) g__2 g__2h,Es (List Int) g__3 g__3h,E (List Int) y7_1 h1])⟩
   subst hr
   refine arK hk x0 ?_
   have hs:=Option.some.inj f3;subst hs;clear f3
   exact ⟨(),⟨rfl,rfl,rfl,rfl,rfl,trivial⟩,H.sel [0,1,2,3,4] rfl⟩
 ·
  clear H e
  rintro T2 _ w3 (H:Cx w0 fp0 S0 w3 [Bx b5 [(.int .i64 g__0),(g__1h).v,(g__2h).v,(g__3h).v],Es (List (Int×Int×List Int×List Int)) g__1 g__1h,Es (List Int) g__2 g__2h,Es (List Int) g__3 g__3h,E (List Int) y7_1 h1])
  refine jA (z:=false) dB ?_
  refine sq ?_
  replace H:=H.nil (α:=List Int×List Int×List Int×Int)
  cases f0
  exact ⟨_,_,rfl,⟨nilH,rfl,rfl⟩,(H.sel [0] rfl).close ⟨cloE,trivial⟩⟩
theorem BM_ (g__0:Int) (g__1:List (Int×Int×List Int×List Int)) (g__1h:Hd) (g__2:List Int) (g__2h:Hd) (g__3:List Int) (g__3h:Hd) (y0:List Int) (y1:List Int) (hF:nR (g__0,g__1,g__2,g__3)=some (y0,y1)) :
  nA Tryz.prog 76 #[(.agg #[(.int .i64 g__0),(g__1h).v,(g__2h).v,(g__3h).v])] [Es (List (Int×Int×List Int×List Int)) g__1 g__1h,Es (List Int) g__2 g__2h,Es (List Int) g__3 g__3h] [] (fun v Γ'=>∃ z0 z1:Hd,v=(.tuple #[(z0).v,(z1).v])∧Γ'=[E (List Int) y0 z0,E (List Int) y1 z1]):=by
 intro w0 S0 fp0 hI hS
 have H:Cx w0 fp0 S0 w0 [Es (List (Int×Int×List Int×List Int)) g__1 g__1h,Es (List Int) g__2 g__2h,Es (List Int) g__3 g__3h]:=Cx.start hI hS
 clear hI hS
 refine lA (args:=[_]) gok Tryz.func76 rfl _ rfl rfl rfl ?_
 refine jB H ?_;clear H;intro b5 w4 hx H
 clear hx
 refine vA [(.int .i64 g__0),(g__1h).v,(g__2h).v,(g__3h).v] rfl (fun j u hj=>H.bx 0 rfl hj) ?_
 obtain ⟨y7,e,hF8⟩:=aA hF;clear hF
 obtain ⟨y7_0,y7_1,y7_2,y7_3⟩:=y7
 have ey7:=e;clear e
 refine iA (zV g__0 g__1 g__1h g__2 g__2h g__3 g__3h y7_0 y7_1 y7_2 y7_3 ey7) (Γi:=[]) H ⟨Vw.sh 1 rfl,Vw.sh 2 rfl,Vw.sh 3 rfl,trivial⟩ ?_;clear H ey7
 rintro _ _ w9 ⟨h0,h1,h2,rfl,rfl⟩ H
 refine kA (H.ro (α:=List Int) 2 rfl).len ?_
 refine sq ?_
 refine vA [(.int .i64 g__0),(g__1h).v,(g__2h).v,(g__3h).v] rfl (fun j u hj=>H.bx 3 rfl hj) ?_
 obtain ⟨y2,e,f0⟩:=aA hF8;clear hF8
 have i0:=e;clear e
 refine iA (B6_ g__0 g__1 g__1h g__2 g__2h g__3 g__3h y2 i0) (Γi:=[]) H ⟨Vw.sh 4 rfl,Vw.sh 5 rfl,Vw.sh 6 rfl,trivial⟩ ?_;clear H i0
 rintro _ _ w1 ⟨h3,rfl,rfl⟩ H
 refine kA (H.ro (α:=List (List Int×List Int×List Int×Int)) 0 rfl).len ?_
 have x0:=(H.ro (α:=List (List Int×List Int×List Int×Int)) 0 rfl).max
 obtain ⟨r0,e,f1⟩:=aA f0;clear f0
 refine fB _ y2.length (fun (k0:Nat) (_:Unit) (_:Unit)=>[(4,(h0).v),(5,(h1).v),(7,(.int .i64 y7_3)),(8,(.int .i64 ((y7_2.length:Nat):Int))),(25,(h3).v),(26,(.int .i64 ((y2.length:Nat):Int))),(27,(.int .i64 ((k0:Nat):Int)))]) (fun _ (_:Unit) (_:Unit) w'=>Cx w0 fp0 S0 w' [E (List Int) y7_0 h0,E (List Int) y7_1 h1,E (List (List Int×List Int×List Int×Int)) y2 h3]) () () e ⟨rfl,rfl,rfl,rfl,rfl,rfl,rfl,trivial⟩ (H.sel [1,2,0] rfl) ?_ ?_
 ·
  clear H e
  rintro T0 k0 _ _ w2 o0 hk (H:Cx w0 fp0 S0 w2 [E (List Int) y7_0 h0,E (List Int) y7_1 h1,E (List (List Int×List Int×List Int×Int)) y2 h3]) f2
  refine jA (z:=true) (cB hk) ?_
  refine sq ?_
  refine sq ?_
  obtain ⟨a0,e,f3⟩:=aA f2;clear f2
  replace H:=H.sel [2,0,1] rfl
  replace H:=H.frz
  have HH:=H;clear H;obtain ⟨p0,m0,g0,c0,c1,c2,c3,H⟩:=HH.el (α:=List Int×List Int×List Int×Int) 0 rfl e;clear HH
  clear e
  obtain ⟨a0_0,a0_1,a0_2,a0_3⟩:=a0
  obtain ⟨h4,h5,h6,_⟩:=g0
  replace H:=H.part (β:=List Int) a0_0 (h4:Hd) 0 rfl (fun S h=>(And.left h))
  replace H:=H.part (β:=List Int) a0_1 (h5:Hd) 1 rfl (fun S h=>(And.left (And.right h)))
  replace H:=H.part (β:=List Int) a0_2 (h6:Hd) 2 rfl (fun S h=>(And.left (And.right (And.right h))))
  replace H:=H.sel [0,1,2,4,5,6] rfl
  refine dA c0 c1 c2 ?_;clear c0 c1 c2
  refine vA [(h4).v,(h5).v,(h6).v,(.int .i64 a0_3)] rfl c3 ?_;clear c3
  cases f3
 ·
  clear H e
  rintro T1 _ w3 (H:Cx w0 fp0 S0 w3 [E (List Int) y7_0 h0,E (List Int) y7_1 h1,E (List (List Int×List Int×List Int×Int)) y2 h3])
  refine jA (z:=false) dB ?_
  refine sq ?_
  cases f1
  exact ⟨_,_,rfl,⟨h0,h1,rfl,rfl⟩,(H.sel [0,1] rfl).close ⟨cloE,cloE,trivial⟩⟩
theorem Cy_ (g__0:Int) (g__1:List (Int×Int×List Int×List Int)) (g__1h:Hd) (g__2:List Int) (g__2h:Hd) (g__3:List Int) (g__3h:Hd) (to_:List Int) (to_h:Hd) (wires_:Int) (y_0:Int) (y_1:List (Int×Int×List Int×List Int)) (y_2:List Int) (y_3:List Int) (hF:oS (g__0,g__1,g__2,g__3) to_ wires_=some (y_0,y_1,y_2,y_3)) :
  nA Tryz.prog 93 #[(.agg #[(.int .i64 g__0),(g__1h).v,(g__2h).v,(g__3h).v]),(to_h).v,(.int .i64 wires_)] [Es (List (Int×Int×List Int×List Int)) g__1 g__1h,Es (List Int) g__2 g__2h,Es (List Int) g__3 g__3h,Es (List Int) to_ to_h] [] (fun v Γ'=>∃ z0 z1 z2:Hd,v=(.agg #[(.int .i64 y_0),(z0).v,(z1).v,(z2).v])∧Γ'=[E (List (Int×Int×List Int×List Int)) y_1 z0,E (List Int) y_2 z1,E (List Int) y_3 z2]):=by
 intro w0 S0 fp0 hI hS
 have H:Cx w0 fp0 S0 w0 [Es (List (Int×Int×List Int×List Int)) g__1 g__1h,Es (List Int) g__2 g__2h,Es (List Int) g__3 g__3h,Es (List Int) to_ to_h]:=Cx.start hI hS
 clear hI hS
 refine lA (args:=[_,_,_]) gok Tryz.func93 rfl _ rfl rfl rfl ?_
 refine jB H ?_;clear H;intro b6 w5 hx H
 clear hx
 refine sB gok rfl H ?_;clear H;intro b9 w8 hx H
 clear hx
 obtain ⟨r0,f0,f1⟩:=aA hF;clear hF
 refine lH H [] (.fst 0 (.fst 1 (.fst 3 (.fst 5 (.fst 7 (.fst 2 (.fst 6 (.alts (.alt 4 (.alts (.alt 8 (.fst 9 (.act 10 (.act 11 .done))) (.alt 10 (.act 8 (.fst 9 (.act 11 .done))) .no))) (.alt 10 (.act 4 (.act 8 (.fst 9 (.act 11 .done)))) .no)))))))))) vB [] trivial (by kernel_rfl) (fun (q0:(Int×List Int×List Int)×(Hd×Hd×Nat))=>[(1,(to_h).v),(3,(.pointer (some ⟨b6,0,none⟩))),(6,(.pointer (some ⟨b9,0,none⟩))),(7,(.pointer (some ⟨q0.2.2.2,0,none⟩)))]) (fun (q0:(Int×List Int×List Int)×(Hd×Hd×Nat)) w'=>(q0.1.1,q0.1.2.1,q0.1.2.2)=r0∧Cx w0 fp0 S0 w' [Es (List Int) to_ to_h,Bx b6 [(.int .i64 g__0),(g__1h).v,(g__2h).v,(g__3h).v],Es (List (Int×Int×List Int×List Int)) g__1 g__1h,Es (List Int) g__2 g__2h,Es (List Int) g__3 g__3h,Bx b9 [(.int .i64 0),(.slice none 0 0),(.slice none 0 0),(.slice none 0 0)],Bx q0.2.2.2 [(.int .i64 q0.1.1),(.slice none 0 0),(q0.2.1).v,(q0.2.2.1).v],E (List Int) q0.1.2.1 q0.2.1,E (List Int) q0.1.2.2 q0.2.2.1]) ?_ ?_
 ·
  clear H;intro w1 H
  have hX:Ext w1 w1:=Upd.refl _ _
  have H0:=H
  refine xA (fun _=>fld gok rfl rfl rfl rfl ⟨rfl,rfl⟩) ?_
  refine xA (fun _=>fld gok rfl rfl rfl rfl ⟨rfl,rfl⟩) ?_
  refine uA (H.bx 1 rfl (j:=2) rfl) ?_
  refine uA (H.bx 1 rfl (j:=3) rfl) ?_
  refine pA ?_ ?_
  ·
   obtain ⟨y0,e,f2⟩:=aA f0;clear f0
   have i0:=e;clear e
   refine eB (tI g__2 g__2h to_ to_h y0 i0) H ⟨Vw.sh 3 rfl,Vw.sh 5 rfl,trivial⟩ ?_;clear H i0
   rintro _ _ w2 ⟨h0,rfl,rfl⟩ hx H
   replace hX:=hX.trans0 hx;clear hx
   refine hold hX ?_
   refine pA ?_ ?_
   ·
    obtain ⟨y1,e,f3⟩:=aA f2;clear f2
    have i1:=e;clear e
    refine eB (tI g__3 g__3h to_ to_h y1 i1) H ⟨Vw.sh 5 rfl,Vw.sh 6 rfl,trivial⟩ ?_;clear H i1
    rintro _ _ w3 ⟨h1,rfl,rfl⟩ hx H
    replace hX:=hX.trans0 hx;clear hx
    refine hold hX ?_
    refine xA (fun _=>tB (cs:=#[(.int .i64 wires_),(.slice none 0 0),(h0).v,(h1).v]) gok rfl rfl rfl ⟨rfl,rfl⟩) ?_
    refine dC gok rfl H ?_;clear H;intro b0 w4 hx v0 H;replace v0:=Nat.le_trans hX.size v0
    replace hX:=hX.trans0 hx;clear hx
    refine hold hX ?_
    refine cG gok [(.int .i64 wires_),(.slice none 0 0),(h0).v,(h1).v] rfl H rfl rfl rfl ?_;clear H;intro w6 hu H
    replace hX:=hX.fresh hu v0;clear hu
    refine hold hX ?_
    exact ⟨((wires_,y0,y1),(h0,h1,b0)),⟨rfl,rfl,rfl,rfl,trivial⟩,Option.some.inj f3,H.sel [8,4,5,6,7,3,0,2,1] rfl⟩
   ·
    refine pA ?_ ?_
    ·
     obtain ⟨a0,o0,f4⟩:=aA f2;clear f2
     refine dC gok rfl H ?_;clear H;intro b1 w7 hx v1 H;replace v1:=Nat.le_trans hX.size v1
     replace hX:=hX.trans0 hx;clear hx
     refine hold hX ?_
     have e:=o0;clear o0
     have i2:=e;clear e
     refine eB (tI g__3 g__3h to_ to_h a0 i2) H ⟨Vw.sh 6 rfl,Vw.sh 7 rfl,trivial⟩ ?_;clear H i2
     rintro _ _ w9 ⟨h2,rfl,rfl⟩ hx H
     replace hX:=hX.trans0 hx;clear hx
     refine hold hX ?_
     refine xA (fun _=>tB (cs:=#[(.int .i64 wires_),(.slice none 0 0),(h0).v,(h2).v]) gok rfl rfl rfl ⟨rfl,rfl⟩) ?_
     replace H:=H.sel [1,0,2,3,4,5,6,7,8] rfl
     refine cG gok [(.int .i64 wires_),(.slice none 0 0),(h0).v,(h2).v] rfl H rfl rfl rfl ?_;clear H;intro w10 hu H
     replace hX:=hX.fresh hu v1;clear hu
     refine hold hX ?_
     exact ⟨((wires_,y0,a0),(h0,h2,b1)),⟨rfl,rfl,rfl,rfl,trivial⟩,Option.some.inj f4,H.sel [8,4,5,6,7,3,0,2,1] rfl⟩
    ·
     exact trivial
  ·
   refine pA ?_ ?_
   ·
    obtain ⟨a1,o1,f5⟩:=aA f0;clear f0
    obtain ⟨a2,o2,f6⟩:=aA f5;clear f5
    refine dC gok rfl H ?_;clear H;intro b2 w11 hx v2 H;replace v2:=Nat.le_trans hX.size v2
    replace hX:=hX.trans0 hx;clear hx
    refine hold hX ?_
    have e:=o1;clear o1
    have i3:=e;clear e
    refine eB (tI g__2 g__2h to_ to_h a1 i3) H ⟨Vw.sh 4 rfl,Vw.sh 6 rfl,trivial⟩ ?_;clear H i3
    rintro _ _ w12 ⟨h3,rfl,rfl⟩ hx H
    replace hX:=hX.trans0 hx;clear hx
    refine hold hX ?_
    have e:=o2;clear o2
    have i4:=e;clear e
    refine eB (tI g__3 g__3h to_ to_h a2 i4) H ⟨Vw.sh 6 rfl,Vw.sh 7 rfl,trivial⟩ ?_;clear H i4
    rintro _ _ w13 ⟨h4,rfl,rfl⟩ hx H
    replace hX:=hX.trans0 hx;clear hx
    refine hold hX ?_
    refine xA (fun _=>tB (cs:=#[(.int .i64 wires_),(.slice none 0 0),(h3).v,(h4).v]) gok rfl rfl rfl ⟨rfl,rfl⟩) ?_
    replace H:=H.sel [2,0,1,3,4,5,6,7,8] rfl
    refine cG gok [(.int .i64 wires_),(.slice none 0 0),(h3).v,(h4).v] rfl H rfl rfl rfl ?_;clear H;intro w14 hu H
    replace hX:=hX.fresh hu v2;clear hu
    refine hold hX ?_
    exact ⟨((wires_,a1,a2),(h3,h4,b2)),⟨rfl,rfl,rfl,rfl,trivial⟩,Option.some.inj f6,H.sel [8,4,5,6,7,3,0,2,1] rfl⟩
   ·
    exact trivial
 ·
  clear f0 H
  rintro T0 ⟨⟨s0_0,s0_1,s0_2⟩,⟨g0_0,g0_1,g0_2⟩⟩ w15 ⟨hr,(H:Cx w0 fp0 S0 w15 [Es (List Int) to_ to_h,Bx b6 [(.int .i64 g__0),(g__1h).v,(g__2h).v,(g__3h).v],Es (List (Int×Int×List Int×List Int)) g__1 g__1h,Es (List Int) g__2 g__2h,Es (List Int) g__3 g__3h,Bx b9 [(.int .i64 0),(.slice none 0 0),(.slice none 0 0),(.slice none 0 0)],Bx g0_2 [(.int .i64 s0_0),(.slice none 0 0),(g0_0).v,(g0_1).v],E (List Int) s0_1 g0_0,E (List Int) s0_2 g0_1])⟩
  subst hr
  refine sq ?_
  refine fld gok rfl rfl rfl rfl ?_
  refine cA (H.bx 1 rfl (j:=1) rfl) ?_
  refine kA (H.rs (α:=List (Int×Int×List Int×List Int)) 2 rfl).len ?_
  have x0:=(H.rs (α:=List (Int×Int×List Int×List Int)) 2 rfl).max
  obtain ⟨r1,e,f7⟩:=aA f1;clear f1
  replace H:=H.nil (α:=Int×Int×List Int×List Int)
  refine fB _ g__1.length (fun (k0:Nat) (s1:List (Int×Int×List Int×List Int)) (g1:Hd)=>[(1,(to_h).v),(6,(.pointer (some ⟨b9,0,none⟩))),(7,(.pointer (some ⟨g0_2,0,none⟩))),(21,(g__1h).v),(22,(.int .i64 ((g__1.length:Nat):Int))),(23,(.int .i64 ((k0:Nat):Int)))]) (fun _ (s1:List (Int×Int×List Int×List Int)) (g1:Hd) w'=>Cx w0 fp0 S0 w' [Es (List Int) to_ to_h,Bx b9 [(.int .i64 0),(.slice none 0 0),(.slice none 0 0),(.slice none 0 0)],Bx g0_2 [(.int .i64 s0_0),(g1).v,(g0_0).v,(g0_1).v],E (List (Int×Int×List Int×List Int)) s1 g1,E (List Int) s0_1 g0_0,E (List Int) s0_2 g0_1,Es (List (Int×Int×List Int×List Int)) g__1 g__1h]) [] nilH e ⟨rfl,rfl,rfl,rfl,rfl,rfl,trivial⟩ (H.sel [1,6,7,0,8,9,3] rfl) ?_ ?_
  ·
   clear H e
   rintro T1 k0 s1 g1 w16 o3 hk (H:Cx w0 fp0 S0 w16 [Es (List Int) to_ to_h,Bx b9 [(.int .i64 0),(.slice none 0 0),(.slice none 0 0),(.slice none 0 0)],Bx g0_2 [(.int .i64 s0_0),(g1).v,(g0_0).v,(g0_1).v],E (List (Int×Int×List Int×List Int)) s1 g1,E (List Int) s0_1 g0_0,E (List Int) s0_2 g0_1,Es (List (Int×Int×List Int×List Int)) g__1 g__1h]) f8
   refine jA (z:=true) (cB hk) ?_
   refine sq ?_
   refine sq ?_
   obtain ⟨a3,e,f9⟩:=aA f8;clear f8
   have HH:=H;clear H;obtain ⟨p0,m0,g2,c0,c1,c2,c3,H⟩:=HH.el (α:=Int×Int×List Int×List Int) 6 rfl e;clear HH
   clear e
   obtain ⟨a3_0,a3_1,a3_2,a3_3⟩:=a3
   obtain ⟨_,_,h5,h6⟩:=g2
   replace H:=H.part (β:=List Int) a3_2 (h5:Hd) 0 rfl (fun S h=>(And.left (And.right (And.right h))))
   replace H:=H.part (β:=List Int) a3_3 (h6:Hd) 1 rfl (fun S h=>(And.right (And.right (And.right h))))
   replace H:=H.sel [0,1,3,4,5,6,7,8,9] rfl
   refine dA c0 c1 c2 ?_;clear c0 c1 c2
   refine vA [(.int .i64 a3_0),(.int .i64 a3_1),(h5).v,(h6).v] rfl c3 ?_;clear c3
   refine sB gok rfl H ?_;clear H;intro b3 w17 hx H
   clear hx
   refine stA gok [(.int .i64 a3_0),(.int .i64 a3_1),(h5).v,(h6).v] rfl H rfl rfl rfl ?_;clear H;intro w18 H
   refine aC H [16,18,17] (.fst 0 (.fst 2 (.fst 4 (.fst 6 (.fst 8 (.fst 10 (.fst 12 (.fst 1 (.fst 3 (.fst 5 (.fst 7 (.fst 11 (.act 9 (.act 13 (.fst 14 (.act 15 (.act 16 (.act 17 (.act 18 .done))))))))))))))))))) vB [] trivial (by kernel_rfl) ?_
   clear H;intro w19 H
   have hX:Ext w19 w19:=Upd.refl _ _
   have H0:=H
   refine xA (fun _=>fld gok rfl rfl rfl rfl ⟨rfl,rfl⟩) ?_
   refine xA (fun _=>fld gok rfl rfl rfl rfl ⟨rfl,rfl⟩) ?_
   refine xA (fun _=>fld gok rfl rfl rfl rfl ⟨rfl,rfl⟩) ?_
   refine xA (fun _=>fld gok rfl rfl rfl rfl ⟨rfl,rfl⟩) ?_
   refine xA (fun _=>fld gok rfl rfl rfl rfl ⟨rfl,rfl⟩) ?_
   refine uA (H.bx 5 rfl (j:=1) rfl) ?_
   refine uA (H.bx 0 rfl (j:=0) rfl) ?_
   refine uA (H.bx 0 rfl (j:=1) rfl) ?_
   refine uA (H.bx 0 rfl (j:=2) rfl) ?_
   refine uA (H.bx 0 rfl (j:=3) rfl) ?_
   obtain ⟨y2,e,f10⟩:=aA f9;clear f9
   have i5:=e;clear e
   refine eB (tI a3_2 h5 to_ to_h y2 i5) H ⟨Vw.sh 2 rfl,Vw.sh 3 rfl,trivial⟩ ?_;clear H i5
   rintro _ _ w20 ⟨h7,rfl,rfl⟩ hx H
   replace hX:=hX.trans0 hx;clear hx
   refine hold hX ?_
   obtain ⟨y3,e,f11⟩:=aA f10;clear f10
   have i6:=e;clear e
   refine eB (tI a3_3 h6 to_ to_h y3 i6) H ⟨Vw.sh 2 rfl,Vw.sh 4 rfl,trivial⟩ ?_;clear H i6
   rintro _ _ w21 ⟨h8,rfl,rfl⟩ hx H
   replace hX:=hX.trans0 hx;clear hx
   refine hold hX ?_
   refine xA (fun _=>tB (cs:=#[(.int .i64 a3_0),(.int .i64 a3_1),(h7).v,(h8).v]) gok rfl rfl rfl ⟨rfl,rfl⟩) ?_
   replace H:=H.sel [1,0,2,3,4,5,6,7,8,9,10,11] rfl
   replace H:=H.join (α:=List Int) (β:=List Int)
   replace H:=H.sc (α:=Int) a3_1
   replace H:=H.join (α:=Int) (β:=List Int×List Int)
   replace H:=H.sc (α:=Int) a3_0
   replace H:=H.join (α:=Int) (β:=Int×List Int×List Int)
   refine gF (α:=Int×Int×List Int×List Int) (g:=((),(),h7,h8)) gok rfl rfl rfl rfl rfl H ?_;clear H;intro h9 w22 hx H
   replace hX:=hX.trans0 hx;clear hx
   refine hold hX ?_
   obtain ⟨a4,e,f12⟩:=aA f11;clear f11
   replace H:=H.sel [7,0,1,2,3,4,5,6,8,9,10] rfl
   refine append_ (α:=Int×Int×List Int×List Int) gok rfl rfl rfl rfl H e ?_;clear e H;intro h10 w23 H
   refine hold trivial ?_
   refine fld gok rfl rfl rfl rfl ?_
   refine hold trivial ?_
   replace H:=H.sel [6,0,1,2,3,4,5,7,8,9] rfl
   refine stB (j:=1) H rfl rfl ?_;clear H;intro w24 H
   refine hold trivial ?_
   refine arK hk x0 ?_
   have hs:=Option.some.inj f12;subst hs;clear f12
   exact ⟨h10,⟨rfl,rfl,rfl,rfl,rfl,rfl,trivial⟩,H.sel [5,6,0,1,7,8,9] rfl⟩
  ·
   clear H e
   rintro T2 g3 w25 (H:Cx w0 fp0 S0 w25 [Es (List Int) to_ to_h,Bx b9 [(.int .i64 0),(.slice none 0 0),(.slice none 0 0),(.slice none 0 0)],Bx g0_2 [(.int .i64 s0_0),(g3).v,(g0_0).v,(g0_1).v],E (List (Int×Int×List Int×List Int)) r1 g3,E (List Int) s0_1 g0_0,E (List Int) s0_2 g0_1,Es (List (Int×Int×List Int×List Int)) g__1 g__1h])
   refine jA (z:=false) dB ?_
   refine sq ?_
   refine vA [(.int .i64 s0_0),(g3).v,(g0_0).v,(g0_1).v] rfl (fun j u hj=>H.bx 2 rfl hj) ?_
   replace H:=H.sel [1,0,2,3,4,5,6] rfl
   refine stA gok [(.int .i64 s0_0),(g3).v,(g0_0).v,(g0_1).v] rfl H rfl rfl rfl ?_;clear H;intro w26 H
   refine vA [(.int .i64 s0_0),(g3).v,(g0_0).v,(g0_1).v] rfl (fun j u hj=>H.bx 0 rfl hj) ?_
   cases f7
   exact ⟨_,_,rfl,⟨g3,g0_0,g0_1,rfl,rfl⟩,(H.sel [3,4,5] rfl).close ⟨cloE,cloE,cloE,trivial⟩⟩
theorem BD_ (g__0:Int) (g__1:List (Int×Int×List Int×List Int)) (g__1h:Hd) (g__2:List Int) (g__2h:Hd) (g__3:List Int) (g__3h:Hd) (wires_:List Int) (wires_h:Hd) (edges_:List Int) (edges_h:Hd) (y_0:Int) (y_1:List (Int×Int×List Int×List Int)) (y_2:List Int) (y_3:List Int) (hF:cR (g__0,g__1,g__2,g__3) wires_ edges_=some (y_0,y_1,y_2,y_3)) :
  uD Tryz.prog 77 #[(.agg #[(.int .i64 g__0),(g__1h).v,(g__2h).v,(g__3h).v]),(wires_h).v,(edges_h).v] [Es (List (Int×Int×List Int×List Int)) g__1 g__1h,Es (List Int) g__2 g__2h,Es (List Int) g__3 g__3h,Es (List Int) wires_ wires_h,Es (List Int) edges_ edges_h] [] (fun v Γ'=>∃ z0 z1 z2:Hd,v=(.agg #[(.int .i64 y_0),(z0).v,(z1).v,(z2).v])∧Γ'=[Es (List (Int×Int×List Int×List Int)) y_1 z0,Es (List Int) y_2 z1,Es (List Int) y_3 z2]):=by
 intro w0 S0 fp0 hI hS
 have H:Cx w0 fp0 S0 w0 [Es (List (Int×Int×List Int×List Int)) g__1 g__1h,Es (List Int) g__2 g__2h,Es (List Int) g__3 g__3h,Es (List Int) wires_ wires_h,Es (List Int) edges_ edges_h]:=Cx.start hI hS
 clear hI hS
 refine lA (args:=[_,_,_]) gok Tryz.func77 rfl _ rfl rfl rfl ?_
 refine jB H ?_;clear H;intro b7 w6 hx H
 clear hx
 refine sB gok rfl H ?_;clear H;intro b0 w9 hx H
 clear hx
 refine vA [(.int .i64 g__0),(g__1h).v,(g__2h).v,(g__3h).v] rfl (fun j u hj=>H.bx 1 rfl hj) ?_
 refine fld gok rfl rfl rfl rfl ?_
 refine cA (H.bx 1 rfl (j:=0) rfl) ?_
 obtain ⟨y0,e,f0⟩:=aA hF;clear hF
 obtain ⟨y0_0,y0_1,y0_2,y0_3⟩:=y0
 have i0:=e;clear e
 refine iA (Cy_ g__0 g__1 g__1h g__2 g__2h g__3 g__3h wires_ wires_h g__0 y0_0 y0_1 y0_2 y0_3 i0) (Γi:=[]) H ⟨Vw.sh 2 rfl,Vw.sh 3 rfl,Vw.sh 4 rfl,Vw.sh 5 rfl,trivial⟩ ?_;clear H i0
 rintro _ _ w1 ⟨h0,h1,h2,rfl,rfl⟩ H
 refine sB gok rfl H ?_;clear H;intro b1 w2 hx H
 clear hx
 refine stA gok [(.int .i64 y0_0),(h0).v,(h1).v,(h2).v] rfl H rfl rfl rfl ?_;clear H;intro w3 H
 refine fld gok rfl rfl rfl rfl ?_
 refine cA (H.bx 5 rfl (j:=0) rfl) ?_
 refine fld gok rfl rfl rfl rfl ?_
 refine cA (H.bx 0 rfl (j:=2) rfl) ?_
 refine fld gok rfl rfl rfl rfl ?_
 refine cA (H.bx 0 rfl (j:=3) rfl) ?_
 refine tB (cs:=#[(.int .i64 g__0),(.slice none 0 0),(h1).v,(h2).v]) gok rfl rfl rfl ?_
 refine sB gok rfl H ?_;clear H;intro b2 w4 hx H
 clear hx
 refine stA gok [(.int .i64 g__0),(.slice none 0 0),(h1).v,(h2).v] rfl H rfl rfl rfl ?_;clear H;intro w5 H
 obtain ⟨r0,f1,f2⟩:=aA f0;clear f0
 refine cut (fun (q0:(List (Int×Int×List Int×List Int))×Hd)=>[(2,(edges_h).v),(6,(.pointer (some ⟨b0,0,none⟩))),(7,(.pointer (some ⟨b1,0,none⟩))),(8,(.pointer (some ⟨b2,0,none⟩)))]) (fun (q0:(List (Int×Int×List Int×List Int))×Hd) w'=>q0.1=r0∧Cx w0 fp0 S0 w' [Es (List Int) edges_ edges_h,Bx b0 [(.int .i64 0),(.slice none 0 0),(.slice none 0 0),(.slice none 0 0)],Bx b1 [(.int .i64 y0_0),(h0).v,(h1).v,(h2).v],E (List (Int×Int×List Int×List Int)) y0_1 h0,E (List Int) y0_2 h1,E (List Int) y0_3 h2,Bx b2 [(.int .i64 g__0),(q0.2).v,(h1).v,(h2).v],E (List (Sh (Int×Int×List Int×List Int))) q0.1 q0.2]) ?_ ?_
 ·
  refine kA (H.rs (α:=List Int) 11 rfl).len ?_
  obtain ⟨a0,e,f3⟩:=aA f1;clear f1
  refine gA e ?_;clear e
  cases a0
  ·
   have f4:=fA f3;clear f3
   replace H:=H.nil (α:=Sh (Int×Int×List Int×List Int))
   exact ⟨([],nilH),⟨rfl,rfl,rfl,rfl,trivial⟩,Option.some.inj f4,H.sel [12,6,2,3,4,5,1,0] rfl⟩
  ·
   have f5:=eA f3;clear f3
   refine kA (H.rs (α:=List Int) 11 rfl).len ?_
   obtain ⟨a1,e,f6⟩:=aA f5;clear f5
   refine qD (α:=Int×Int×List Int×List Int) gok rfl rfl rfl rfl (cE e) H ?_;clear e H;intro h3 w7 hx H
   clear hx
   replace H:=H.frzE (α:=Int×Int×List Int×List Int)
   refine fld gok rfl rfl rfl rfl ?_
   replace H:=H.sel [1,0,2,3,4,5,6,7,8,9,10,11,12] rfl
   refine stB (j:=1) H rfl rfl ?_;clear H;intro w8 H
   exact ⟨(a1,h3),⟨rfl,rfl,rfl,rfl,trivial⟩,Option.some.inj f6,H.sel [12,6,2,3,4,5,0,1] rfl⟩
 ·
  clear f1 H
  rintro T0 ⟨s0,g0⟩ w10 ⟨hr,(H:Cx w0 fp0 S0 w10 [Es (List Int) edges_ edges_h,Bx b0 [(.int .i64 0),(.slice none 0 0),(.slice none 0 0),(.slice none 0 0)],Bx b1 [(.int .i64 y0_0),(h0).v,(h1).v,(h2).v],E (List (Int×Int×List Int×List Int)) y0_1 h0,E (List Int) y0_2 h1,E (List Int) y0_3 h2,Bx b2 [(.int .i64 g__0),(g0).v,(h1).v,(h2).v],E (List (Sh (Int×Int×List Int×List Int))) s0 g0])⟩
  subst hr
  refine sq ?_
  refine kA (H.rs (α:=List Int) 0 rfl).len ?_
  replace H:=H.sel [3,0,1,2,4,5,6,7] rfl
  replace H:=H.frzE (α:=Int×Int×List Int×List Int)
  have x0:=(H.rs (α:=List Int) 1 rfl).max
  obtain ⟨r1,e,f7⟩:=aA f2;clear f2
  refine fB _ edges_.length (fun (k0:Nat) (s1:List (Int×Int×List Int×List Int)) (_:Unit)=>[(6,(.pointer (some ⟨b0,0,none⟩))),(7,(.pointer (some ⟨b1,0,none⟩))),(8,(.pointer (some ⟨b2,0,none⟩))),(30,(edges_h).v),(31,(.int .i64 ((edges_.length:Nat):Int))),(32,(.int .i64 ((k0:Nat):Int)))]) (fun _ (s1:List (Int×Int×List Int×List Int)) (_:Unit) w'=>Cx w0 fp0 S0 w' [Bx b0 [(.int .i64 0),(.slice none 0 0),(.slice none 0 0),(.slice none 0 0)],Bx b1 [(.int .i64 y0_0),(h0).v,(h1).v,(h2).v],E (List (Sh (Int×Int×List Int×List Int))) y0_1 h0,E (List Int) y0_2 h1,E (List Int) y0_3 h2,Bx b2 [(.int .i64 g__0),(g0).v,(h1).v,(h2).v],E (List (Sh (Int×Int×List Int×List Int))) s1 g0,Es (List Int) edges_ edges_h]) s0 () e ⟨rfl,rfl,rfl,rfl,rfl,rfl,trivial⟩ (H.sel [2,3,0,4,5,6,7,1] rfl) ?_ ?_
  ·
   clear H e
   rintro T1 k0 s1 _ w11 o0 hk (H:Cx w0 fp0 S0 w11 [Bx b0 [(.int .i64 0),(.slice none 0 0),(.slice none 0 0),(.slice none 0 0)],Bx b1 [(.int .i64 y0_0),(h0).v,(h1).v,(h2).v],E (List (Sh (Int×Int×List Int×List Int))) y0_1 h0,E (List Int) y0_2 h1,E (List Int) y0_3 h2,Bx b2 [(.int .i64 g__0),(g0).v,(h1).v,(h2).v],E (List (Sh (Int×Int×List Int×List Int))) s1 g0,Es (List Int) edges_ edges_h]) f8
   refine jA (z:=true) (cB hk) ?_
   refine sq ?_
   refine sq ?_
   obtain ⟨a2,e,f9⟩:=aA f8;clear f8
   obtain ⟨p0,m0,c0,c1,c2,c3⟩:=(H.rs (α:=List Int) 7 rfl).at1 e;clear e
   refine dA c0 c1 c2 ?_;clear c0 c1 c2
   refine cA c3 ?_;clear c3
   refine aC H [9] (.fst 0 (.fst 2 (.fst 3 (.fst 5 (.fst 1 (.fst 4 (.fst 6 (.fst 7 (.fst 8 (.act 9 .done)))))))))) vB [] trivial (by kernel_rfl) ?_
   clear H;intro w12 H
   have hX:Ext w12 w12:=Upd.refl _ _
   have H0:=H
   refine xA (fun _=>fld gok rfl rfl rfl rfl ⟨rfl,rfl⟩) ?_
   refine xA (fun _=>fld gok rfl rfl rfl rfl ⟨rfl,rfl⟩) ?_
   refine uA (H.bx 5 rfl (j:=1) rfl) ?_
   refine uA (H.bx 1 rfl (j:=1) rfl) ?_
   obtain ⟨a3,e,f10⟩:=aA f9;clear f9
   have HH:=H;clear H;obtain ⟨p1,m1,g1,c4,c5,c6,c7,H⟩:=HH.ex (α:=Int×Int×List Int×List Int) 2 rfl e;clear HH
   clear e
   obtain ⟨a3_0,a3_1,a3_2,a3_3⟩:=a3
   obtain ⟨_,_,h4,h5⟩:=g1
   replace H:=H.part (β:=List Int) a3_2 (h4:Hd) 0 rfl (fun S h=>(And.left (And.right (And.right h))))
   replace H:=H.part (β:=List Int) a3_3 (h5:Hd) 1 rfl (fun S h=>(And.right (And.right (And.right h))))
   replace H:=H.sel [0,1,3,4,5,6,7,8,9,10] rfl
   refine dA c4 c5 c6 ?_;clear c4 c5 c6
   refine eF [(.int .i64 a3_0),(.int .i64 a3_1),(h4).v,(h5).v] rfl c7 ?_;clear c7
   replace H:=H.dup 1 rfl qA
   replace H:=H.dup 1 rfl qA
   replace H:=H.sel [1,0,2,3,4,5,6,7,8,9,10,11] rfl
   replace H:=H.join (α:=Sh (List Int)) (β:=Sh (List Int))
   replace H:=H.sc (α:=Int) a3_1
   replace H:=H.join (α:=Int) (β:=Sh (List Int)×Sh (List Int))
   replace H:=H.sc (α:=Int) a3_0
   replace H:=H.join (α:=Int) (β:=Int×Sh (List Int)×Sh (List Int))
   replace H:=H.frz
   replace H:=H.reSh (β:=Int×Int×List Int×List Int) (a3_0,a3_1,a3_2,a3_3) ((),(),h4,h5) (fun _ _ h=>h)
   obtain ⟨a4,e,f11⟩:=aA f10;clear f10
   have i1:=e;clear e
   replace H:=H.sel [9,0,1,2,3,4,5,6,7,8,10] rfl
   have HH:=H;clear H;obtain ⟨p2,m2,c8,c9,c10,c11,H⟩:=HH.hole (α:=Sh (Int×Int×List Int×List Int)) i1;clear HH
   refine dA c9 c10 c11 ?_
   refine stXA (α:=Sh (Int×Int×List Int×List Int)) gok [(.int .i64 a3_0),(.int .i64 a3_1),(h4).v,(h5).v] rfl rfl H c9 rfl rfl ?_;clear H;intro w13 H
   replace H:=H.sel [1,0,2,3,4,5,6,7,8,9,10] rfl
   replace H:=H.put c10 i1;clear c9 c10 c11 i1
   refine hold trivial ?_
   refine arK hk x0 ?_
   have hs:=Option.some.inj f11;subst hs;clear f11
   exact ⟨(),⟨rfl,rfl,rfl,rfl,rfl,rfl,trivial⟩,H.sel [3,4,5,6,7,8,0,9] rfl⟩
  ·
   clear H e
   rintro T2 _ w15 (H:Cx w0 fp0 S0 w15 [Bx b0 [(.int .i64 0),(.slice none 0 0),(.slice none 0 0),(.slice none 0 0)],Bx b1 [(.int .i64 y0_0),(h0).v,(h1).v,(h2).v],E (List (Sh (Int×Int×List Int×List Int))) y0_1 h0,E (List Int) y0_2 h1,E (List Int) y0_3 h2,Bx b2 [(.int .i64 g__0),(g0).v,(h1).v,(h2).v],E (List (Sh (Int×Int×List Int×List Int))) r1 g0,Es (List Int) edges_ edges_h])
   refine jA (z:=false) dB ?_
   refine sq ?_
   refine vA [(.int .i64 g__0),(g0).v,(h1).v,(h2).v] rfl (fun j u hj=>H.bx 5 rfl hj) ?_
   refine stA gok [(.int .i64 g__0),(g0).v,(h1).v,(h2).v] rfl H rfl rfl rfl ?_;clear H;intro w16 H
   refine vA [(.int .i64 g__0),(g0).v,(h1).v,(h2).v] rfl (fun j u hj=>H.bx 0 rfl hj) ?_
   replace H:=H.sel [6,0,1,2,3,4,5,7] rfl
   replace H:=Cx.reS (e':=Es (List (Int×Int×List Int×List Int)) r1 g0) rfl H.frz
   replace H:=H.sel [4,0,1,2,3,5,6,7] rfl
   replace H:=H.frz
   replace H:=H.sel [5,0,1,2,3,4,6,7] rfl
   replace H:=H.frz
   cases f7
   exact ⟨_,_,rfl,⟨g0,h1,h2,rfl,rfl⟩,(H.sel [2,1,0] rfl)⟩
theorem B7_ (g__0:Int) (g__1:List (Int×Int×List Int×List Int)) (g__1h:Hd) (g__2:List Int) (g__2h:Hd) (g__3:List Int) (g__3h:Hd) (y_0:Int) (y_1:List (Int×Int×List Int×List Int)) (y_2:List Int) (y_3:List Int) (hF:kN (g__0,g__1,g__2,g__3)=some (y_0,y_1,y_2,y_3)) :
  uD Tryz.prog 61 #[(.agg #[(.int .i64 g__0),(g__1h).v,(g__2h).v,(g__3h).v])] [Es (List (Int×Int×List Int×List Int)) g__1 g__1h,Es (List Int) g__2 g__2h,Es (List Int) g__3 g__3h] [] (fun v Γ'=>∃ z0 z1 z2:Hd,v=(.agg #[(.int .i64 y_0),(z0).v,(z1).v,(z2).v])∧Γ'=[Es (List (Int×Int×List Int×List Int)) y_1 z0,Es (List Int) y_2 z1,Es (List Int) y_3 z2]):=by
 intro w0 S0 fp0 hI hS
 have H:Cx w0 fp0 S0 w0 [Es (List (Int×Int×List Int×List Int)) g__1 g__1h,Es (List Int) g__2 g__2h,Es (List Int) g__3 g__3h]:=Cx.start hI hS
 clear hI hS
 refine lA (args:=[_]) gok Tryz.func61 rfl _ rfl rfl rfl ?_
 refine jB H ?_;clear H;intro b5 w4 hx H
 clear hx
 refine sB gok rfl H ?_;clear H;intro b8 w7 hx H
 clear hx
 refine vA [(.int .i64 g__0),(g__1h).v,(g__2h).v,(g__3h).v] rfl (fun j u hj=>H.bx 1 rfl hj) ?_
 obtain ⟨y0,e,f0⟩:=aA hF;clear hF
 obtain ⟨y0_0,y0_1⟩:=y0
 have i0:=e;clear e
 refine iA (BM_ g__0 g__1 g__1h g__2 g__2h g__3 g__3h y0_0 y0_1 i0) (Γi:=[]) H ⟨Vw.sh 2 rfl,Vw.sh 3 rfl,Vw.sh 4 rfl,trivial⟩ ?_;clear H i0
 rintro _ _ w1 ⟨h0,h1,rfl,rfl⟩ H
 refine vA [(.int .i64 g__0),(g__1h).v,(g__2h).v,(g__3h).v] rfl (fun j u hj=>H.bx 3 rfl hj) ?_
 obtain ⟨y1,e,f1⟩:=aA f0;clear f0
 obtain ⟨y1_0,y1_1,y1_2,y1_3⟩:=y1
 have i1:=e;clear e
 replace H:=H.frz
 replace H:=H.sel [1,0,2,3,4,5,6] rfl
 replace H:=H.frz
 refine aB (BD_ g__0 g__1 g__1h g__2 g__2h g__3 g__3h y0_0 h0 y0_1 h1 y1_0 y1_1 y1_2 y1_3 i1) (Γi:=[]) H [4,5,6,1,0] rfl (wA qA (wA qA (wA qA (wA qA (wA qA zA))))) ?_;clear H i1
 rintro _ _ w2 ⟨h2,h3,h4,rfl,rfl⟩ H
 replace H:=H.sel [5,0,1,2,3,4,6,7,8,9] rfl
 refine stA gok [(.int .i64 y1_0),(h2).v,(h3).v,(h4).v] rfl H rfl rfl rfl ?_;clear H;intro w3 H
 refine vA [(.int .i64 y1_0),(h2).v,(h3).v,(h4).v] rfl (fun j u hj=>H.bx 0 rfl hj) ?_
 cases f1
 exact ⟨_,_,rfl,⟨h2,h3,h4,rfl,rfl⟩,(H.sel [1,2,3] rfl)⟩
theorem Bw_ (x_b:Nat) (x__0_0:Int) (x__0_1:List (Int×Int×List Int×List Int)) (x__0_1h:Hd) (x__0_2:List Int) (x__0_2h:Hd) (x__0_3:List Int) (x__0_3h:Hd) (y0_0:Int) (y0_1:List (Int×Int×List Int×List Int)) (y0_2:List Int) (y0_3:List Int) (y1:Bool) (hF:wQ (x__0_0,x__0_1,x__0_2,x__0_3)=some ((y0_0,y0_1,y0_2,y0_3),y1)) :
  uD Tryz.prog 38 #[(.pointer (some ⟨x_b,0,none⟩))] [Es (List (Int×Int×List Int×List Int)) x__0_1 x__0_1h,Es (List Int) x__0_2 x__0_2h,Es (List Int) x__0_3 x__0_3h] [Bx x_b [(.int .i64 x__0_0),(x__0_1h).v,(x__0_2h).v,(x__0_3h).v]] (fun v Γ'=>∃ z0 z1 z2:Hd,v=(.tuple #[(.agg #[(.int .i64 y0_0),(z0).v,(z1).v,(z2).v]),(.bool y1)])∧Γ'=[Bx x_b [(.int .i64 x__0_0),(x__0_1h).v,(x__0_2h).v,(x__0_3h).v],Es (List (Int×Int×List Int×List Int)) y0_1 z0,Es (List Int) y0_2 z1,Es (List Int) y0_3 z2]):=by
 intro w0 S0 fp0 hI hS
 have H:Cx w0 fp0 S0 w0 [Es (List (Int×Int×List Int×List Int)) x__0_1 x__0_1h,Es (List Int) x__0_2 x__0_2h,Es (List Int) x__0_3 x__0_3h,Bx x_b [(.int .i64 x__0_0),(x__0_1h).v,(x__0_2h).v,(x__0_3h).v]]:=Cx.start hI hS
 clear hI hS
 refine lA (args:=[_]) gok Tryz.func38 rfl _ rfl rfl rfl ?_
 refine sB gok rfl H ?_;clear H;intro b6 w5 hx H
 clear hx
 refine sq ?_
 refine fld gok rfl rfl rfl rfl ?_
 refine vA [(.int .i64 x__0_0),(x__0_1h).v,(x__0_2h).v,(x__0_3h).v] rfl (H.bxs 4 rfl 0 rfl) ?_
 obtain ⟨y8,e,hF9⟩:=aA hF;clear hF
 have ey8:=e;clear e
 refine iA (B5_ x__0_0 x__0_1 x__0_1h x__0_2 x__0_2h x__0_3 x__0_3h y8 ey8) (Γi:=[]) H ⟨Vw.sh 1 rfl,Vw.sh 2 rfl,Vw.sh 3 rfl,trivial⟩ ?_;clear H ey8
 rintro _ _ w1 ⟨rfl,rfl⟩ H
 obtain ⟨a0,e,f0⟩:=aA hF9;clear hF9
 refine gA e ?_;clear e
 cases a0
 ·
  have f1:=fA f0;clear f0
  refine fld gok rfl rfl rfl rfl ?_
  refine vA [(.int .i64 x__0_0),(x__0_1h).v,(x__0_2h).v,(x__0_3h).v] rfl (H.bxs 4 rfl 0 rfl) ?_
  obtain ⟨y0,e,f2⟩:=aA f1;clear f1
  obtain ⟨y0_0,y0_1,y0_2,y0_3⟩:=y0
  have i0:=e;clear e
  refine aB (B7_ x__0_0 x__0_1 x__0_1h x__0_2 x__0_2h x__0_3 x__0_3h y0_0 y0_1 y0_2 y0_3 i0) (Γi:=[]) H [1,2,3] rfl (wA qA (wA qA (wA qA zA))) ?_;clear H i0
  rintro _ _ w2 ⟨h0,h1,h2,rfl,rfl⟩ H
  replace H:=H.sel [3,0,1,2,4,5,6,7] rfl
  refine stA gok [(.int .i64 y0_0),(h0).v,(h1).v,(h2).v] rfl H rfl rfl rfl ?_;clear H;intro w3 H
  refine vA [(.int .i64 y0_0),(h0).v,(h1).v,(h2).v] rfl (fun j u hj=>H.bx 0 rfl hj) ?_
  cases f2
  exact ⟨_,_,rfl,⟨h0,h1,h2,rfl,rfl⟩,(H.sel [7,1,2,3] rfl)⟩
 ·
  have f3:=eA f0;clear f0
  refine tB (cs:=#[(.int .i64 0),(.slice none 0 0),(.slice none 0 0),(.slice none 0 0)]) gok rfl rfl rfl ?_
  refine stA gok [(.int .i64 0),(.slice none 0 0),(.slice none 0 0),(.slice none 0 0)] rfl H rfl rfl rfl ?_;clear H;intro w4 H
  refine vA [(.int .i64 0),(.slice none 0 0),(.slice none 0 0),(.slice none 0 0)] rfl (fun j u hj=>H.bx 0 rfl hj) ?_
  replace H:=H.nil (α:=Int×Int×List Int×List Int)
  replace H:=H.frz
  replace H:=H.nil (α:=Int)
  replace H:=H.frz
  replace H:=H.nil (α:=Int)
  replace H:=H.frz
  cases f3
  exact ⟨_,_,rfl,⟨nilH,nilH,nilH,rfl,rfl⟩,(H.sel [7,2,1,0] rfl)⟩
theorem BE_ (r__0:Int) (r__1:Int) (r__2:List (List Int)) (r__2h:Hd) (y0_0:Int) (y0_1:List (Int×Int×List Int×List Int)) (y0_2:List Int) (y0_3:List Int) (y1:Bool) (hF:dR (r__0,r__1,r__2)=some ((y0_0,y0_1,y0_2,y0_3),y1)) :
  uD Tryz.prog 22 #[(.agg #[(.int .i64 r__0),(.int .i64 r__1),(r__2h).v])] [Es (List (List Int)) r__2 r__2h] [] (fun v Γ'=>∃ z0 z1 z2:Hd,v=(.tuple #[(.agg #[(.int .i64 y0_0),(z0).v,(z1).v,(z2).v]),(.bool y1)])∧Γ'=[Es (List (Int×Int×List Int×List Int)) y0_1 z0,Es (List Int) y0_2 z1,Es (List Int) y0_3 z2]):=by
 intro w0 S0 fp0 hI hS
 have H:Cx w0 fp0 S0 w0 [Es (List (List Int)) r__2 r__2h]:=Cx.start hI hS
 clear hI hS
 refine lA (args:=[_]) gok Tryz.func22 rfl _ rfl rfl rfl ?_
 refine jB H ?_;clear H;intro b3 w2 hx H
 clear hx
 refine sB gok rfl H ?_;clear H;intro b6 w5 hx H
 clear hx
 refine tB (cs:=#[(.int .i64 0),(.slice none 0 0),(.slice none 0 0),(.slice none 0 0)]) gok rfl rfl rfl ?_
 refine jB H ?_;clear H;intro b9 w8 hx H
 clear hx
 refine fld gok rfl rfl rfl rfl ?_
 refine cA (H.bx 2 rfl (j:=0) rfl) ?_
 replace H:=H.nil (α:=Int)
 obtain ⟨y0,e,f0⟩:=aA hF;clear hF
 obtain ⟨y0_0_0,y0_0_1,y0_0_2,y0_0_3⟩:=y0
 have i0:=e;clear e
 replace H:=H.sel [1,0,2,3,4] rfl
 refine iA (Bk_ b9 0 [] (.slice none 0 0) [] nilH [] (.slice none 0 0) r__0 y0_0_0 y0_0_1 y0_0_2 y0_0_3 i0) (Γi:=[Bx b9 [(.int .i64 0),(.slice none 0 0),(nilH).v,(.slice none 0 0)],E (List Int) [] nilH]) H trivial ?_;clear H i0
 rintro _ _ w1 ⟨h0,rfl,rfl⟩ H
 refine sq ?_
 refine fld gok rfl rfl rfl rfl ?_
 refine cA (H.bx 3 rfl (j:=2) rfl) ?_
 refine kA (H.rs (α:=List (List Int)) 4 rfl).len ?_
 have x0:=(H.rs (α:=List (List Int)) 4 rfl).max
 obtain ⟨r0,e,f1⟩:=aA f0;clear f0
 replace H:=H.nil (α:=Sh (Int×Int×List Int×List Int))
 replace H:=H.nil (α:=Int)
 refine fB _ r__2.length (fun (k0:Nat) (s0:Int×(List (Int×Int×List Int×List Int))×List Int) (g0:Hd×Hd)=>[(1,(.pointer (some ⟨b3,0,none⟩))),(2,(.pointer (some ⟨b6,0,none⟩))),(4,(.pointer (some ⟨b9,0,none⟩))),(5,(g0.2).v),(19,(.int .i64 ((r__2.length:Nat):Int))),(20,(.int .i64 ((k0:Nat):Int)))]) (fun _ (s0:Int×(List (Int×Int×List Int×List Int))×List Int) (g0:Hd×Hd) w'=>Cx w0 fp0 S0 w' [Bx b3 [(.int .i64 r__0),(.int .i64 r__1),(r__2h).v],Es (List (List Int)) r__2 r__2h,Bx b6 [(.int .i64 0),(.slice none 0 0),(.slice none 0 0),(.slice none 0 0)],Bx b9 [(.int .i64 s0.1),(g0.1).v,(h0).v,(.slice none 0 0)],E (List (Sh (Int×Int×List Int×List Int))) s0.2.1 g0.1,E (List Int) y0_0_2 h0,E (List Int) s0.2.2 g0.2]) (y0_0_0,[],[]) (nilH,nilH) e ⟨rfl,rfl,rfl,rfl,rfl,rfl,trivial⟩ (H.sel [5,6,4,2,1,3,0] rfl) ?_ ?_
 ·
  clear H e
  rintro T0 k0 ⟨s0_0,s0_1,s0_2⟩ ⟨g0_0,g0_1⟩ w3 o0 hk (H:Cx w0 fp0 S0 w3 [Bx b3 [(.int .i64 r__0),(.int .i64 r__1),(r__2h).v],Es (List (List Int)) r__2 r__2h,Bx b6 [(.int .i64 0),(.slice none 0 0),(.slice none 0 0),(.slice none 0 0)],Bx b9 [(.int .i64 s0_0),(g0_0).v,(h0).v,(.slice none 0 0)],E (List (Sh (Int×Int×List Int×List Int))) s0_1 g0_0,E (List Int) y0_0_2 h0,E (List Int) s0_2 g0_1]) f2
  refine jA (z:=true) (cB hk) ?_
  refine sq ?_
  refine sq ?_
  obtain ⟨y2,e,f3⟩:=aA f2;clear f2
  obtain ⟨⟨y2_0_0_0,y2_0_0_1,y2_0_0_2,y2_0_0_3⟩,y2_1⟩:=y2
  have i1:=e;clear e
  replace H:=H.sel [3,0,1,2,4,5,6] rfl
  refine iA (sG b9 s0_0 s0_1 ((g0_0).v) y0_0_2 ((h0).v) [] (.slice none 0 0) y2_0_0_0 y2_0_0_1 y2_0_0_2 y2_0_0_3 y2_1 i1) (Γi:=[Bx b9 [(.int .i64 s0_0),(g0_0).v,(h0).v,(.slice none 0 0)]]) H trivial ?_;clear H i1
  rintro _ _ w4 ⟨rfl,rfl⟩ H
  refine bB (α:=Int) gok rfl rfl rfl rfl H ?_;clear H;intro h1 w6 hx H
  clear hx
  replace H:=H.nil (α:=Int)
  obtain ⟨y3,e,f4⟩:=aA f3;clear f3
  obtain ⟨y3_0_0,y3_0_1,y3_0_2,y3_0_3⟩:=y3
  have i2:=e;clear e
  replace H:=H.frz
  replace H:=H.sel [1,0,2,3,4,5,6,7,8] rfl
  replace H:=H.frz
  replace H:=H.sel [2,6,0,1,3,4,5,7,8] rfl
  refine aB (qH b9 y2_0_0_0 s0_1 g0_0 y0_0_2 ((h0).v) [] (.slice none 0 0) 10 0 [] nilH [y2_1] h1 y3_0_0 y3_0_1 y3_0_2 y3_0_3 i2) (Γi:=[Bx b9 [(.int .i64 y2_0_0_0),(g0_0).v,(h0).v,(.slice none 0 0)],E (List (Sh (Int×Int×List Int×List Int))) s0_1 g0_0]) H [1,0] rfl (wA qA (wA qA zA)) ?_;clear H i2
  rintro _ _ w7 ⟨h2,rfl,rfl⟩ H
  refine bB (α:=Int) gok rfl rfl rfl rfl H ?_;clear H;intro h3 w9 hx H
  clear hx
  obtain ⟨a0,e,f5⟩:=aA f4;clear f4
  replace H:=H.sel [9,0,1,2,3,4,5,6,7,8] rfl
  refine append_ (α:=Int) gok rfl rfl rfl rfl H e ?_;clear e H;intro h4 w10 H
  refine arK hk x0 ?_
  have hs:=Option.some.inj f5;subst hs;clear f5
  exact ⟨(h2,h4),⟨rfl,rfl,rfl,rfl,rfl,rfl,trivial⟩,H.sel [5,6,7,1,2,8,0] rfl⟩
 ·
  clear H e
  obtain ⟨s1_0,s1_1,s1_2⟩:=r0
  rintro T1 ⟨g1_0,g1_1⟩ w11 (H:Cx w0 fp0 S0 w11 [Bx b3 [(.int .i64 r__0),(.int .i64 r__1),(r__2h).v],Es (List (List Int)) r__2 r__2h,Bx b6 [(.int .i64 0),(.slice none 0 0),(.slice none 0 0),(.slice none 0 0)],Bx b9 [(.int .i64 s1_0),(g1_0).v,(h0).v,(.slice none 0 0)],E (List (Sh (Int×Int×List Int×List Int))) s1_1 g1_0,E (List Int) y0_0_2 h0,E (List Int) s1_2 g1_1])
  refine jA (z:=false) dB ?_
  refine sq ?_
  refine fld gok rfl rfl rfl rfl ?_
  refine cA (H.bx 0 rfl (j:=2) rfl) ?_
  refine fld gok rfl rfl rfl rfl ?_
  refine cA (H.bx 0 rfl (j:=0) rfl) ?_
  refine fld gok rfl rfl rfl rfl ?_
  refine cA (H.bx 0 rfl (j:=1) rfl) ?_
  obtain ⟨a1,e,f6⟩:=aA f1;clear f1
  refine arO e ?_;clear e
  obtain ⟨y4,e,f7⟩:=aA f6;clear f6
  obtain ⟨⟨y4_0_0_0,y4_0_0_1,y4_0_0_2,y4_0_0_3⟩,y4_1⟩:=y4
  have i3:=e;clear e
  replace H:=H.sel [6,0,1,2,3,4,5] rfl
  replace H:=H.frz
  replace H:=H.sel [4,5,0,1,2,3,6] rfl
  refine aB (Bj_ b9 s1_0 s1_1 g1_0 y0_0_2 ((h0).v) [] (.slice none 0 0) s1_2 g1_1 r__2 r__2h a1 y4_0_0_0 y4_0_0_1 y4_0_0_2 y4_0_0_3 y4_1 i3) (Γi:=[Bx b9 [(.int .i64 s1_0),(g1_0).v,(h0).v,(.slice none 0 0)],E (List (Sh (Int×Int×List Int×List Int))) s1_1 g1_0]) H [0,2] rfl (wA qA (wA qA zA)) ?_;clear H i3
  rintro _ _ w12 ⟨h5,h6,rfl,rfl⟩ H
  refine sq ?_
  refine fld gok rfl rfl rfl rfl ?_
  refine fld gok rfl rfl rfl rfl ?_
  refine cA (H.bx 0 rfl (j:=2) rfl) ?_
  refine kA (H.ro (α:=List Int) 7 rfl).len ?_
  have x1:=(H.ro (α:=List Int) 7 rfl).max
  obtain ⟨r1,e,f8⟩:=aA f7;clear f7
  refine fB _ y0_0_2.length (fun (k1:Nat) (s2:Int×(List (Int×Int×List Int×List Int))) (g2:Hd)=>[(1,(.pointer (some ⟨b3,0,none⟩))),(2,(.pointer (some ⟨b6,0,none⟩))),(4,(.pointer (some ⟨b9,0,none⟩))),(7,(h6).v),(47,(h0).v),(48,(.int .i64 ((y0_0_2.length:Nat):Int))),(49,(.int .i64 ((k1:Nat):Int)))]) (fun _ (s2:Int×(List (Int×Int×List Int×List Int))) (g2:Hd) w'=>Cx w0 fp0 S0 w' [Bx b3 [(.int .i64 r__0),(.int .i64 r__1),(r__2h).v],Es (List (List Int)) r__2 r__2h,Bx b6 [(.int .i64 0),(.slice none 0 0),(.slice none 0 0),(.slice none 0 0)],Bx b9 [(.int .i64 s2.1),(g2).v,(h0).v,(.slice none 0 0)],E (List (Sh (Int×Int×List Int×List Int))) s2.2 g2,E (List Int) y0_0_2 h0,Es (List Int) y4_1 h6]) (y4_0_0_0,y4_0_0_1) h5 e ⟨rfl,rfl,rfl,rfl,rfl,rfl,rfl,trivial⟩ (H.sel [4,5,6,0,1,7,2] rfl) ?_ ?_
  ·
   clear H e
   rintro T2 k1 ⟨s2_0,s2_1⟩ g2 w13 o1 hk (H:Cx w0 fp0 S0 w13 [Bx b3 [(.int .i64 r__0),(.int .i64 r__1),(r__2h).v],Es (List (List Int)) r__2 r__2h,Bx b6 [(.int .i64 0),(.slice none 0 0),(.slice none 0 0),(.slice none 0 0)],Bx b9 [(.int .i64 s2_0),(g2).v,(h0).v,(.slice none 0 0)],E (List (Sh (Int×Int×List Int×List Int))) s2_1 g2,E (List Int) y0_0_2 h0,Es (List Int) y4_1 h6]) f9
   refine jA (z:=true) (cB hk) ?_
   refine sq ?_
   refine sq ?_
   obtain ⟨a2,e,f10⟩:=aA f9;clear f9
   obtain ⟨p0,m0,c0,c1,c2,c3⟩:=(H.ro (α:=List Int) 5 rfl).at1 e;clear e
   refine dA c0 c1 c2 ?_;clear c0 c1 c2
   refine cA c3 ?_;clear c3
   obtain ⟨y5,e,f11⟩:=aA f10;clear f10
   obtain ⟨⟨y5_0_0_0,y5_0_0_1,y5_0_0_2,y5_0_0_3⟩,y5_1⟩:=y5
   have i4:=e;clear e
   replace H:=H.sel [3,0,1,2,4,5,6] rfl
   refine iA (sG b9 s2_0 s2_1 ((g2).v) y0_0_2 ((h0).v) [] (.slice none 0 0) y5_0_0_0 y5_0_0_1 y5_0_0_2 y5_0_0_3 y5_1 i4) (Γi:=[Bx b9 [(.int .i64 s2_0),(g2).v,(h0).v,(.slice none 0 0)]]) H trivial ?_;clear H i4
   rintro _ _ w15 ⟨rfl,rfl⟩ H
   obtain ⟨a3,e,f12⟩:=aA f11;clear f11
   obtain ⟨p1,m1,c4,c5,c6,c7⟩:=(H.rs (α:=List Int) 6 rfl).at1 e;clear e
   refine dA c4 c5 c6 ?_;clear c4 c5 c6
   refine cA c7 ?_;clear c7
   replace H:=H.sc (α:=Int) a3
   replace H:=H.sc (α:=Int) a2
   refine rC (α:=Int) (us:=[(.int .i64 a2),(.int .i64 a3)]) (xs:=[a2,a3]) (gs:=[(),()]) gok rfl rfl rfl ⟨rfl,rfl,trivial⟩ rfl rfl H ?_;clear H;intro h7 w16 hx H
   clear hx
   refine bB (α:=Int) gok rfl rfl rfl rfl H ?_;clear H;intro h8 w17 hx H
   clear hx
   obtain ⟨y6,e,f13⟩:=aA f12;clear f12
   obtain ⟨y6_0_0,y6_0_1,y6_0_2,y6_0_3⟩:=y6
   have i5:=e;clear e
   replace H:=H.sel [1,0,2,3,4,5,6,7,8] rfl
   replace H:=H.frz
   replace H:=H.sel [1,0,2,3,4,5,6,7,8] rfl
   replace H:=H.frz
   replace H:=H.sel [2,6,0,1,3,4,5,7,8] rfl
   refine aB (qH b9 y5_0_0_0 s2_1 g2 y0_0_2 ((h0).v) [] (.slice none 0 0) 9 0 [a2,a3] h7 [y5_1] h8 y6_0_0 y6_0_1 y6_0_2 y6_0_3 i5) (Γi:=[Bx b9 [(.int .i64 y5_0_0_0),(g2).v,(h0).v,(.slice none 0 0)],E (List (Sh (Int×Int×List Int×List Int))) s2_1 g2]) H [1,0] rfl (wA qA (wA qA zA)) ?_;clear H i5
   rintro _ _ w18 ⟨h9,rfl,rfl⟩ H
   refine bB (α:=Int) gok rfl rfl rfl rfl H ?_;clear H;intro h10 w19 hx H
   clear hx
   replace H:=H.nil (α:=Int)
   obtain ⟨y7,e,f14⟩:=aA f13;clear f13
   obtain ⟨y7_0_0,y7_0_1,y7_0_2,y7_0_3⟩:=y7
   have i6:=e;clear e
   replace H:=H.sel [1,0,2,3,4,5,6,7,8,9,10] rfl
   replace H:=H.frz
   replace H:=H.sel [1,0,2,3,4,5,6,7,8,9,10] rfl
   replace H:=H.frz
   replace H:=H.sel [2,3,0,1,4,5,6,7,8,9,10] rfl
   refine aB (qH b9 y6_0_0 y6_0_1 h9 y0_0_2 ((h0).v) [] (.slice none 0 0) 4 0 [y5_1] h10 [] nilH y7_0_0 y7_0_1 y7_0_2 y7_0_3 i6) (Γi:=[Bx b9 [(.int .i64 y6_0_0),(h9).v,(h0).v,(.slice none 0 0)],E (List (Sh (Int×Int×List Int×List Int))) y6_0_1 h9]) H [1,0] rfl (wA qA (wA qA zA)) ?_;clear H i6
   rintro _ _ w20 ⟨h11,rfl,rfl⟩ H
   refine arK hk x1 ?_
   have hs:=Option.some.inj f14;subst hs;clear f14
   exact ⟨h11,⟨rfl,rfl,rfl,rfl,rfl,rfl,rfl,trivial⟩,H.sel [6,7,8,0,1,9,10] rfl⟩
  ·
   clear H e
   obtain ⟨s3_0,s3_1⟩:=r1
   rintro T3 g3 w21 (H:Cx w0 fp0 S0 w21 [Bx b3 [(.int .i64 r__0),(.int .i64 r__1),(r__2h).v],Es (List (List Int)) r__2 r__2h,Bx b6 [(.int .i64 0),(.slice none 0 0),(.slice none 0 0),(.slice none 0 0)],Bx b9 [(.int .i64 s3_0),(g3).v,(h0).v,(.slice none 0 0)],E (List (Sh (Int×Int×List Int×List Int))) s3_1 g3,E (List Int) y0_0_2 h0,Es (List Int) y4_1 h6])
   refine jA (z:=false) dB ?_
   refine sq ?_
   refine fld gok rfl rfl rfl rfl ?_
   refine cA (H.bx 0 rfl (j:=0) rfl) ?_
   obtain ⟨a4,e,f15⟩:=aA f8;clear f8
   refine slS (α:=Int) (hi:=none) gok rfl rfl H 6 rfl e rfl (congrArg (fun n:Nat=>some (n:Int)) (H.rs (α:=List Int) 6 rfl).len) ?_;clear e H;intro h12 H
   obtain ⟨y8,e,f16⟩:=aA f15;clear f15
   have i7:=e;clear e
   refine iA (dW a4 h12 y8 i7) (Γi:=[]) H ⟨Vw.sh 0 rfl,trivial⟩ ?_;clear H i7
   rintro _ _ w22 ⟨h13,rfl,rfl⟩ H
   refine fld gok rfl rfl rfl rfl ?_
   refine fld gok rfl rfl rfl rfl ?_
   replace H:=H.sel [5,0,1,2,3,4,6,7,8] rfl
   refine stB (j:=3) H rfl rfl ?_;clear H;intro w23 H
   obtain ⟨y9,e,f17⟩:=aA f16;clear f16
   obtain ⟨⟨y9_0_0,y9_0_1,y9_0_2,y9_0_3⟩,y9_1⟩:=y9
   have i8:=e;clear e
   replace H:=H.sel [6,0,1,2,3,4,5,7,8] rfl
   replace H:=Cx.reS (e':=Es (List (Int×Int×List Int×List Int)) s3_1 g3) rfl H.frz
   replace H:=H.sel [7,0,1,2,3,4,5,6,8] rfl
   replace H:=H.frz
   replace H:=H.sel [3,0,1,2,4,5,6,7,8] rfl
   replace H:=H.frz
   replace H:=H.sel [3,0,1,2,4,5,6,7,8] rfl
   refine aB (Bw_ b9 s3_0 s3_1 g3 y0_0_2 h0 y8 h13 y9_0_0 y9_0_1 y9_0_2 y9_0_3 y9_1 i8) (Γi:=[Bx b9 [(.int .i64 s3_0),(g3).v,(h0).v,(h13).v]]) H [2,1,0] rfl (wA qA (wA qA (wA qA zA))) ?_;clear H i8
   rintro _ _ w24 ⟨h14,h16,h17,rfl,rfl⟩ H
   replace H:=H.sel [10,0,1,2,3,4,5,6,7,8,9,11] rfl
   refine stA gok [(.int .i64 y9_0_0),(h14).v,(h16).v,(h17).v] rfl H rfl rfl rfl ?_;clear H;intro w25 H
   refine vA [(.int .i64 y9_0_0),(h14).v,(h16).v,(h17).v] rfl (fun j u hj=>H.bx 0 rfl hj) ?_
   cases f17
   exact ⟨_,_,rfl,⟨h14,h16,h17,rfl,rfl⟩,(H.sel [2,3,4] rfl)⟩
theorem Bl_ (p_:Int) (r__0:Int) (r__1:Int) (r__2:List (List Int)) (r__2h:Hd) (y0_0:Int) (y0_1:List (Int×Int×List Int×List Int)) (y0_2:List Int) (y0_3:List Int) (y1:Bool) (hF:vM p_ (r__0,r__1,r__2)=some ((y0_0,y0_1,y0_2,y0_3),y1)) :
  uD Tryz.prog 6 #[(.int .i64 p_),(.agg #[(.int .i64 r__0),(.int .i64 r__1),(r__2h).v])] [Es (List (List Int)) r__2 r__2h] [] (fun v Γ'=>∃ z0 z1 z2:Hd,v=(.tuple #[(.agg #[(.int .i64 y0_0),(z0).v,(z1).v,(z2).v]),(.bool y1)])∧Γ'=[Es (List (Int×Int×List Int×List Int)) y0_1 z0,Es (List Int) y0_2 z1,Es (List Int) y0_3 z2]):=by
 intro w0 S0 fp0 hI hS
 have H:Cx w0 fp0 S0 w0 [Es (List (List Int)) r__2 r__2h]:=Cx.start hI hS
 clear hI hS
 refine lA (args:=[_,_]) gok Tryz.func6 rfl _ rfl rfl rfl ?_
 refine jB H ?_;clear H;intro b3 w2 hx H
 clear hx
 refine sB gok rfl H ?_;clear H;intro b6 w5 hx H
 clear hx
 refine sq ?_
 obtain ⟨r0,f0,f1⟩:=aA hF;clear hF
 refine cut (fun (q0:Bool)=>[(3,(.pointer (some ⟨b3,0,none⟩))),(4,(.pointer (some ⟨b6,0,none⟩))),(19,(.bool q0))]) (fun (q0:Bool) w'=>q0=r0∧Cx w0 fp0 S0 w' [Bx b3 [(.int .i64 r__0),(.int .i64 r__1),(r__2h).v],Es (List (List Int)) r__2 r__2h,Bx b6 [(.int .i64 0),(.slice none 0 0),(.slice none 0 0),(.slice none 0 0)]]) ?_ ?_
 ·
  refine vA [(.int .i64 r__0),(.int .i64 r__1),(r__2h).v] rfl (fun j u hj=>H.bx 1 rfl hj) ?_
  obtain ⟨y0,e,f2⟩:=aA f0;clear f0
  have i0:=e;clear e
  refine iA (Cj_ p_ r__0 r__1 r__2 r__2h y0 i0) (Γi:=[]) H ⟨Vw.sh 2 rfl,trivial⟩ ?_;clear H i0
  rintro _ _ w1 ⟨rfl,rfl⟩ H
  obtain ⟨a0,e,f3⟩:=aA f2;clear f2
  refine gA e ?_;clear e
  cases a0
  ·
   have f4:=fA f3;clear f3
   refine fld gok rfl rfl rfl rfl ?_
   refine cA (H.bx 1 rfl (j:=0) rfl) ?_
   obtain ⟨a1,e,f5⟩:=aA f4;clear f4
   refine gA e ?_;clear e
   cases a1
   ·
    have f6:=fA f5;clear f5
    refine fld gok rfl rfl rfl rfl ?_
    refine cA (H.bx 1 rfl (j:=1) rfl) ?_
    obtain ⟨a2,e,f7⟩:=aA f6;clear f6
    refine gA e ?_;clear e
    exact ⟨a2,⟨rfl,rfl,rfl,trivial⟩,Option.some.inj f7,H.sel [1,2,0] rfl⟩
   ·
    have f8:=eA f5;clear f5
    exact ⟨true,⟨rfl,rfl,rfl,trivial⟩,Option.some.inj f8,H.sel [1,2,0] rfl⟩
  ·
   have f9:=eA f3;clear f3
   exact ⟨true,⟨rfl,rfl,rfl,trivial⟩,Option.some.inj f9,H.sel [1,2,0] rfl⟩
 ·
  clear f0 H
  rintro T0 s0 w3 ⟨hr,(H:Cx w0 fp0 S0 w3 [Bx b3 [(.int .i64 r__0),(.int .i64 r__1),(r__2h).v],Es (List (List Int)) r__2 r__2h,Bx b6 [(.int .i64 0),(.slice none 0 0),(.slice none 0 0),(.slice none 0 0)]])⟩
  subst hr
  cases s0
  ·
   have f10:=fA f1;clear f1
   refine vA [(.int .i64 r__0),(.int .i64 r__1),(r__2h).v] rfl (fun j u hj=>H.bx 0 rfl hj) ?_
   obtain ⟨y2,e,f11⟩:=aA f10;clear f10
   obtain ⟨⟨y2_0_0,y2_0_1,y2_0_2,y2_0_3⟩,y2_1⟩:=y2
   have i1:=e;clear e
   refine aB (BE_ r__0 r__1 r__2 r__2h y2_0_0 y2_0_1 y2_0_2 y2_0_3 y2_1 i1) (Γi:=[]) H [1] rfl (wA qA zA) ?_;clear H i1
   rintro _ _ w4 ⟨h0,h1,h2,rfl,rfl⟩ H
   replace H:=H.sel [5,0,1,2,3,4] rfl
   refine stA gok [(.int .i64 y2_0_0),(h0).v,(h1).v,(h2).v] rfl H rfl rfl rfl ?_;clear H;intro w6 H
   refine vA [(.int .i64 y2_0_0),(h0).v,(h1).v,(h2).v] rfl (fun j u hj=>H.bx 0 rfl hj) ?_
   cases f11
   exact ⟨_,_,rfl,⟨h0,h1,h2,rfl,rfl⟩,(H.sel [1,2,3] rfl)⟩
  ·
   have f12:=eA f1;clear f1
   refine tB (cs:=#[(.int .i64 0),(.slice none 0 0),(.slice none 0 0),(.slice none 0 0)]) gok rfl rfl rfl ?_
   replace H:=H.sel [2,0,1] rfl
   refine stA gok [(.int .i64 0),(.slice none 0 0),(.slice none 0 0),(.slice none 0 0)] rfl H rfl rfl rfl ?_;clear H;intro w7 H
   refine vA [(.int .i64 0),(.slice none 0 0),(.slice none 0 0),(.slice none 0 0)] rfl (fun j u hj=>H.bx 0 rfl hj) ?_
   replace H:=H.nil (α:=Int×Int×List Int×List Int)
   replace H:=H.frz
   replace H:=H.nil (α:=Int)
   replace H:=H.frz
   replace H:=H.nil (α:=Int)
   replace H:=H.frz
   cases f12
   exact ⟨_,_,rfl,⟨nilH,nilH,nilH,rfl,rfl⟩,(H.sel [2,1,0] rfl)⟩
theorem Cc_ (p_:Int) (y:Bool) (hF:nN p_=some y) :
  nA Tryz.prog 50 #[(.int .i64 p_)] [Gl 0 [.int .i64 2,.int .i64 3,.int .i64 5,.int .i64 7]] [] (fun v Γ'=>v=(.bool y)∧Γ'=[]):=by
 intro w0 S0 fp0 hI hS
 have H:Cx w0 fp0 S0 w0 [Gl 0 [.int .i64 2,.int .i64 3,.int .i64 5,.int .i64 7]]:=Cx.start hI hS
 clear hI hS
 refine lA (args:=[_]) gok Tryz.func50 rfl _ rfl rfl rfl ?_
 refine sq ?_
 obtain ⟨r0,f0,f1⟩:=aA hF;clear hF
 refine cut (fun (q0:Bool)=>[(0,(.int .i64 p_)),(10,(.bool q0))]) (fun (q0:Bool) w'=>q0=r0∧Cx w0 fp0 S0 w' [Gl 0 [.int .i64 2,.int .i64 3,.int .i64 5,.int .i64 7]]) ?_ ?_
 ·
  obtain ⟨a0,e,f2⟩:=aA f0;clear f0
  refine gA e ?_;clear e
  cases a0
  ·
   have f3:=fA f2;clear f2
   obtain ⟨a1,e,f4⟩:=aA f3;clear f3
   refine gA e ?_;clear e
   exact ⟨a1,⟨rfl,rfl,trivial⟩,Option.some.inj f4,H.sel [0] rfl⟩
  ·
   have f5:=eA f2;clear f2
   exact ⟨true,⟨rfl,rfl,trivial⟩,Option.some.inj f5,H.sel [0] rfl⟩
 ·
  clear f0 H
  rintro T0 s8 w1 ⟨hr,(H:Cx w0 fp0 S0 w1 [Gl 0 [.int .i64 2,.int .i64 3,.int .i64 5,.int .i64 7]])⟩
  subst hr
  cases s8
  ·
   have f6:=fA f1;clear f1
   refine sq ?_
   refine vA [.int .i64 2,.int .i64 3,.int .i64 5,.int .i64 7] rfl (H.gl 0 rfl) ?_
   obtain ⟨a2,hn56,f7⟩:=aA f6;clear f6
   obtain ⟨r1,e,f8⟩:=aA f7;clear f7
   refine qF _ ((4:Int).toNat) (fun (k0:Nat) (_:Unit) (_:Unit)=>[(0,(.int .i64 p_)),(11,(.agg #[.int .i64 2,.int .i64 3,.int .i64 5,.int .i64 7])),(12,(.int .i64 ((k0:Nat):Int)))]) (fun _ (_:Unit) (_:Unit) w'=>Cx w0 fp0 S0 w' [Gl 0 [.int .i64 2,.int .i64 3,.int .i64 5,.int .i64 7]]) () () e ⟨rfl,rfl,rfl,trivial⟩ (H.sel [0] rfl) ?_ ?_
   ·
    clear H e
    rintro T1 k0 _ _ w2 o0 hk (H:Cx w0 fp0 S0 w2 [Gl 0 [.int .i64 2,.int .i64 3,.int .i64 5,.int .i64 7]]) hrt f9
    refine jA (z:=true) (ltNat hk) ?_
    refine sq ?_
    refine sq ?_
    obtain ⟨a3,e,f10⟩:=aA f9;clear f9
    refine indexI gok rfl rfl rfl rfl rfl e ?_;clear e
    obtain ⟨r2,f11,f12⟩:=aA f10;clear f10
    refine cut (fun (q1:Bool)=>[(0,(.int .i64 p_)),(11,(.agg #[.int .i64 2,.int .i64 3,.int .i64 5,.int .i64 7])),(12,(.int .i64 ((k0:Nat):Int))),(23,(.bool q1))]) (fun (q1:Bool) w'=>q1=r2∧Cx w0 fp0 S0 w' [Gl 0 [.int .i64 2,.int .i64 3,.int .i64 5,.int .i64 7]]) ?_ ?_
    ·
     obtain ⟨a4,e,f13⟩:=aA f11;clear f11
     refine aG e ?_;clear e
     obtain ⟨a5,e,f14⟩:=aA f13;clear f13
     refine gA e ?_;clear e
     cases a5
     ·
      have f15:=fA f14;clear f14
      exact ⟨false,⟨rfl,rfl,rfl,rfl,trivial⟩,Option.some.inj f15,H.sel [0] rfl⟩
     ·
      have f16:=eA f14;clear f14
      obtain ⟨a6,e,f17⟩:=aA f16;clear f16
      refine gA e ?_;clear e
      exact ⟨a6,⟨rfl,rfl,rfl,rfl,trivial⟩,Option.some.inj f17,H.sel [0] rfl⟩
    ·
     clear f11 H
     rintro T2 s0 w3 ⟨hr,(H:Cx w0 fp0 S0 w3 [Gl 0 [.int .i64 2,.int .i64 3,.int .i64 5,.int .i64 7]])⟩
     subst hr
     cases s0
     ·
      have f18:=fA f12;clear f12
      refine arK hk (maxI hn56) ?_
      have hs:=Option.some.inj f18;subst hs;clear f18
      exact ⟨(),(),rfl,⟨rfl,rfl,rfl,trivial⟩,H.sel [0] rfl⟩
     ·
      have f19:=eA f12;clear f12
      have hs:=Option.some.inj f19;subst hs;clear f19
      have hr:=hrt _ rfl;subst hr
      have f20:some _=some _:=f8
      cases f20
      exact ⟨_,_,rfl,⟨rfl,rfl⟩,(H.sel [] rfl).close trivial⟩
   ·
    clear H e
    rintro T3 _ _ w4 hr (H:Cx w0 fp0 S0 w4 [Gl 0 [.int .i64 2,.int .i64 3,.int .i64 5,.int .i64 7]])
    subst hr
    refine jA (z:=false) geNat ?_
    refine sq ?_
    cases f8
    exact ⟨_,_,rfl,⟨rfl,rfl⟩,(H.sel [] rfl).close trivial⟩
  ·
   have f21:=eA f1;clear f1
   cases f21
   exact ⟨_,_,rfl,⟨rfl,rfl⟩,(H.sel [] rfl).close trivial⟩
theorem uI (n_:Int) (low_:Int) (high_:Int) (y:Bool) (hF:iE n_ low_ high_=some y) :
  nA Tryz.prog 62 #[(.int .i64 n_),(.int .i64 low_),(.int .i64 high_)] [] [] (fun v Γ'=>v=(.bool y)∧Γ'=[]):=by
 intro w0 S0 fp0 hI hS
 have H:Cx w0 fp0 S0 w0 []:=Cx.start hI hS
 clear hI hS
 refine lA (args:=[_,_,_]) gok Tryz.func62 rfl _ rfl rfl rfl ?_
 obtain ⟨r9,f0,f1⟩:=aA hF;clear hF
 refine cut (fun (q0:Bool)=>[(6,(.bool q0))]) (fun (q0:Bool) w'=>q0=r9∧Cx w0 fp0 S0 w' []) ?_ ?_
 ·
  obtain ⟨a0,e,f2⟩:=aA f0;clear f0
  refine gA e ?_;clear e
  cases a0
  ·
   have f3:=fA f2;clear f2
   exact ⟨false,⟨rfl,trivial⟩,Option.some.inj f3,H.sel [] rfl⟩
  ·
   have f4:=eA f2;clear f2
   obtain ⟨a1,e,f5⟩:=aA f4;clear f4
   refine gA e ?_;clear e
   exact ⟨a1,⟨rfl,trivial⟩,Option.some.inj f5,H.sel [] rfl⟩
 ·
  clear f0 H
  rintro T0 s7 w1 ⟨hr,(H:Cx w0 fp0 S0 w1 [])⟩
  subst hr
  cases f1
  exact ⟨_,_,rfl,⟨rfl,rfl⟩,(H.sel [] rfl).close trivial⟩
theorem CQ_ (left_:Int) (right_:Int) (y:Bool) (hF:wS left_ right_=some y) :
  nA Tryz.prog 51 #[(.int .i64 left_),(.int .i64 right_)] [] [] (fun v Γ'=>v=(.bool y)∧Γ'=[]):=by
 intro w0 S0 fp0 hI hS
 have H:Cx w0 fp0 S0 w0 []:=Cx.start hI hS
 clear hI hS
 refine lA (args:=[_,_]) gok Tryz.func51 rfl _ rfl rfl rfl ?_
 obtain ⟨r0,f0,f1⟩:=aA hF;clear hF
 refine cut (fun (q0:Bool)=>[(4,(.bool q0))]) (fun (q0:Bool) w'=>q0=r0∧Cx w0 fp0 S0 w' []) ?_ ?_
 ·
  obtain ⟨y0,e,f2⟩:=aA f0;clear f0
  have i0:=e;clear e
  refine iA (uI left_ 0 24 y0 i0) (Γi:=[]) H trivial ?_;clear H i0
  rintro _ _ w1 ⟨rfl,rfl⟩ H
  cases y0
  ·
   have f3:=fA f2;clear f2
   exact ⟨false,⟨rfl,trivial⟩,Option.some.inj f3,H.sel [] rfl⟩
  ·
   have f4:=eA f2;clear f2
   obtain ⟨y1,e,f5⟩:=aA f4;clear f4
   have i1:=e;clear e
   refine iA (uI right_ 0 24 y1 i1) (Γi:=[]) H trivial ?_;clear H i1
   rintro _ _ w2 ⟨rfl,rfl⟩ H
   cases y1
   ·
    have f6:=fA f5;clear f5
    exact ⟨false,⟨rfl,trivial⟩,Option.some.inj f6,H.sel [] rfl⟩
   ·
    have f7:=eA f5;clear f5
    obtain ⟨a0,e,f8⟩:=aA f7;clear f7
    refine arO e ?_;clear e
    obtain ⟨a1,e,f9⟩:=aA f8;clear f8
    refine gA e ?_;clear e
    exact ⟨a1,⟨rfl,trivial⟩,Option.some.inj f9,H.sel [] rfl⟩
 ·
  clear f0 H
  rintro T0 s0 w3 ⟨hr,(H:Cx w0 fp0 S0 w3 [])⟩
  subst hr
  cases f1
  exact ⟨_,_,rfl,⟨rfl,rfl⟩,(H.sel [] rfl).close trivial⟩
theorem BV_ (p_:Int) (a_:Int) (y:Bool) (hF:fN p_ a_=some y) :
  nA Tryz.prog 94 #[(.int .i64 p_),(.int .i64 a_)] [] [] (fun v Γ'=>v=(.bool y)∧Γ'=[]):=by
 intro w0 S0 fp0 hI hS
 have H:Cx w0 fp0 S0 w0 []:=Cx.start hI hS
 clear hI hS
 refine lA (args:=[_,_]) gok Tryz.func94 rfl _ rfl rfl rfl ?_
 obtain ⟨r9,f0,f1⟩:=aA hF;clear hF
 refine cut (fun (q0:Bool)=>[(4,(.bool q0))]) (fun (q0:Bool) w'=>q0=r9∧Cx w0 fp0 S0 w' []) ?_ ?_
 ·
  obtain ⟨a0,e,f2⟩:=aA f0;clear f0
  refine gA e ?_;clear e
  cases a0
  ·
   have f3:=fA f2;clear f2
   exact ⟨false,⟨rfl,trivial⟩,Option.some.inj f3,H.sel [] rfl⟩
  ·
   have f4:=eA f2;clear f2
   obtain ⟨a1,e,f5⟩:=aA f4;clear f4
   refine gA e ?_;clear e
   exact ⟨a1,⟨rfl,trivial⟩,Option.some.inj f5,H.sel [] rfl⟩
 ·
  clear f0 H
  rintro T0 s7 w1 ⟨hr,(H:Cx w0 fp0 S0 w1 [])⟩
  subst hr
  cases f1
  exact ⟨_,_,rfl,⟨rfl,rfl⟩,(H.sel [] rfl).close trivial⟩
theorem B1_ (p_:Int) (v_:List Int) (v_h:Hd) (n_:Int) (y:Bool) (hF:uR p_ v_ n_=some y) :
  nA Tryz.prog 78 #[(.int .i64 p_),(v_h).v,(.int .i64 n_)] [Es (List Int) v_ v_h] [] (fun v Γ'=>v=(.bool y)∧Γ'=[]):=by
 intro w0 S0 fp0 hI hS
 have H:Cx w0 fp0 S0 w0 [Es (List Int) v_ v_h]:=Cx.start hI hS
 clear hI hS
 refine lA (args:=[_,_,_]) gok Tryz.func78 rfl _ rfl rfl rfl ?_
 refine sq ?_
 refine kA (H.rs (α:=List Int) 0 rfl).len ?_
 obtain ⟨a2,e,hF3⟩:=aA hF;clear hF
 refine gA e ?_;clear e
 cases a2
 ·
  have hF4:=fA hF3;clear hF3
  refine sq ?_
  refine kA (H.rs (α:=List Int) 0 rfl).len ?_
  have x0:=(H.rs (α:=List Int) 0 rfl).max
  obtain ⟨r0,e,f0⟩:=aA hF4;clear hF4
  refine qF _ v_.length (fun (k5:Nat) (_:Unit) (_:Unit)=>[(0,(.int .i64 p_)),(13,(v_h).v),(14,(.int .i64 ((v_.length:Nat):Int))),(15,(.int .i64 ((k5:Nat):Int)))]) (fun _ (_:Unit) (_:Unit) w'=>Cx w0 fp0 S0 w' [Es (List Int) v_ v_h]) () () e ⟨rfl,rfl,rfl,rfl,trivial⟩ (H.sel [0] rfl) ?_ ?_
  ·
   clear H e
   rintro T0 k5 _ _ w1 o0 hk (H:Cx w0 fp0 S0 w1 [Es (List Int) v_ v_h]) hrt f1
   refine jA (z:=true) (cB hk) ?_
   refine sq ?_
   refine sq ?_
   obtain ⟨a0,e,f2⟩:=aA f1;clear f1
   obtain ⟨p0,m0,c0,c1,c2,c3⟩:=(H.rs (α:=List Int) 0 rfl).at1 e;clear e
   refine dA c0 c1 c2 ?_;clear c0 c1 c2
   refine cA c3 ?_;clear c3
   obtain ⟨y0,e,f3⟩:=aA f2;clear f2
   have i0:=e;clear e
   refine iA (BV_ p_ a0 y0 i0) (Γi:=[]) H trivial ?_;clear H i0
   rintro _ _ w2 ⟨rfl,rfl⟩ H
   obtain ⟨a1,e,f4⟩:=aA f3;clear f3
   refine gA e ?_;clear e
   cases a1
   ·
    have f5:=fA f4;clear f4
    refine arK hk x0 ?_
    have hs:=Option.some.inj f5;subst hs;clear f5
    exact ⟨(),(),rfl,⟨rfl,rfl,rfl,rfl,trivial⟩,H.sel [0] rfl⟩
   ·
    have f6:=eA f4;clear f4
    have hs:=Option.some.inj f6;subst hs;clear f6
    have hr:=hrt _ rfl;subst hr
    have f7:some _=some _:=f0
    cases f7
    exact ⟨_,_,rfl,⟨rfl,rfl⟩,(H.sel [] rfl).close trivial⟩
  ·
   clear H e
   rintro T1 _ _ w3 hr (H:Cx w0 fp0 S0 w3 [Es (List Int) v_ v_h])
   subst hr
   refine jA (z:=false) dB ?_
   refine sq ?_
   cases f0
   exact ⟨_,_,rfl,⟨rfl,rfl⟩,(H.sel [] rfl).close trivial⟩
 ·
  have f8:=eA hF3;clear hF3
  cases f8
  exact ⟨_,_,rfl,⟨rfl,rfl⟩,(H.sel [] rfl).close trivial⟩
theorem BK_ (p_:Int) (rows_:List (List Int)) (rows_h:Hd) (n_:Int) (y:Bool) (hF:kR p_ rows_ n_=some y) :
  nA Tryz.prog 63 #[(.int .i64 p_),(rows_h).v,(.int .i64 n_)] [Es (List (List Int)) rows_ rows_h] [] (fun v Γ'=>v=(.bool y)∧Γ'=[]):=by
 intro w0 S0 fp0 hI hS
 have H:Cx w0 fp0 S0 w0 [Es (List (List Int)) rows_ rows_h]:=Cx.start hI hS
 clear hI hS
 refine lA (args:=[_,_,_]) gok Tryz.func63 rfl _ rfl rfl rfl ?_
 refine sq ?_
 refine kA (H.rs (α:=List (List Int)) 0 rfl).len ?_
 have x0:=(H.rs (α:=List (List Int)) 0 rfl).max
 obtain ⟨r0,e,f0⟩:=aA hF;clear hF
 refine qF _ rows_.length (fun (k2:Nat) (_:Unit) (_:Unit)=>[(0,(.int .i64 p_)),(2,(.int .i64 n_)),(9,(rows_h).v),(10,(.int .i64 ((rows_.length:Nat):Int))),(11,(.int .i64 ((k2:Nat):Int)))]) (fun _ (_:Unit) (_:Unit) w'=>Cx w0 fp0 S0 w' [Es (List (List Int)) rows_ rows_h]) () () e ⟨rfl,rfl,rfl,rfl,rfl,trivial⟩ (H.sel [0] rfl) ?_ ?_
 ·
  clear H e
  rintro T0 k2 _ _ w1 o0 hk (H:Cx w0 fp0 S0 w1 [Es (List (List Int)) rows_ rows_h]) hrt f1
  refine jA (z:=true) (cB hk) ?_
  refine sq ?_
  refine sq ?_
  obtain ⟨a0,e,f2⟩:=aA f1;clear f1
  have HH:=H;clear H;obtain ⟨p0,m0,h0,c0,c1,c2,c3,H⟩:=HH.elL 0 rfl e;clear HH
  clear e
  refine dA c0 c1 c2 ?_;clear c0 c1 c2
  refine cA c3 ?_;clear c3
  obtain ⟨y0,e,f3⟩:=aA f2;clear f2
  have i0:=e;clear e
  refine iA (B1_ p_ a0 h0 n_ y0 i0) (Γi:=[]) H ⟨Vw.sh 0 rfl,trivial⟩ ?_;clear H i0
  rintro _ _ w2 ⟨rfl,rfl⟩ H
  obtain ⟨a1,e,f4⟩:=aA f3;clear f3
  refine gA e ?_;clear e
  cases a1
  ·
   have f5:=fA f4;clear f4
   refine arK hk x0 ?_
   have hs:=Option.some.inj f5;subst hs;clear f5
   exact ⟨(),(),rfl,⟨rfl,rfl,rfl,rfl,rfl,trivial⟩,H.sel [1] rfl⟩
  ·
   have f6:=eA f4;clear f4
   have hs:=Option.some.inj f6;subst hs;clear f6
   have hr:=hrt _ rfl;subst hr
   have f7:some _=some _:=f0
   cases f7
   exact ⟨_,_,rfl,⟨rfl,rfl⟩,(H.sel [] rfl).close trivial⟩
 ·
  clear H e
  rintro T1 _ _ w3 hr (H:Cx w0 fp0 S0 w3 [Es (List (List Int)) rows_ rows_h])
  subst hr
  refine jA (z:=false) dB ?_
  refine sq ?_
  cases f0
  exact ⟨_,_,rfl,⟨rfl,rfl⟩,(H.sel [] rfl).close trivial⟩
theorem CE_ (list_:List Int) (list_h:Hd) (y:List Int) (hF:pS list_=some y) :
  nA Tryz.prog 105 #[(list_h).v] [Es (List Int) list_ list_h] [] (fun v Γ'=>∃ z0:Hd,v=(z0).v∧Γ'=[E (List Int) y z0]):=by
 intro w0 S0 fp0 hI hS
 have H:Cx w0 fp0 S0 w0 [Es (List Int) list_ list_h]:=Cx.start hI hS
 clear hI hS
 refine lA (args:=[_]) gok Tryz.func105 rfl _ rfl rfl rfl ?_
 refine lit0 (α:=Int) gok rfl rfl H ?_;clear H;intro h3 w2 hx H
 clear hx
 obtain ⟨a5,e,hF6⟩:=aA hF;clear hF
 refine nC (α:=Int) gok rfl rfl rfl rfl H (Vw.sh 0 rfl) e ?_;clear e H;intro h8 w7 H
 cases hF6
 exact ⟨_,_,rfl,⟨h8,rfl,rfl⟩,(H.sel [0] rfl).close ⟨cloE,trivial⟩⟩
theorem Cv_ (list_:List (List Int)) (list_h:Hd) (y:List (List Int)) (hF:lS list_=some y) :
  nA Tryz.prog 87 #[(list_h).v] [Es (List (List Int)) list_ list_h] [] (fun v Γ'=>∃ z0:Hd,v=(z0).v∧Γ'=[E (List (List Int)) y z0]):=by
 intro w0 S0 fp0 hI hS
 have H:Cx w0 fp0 S0 w0 [Es (List (List Int)) list_ list_h]:=Cx.start hI hS
 clear hI hS
 refine lA (args:=[_]) gok Tryz.func87 rfl _ rfl rfl rfl ?_
 refine kA (H.rs (α:=List (List Int)) 0 rfl).len ?_
 obtain ⟨a2,e,hF3⟩:=aA hF;clear hF
 refine qD (α:=List Int) gok rfl rfl rfl rfl e H ?_;clear e H;intro h5 w4 hx H
 clear hx
 refine sq ?_
 refine kA (H.rs (α:=List (List Int)) 1 rfl).len ?_
 have x0:=(H.rs (α:=List (List Int)) 1 rfl).max
 obtain ⟨r0,e,f0⟩:=aA hF3;clear hF3
 refine fB _ list_.length (fun (k7:Nat) (s0:List (List Int)) (g0:Hd)=>[(3,(g0).v),(9,(list_h).v),(10,(.int .i64 ((list_.length:Nat):Int))),(11,(.int .i64 ((k7:Nat):Int)))]) (fun _ (s0:List (List Int)) (g0:Hd) w'=>Cx w0 fp0 S0 w' [E (List (List Int)) s0 g0,Es (List (List Int)) list_ list_h]) a2 h5 e ⟨rfl,rfl,rfl,rfl,trivial⟩ (H.sel [0,1] rfl) ?_ ?_
 ·
  clear H e
  rintro T0 k7 s0 g0 w1 o0 hk (H:Cx w0 fp0 S0 w1 [E (List (List Int)) s0 g0,Es (List (List Int)) list_ list_h]) f1
  refine jA (z:=true) (cB hk) ?_
  refine sq ?_
  refine sq ?_
  obtain ⟨a0,e,f2⟩:=aA f1;clear f1
  have HH:=H;clear H;obtain ⟨p0,m0,h0,c0,c1,c2,c3,H⟩:=HH.elL 1 rfl e;clear HH
  clear e
  refine dA c0 c1 c2 ?_;clear c0 c1 c2
  refine cA c3 ?_;clear c3
  obtain ⟨y0,e,f3⟩:=aA f2;clear f2
  have i0:=e;clear e
  refine iA (CE_ a0 h0 y0 i0) (Γi:=[]) H ⟨Vw.sh 0 rfl,trivial⟩ ?_;clear H i0
  rintro _ _ w2 ⟨h1,rfl,rfl⟩ H
  refine gF (α:=List Int) (g:=h1) gok rfl rfl rfl rfl rfl H ?_;clear H;intro h2 w3 hx H
  clear hx
  obtain ⟨a1,e,f4⟩:=aA f3;clear f3
  replace H:=H.sel [2,0,1,3] rfl
  refine append_ (α:=List Int) gok rfl rfl rfl rfl H e ?_;clear e H;intro h3 w5 H
  refine arK hk x0 ?_
  have hs:=Option.some.inj f4;subst hs;clear f4
  exact ⟨h3,⟨rfl,rfl,rfl,rfl,trivial⟩,H.sel [0,2] rfl⟩
 ·
  clear H e
  rintro T1 g1 w6 (H:Cx w0 fp0 S0 w6 [E (List (List Int)) r0 g1,Es (List (List Int)) list_ list_h])
  refine jA (z:=false) dB ?_
  refine sq ?_
  cases f0
  exact ⟨_,_,rfl,⟨g1,rfl,rfl⟩,(H.sel [0] rfl).close ⟨cloE,trivial⟩⟩
theorem C9_ (yes_:Bool) (y:Int) (hF:eX yes_=some y) :
  nA Tryz.prog 146 #[(.bool yes_)] [] [] (fun v Γ'=>v=(.int .i64 y)∧Γ'=[]):=by
 intro w0 S0 fp0 hI hS
 have H:Cx w0 fp0 S0 w0 []:=Cx.start hI hS
 clear hI hS
 refine lA (args:=[_]) gok Tryz.func146 rfl _ rfl rfl rfl ?_
 refine sq ?_
 cases yes_
 ·
  have hF1:=fA hF;clear hF
  cases hF1
  exact ⟨_,_,rfl,⟨rfl,rfl⟩,(H.sel [] rfl).close trivial⟩
 ·
  have hF2:=eA hF;clear hF
  cases hF2
  exact ⟨_,_,rfl,⟨rfl,rfl⟩,(H.sel [] rfl).close trivial⟩
theorem CD_ (p_:Int) (a_:Int) (n_:Int) (y:Int) (hF:lW p_ a_ n_=some y) :
  nA Tryz.prog 145 #[(.int .i64 p_),(.int .i64 a_),(.int .i64 n_)] [] [] (fun v Γ'=>v=(.int .i64 y)∧Γ'=[]):=by
 intro w0 S0 fp0 hI hS
 have H:Cx w0 fp0 S0 w0 []:=Cx.start hI hS
 clear hI hS
 refine lA (args:=[_,_,_]) gok Tryz.func145 rfl _ rfl rfl rfl ?_
 obtain ⟨a1,e,hF2⟩:=aA hF;clear hF
 refine aG e ?_;clear e
 obtain ⟨r0,f0,f1⟩:=aA hF2;clear hF2
 refine cut (fun (q0:Int)=>[(7,(.int .i64 q0))]) (fun (q0:Int) w'=>q0=r0∧Cx w0 fp0 S0 w' []) ?_ ?_
 ·
  refine xC _ (fun (s0:Int×Int×Int) (_:Unit)=>[(0,(.int .i64 p_)),(1,(.int .i64 s0.1)),(2,(.int .i64 s0.2.1)),(7,(.int .i64 s0.2.2))]) (fun (s0:Int×Int×Int) (_:Unit) w'=>Cx w0 fp0 S0 w' []) (a_,n_,a1) () f0 ⟨rfl,rfl,rfl,rfl,trivial⟩ (H.sel [] rfl) ?_
  ·
   clear H
   rintro T0 ⟨s0_0,s0_1,s0_2⟩ _ w1 o0 (H:Cx w0 fp0 S0 w1 []) hrt f2
   refine sq ?_
   obtain ⟨a0,e,f3⟩:=aA f2;clear f2
   refine gA e ?_;clear e
   cases a0
   ·
    have f4:=fA f3;clear f3
    have hs:=Option.some.inj f4;subst hs;clear f4
    have f5:some _=some _:=congrArg some (hrt _ rfl).symm
    exact ⟨s0_2,⟨rfl,trivial⟩,Option.some.inj f5,H.sel [] rfl⟩
   ·
    have f6:=eA f3;clear f3
    refine sq ?_
    obtain ⟨r1,f7,f8⟩:=aA f6;clear f6
    refine cut (fun (q1:Int)=>[(0,(.int .i64 p_)),(1,(.int .i64 s0_0)),(2,(.int .i64 s0_1)),(7,(.int .i64 q1))]) (fun (q1:Int) w'=>q1=r1∧Cx w0 fp0 S0 w' []) ?_ ?_
    ·
     obtain ⟨a2,e,f9⟩:=aA f7;clear f7
     refine aG e ?_;clear e
     obtain ⟨a3,e,f10⟩:=aA f9;clear f9
     refine gA e ?_;clear e
     cases a3
     ·
      have f11:=fA f10;clear f10
      exact ⟨s0_2,⟨rfl,rfl,rfl,rfl,trivial⟩,Option.some.inj f11,H.sel [] rfl⟩
     ·
      have f12:=eA f10;clear f10
      obtain ⟨a4,e,f13⟩:=aA f12;clear f12
      refine arO e ?_;clear e
      obtain ⟨a5,e,f14⟩:=aA f13;clear f13
      refine aG e ?_;clear e
      exact ⟨a5,⟨rfl,rfl,rfl,rfl,trivial⟩,Option.some.inj f14,H.sel [] rfl⟩
    ·
     clear f7 H
     rintro T1 s1 w2 ⟨hr,(H:Cx w0 fp0 S0 w2 [])⟩
     subst hr
     obtain ⟨a6,e,f15⟩:=aA f8;clear f8
     refine arO e ?_;clear e
     obtain ⟨a7,e,f16⟩:=aA f15;clear f15
     refine aG e ?_;clear e
     obtain ⟨a8,e,f17⟩:=aA f16;clear f16
     refine quoO_ e ?_;clear e
     have hs:=Option.some.inj f17;subst hs;clear f17
     exact ⟨(a7,a8,s1),(),rfl,⟨rfl,rfl,rfl,rfl,trivial⟩,H.sel [] rfl⟩
 ·
  clear f0 H
  rintro T2 s2 w3 ⟨hr,(H:Cx w0 fp0 S0 w3 [])⟩
  subst hr
  cases f1
  exact ⟨_,_,rfl,⟨rfl,rfl⟩,(H.sel [] rfl).close trivial⟩
theorem Cd_ (p_:Int) (a_:Int) (y:Int) (hF:zR p_ a_=some y) :
  nA Tryz.prog 129 #[(.int .i64 p_),(.int .i64 a_)] [] [] (fun v Γ'=>v=(.int .i64 y)∧Γ'=[]):=by
 intro w0 S0 fp0 hI hS
 have H:Cx w0 fp0 S0 w0 []:=Cx.start hI hS
 clear hI hS
 refine lA (args:=[_,_]) gok Tryz.func129 rfl _ rfl rfl rfl ?_
 obtain ⟨a1,e,hF2⟩:=aA hF;clear hF
 refine arO e ?_;clear e
 obtain ⟨a3,e,hF4⟩:=aA hF2;clear hF2
 refine gA e ?_;clear e
 obtain ⟨y5,e,hF6⟩:=aA hF4;clear hF4
 have ey5:=e;clear e
 refine iA (C9_ a3 y5 ey5) (Γi:=[]) H trivial ?_;clear H ey5
 rintro _ _ w7 ⟨rfl,rfl⟩ H
 obtain ⟨a8,e,hF9⟩:=aA hF6;clear hF6
 refine arO e ?_;clear e
 obtain ⟨y0,e,f0⟩:=aA hF9;clear hF9
 have i0:=e;clear e
 refine iA (CD_ p_ a_ a8 y0 i0) (Γi:=[]) H trivial ?_;clear H i0
 rintro _ _ w1 ⟨rfl,rfl⟩ H
 cases f0
 exact ⟨_,_,rfl,⟨rfl,rfl⟩,(H.sel [] rfl).close trivial⟩
theorem C8_ (p_:Int) (a_:Int) (y:Int) (hF:dO p_ a_=some y) :
  nA Tryz.prog 147 #[(.int .i64 p_),(.int .i64 a_)] [] [] (fun v Γ'=>v=(.int .i64 y)∧Γ'=[]):=by
 intro w0 S0 fp0 hI hS
 have H:Cx w0 fp0 S0 w0 []:=Cx.start hI hS
 clear hI hS
 refine lA (args:=[_,_]) gok Tryz.func147 rfl _ rfl rfl rfl ?_
 obtain ⟨a1,e,hF2⟩:=aA hF;clear hF
 refine aG e ?_;clear e
 refine sq ?_
 obtain ⟨a3,e,hF4⟩:=aA hF2;clear hF2
 refine gA e ?_;clear e
 cases a3
 ·
  have hF5:=fA hF4;clear hF4
  cases hF5
  exact ⟨_,_,rfl,⟨rfl,rfl⟩,(H.sel [] rfl).close trivial⟩
 ·
  have hF6:=eA hF4;clear hF4
  obtain ⟨a7,e,hF8⟩:=aA hF6;clear hF6
  refine arO e ?_;clear e
  cases hF8
  exact ⟨_,_,rfl,⟨rfl,rfl⟩,(H.sel [] rfl).close trivial⟩
theorem B3_ (p_:Int) (v_:List Int) (v_h:Hd) (by_:Int) (w_:List Int) (w_h:Hd) (y:List Int) (hF:wR p_ v_ by_ w_=some y) :
  nA Tryz.prog 130 #[(.int .i64 p_),(v_h).v,(.int .i64 by_),(w_h).v] [Es (List Int) w_ w_h] [E (List Int) v_ v_h] (fun v Γ'=>v=(.tuple #[])∧Γ'=[E (List Int) y v_h]):=by
 intro w0 S0 fp0 hI hS
 have H:Cx w0 fp0 S0 w0 [Es (List Int) w_ w_h,E (List Int) v_ v_h]:=Cx.start hI hS
 clear hI hS
 refine lA (args:=[_,_,_,_]) gok Tryz.func130 rfl _ rfl rfl rfl ?_
 refine kA (H.rs (α:=List Int) 0 rfl).len ?_
 have x0:=(H.rs (α:=List Int) 0 rfl).max
 obtain ⟨r0,e,f0⟩:=aA hF;clear hF
 refine fB _ w_.length (fun (k3:Nat) (s0:List Int) (_:Unit)=>[(0,(.int .i64 p_)),(1,(v_h).v),(2,(.int .i64 by_)),(10,(w_h).v),(11,(.int .i64 ((w_.length:Nat):Int))),(12,(.int .i64 ((k3:Nat):Int)))]) (fun _ (s0:List Int) (_:Unit) w'=>Cx w0 fp0 S0 w' [E (List Int) s0 v_h,Es (List Int) w_ w_h]) v_ () e ⟨rfl,rfl,rfl,rfl,rfl,rfl,trivial⟩ (H.sel [1,0] rfl) ?_ ?_
 ·
  clear H e
  rintro T0 k3 s0 _ w1 o0 hk (H:Cx w0 fp0 S0 w1 [E (List Int) s0 v_h,Es (List Int) w_ w_h]) f1
  refine jA (z:=true) (cB hk) ?_
  refine sq ?_
  refine sq ?_
  obtain ⟨a0,e,f2⟩:=aA f1;clear f1
  obtain ⟨p0,m0,c0,c1,c2,c3⟩:=(H.rs (α:=List Int) 1 rfl).at1 e;clear e
  refine dA c0 c1 c2 ?_;clear c0 c1 c2
  refine cA c3 ?_;clear c3
  obtain ⟨a1,e,f3⟩:=aA f2;clear f2
  obtain ⟨p1,m1,c4,c5,c6,c7⟩:=(H.ro (α:=List Int) 0 rfl).at1 e;clear e
  refine dA c4 c5 c6 ?_;clear c4 c5 c6
  refine cA c7 ?_;clear c7
  obtain ⟨a2,e,f4⟩:=aA f3;clear f3
  refine arO e ?_;clear e
  obtain ⟨a3,e,f5⟩:=aA f4;clear f4
  refine arO e ?_;clear e
  obtain ⟨y0,e,f6⟩:=aA f5;clear f5
  have i0:=e;clear e
  refine iA (C8_ p_ a3 y0 i0) (Γi:=[]) H trivial ?_;clear H i0
  rintro _ _ w2 ⟨rfl,rfl⟩ H
  obtain ⟨a4,e,f7⟩:=aA f6;clear f6
  have i1:=e;clear e
  obtain ⟨p2,m2,c8,c9,c10⟩:=(H.ro (α:=List Int) 0 rfl).setp i1
  refine dA c8 c9 c10 ?_
  refine gC (α:=Int) H c8 c9 i1 ?_;clear H c8 c9 c10 i1;intro w3 H
  refine arK hk x0 ?_
  have hs:=Option.some.inj f7;subst hs;clear f7
  exact ⟨(),⟨rfl,rfl,rfl,rfl,rfl,rfl,trivial⟩,H.sel [0,1] rfl⟩
 ·
  clear H e
  rintro T1 _ w4 (H:Cx w0 fp0 S0 w4 [E (List Int) r0 v_h,Es (List Int) w_ w_h])
  refine jA (z:=false) dB ?_
  refine sq ?_
  cases f0
  exact ⟨_,_,rfl,⟨rfl,rfl⟩,(H.sel [0] rfl).close ⟨cloE,trivial⟩⟩
theorem jV (o__0:Int) (o__1:Int) (o__2:Int) (o__3:Int) (p_:Int) (rows_:List (List Int)) (rows_h:Hd) (y:List (List Int)) (hF:iJ (o__0,o__1,o__2,o__3) p_ rows_=some y) :
  nA Tryz.prog 107 #[(.agg #[(.int .i64 o__0),(.int .i64 o__1),(.int .i64 o__2),(.int .i64 o__3)]),(.int .i64 p_),(rows_h).v] [] [E (List (List Int)) rows_ rows_h] (fun v Γ'=>v=(.tuple #[])∧Γ'=[E (List (List Int)) y rows_h]):=by
 intro w0 S0 fp0 hI hS
 have H:Cx w0 fp0 S0 w0 [E (List (List Int)) rows_ rows_h]:=Cx.start hI hS
 clear hI hS
 refine lA (args:=[_,_,_]) gok Tryz.func107 rfl _ rfl rfl rfl ?_
 refine jB H ?_;clear H;intro b3 w2 hx H
 clear hx
 refine fld gok rfl rfl rfl rfl ?_
 refine cA (H.bx 0 rfl (j:=0) rfl) ?_
 obtain ⟨a5,e,hF6⟩:=aA hF;clear hF
 refine gA e ?_;clear e
 cases a5
 ·
  have hF7:=fA hF6;clear hF6
  obtain ⟨a8,e,hF9⟩:=aA hF7;clear hF7
  refine gA e ?_;clear e
  cases a8
  ·
   have f0:=fA hF9;clear hF9
   obtain ⟨a0,e,f1⟩:=aA f0;clear f0
   refine gA e ?_;clear e
   cases a0
   ·
    have f2:=fA f1;clear f1
    cases f2
    exact ⟨_,_,rfl,⟨rfl,rfl⟩,(H.sel [1] rfl).close ⟨cloE,trivial⟩⟩
   ·
    have f3:=eA f1;clear f1
    refine aC H [14] (.fst 0 (.fst 1 (.fst 2 (.fst 6 (.fst 9 (.fst 10 (.fst 3 (.fst 4 (.fst 5 (.fst 7 (.fst 8 (.fst 11 (.fst 12 (.fst 13 (.act 14 .done))))))))))))))) vB [] trivial (by kernel_rfl) ?_
    clear H;intro w1 H
    have hX:Ext w1 w1:=Upd.refl _ _
    have H0:=H
    refine xA (fun _=>fld gok rfl rfl rfl rfl ⟨rfl,rfl⟩) ?_
    refine xA (fun _=>fld gok rfl rfl rfl rfl ⟨rfl,rfl⟩) ?_
    refine xA (fun _=>fld gok rfl rfl rfl rfl ⟨rfl,rfl⟩) ?_
    refine uA (H.bx 0 rfl (j:=1) rfl) ?_
    obtain ⟨a1,e,f4⟩:=aA f3;clear f3
    replace H:=H.sel [1,0] rfl
    replace H:=H.toEH (α:=List Int)
    have HH:=H;clear H;obtain ⟨p0,m0,h0,c0,c1,c2,c3,H⟩:=HH.peekL e;clear HH
    clear e
    refine dA c0 c1 c2 ?_
    refine uA c3 ?_;clear c3
    refine uA (H.bx 1 rfl (j:=3) rfl) ?_
    obtain ⟨a2,e,f5⟩:=aA f4;clear f4
    refine arO e ?_;clear e
    refine uA (H.bx 1 rfl (j:=2) rfl) ?_
    obtain ⟨a3,e,f6⟩:=aA f5;clear f5
    have HH:=H;clear H;obtain ⟨p1,m1,h1,c4,c5,c6,c7,H⟩:=HH.peekL e;clear HH
    clear e
    refine dA c4 c5 c6 ?_
    refine uA c7 ?_;clear c7
    obtain ⟨y0,e,f7⟩:=aA f6;clear f6
    have i0:=e;clear e
    have u0:=H.kn 0 rfl 0 rfl
    obtain ⟨u1,n0,f8⟩:=aA f7;clear f7
    have q0:m1≠m0:=fun q=>Dx_ n0 (by omega)
    replace H:=H.takeK 1 rfl
    refine iA (B3_ p_ a1 h0 a2 a3 h1 y0 i0) (Γi:=[E (List Int) a1 h0]) H ⟨Vw.ex (α:=List Int) (k:=⟨m1,a3,h1⟩) 0 rfl u0 q0,trivial⟩ ?_;clear H i0
    rintro _ _ w3 ⟨rfl,rfl⟩ H
    obtain ⟨a4,e,f9⟩:=aA f8;clear f8
    replace H:=H.put c1 e;clear e
    refine hold trivial ?_
    cases f9
    exact ⟨_,_,rfl,⟨rfl,rfl⟩,(H.sel [0] rfl).close ⟨cloE,trivial⟩⟩
  ·
   have f10:=eA hF9;clear hF9
   refine fld gok rfl rfl rfl rfl ?_
   refine cA (H.bx 0 rfl (j:=3) rfl) ?_
   obtain ⟨y1,e,f11⟩:=aA f10;clear f10
   have i1:=e;clear e
   refine iA (Cd_ p_ o__3 y1 i1) (Γi:=[]) H trivial ?_;clear H i1
   rintro _ _ w4 ⟨rfl,rfl⟩ H
   refine fld gok rfl rfl rfl rfl ?_
   refine cA (H.bx 0 rfl (j:=1) rfl) ?_
   obtain ⟨a6,e,f12⟩:=aA f11;clear f11
   replace H:=H.sel [1,0] rfl
   have HH:=H;clear H;obtain ⟨p2,m2,h2,c8,c9,c10,H⟩:=HH.take e;clear HH
   clear e
   have c11:=H.hx0 1 rfl c8 rfl
   refine dA c8 c9 c10 ?_
   refine cA c11 ?_;clear c11
   refine kA (H.ro (α:=List Int) 0 rfl).len ?_
   have x0:=(H.ro (α:=List Int) 0 rfl).max
   obtain ⟨r0,e,f13⟩:=aA f12;clear f12
   refine fB _ a6.length (fun (k0:Nat) (s0:List Int) (_:Unit)=>[(1,(.int .i64 p_)),(2,(rows_h).v),(3,(.pointer (some ⟨b3,0,none⟩))),(6,(.int .i64 y1)),(41,(h2).v),(42,(.int .i64 ((a6.length:Nat):Int))),(43,(.int .i64 ((k0:Nat):Int)))]) (fun _ (s0:List Int) (_:Unit) w'=>Cx w0 fp0 S0 w' [EX (List Int) m2 [(h2).v] rows_ rows_h,Bx b3 [(.int .i64 o__0),(.int .i64 o__1),(.int .i64 o__2),(.int .i64 o__3)],E (List Int) s0 h2]) a6 () e ⟨rfl,rfl,rfl,rfl,rfl,rfl,rfl,trivial⟩ (H.sel [1,2,0] rfl) ?_ ?_
   ·
    clear H e
    rintro T0 k0 s0 _ w5 o0 hk (H:Cx w0 fp0 S0 w5 [EX (List Int) m2 [(h2).v] rows_ rows_h,Bx b3 [(.int .i64 o__0),(.int .i64 o__1),(.int .i64 o__2),(.int .i64 o__3)],E (List Int) s0 h2]) f14
    refine jA (z:=true) (cB hk) ?_
    refine sq ?_
    refine sq ?_
    obtain ⟨a7,e,f15⟩:=aA f14;clear f14
    obtain ⟨p3,m3,c12,c13,c14,c15⟩:=(H.ro (α:=List Int) 2 rfl).at1 e;clear e
    refine dA c12 c13 c14 ?_;clear c12 c13 c14
    refine cA c15 ?_;clear c15
    refine aC H [12] (.fst 0 (.fst 1 (.fst 5 (.fst 6 (.fst 7 (.fst 8 (.fst 9 (.fst 10 (.fst 2 (.fst 3 (.fst 4 (.fst 11 (.act 12 .done))))))))))))) vB [] trivial (by kernel_rfl) ?_
    clear H;intro w6 H
    have hX:Ext w6 w6:=Upd.refl _ _
    have H0:=H
    refine xA (fun _=>fld gok rfl rfl rfl rfl ⟨rfl,rfl⟩) ?_
    obtain ⟨a9,e,f16⟩:=aA f15;clear f15
    refine arO e ?_;clear e
    obtain ⟨a10,e,f17⟩:=aA f16;clear f16
    refine aG e ?_;clear e
    refine uA (H.bx 1 rfl (j:=1) rfl) ?_
    have c20:=H.hx0 0 rfl c8 rfl
    refine dA c8 c9 c10 ?_
    refine uA c20 ?_;clear c20
    obtain ⟨a12,e,f18⟩:=aA f17;clear f17
    have i2:=e;clear e
    obtain ⟨p4,m4,c21,c22,c23⟩:=(H.ro (α:=List Int) 2 rfl).setp i2
    refine dA c21 c22 c23 ?_
    replace H:=H.sel [2,0,1] rfl
    refine gC (α:=Int) H c21 c22 i2 ?_;clear H c21 c22 c23 i2;intro w7 H
    refine hold trivial ?_
    refine arK hk x0 ?_
    have hs:=Option.some.inj f18;subst hs;clear f18
    exact ⟨(),⟨rfl,rfl,rfl,rfl,rfl,rfl,rfl,trivial⟩,H.sel [1,2,0] rfl⟩
   ·
    clear H e
    rintro T1 _ w8 (H:Cx w0 fp0 S0 w8 [EX (List Int) m2 [(h2).v] rows_ rows_h,Bx b3 [(.int .i64 o__0),(.int .i64 o__1),(.int .i64 o__2),(.int .i64 o__3)],E (List Int) r0 h2])
    refine jA (z:=false) dB ?_
    refine sq ?_
    obtain ⟨a13,e,f19⟩:=aA f13;clear f13
    replace H:=H.sel [2,0,1] rfl
    replace H:=H.put c9 e;clear e
    cases f19
    exact ⟨_,_,rfl,⟨rfl,rfl⟩,(H.sel [0] rfl).close ⟨cloE,trivial⟩⟩
 ·
  have f20:=eA hF6;clear hF6
  refine aC H [17,19,18,0,1,2,3,4,5] (.pure 0 (.pure 1 (.pure 2 (.pure 3 (.pure 4 (.pure 5 (.fst 6 (.fst 7 (.fst 11 (.fst 12 (.fst 8 (.fst 9 (.fst 10 (.fst 13 (.fst 14 (.fst 15 (.fst 16 (.act 17 (.act 18 (.act 19 .done)))))))))))))))))))) vB [((Addr.add ⟨b3,0,none⟩ 1),(.int .i64 o__1)),((Addr.add ⟨b3,0,none⟩ 2),(.int .i64 o__2))] ⟨H.bx 0 rfl (j:=1) rfl,H.bx 0 rfl (j:=2) rfl,trivial⟩ (by kernel_rfl) ?_
  clear H;intro w9 H
  have hX:Ext w9 w9:=Upd.refl _ _
  have H0:=H
  refine xA (fun _=>fld gok rfl rfl rfl rfl ⟨rfl,rfl⟩) ?_
  refine AU_ 0 rfl ?_
  refine xA (fun _=>fld gok rfl rfl rfl rfl ⟨rfl,rfl⟩) ?_
  refine AU_ 1 rfl ?_
  refine xA (fun _=>fld gok rfl rfl rfl rfl ⟨rfl,rfl⟩) ?_
  refine xA (fun _=>fld gok rfl rfl rfl rfl ⟨rfl,rfl⟩) ?_
  refine uA (H.bx 0 rfl (j:=2) rfl) ?_
  obtain ⟨a14,e,f21⟩:=aA f20;clear f20
  replace H:=H.sel [1,0] rfl
  replace H:=H.toEH (α:=List Int)
  have HH:=H;clear H;obtain ⟨p5,m5,h3,c24,c25,c26,c31,H⟩:=HH.peekL e;clear HH
  clear e
  refine dA c24 c25 c26 ?_
  refine uA c31 ?_;clear c31
  refine uA (H.bx 1 rfl (j:=1) rfl) ?_
  obtain ⟨a15,e,f22⟩:=aA f21;clear f21
  have HH:=H;clear H;obtain ⟨p6,m6,h4,c32,c33,c34,c35,H⟩:=HH.peekL e;clear HH
  clear e
  refine dA c32 c33 c34 ?_
  refine uA c35 ?_;clear c35
  refine dA c32 c33 c34 ?_
  refine stZ1 (ki:=0) (kj:=1) H rfl rfl c32 ?_;clear H;intro w10 H
  refine hold ⟨H.bx 1 rfl (j:=1) rfl,H.bx 1 rfl (j:=2) rfl,trivial⟩ ?_
  refine dA c24 c25 c26 ?_
  refine hold ⟨H.bx 1 rfl (j:=1) rfl,H.bx 1 rfl (j:=2) rfl,trivial⟩ ?_
  obtain ⟨a16,e,f23⟩:=aA f22;clear f22
  refine stZ2 H c33 c25 c24 e ?_;clear H e;intro w11 H
  refine hold ⟨H.bx 1 rfl (j:=1) rfl,H.bx 1 rfl (j:=2) rfl,trivial⟩ ?_
  cases f23
  exact ⟨_,_,rfl,⟨rfl,rfl⟩,(H.sel [0] rfl).close ⟨cloE,trivial⟩⟩
theorem vQ (o__0:Int) (o__1:Int) (o__2:Int) (o__3:Int) (c0_b:Nat) (c0_:Int) (c1_b:Nat) (c1_:List (List Int)) (c1_h:Hd) (c2_b:Nat) (c2_:List (List Int)) (c2_h:Hd) (y0:List (List Int)) (y1:List (List Int)) (hF:tF (o__0,o__1,o__2,o__3) c0_ c1_ c2_=some (y0,y1)) :
  nA Tryz.prog 106 #[(.agg #[(.int .i64 o__0),(.int .i64 o__1),(.int .i64 o__2),(.int .i64 o__3)]),(.pointer (some ⟨c0_b,0,none⟩)),(.pointer (some ⟨c1_b,0,none⟩)),(.pointer (some ⟨c2_b,0,none⟩))] [] [Bx c0_b [(.int .i64 c0_)],Bx c1_b [(c1_h).v],E (List (List Int)) c1_ c1_h,Bx c2_b [(c2_h).v],E (List (List Int)) c2_ c2_h] (fun v Γ'=>v=(.tuple #[])∧Γ'=[Bx c0_b [(.int .i64 c0_)],Bx c1_b [(c1_h).v],E (List (List Int)) y0 c1_h,Bx c2_b [(c2_h).v],E (List (List Int)) y1 c2_h]):=by
 intro w0 S0 fp0 hI hS
 have H:Cx w0 fp0 S0 w0 [Bx c0_b [(.int .i64 c0_)],Bx c1_b [(c1_h).v],E (List (List Int)) c1_ c1_h,Bx c2_b [(c2_h).v],E (List (List Int)) c2_ c2_h]:=Cx.start hI hS
 clear hI hS
 refine lA (args:=[_,_,_,_]) gok Tryz.func106 rfl _ rfl rfl rfl ?_
 refine jB H ?_;clear H;intro b7 w6 hx H
 clear hx
 refine sq ?_
 refine vA [(.int .i64 o__0),(.int .i64 o__1),(.int .i64 o__2),(.int .i64 o__3)] rfl (fun j u hj=>H.bx 0 rfl hj) ?_
 refine fld gok rfl rfl rfl rfl ?_
 refine cA (H.bx 0 rfl (j:=1) rfl) ?_
 refine fld gok rfl rfl rfl rfl ?_
 refine cA (H.bx 0 rfl (j:=1) rfl) ?_
 refine tB (cs:=#[(.int .i64 0),(.int .i64 o__1),(.int .i64 o__1),(.int .i64 0)]) gok rfl rfl rfl ?_
 obtain ⟨a9,e,f0⟩:=aA hF;clear hF
 refine eqA gok rfl Tryz.underlying138 (by kernel_rfl) (by kernel_rfl) (by kernel_rfl) (by refine ⟨rfl,⟨_,_,rfl⟩,rfl,⟨_,_,rfl⟩,rfl,⟨_,_,rfl⟩,rfl,⟨_,_,rfl⟩,trivial⟩) (ls:=[o__0,o__1,o__2,o__3]) (bs:=[0,o__1,o__1,0]) rfl rfl rfl rfl e ?_;clear e
 cases a9
 ·
  have f1:=fA f0;clear f0
  refine vA [(.int .i64 o__0),(.int .i64 o__1),(.int .i64 o__2),(.int .i64 o__3)] rfl (fun j u hj=>H.bx 0 rfl hj) ?_
  refine cA (H.bx0 1 rfl) ?_
  refine cA (H.bx0 2 rfl) ?_
  obtain ⟨y2,e,f2⟩:=aA f1;clear f1
  have i0:=e;clear e
  replace H:=H.sel [3,0,1,2,4,5] rfl
  refine iA (jV o__0 o__1 o__2 o__3 c0_ c1_ c1_h y2 i0) (Γi:=[E (List (List Int)) c1_ c1_h]) H trivial ?_;clear H i0
  rintro _ _ w1 ⟨rfl,rfl⟩ H
  refine vA [(.int .i64 o__0),(.int .i64 o__1),(.int .i64 o__2),(.int .i64 o__3)] rfl (fun j u hj=>H.bx 1 rfl hj) ?_
  refine cA (H.bx0 2 rfl) ?_
  refine cA (H.bx0 4 rfl) ?_
  obtain ⟨y3,e,f3⟩:=aA f2;clear f2
  have i1:=e;clear e
  replace H:=H.sel [5,0,1,2,3,4] rfl
  refine iA (jV o__0 o__1 o__2 o__3 c0_ c2_ c2_h y3 i1) (Γi:=[E (List (List Int)) c2_ c2_h]) H trivial ?_;clear H i1
  rintro _ _ w2 ⟨rfl,rfl⟩ H
  cases f3
  exact ⟨_,_,rfl,⟨rfl,rfl⟩,(H.sel [3,4,1,5,0] rfl).close ⟨cloB,cloB,cloE,cloB,cloE,trivial⟩⟩
 ·
  have f4:=eA f0;clear f0
  cases f4
  exact ⟨_,_,rfl,⟨rfl,rfl⟩,(H.sel [1,2,3,4,5] rfl).close ⟨cloB,cloB,cloE,cloB,cloE,trivial⟩⟩
theorem BT_ (p_:Int) (rows_:List (List Int)) (rows_h:Hd) (n_:Int) (also_:List (List Int)) (also_h:Hd) (y0:List (List Int)) (y1:List (List Int)) (y2:Int) (hF:qR p_ rows_ n_ also_=some (y0,y1,y2)) :
  nA Tryz.prog 88 #[(.int .i64 p_),(rows_h).v,(.int .i64 n_),(also_h).v] [] [E (List (List Int)) rows_ rows_h,E (List (List Int)) also_ also_h] (fun v Γ'=>v=(.int .i64 y2)∧Γ'=[E (List (List Int)) y0 rows_h,E (List (List Int)) y1 also_h]):=by
 intro w0 S0 fp0 hI hS
 have H:Cx w0 fp0 S0 w0 [E (List (List Int)) rows_ rows_h,E (List (List Int)) also_ also_h]:=Cx.start hI hS
 clear hI hS
 refine lA (args:=[_,_,_,_]) gok Tryz.func88 rfl _ rfl rfl rfl ?_
 refine jB H ?_;clear H;intro b4 w3 hx H
 clear hx
 refine jB H ?_;clear H;intro b7 w6 hx H
 clear hx
 refine jB H ?_;clear H;intro b0 w9 hx H
 clear hx
 obtain ⟨r0,f0,f1⟩:=aA hF;clear hF
 refine cut (fun (q0:List (List Int)×List (List Int)×Int)=>[(9,(.int .i64 q0.2.2))]) (fun (q0:List (List Int)×List (List Int)×Int) w'=>(q0.1,q0.2.1,q0.2.2)=r0∧Cx w0 fp0 S0 w' [E (List (List Int)) q0.1 rows_h,E (List (List Int)) q0.2.1 also_h]) ?_ ?_
 ·
  refine xC _ (fun (s0:List (List Int)×List (List Int)×Int×Int) (_:Unit)=>[(2,(.int .i64 n_)),(5,(.pointer (some ⟨b7,0,none⟩))),(9,(.int .i64 s0.2.2.2)),(10,(.func (.func 106) #[] #[(.pointer (some ⟨b4,0,none⟩)),(.pointer (some ⟨b7,0,none⟩)),(.pointer (some ⟨b0,0,none⟩))])),(11,(.int .i64 s0.2.2.1))]) (fun (s0:List (List Int)×List (List Int)×Int×Int) (_:Unit) w'=>Cx w0 fp0 S0 w' [Bx b7 [(rows_h).v],E (List (List Int)) s0.1 rows_h,Bx b4 [(.int .i64 p_)],Bx b0 [(also_h).v],E (List (List Int)) s0.2.1 also_h]) (rows_,also_,0,0) () f0 ⟨rfl,rfl,rfl,rfl,rfl,trivial⟩ (H.sel [1,3,2,0,4] rfl) ?_
  ·
   clear H
   rintro T0 ⟨s0_0,s0_1,s0_2,s0_3⟩ _ w1 o0 (H:Cx w0 fp0 S0 w1 [Bx b7 [(rows_h).v],E (List (List Int)) s0_0 rows_h,Bx b4 [(.int .i64 p_)],Bx b0 [(also_h).v],E (List (List Int)) s0_1 also_h]) hrt f2
   refine sq ?_
   obtain ⟨r1,f3,f4⟩:=aA f2;clear f2
   refine cut (fun (q1:Bool)=>[(2,(.int .i64 n_)),(5,(.pointer (some ⟨b7,0,none⟩))),(9,(.int .i64 s0_3)),(10,(.func (.func 106) #[] #[(.pointer (some ⟨b4,0,none⟩)),(.pointer (some ⟨b7,0,none⟩)),(.pointer (some ⟨b0,0,none⟩))])),(11,(.int .i64 s0_2)),(23,(.bool q1))]) (fun (q1:Bool) w'=>q1=r1∧Cx w0 fp0 S0 w' [Bx b7 [(rows_h).v],E (List (List Int)) s0_0 rows_h,Bx b4 [(.int .i64 p_)],Bx b0 [(also_h).v],E (List (List Int)) s0_1 also_h]) ?_ ?_
   ·
    obtain ⟨a0,e,f5⟩:=aA f3;clear f3
    refine gA e ?_;clear e
    cases a0
    ·
     have f6:=fA f5;clear f5
     exact ⟨false,⟨rfl,rfl,rfl,rfl,rfl,rfl,trivial⟩,Option.some.inj f6,H.sel [0,1,2,3,4] rfl⟩
    ·
     have f7:=eA f5;clear f5
     refine cA (H.bx0 0 rfl) ?_
     refine kA (H.ro (α:=List (List Int)) 1 rfl).len ?_
     obtain ⟨a1,e,f8⟩:=aA f7;clear f7
     refine gA e ?_;clear e
     exact ⟨a1,⟨rfl,rfl,rfl,rfl,rfl,rfl,trivial⟩,Option.some.inj f8,H.sel [0,1,2,3,4] rfl⟩
   ·
    clear f3 H
    rintro T1 s1 w2 ⟨hr,(H:Cx w0 fp0 S0 w2 [Bx b7 [(rows_h).v],E (List (List Int)) s0_0 rows_h,Bx b4 [(.int .i64 p_)],Bx b0 [(also_h).v],E (List (List Int)) s0_1 also_h])⟩
    subst hr
    cases s1
    ·
     have f9:=fA f4;clear f4
     have hs:=Option.some.inj f9;subst hs;clear f9
     have f10:some _=some _:=congrArg some (hrt _ rfl).symm
     exact ⟨(s0_0,s0_1,s0_3),⟨rfl,trivial⟩,Option.some.inj f10,H.sel [1,4] rfl⟩
    ·
     have f11:=eA f4;clear f4
     obtain ⟨r2,f12,f13⟩:=aA f11;clear f11
     refine cut (fun (q2:List (List Int)×List (List Int)×Int)=>[(2,(.int .i64 n_)),(5,(.pointer (some ⟨b7,0,none⟩))),(9,(.int .i64 q2.2.2)),(10,(.func (.func 106) #[] #[(.pointer (some ⟨b4,0,none⟩)),(.pointer (some ⟨b7,0,none⟩)),(.pointer (some ⟨b0,0,none⟩))])),(11,(.int .i64 s0_2))]) (fun (q2:List (List Int)×List (List Int)×Int) w'=>(q2.1,q2.2.1,q2.2.2)=r2∧Cx w0 fp0 S0 w' [Bx b7 [(rows_h).v],E (List (List Int)) q2.1 rows_h,Bx b4 [(.int .i64 p_)],Bx b0 [(also_h).v],E (List (List Int)) q2.2.1 also_h]) ?_ ?_
     ·
      obtain ⟨r3,f14,f15⟩:=aA f12;clear f12
      refine cut (fun (q3:Int)=>[(2,(.int .i64 n_)),(5,(.pointer (some ⟨b7,0,none⟩))),(9,(.int .i64 s0_3)),(10,(.func (.func 106) #[] #[(.pointer (some ⟨b4,0,none⟩)),(.pointer (some ⟨b7,0,none⟩)),(.pointer (some ⟨b0,0,none⟩))])),(11,(.int .i64 s0_2)),(12,(.int .i64 q3))]) (fun (q3:Int) w'=>q3=r3∧Cx w0 fp0 S0 w' [Bx b7 [(rows_h).v],E (List (List Int)) s0_0 rows_h,Bx b4 [(.int .i64 p_)],Bx b0 [(also_h).v],E (List (List Int)) s0_1 also_h]) ?_ ?_
      ·
       refine xC _ (fun (s2:Int) (_:Unit)=>[(2,(.int .i64 n_)),(5,(.pointer (some ⟨b7,0,none⟩))),(9,(.int .i64 s0_3)),(10,(.func (.func 106) #[] #[(.pointer (some ⟨b4,0,none⟩)),(.pointer (some ⟨b7,0,none⟩)),(.pointer (some ⟨b0,0,none⟩))])),(11,(.int .i64 s0_2)),(12,(.int .i64 s2))]) (fun (s2:Int) (_:Unit) w'=>Cx w0 fp0 S0 w' [Bx b7 [(rows_h).v],E (List (List Int)) s0_0 rows_h,Bx b4 [(.int .i64 p_)],Bx b0 [(also_h).v],E (List (List Int)) s0_1 also_h]) s0_3 () f14 ⟨rfl,rfl,rfl,rfl,rfl,rfl,trivial⟩ (H.sel [0,1,2,3,4] rfl) ?_
       ·
        clear H
        rintro T2 s2 _ w4 o1 (H:Cx w0 fp0 S0 w4 [Bx b7 [(rows_h).v],E (List (List Int)) s0_0 rows_h,Bx b4 [(.int .i64 p_)],Bx b0 [(also_h).v],E (List (List Int)) s0_1 also_h]) hrt f16
        refine sq ?_
        obtain ⟨r4,f17,f18⟩:=aA f16;clear f16
        refine cut (fun (q4:Bool)=>[(2,(.int .i64 n_)),(5,(.pointer (some ⟨b7,0,none⟩))),(9,(.int .i64 s0_3)),(10,(.func (.func 106) #[] #[(.pointer (some ⟨b4,0,none⟩)),(.pointer (some ⟨b7,0,none⟩)),(.pointer (some ⟨b0,0,none⟩))])),(11,(.int .i64 s0_2)),(12,(.int .i64 s2)),(40,(.bool q4))]) (fun (q4:Bool) w'=>q4=r4∧Cx w0 fp0 S0 w' [Bx b7 [(rows_h).v],E (List (List Int)) s0_0 rows_h,Bx b4 [(.int .i64 p_)],Bx b0 [(also_h).v],E (List (List Int)) s0_1 also_h]) ?_ ?_
        ·
         refine cA (H.bx0 0 rfl) ?_
         refine kA (H.ro (α:=List (List Int)) 1 rfl).len ?_
         obtain ⟨a2,e,f19⟩:=aA f17;clear f17
         refine gA e ?_;clear e
         cases a2
         ·
          have f20:=fA f19;clear f19
          exact ⟨false,⟨rfl,rfl,rfl,rfl,rfl,rfl,rfl,trivial⟩,Option.some.inj f20,H.sel [0,1,2,3,4] rfl⟩
         ·
          have f21:=eA f19;clear f19
          refine cA (H.bx0 0 rfl) ?_
          obtain ⟨a3,e,f22⟩:=aA f21;clear f21
          replace H:=H.sel [1,0,2,3,4] rfl
          replace H:=H.toEH (α:=List Int)
          have HH:=H;clear H;obtain ⟨p0,m0,h0,c0,c1,c2,c3,H⟩:=HH.peekL e;clear HH
          clear e
          refine dA c0 c1 c2 ?_
          refine cA c3 ?_;clear c3
          obtain ⟨a4,e,f23⟩:=aA f22;clear f22
          obtain ⟨p1,m1,c4,c5,c6,c7⟩:=(H.rh (α:=List Int) 0 rfl 0 rfl).at1 e;clear e
          refine dA c4 c5 c6 ?_;clear c4 c5 c6
          refine cA c7 ?_;clear c7
          obtain ⟨a5,e,f24⟩:=aA f23;clear f23
          refine gA e ?_;clear e
          replace H:=H.ofEH
          exact ⟨a5,⟨rfl,rfl,rfl,rfl,rfl,rfl,rfl,trivial⟩,Option.some.inj f24,H.sel [1,0,2,3,4] rfl⟩
        ·
         clear f17 H
         rintro T3 s3 w5 ⟨hr,(H:Cx w0 fp0 S0 w5 [Bx b7 [(rows_h).v],E (List (List Int)) s0_0 rows_h,Bx b4 [(.int .i64 p_)],Bx b0 [(also_h).v],E (List (List Int)) s0_1 also_h])⟩
         subst hr
         cases s3
         ·
          have f25:=fA f18;clear f18
          have hs:=Option.some.inj f25;subst hs;clear f25
          have f26:some _=some _:=congrArg some (hrt _ rfl).symm
          exact ⟨s2,⟨rfl,rfl,rfl,rfl,rfl,rfl,trivial⟩,Option.some.inj f26,H.sel [0,1,2,3,4] rfl⟩
         ·
          have f27:=eA f18;clear f18
          obtain ⟨a6,e,f28⟩:=aA f27;clear f27
          refine arO e ?_;clear e
          have hs:=Option.some.inj f28;subst hs;clear f28
          exact ⟨a6,(),rfl,⟨rfl,rfl,rfl,rfl,rfl,rfl,trivial⟩,H.sel [0,1,2,3,4] rfl⟩
      ·
       clear f14 H
       rintro T4 s4 w7 ⟨hr,(H:Cx w0 fp0 S0 w7 [Bx b7 [(rows_h).v],E (List (List Int)) s0_0 rows_h,Bx b4 [(.int .i64 p_)],Bx b0 [(also_h).v],E (List (List Int)) s0_1 also_h])⟩
       subst hr
       refine sq ?_
       refine cA (H.bx0 0 rfl) ?_
       refine kA (H.ro (α:=List (List Int)) 1 rfl).len ?_
       obtain ⟨a7,e,f29⟩:=aA f15;clear f15
       refine gA e ?_;clear e
       cases a7
       ·
        have f30:=fA f29;clear f29
        refine tB (cs:=#[(.int .i64 0),(.int .i64 s0_3),(.int .i64 s4),(.int .i64 0)]) gok rfl rfl rfl ?_
        obtain ⟨y3,e,f31⟩:=aA f30;clear f30
        obtain ⟨y3_0,y3_1⟩:=y3
        have i0:=e;clear e
        replace H:=H.sel [2,0,1,3,4] rfl
        refine iA (vQ 0 s0_3 s4 0 b4 p_ b7 s0_0 rows_h b0 s0_1 also_h y3_0 y3_1 i0) (Γi:=[Bx b4 [(.int .i64 p_)],Bx b7 [(rows_h).v],E (List (List Int)) s0_0 rows_h,Bx b0 [(also_h).v],E (List (List Int)) s0_1 also_h]) H trivial ?_;clear H i0
        rintro _ _ w8 ⟨rfl,rfl⟩ H
        refine cA (H.bx0 1 rfl) ?_
        obtain ⟨a8,e,f32⟩:=aA f31;clear f31
        replace H:=H.sel [2,0,1,3,4] rfl
        replace H:=H.toEH (α:=List Int)
        have HH:=H;clear H;obtain ⟨p2,m2,h1,c8,c9,c10,c11,H⟩:=HH.peekL e;clear HH
        clear e
        refine dA c8 c9 c10 ?_
        refine cA c11 ?_;clear c11
        obtain ⟨a9,e,f33⟩:=aA f32;clear f32
        obtain ⟨p3,m3,c12,c13,c14,c15⟩:=(H.rh (α:=List Int) 0 rfl 0 rfl).at1 e;clear e
        refine dA c12 c13 c14 ?_;clear c12 c13 c14
        refine cA c15 ?_;clear c15
        refine tB (cs:=#[(.int .i64 1),(.int .i64 s0_3),(.int .i64 0),(.int .i64 a9)]) gok rfl rfl rfl ?_
        replace H:=H.ofEH
        obtain ⟨y4,e,f34⟩:=aA f33;clear f33
        obtain ⟨y4_0,y4_1⟩:=y4
        have i1:=e;clear e
        replace H:=H.sel [1,2,0,3,4] rfl
        refine iA (vQ 1 s0_3 0 a9 b4 p_ b7 y3_0 rows_h b0 y3_1 also_h y4_0 y4_1 i1) (Γi:=[Bx b4 [(.int .i64 p_)],Bx b7 [(rows_h).v],E (List (List Int)) y3_0 rows_h,Bx b0 [(also_h).v],E (List (List Int)) y3_1 also_h]) H trivial ?_;clear H i1
        rintro _ _ w10 ⟨rfl,rfl⟩ H
        refine sq ?_
        refine cA (H.bx0 1 rfl) ?_
        refine kA (H.ro (α:=List (List Int)) 2 rfl).len ?_
        have x0:=(H.ro (α:=List (List Int)) 2 rfl).max
        obtain ⟨r5,e,f35⟩:=aA f34;clear f34
        refine fB _ y4_0.length (fun (k0:Nat) (s5:List (List Int)×List (List Int)) (_:Unit)=>[(2,(.int .i64 n_)),(5,(.pointer (some ⟨b7,0,none⟩))),(9,(.int .i64 s0_3)),(10,(.func (.func 106) #[] #[(.pointer (some ⟨b4,0,none⟩)),(.pointer (some ⟨b7,0,none⟩)),(.pointer (some ⟨b0,0,none⟩))])),(11,(.int .i64 s0_2)),(64,(.int .i64 ((y4_0.length:Nat):Int))),(65,(.int .i64 ((k0:Nat):Int)))]) (fun _ (s5:List (List Int)×List (List Int)) (_:Unit) w'=>Cx w0 fp0 S0 w' [Bx b7 [(rows_h).v],E (List (List Int)) s5.1 rows_h,Bx b4 [(.int .i64 p_)],Bx b0 [(also_h).v],E (List (List Int)) s5.2 also_h]) (y4_0,y4_1) () e ⟨rfl,rfl,rfl,rfl,rfl,rfl,rfl,trivial⟩ (H.sel [1,2,0,3,4] rfl) ?_ ?_
        ·
         clear H e
         rintro T5 k0 ⟨s5_0,s5_1⟩ _ w11 o2 hk (H:Cx w0 fp0 S0 w11 [Bx b7 [(rows_h).v],E (List (List Int)) s5_0 rows_h,Bx b4 [(.int .i64 p_)],Bx b0 [(also_h).v],E (List (List Int)) s5_1 also_h]) f36
         refine jA (z:=true) (cB hk) ?_
         refine sq ?_
         refine sq ?_
         obtain ⟨r6,f37,f38⟩:=aA f36;clear f36
         refine cut (fun (q5:Bool)=>[(2,(.int .i64 n_)),(5,(.pointer (some ⟨b7,0,none⟩))),(9,(.int .i64 s0_3)),(10,(.func (.func 106) #[] #[(.pointer (some ⟨b4,0,none⟩)),(.pointer (some ⟨b7,0,none⟩)),(.pointer (some ⟨b0,0,none⟩))])),(11,(.int .i64 s0_2)),(13,(.int .i64 ((k0:Nat):Int))),(64,(.int .i64 ((y4_0.length:Nat):Int))),(65,(.int .i64 ((k0:Nat):Int))),(80,(.bool q5))]) (fun (q5:Bool) w'=>q5=r6∧Cx w0 fp0 S0 w' [Bx b7 [(rows_h).v],E (List (List Int)) s5_0 rows_h,Bx b4 [(.int .i64 p_)],Bx b0 [(also_h).v],E (List (List Int)) s5_1 also_h]) ?_ ?_
         ·
          obtain ⟨a10,e,f39⟩:=aA f37;clear f37
          refine gA e ?_;clear e
          cases a10
          ·
           have f40:=fA f39;clear f39
           exact ⟨false,⟨rfl,rfl,rfl,rfl,rfl,rfl,rfl,rfl,rfl,trivial⟩,Option.some.inj f40,H.sel [0,1,2,3,4] rfl⟩
          ·
           have f41:=eA f39;clear f39
           refine cA (H.bx0 0 rfl) ?_
           obtain ⟨a11,e,f42⟩:=aA f41;clear f41
           replace H:=H.sel [1,0,2,3,4] rfl
           replace H:=H.toEH (α:=List Int)
           have HH:=H;clear H;obtain ⟨p4,m4,h2,c16,c17,c18,c19,H⟩:=HH.peekL e;clear HH
           clear e
           refine dA c16 c17 c18 ?_
           refine cA c19 ?_;clear c19
           obtain ⟨a12,e,f43⟩:=aA f42;clear f42
           obtain ⟨p5,m5,c20,c21,c22,c23⟩:=(H.rh (α:=List Int) 0 rfl 0 rfl).at1 e;clear e
           refine dA c20 c21 c22 ?_;clear c20 c21 c22
           refine cA c23 ?_;clear c23
           obtain ⟨a13,e,f44⟩:=aA f43;clear f43
           refine gA e ?_;clear e
           replace H:=H.ofEH
           exact ⟨a13,⟨rfl,rfl,rfl,rfl,rfl,rfl,rfl,rfl,rfl,trivial⟩,Option.some.inj f44,H.sel [1,0,2,3,4] rfl⟩
         ·
          clear f37 H
          rintro T6 s6 w12 ⟨hr,(H:Cx w0 fp0 S0 w12 [Bx b7 [(rows_h).v],E (List (List Int)) s5_0 rows_h,Bx b4 [(.int .i64 p_)],Bx b0 [(also_h).v],E (List (List Int)) s5_1 also_h])⟩
          subst hr
          cases s6
          ·
           have f45:=fA f38;clear f38
           refine arK hk x0 ?_
           have hs:=Option.some.inj f45;subst hs;clear f45
           exact ⟨(),⟨rfl,rfl,rfl,rfl,rfl,rfl,rfl,trivial⟩,H.sel [0,1,2,3,4] rfl⟩
          ·
           have f46:=eA f38;clear f38
           refine cA (H.bx0 0 rfl) ?_
           obtain ⟨a14,e,f47⟩:=aA f46;clear f46
           replace H:=H.sel [1,0,2,3,4] rfl
           replace H:=H.toEH (α:=List Int)
           have HH:=H;clear H;obtain ⟨p6,m6,h3,c24,c25,c26,c27,H⟩:=HH.peekL e;clear HH
           clear e
           refine dA c24 c25 c26 ?_
           refine cA c27 ?_;clear c27
           obtain ⟨a15,e,f48⟩:=aA f47;clear f47
           obtain ⟨p7,m7,c28,c29,c30,c31⟩:=(H.rh (α:=List Int) 0 rfl 0 rfl).at1 e;clear e
           refine dA c28 c29 c30 ?_;clear c28 c29 c30
           refine cA c31 ?_;clear c31
           refine tB (cs:=#[(.int .i64 2),(.int .i64 ((k0:Nat):Int)),(.int .i64 s0_3),(.int .i64 a15)]) gok rfl rfl rfl ?_
           replace H:=H.ofEH
           obtain ⟨y5,e,f49⟩:=aA f48;clear f48
           obtain ⟨y5_0,y5_1⟩:=y5
           have i2:=e;clear e
           replace H:=H.sel [2,1,0,3,4] rfl
           refine iA (vQ 2 ((k0:Nat):Int) s0_3 a15 b4 p_ b7 s5_0 rows_h b0 s5_1 also_h y5_0 y5_1 i2) (Γi:=[Bx b4 [(.int .i64 p_)],Bx b7 [(rows_h).v],E (List (List Int)) s5_0 rows_h,Bx b0 [(also_h).v],E (List (List Int)) s5_1 also_h]) H trivial ?_;clear H i2
           rintro _ _ w13 ⟨rfl,rfl⟩ H
           refine arK hk x0 ?_
           have hs:=Option.some.inj f49;subst hs;clear f49
           exact ⟨(),⟨rfl,rfl,rfl,rfl,rfl,rfl,rfl,trivial⟩,H.sel [1,2,0,3,4] rfl⟩
        ·
         clear H e
         obtain ⟨s7_0,s7_1⟩:=r5
         rintro T7 _ w14 (H:Cx w0 fp0 S0 w14 [Bx b7 [(rows_h).v],E (List (List Int)) s7_0 rows_h,Bx b4 [(.int .i64 p_)],Bx b0 [(also_h).v],E (List (List Int)) s7_1 also_h])
         refine jA (z:=false) dB ?_
         refine sq ?_
         obtain ⟨a16,e,f50⟩:=aA f35;clear f35
         refine arO e ?_;clear e
         exact ⟨(s7_0,s7_1,a16),⟨rfl,rfl,rfl,rfl,rfl,trivial⟩,Option.some.inj f50,H.sel [0,1,2,3,4] rfl⟩
       ·
        have f51:=eA f29;clear f29
        exact ⟨(s0_0,s0_1,s0_3),⟨rfl,rfl,rfl,rfl,rfl,trivial⟩,Option.some.inj f51,H.sel [0,1,2,3,4] rfl⟩
     ·
      clear f12 H
      rintro T8 ⟨s8_0,s8_1,s8_2⟩ w15 ⟨hr,(H:Cx w0 fp0 S0 w15 [Bx b7 [(rows_h).v],E (List (List Int)) s8_0 rows_h,Bx b4 [(.int .i64 p_)],Bx b0 [(also_h).v],E (List (List Int)) s8_1 also_h])⟩
      subst hr
      obtain ⟨a17,e,f52⟩:=aA f13;clear f13
      refine arO e ?_;clear e
      have hs:=Option.some.inj f52;subst hs;clear f52
      exact ⟨(s8_0,s8_1,a17,s8_2),(),rfl,⟨rfl,rfl,rfl,rfl,rfl,trivial⟩,H.sel [0,1,2,3,4] rfl⟩
 ·
  clear f0 H
  rintro T9 ⟨s9_0,s9_1,s9_2⟩ w16 ⟨hr,(H:Cx w0 fp0 S0 w16 [E (List (List Int)) s9_0 rows_h,E (List (List Int)) s9_1 also_h])⟩
  subst hr
  cases f1
  exact ⟨_,_,rfl,⟨rfl,rfl⟩,(H.sel [0,1] rfl).close ⟨cloE,cloE,trivial⟩⟩
theorem wV (p_:Int) (rows_:List (List Int)) (rows_h:Hd) (n_:Int) (y:List (List Int)) (hF:mN p_ rows_ n_=some y) :
  nA Tryz.prog 71 #[(.int .i64 p_),(rows_h).v,(.int .i64 n_)] [Es (List (List Int)) rows_ rows_h] [] (fun v Γ'=>∃ z0:Hd,v=(z0).v∧Γ'=[E (List (List Int)) y z0]):=by
 intro w0 S0 fp0 hI hS
 have H:Cx w0 fp0 S0 w0 [Es (List (List Int)) rows_ rows_h]:=Cx.start hI hS
 clear hI hS
 refine lA (args:=[_,_,_]) gok Tryz.func71 rfl _ rfl rfl rfl ?_
 obtain ⟨y2,e,hF3⟩:=aA hF;clear hF
 have ey2:=e;clear e
 refine iA (Cv_ rows_ rows_h y2 ey2) (Γi:=[]) H ⟨Vw.sh 0 rfl,trivial⟩ ?_;clear H ey2
 rintro _ _ w4 ⟨h5,rfl,rfl⟩ H
 refine kA (H.ro (α:=List (List Int)) 0 rfl).len ?_
 obtain ⟨a7,e,hF8⟩:=aA hF3;clear hF3
 refine qD (α:=List Int) gok rfl rfl rfl rfl (cE e) H ?_;clear e H;intro h0 w9 hx H
 clear hx
 obtain ⟨y0,e,f0⟩:=aA hF8;clear hF8
 obtain ⟨y0_0,y0_1,y0_2⟩:=y0
 have i0:=e;clear e
 replace H:=H.sel [1,0,2] rfl
 refine iA (BT_ p_ y2 h5 n_ a7 h0 y0_0 y0_1 y0_2 i0) (Γi:=[E (List (List Int)) y2 h5,E (List (List Int)) a7 h0]) H trivial ?_;clear H i0
 rintro _ _ w1 ⟨rfl,rfl⟩ H
 obtain ⟨a0,e,f1⟩:=aA f0;clear f0
 refine slO3 (α:=List Int) gok rfl rfl H e ?_;clear e H;intro h1 H
 cases f1
 exact ⟨_,_,rfl,⟨h1,rfl,rfl⟩,(H.sel [0] rfl).close ⟨cloE,trivial⟩⟩
theorem BU_ (p_:Int) (rows_:List (List Int)) (rows_h:Hd) (n_:Int) (y:Bool) (hF:rR p_ rows_ n_=some y) :
  nA Tryz.prog 52 #[(.int .i64 p_),(rows_h).v,(.int .i64 n_)] [Es (List (List Int)) rows_ rows_h] [] (fun v Γ'=>v=(.bool y)∧Γ'=[]):=by
 intro w0 S0 fp0 hI hS
 have H:Cx w0 fp0 S0 w0 [Es (List (List Int)) rows_ rows_h]:=Cx.start hI hS
 clear hI hS
 refine lA (args:=[_,_,_]) gok Tryz.func52 rfl _ rfl rfl rfl ?_
 refine sq ?_
 obtain ⟨r0,f0,f1⟩:=aA hF;clear hF
 refine cut (fun (q0:Bool)=>[(0,(.int .i64 p_)),(1,(rows_h).v),(2,(.int .i64 n_)),(19,(.bool q0))]) (fun (q0:Bool) w'=>q0=r0∧Cx w0 fp0 S0 w' [Es (List (List Int)) rows_ rows_h]) ?_ ?_
 ·
  refine kA (H.rs (α:=List (List Int)) 0 rfl).len ?_
  obtain ⟨a0,e,f2⟩:=aA f0;clear f0
  refine gA e ?_;clear e
  cases a0
  ·
   have f3:=fA f2;clear f2
   obtain ⟨y0,e,f4⟩:=aA f3;clear f3
   have i0:=e;clear e
   refine iA (BK_ p_ rows_ rows_h n_ y0 i0) (Γi:=[]) H ⟨Vw.sh 0 rfl,trivial⟩ ?_;clear H i0
   rintro _ _ w1 ⟨rfl,rfl⟩ H
   obtain ⟨a1,e,f5⟩:=aA f4;clear f4
   refine gA e ?_;clear e
   exact ⟨a1,⟨rfl,rfl,rfl,rfl,trivial⟩,Option.some.inj f5,H.sel [0] rfl⟩
  ·
   have f6:=eA f2;clear f2
   exact ⟨true,⟨rfl,rfl,rfl,rfl,trivial⟩,Option.some.inj f6,H.sel [0] rfl⟩
 ·
  clear f0 H
  rintro T0 s0 w2 ⟨hr,(H:Cx w0 fp0 S0 w2 [Es (List (List Int)) rows_ rows_h])⟩
  subst hr
  cases s0
  ·
   have f7:=fA f1;clear f1
   refine sq ?_
   obtain ⟨y1,e,f8⟩:=aA f7;clear f7
   have i1:=e;clear e
   refine iA (wV p_ rows_ rows_h n_ y1 i1) (Γi:=[]) H ⟨Vw.sh 0 rfl,trivial⟩ ?_;clear H i1
   rintro _ _ w3 ⟨h0,rfl,rfl⟩ H
   refine kA (H.ro (α:=List (List Int)) 0 rfl).len ?_
   replace H:=H.frz
   have x0:=(H.rs (α:=List (List Int)) 0 rfl).max
   obtain ⟨r1,e,f9⟩:=aA f8;clear f8
   refine qF _ y1.length (fun (k0:Nat) (_:Unit) (_:Unit)=>[(0,(.int .i64 p_)),(1,(rows_h).v),(2,(.int .i64 n_)),(23,(h0).v),(24,(.int .i64 ((y1.length:Nat):Int))),(25,(.int .i64 ((k0:Nat):Int)))]) (fun _ (_:Unit) (_:Unit) w'=>Cx w0 fp0 S0 w' [Es (List (List Int)) rows_ rows_h,Es (List (List Int)) y1 h0]) () () e ⟨rfl,rfl,rfl,rfl,rfl,rfl,trivial⟩ (H.sel [1,0] rfl) ?_ ?_
   ·
    clear H e
    rintro T1 k0 _ _ w4 o0 hk (H:Cx w0 fp0 S0 w4 [Es (List (List Int)) rows_ rows_h,Es (List (List Int)) y1 h0]) hrt f10
    refine jA (z:=true) (cB hk) ?_
    refine sq ?_
    refine sq ?_
    obtain ⟨a2,e,f11⟩:=aA f10;clear f10
    have HH:=H;clear H;obtain ⟨p0,m0,h1,c0,c1,c2,c3,H⟩:=HH.elL 1 rfl e;clear HH
    clear e
    refine dA c0 c1 c2 ?_;clear c0 c1 c2
    refine cA c3 ?_;clear c3
    refine aC H [] (.fst 0 (.fst 2 (.fst 3 (.fst 4 (.fst 5 (.act 1 (.act 6 (.act 7 .done)))))))) vB [] trivial (by kernel_rfl) ?_
    clear H;intro w5 H
    have hX:Ext w5 w5:=Upd.refl _ _
    have H0:=H
    obtain ⟨a3,e,f12⟩:=aA f11;clear f11
    have HH:=H;clear H;obtain ⟨p1,m1,h2,c4,c5,c6,c7,H⟩:=HH.elL 1 rfl e;clear HH
    clear e
    refine dA c4 c5 c6 ?_;clear c4 c5 c6
    refine uA c7 ?_;clear c7
    obtain ⟨y2,e,f13⟩:=aA f12;clear f12
    have i2:=e;clear e
    refine eB (zW a2 h1 y2 i2) H ⟨Vw.sh 1 rfl,trivial⟩ ?_;clear H i2
    rintro _ _ w6 ⟨rfl,rfl⟩ hx H
    replace hX:=hX.trans0 hx;clear hx
    refine hold hX ?_
    obtain ⟨y3,e,f14⟩:=aA f13;clear f13
    have i3:=e;clear e
    refine eB (zW a3 h2 y3 i3) H ⟨Vw.sh 0 rfl,trivial⟩ ?_;clear H i3
    rintro _ _ w7 ⟨rfl,rfl⟩ hx H
    replace hX:=hX.trans0 hx;clear hx
    refine hold hX ?_
    obtain ⟨a4,e,f15⟩:=aA f14;clear f14
    refine neqAr (t:=93) (n:=48) (e:=3) gok rfl rfl (by kernel_rfl) (by kernel_rfl) e ?_;clear e
    refine hold hX ?_
    cases a4
    ·
     have f16:=fA f15;clear f15
     refine arK hk x0 ?_
     have hs:=Option.some.inj f16;subst hs;clear f16
     exact ⟨(),(),rfl,⟨rfl,rfl,rfl,rfl,rfl,rfl,trivial⟩,H.sel [2,3] rfl⟩
    ·
     have f17:=eA f15;clear f15
     have hs:=Option.some.inj f17;subst hs;clear f17
     have hr:=hrt _ rfl;subst hr
     have f18:some _=some _:=f9
     cases f18
     exact ⟨_,_,rfl,⟨rfl,rfl⟩,(H.sel [] rfl).close trivial⟩
   ·
    clear H e
    rintro T2 _ _ w8 hr (H:Cx w0 fp0 S0 w8 [Es (List (List Int)) rows_ rows_h,Es (List (List Int)) y1 h0])
    subst hr
    refine jA (z:=false) dB ?_
    refine sq ?_
    obtain ⟨y4,e,f19⟩:=aA f9;clear f9
    have i4:=e;clear e
    refine iA (wV p_ rows_ rows_h n_ y4 i4) (Γi:=[]) H ⟨Vw.sh 0 rfl,trivial⟩ ?_;clear H i4
    rintro _ _ w9 ⟨h3,rfl,rfl⟩ H
    refine kA (H.ro (α:=List (List Int)) 0 rfl).len ?_
    refine kA (H.rs (α:=List (List Int)) 1 rfl).len ?_
    obtain ⟨a5,e,f20⟩:=aA f19;clear f19
    refine gA e ?_;clear e
    cases f20
    exact ⟨_,_,rfl,⟨rfl,rfl⟩,(H.sel [] rfl).close trivial⟩
  ·
   have f21:=eA f1;clear f1
   cases f21
   exact ⟨_,_,rfl,⟨rfl,rfl⟩,(H.sel [] rfl).close trivial⟩
theorem BJ_ (p_:Int) (r__0:Int) (r__1:Int) (r__2:List (List Int)) (r__2h:Hd) (y:Bool) (hF:jR p_ (r__0,r__1,r__2)=some y) :
  nA Tryz.prog 24 #[(.int .i64 p_),(.agg #[(.int .i64 r__0),(.int .i64 r__1),(r__2h).v])] [Es (List (List Int)) r__2 r__2h,Gl 0 [.int .i64 2,.int .i64 3,.int .i64 5,.int .i64 7]] [] (fun v Γ'=>v=(.bool y)∧Γ'=[]):=by
 intro w0 S0 fp0 hI hS
 have H:Cx w0 fp0 S0 w0 [Es (List (List Int)) r__2 r__2h,Gl 0 [.int .i64 2,.int .i64 3,.int .i64 5,.int .i64 7]]:=Cx.start hI hS
 clear hI hS
 refine lA (args:=[_,_]) gok Tryz.func24 rfl _ rfl rfl rfl ?_
 refine jB H ?_;clear H;intro b4 w3 hx H
 clear hx
 obtain ⟨r0,f0,f1⟩:=aA hF;clear hF
 refine cut (fun (q0:Bool)=>[(4,(.bool q0))]) (fun (q0:Bool) w'=>q0=r0∧Cx w0 fp0 S0 w' [Gl 0 [.int .i64 2,.int .i64 3,.int .i64 5,.int .i64 7]]) ?_ ?_
 ·
  obtain ⟨y0,e,f2⟩:=aA f0;clear f0
  have i0:=e;clear e
  refine iA (Cc_ p_ y0 i0) (Γi:=[]) H ⟨Vw.gl 2 rfl,trivial⟩ ?_;clear H i0
  rintro _ _ w1 ⟨rfl,rfl⟩ H
  cases y0
  ·
   have f3:=fA f2;clear f2
   exact ⟨false,⟨rfl,trivial⟩,Option.some.inj f3,H.sel [2] rfl⟩
  ·
   have f4:=eA f2;clear f2
   refine fld gok rfl rfl rfl rfl ?_
   refine cA (H.bx 0 rfl (j:=0) rfl) ?_
   refine fld gok rfl rfl rfl rfl ?_
   refine cA (H.bx 0 rfl (j:=1) rfl) ?_
   obtain ⟨y1,e,f5⟩:=aA f4;clear f4
   have i1:=e;clear e
   refine iA (CQ_ r__0 r__1 y1 i1) (Γi:=[]) H trivial ?_;clear H i1
   rintro _ _ w2 ⟨rfl,rfl⟩ H
   cases y1
   ·
    have f6:=fA f5;clear f5
    exact ⟨false,⟨rfl,trivial⟩,Option.some.inj f6,H.sel [2] rfl⟩
   ·
    have f7:=eA f5;clear f5
    refine fld gok rfl rfl rfl rfl ?_
    refine cA (H.bx 0 rfl (j:=2) rfl) ?_
    refine fld gok rfl rfl rfl rfl ?_
    refine cA (H.bx 0 rfl (j:=0) rfl) ?_
    refine fld gok rfl rfl rfl rfl ?_
    refine cA (H.bx 0 rfl (j:=1) rfl) ?_
    obtain ⟨a0,e,f8⟩:=aA f7;clear f7
    refine arO e ?_;clear e
    obtain ⟨y2,e,f9⟩:=aA f8;clear f8
    have i2:=e;clear e
    refine iA (BU_ p_ r__2 r__2h a0 y2 i2) (Γi:=[]) H ⟨Vw.sh 1 rfl,trivial⟩ ?_;clear H i2
    rintro _ _ w4 ⟨rfl,rfl⟩ H
    exact ⟨y2,⟨rfl,trivial⟩,Option.some.inj f9,H.sel [2] rfl⟩
 ·
  clear f0 H
  rintro T0 s0 w5 ⟨hr,(H:Cx w0 fp0 S0 w5 [Gl 0 [.int .i64 2,.int .i64 3,.int .i64 5,.int .i64 7]])⟩
  subst hr
  cases f1
  exact ⟨_,_,rfl,⟨rfl,rfl⟩,(H.sel [] rfl).close trivial⟩
theorem zK (d_b:Nat) (d__0_0:Int) (d__0_1:List (Int×Int×List Int×List Int)) (d__0_1v:Value) (d__0_2:List Int) (d__0_2v:Value) (d__0_3:List Int) (d__0_3v:Value) (y0_0_0:Int) (y0_0_1:List (Int×Int×List Int×List Int)) (y0_0_2:List Int) (y0_0_3:List Int) (y1:Int) (hF:jF (d__0_0,d__0_1,d__0_2,d__0_3)=some ((y0_0_0,y0_0_1,y0_0_2,y0_0_3),y1)) :
  nA Tryz.prog 55 #[(.pointer (some ⟨d_b,0,none⟩))] [] [Bx d_b [(.int .i64 d__0_0),d__0_1v,d__0_2v,d__0_3v]] (fun v Γ'=>v=(.int .i64 y1)∧Γ'=[Bx d_b [(.int .i64 y0_0_0),d__0_1v,d__0_2v,d__0_3v]]):=by
 intro w0 S0 fp0 hI hS
 have H:Cx w0 fp0 S0 w0 [Bx d_b [(.int .i64 d__0_0),d__0_1v,d__0_2v,d__0_3v]]:=Cx.start hI hS
 clear hI hS
 refine lA (args:=[_]) gok Tryz.func55 rfl _ rfl rfl rfl ?_
 refine fld gok rfl rfl rfl rfl ?_
 refine fld gok rfl rfl rfl rfl ?_
 refine cA (H.bx 0 rfl (j:=0) rfl) ?_
 obtain ⟨a2,e,hF3⟩:=aA hF;clear hF
 refine arO e ?_;clear e
 refine fld gok rfl rfl rfl rfl ?_
 refine fld gok rfl rfl rfl rfl ?_
 refine stB (j:=0) H rfl rfl ?_;clear H;intro w4 H
 refine fld gok rfl rfl rfl rfl ?_
 refine fld gok rfl rfl rfl rfl ?_
 refine cA (H.bx 0 rfl (j:=0) rfl) ?_
 obtain ⟨a5,e,hF6⟩:=aA hF3;clear hF3
 refine arO e ?_;clear e
 cases hF6
 exact ⟨_,_,rfl,⟨rfl,rfl⟩,(H.sel [0] rfl).close ⟨cloB,trivial⟩⟩
theorem kV (d_b:Nat) (d__0_0:Int) (d__0_1:List (Int×Int×List Int×List Int)) (d__0_1v:Value) (d__0_2:List Int) (d__0_2v:Value) (d__0_3:List Int) (d__0_3v:Value) (n_:Int) (y0_0_0:Int) (y0_0_1:List (Int×Int×List Int×List Int)) (y0_0_2:List Int) (y0_0_3:List Int) (y1:List Int) (hF:xK (d__0_0,d__0_1,d__0_2,d__0_3) n_=some ((y0_0_0,y0_0_1,y0_0_2,y0_0_3),y1)) :
  nA Tryz.prog 40 #[(.pointer (some ⟨d_b,0,none⟩)),(.int .i64 n_)] [] [Bx d_b [(.int .i64 d__0_0),d__0_1v,d__0_2v,d__0_3v]] (fun v Γ'=>∃ z0:Hd,v=(z0).v∧Γ'=[Bx d_b [(.int .i64 y0_0_0),d__0_1v,d__0_2v,d__0_3v],E (List Int) y1 z0]):=by
 intro w0 S0 fp0 hI hS
 have H:Cx w0 fp0 S0 w0 [Bx d_b [(.int .i64 d__0_0),d__0_1v,d__0_2v,d__0_3v]]:=Cx.start hI hS
 clear hI hS
 refine lA (args:=[_,_]) gok Tryz.func40 rfl _ rfl rfl rfl ?_
 refine lit0 (α:=Int) gok rfl rfl H ?_;clear H;intro h3 w2 hx H
 clear hx
 refine sq ?_
 obtain ⟨a0,hn36,f0⟩:=aA hF;clear hF
 obtain ⟨r0,e,f1⟩:=aA f0;clear f0
 refine fB _ n_.toNat (fun (k5:Nat) (s0:Int×List Int) (g0:Hd)=>[(0,(.pointer (some ⟨d_b,0,none⟩))),(5,(g0).v),(7,(.int .i64 n_)),(8,(.int .i64 ((k5:Nat):Int)))]) (fun _ (s0:Int×List Int) (g0:Hd) w'=>Cx w0 fp0 S0 w' [Bx d_b [(.int .i64 s0.1),d__0_1v,d__0_2v,d__0_3v],E (List Int) s0.2 g0]) (d__0_0,([]:List Int)) h3 e ⟨rfl,rfl,rfl,rfl,trivial⟩ (H.sel [1,0] rfl) ?_ ?_
 ·
  clear H e
  rintro T0 k5 ⟨s0_0,s0_1⟩ g0 w1 o0 hk (H:Cx w0 fp0 S0 w1 [Bx d_b [(.int .i64 s0_0),d__0_1v,d__0_2v,d__0_3v],E (List Int) s0_1 g0]) f2
  refine jA (z:=true) (ltNat hk) ?_
  refine sq ?_
  refine sq ?_
  obtain ⟨y0,e,f3⟩:=aA f2;clear f2
  obtain ⟨⟨y0_0_0_0,y0_0_0_1,y0_0_0_2,y0_0_0_3⟩,y0_1⟩:=y0
  have i0:=e;clear e
  refine iA (zK d_b s0_0 d__0_1 d__0_1v d__0_2 d__0_2v d__0_3 d__0_3v y0_0_0_0 y0_0_0_1 y0_0_0_2 y0_0_0_3 y0_1 i0) (Γi:=[Bx d_b [(.int .i64 s0_0),d__0_1v,d__0_2v,d__0_3v]]) H trivial ?_;clear H i0
  rintro _ _ w3 ⟨rfl,rfl⟩ H
  refine bB (α:=Int) gok rfl rfl rfl rfl H ?_;clear H;intro h0 w4 hx H
  clear hx
  obtain ⟨a1,e,f4⟩:=aA f3;clear f3
  replace H:=H.sel [2,0,1] rfl
  refine append_ (α:=Int) gok rfl rfl rfl rfl H e ?_;clear e H;intro h1 w5 H
  refine arK hk (maxI hn36) ?_
  have hs:=Option.some.inj f4;subst hs;clear f4
  exact ⟨h1,⟨rfl,rfl,rfl,rfl,trivial⟩,H.sel [1,0] rfl⟩
 ·
  clear H e
  obtain ⟨s1_0,s1_1⟩:=r0
  rintro T1 g1 w6 (H:Cx w0 fp0 S0 w6 [Bx d_b [(.int .i64 s1_0),d__0_1v,d__0_2v,d__0_3v],E (List Int) s1_1 g1])
  refine jA (z:=false) geNat ?_
  refine sq ?_
  cases f1
  exact ⟨_,_,rfl,⟨g1,rfl,rfl⟩,(H.sel [0,1] rfl).close ⟨cloB,cloE,trivial⟩⟩
theorem tC (d_b:Nat) (d__0_0:Int) (d__0_1:List (Int×Int×List Int×List Int)) (d__0_1h:Hd) (d__0_2:List Int) (d__0_2v:Value) (d__0_3:List Int) (d__0_3v:Value) (kind_:Int) (value_:Int) (in_:List Int) (in_h:Hd) (out_:List Int) (out_h:Hd) (y_0_0:Int) (y_0_1:List (Int×Int×List Int×List Int)) (y_0_2:List Int) (y_0_3:List Int) (hF:zD (d__0_0,d__0_1,d__0_2,d__0_3) kind_ value_ in_ out_=some (y_0_0,y_0_1,y_0_2,y_0_3)) :
  uD Tryz.prog 53 #[(.pointer (some ⟨d_b,0,none⟩)),(.int .i64 kind_),(.int .i64 value_),(in_h).v,(out_h).v] [Es (List Int) in_ in_h,Es (List Int) out_ out_h] [Bx d_b [(.int .i64 d__0_0),(d__0_1h).v,d__0_2v,d__0_3v],E (List (Sh (Int×Int×List Int×List Int))) d__0_1 d__0_1h] (fun v Γ'=>∃ z0:Hd,v=(.tuple #[])∧Γ'=[Bx d_b [(.int .i64 y_0_0),(z0).v,d__0_2v,d__0_3v],E (List (Sh (Int×Int×List Int×List Int))) y_0_1 z0]):=by
 intro w0 S0 fp0 hI hS
 have H:Cx w0 fp0 S0 w0 [Es (List Int) in_ in_h,Es (List Int) out_ out_h,Bx d_b [(.int .i64 d__0_0),(d__0_1h).v,d__0_2v,d__0_3v],E (List (Sh (Int×Int×List Int×List Int))) d__0_1 d__0_1h]:=Cx.start hI hS
 clear hI hS
 refine lA (args:=[_,_,_,_,_]) gok Tryz.func53 rfl _ rfl rfl rfl ?_
 refine fld gok rfl rfl rfl rfl ?_
 refine fld gok rfl rfl rfl rfl ?_
 refine cA (H.bx 2 rfl (j:=1) rfl) ?_
 refine tB (cs:=#[(.int .i64 kind_),(.int .i64 value_),(in_h).v,(out_h).v]) gok rfl rfl rfl ?_
 replace H:=H.dup 0 rfl qA
 replace H:=H.dup 2 rfl qA
 replace H:=H.sel [1,0,2,3,4,5] rfl
 replace H:=H.join (α:=Sh (List Int)) (β:=Sh (List Int))
 replace H:=H.sc (α:=Int) value_
 replace H:=H.join (α:=Int) (β:=Sh (List Int)×Sh (List Int))
 replace H:=H.sc (α:=Int) kind_
 replace H:=H.join (α:=Int) (β:=Int×Sh (List Int)×Sh (List Int))
 refine gF (α:=Int×Int×Sh (List Int)×Sh (List Int)) (x:=(kind_,value_,in_,out_)) (g:=((),(),in_h,out_h)) gok rfl rfl rfl rfl (by rfl) H ?_;clear H;intro h6 w5 hx H
 clear hx
 obtain ⟨a0,e,f0⟩:=aA hF;clear hF
 replace H:=H.frzP (α:=Int×Int×Sh (List Int)×Sh (List Int)) (β:=Int×Int×List Int×List Int) inferInstance (fun x=>x) (fun x=>x) (fun x=>x) (fun l i=>(by simp:l[i]?=l[i]?.map fun x=>x)) rfl (fun _ _ _ _ h=>h) (fun _ _=>rfl)
 replace H:=H.sel [4,0,1,2,3] rfl
 refine append_ (α:=Sh (Int×Int×List Int×List Int)) gok rfl rfl rfl rfl H e ?_;clear e H;intro h0 w1 H
 refine fld gok rfl rfl rfl rfl ?_
 refine fld gok rfl rfl rfl rfl ?_
 replace H:=H.sel [3,0,1,2] rfl
 refine stB (j:=1) H rfl rfl ?_;clear H;intro w2 H
 cases f0
 exact ⟨_,_,rfl,⟨h0,rfl,rfl⟩,(H.sel [0,1] rfl)⟩
theorem Bo_ (r__0:Int) (r__1:Int) (r__2:List (List Int)) (r__2h:Hd) (y:Int) (hF:mV (r__0,r__1,r__2)=some y) :
  nA Tryz.prog 54 #[(.agg #[(.int .i64 r__0),(.int .i64 r__1),(r__2h).v])] [Es (List (List Int)) r__2 r__2h] [] (fun v Γ'=>v=(.int .i64 y)∧Γ'=[]):=by
 intro w0 S0 fp0 hI hS
 have H:Cx w0 fp0 S0 w0 [Es (List (List Int)) r__2 r__2h]:=Cx.start hI hS
 clear hI hS
 refine lA (args:=[_]) gok Tryz.func54 rfl _ rfl rfl rfl ?_
 refine jB H ?_;clear H;intro b3 w2 hx H
 clear hx
 refine fld gok rfl rfl rfl rfl ?_
 refine cA (H.bx 0 rfl (j:=0) rfl) ?_
 refine fld gok rfl rfl rfl rfl ?_
 refine cA (H.bx 0 rfl (j:=1) rfl) ?_
 obtain ⟨a5,e,hF6⟩:=aA hF;clear hF
 refine arO e ?_;clear e
 cases hF6
 exact ⟨_,_,rfl,⟨rfl,rfl⟩,(H.sel [] rfl).close trivial⟩
theorem Bc_:∀ (fuel:Nat) (d_b:Nat) (d__0_0:Int) (d__0_1:List (Int×Int×List Int×List Int)) (d__0_1h:Hd) (d__0_2:List Int) (d__0_2v:Value) (d__0_3:List Int) (d__0_3v:Value) (w_:Int) (n_:Int) (y0_0_0:Int) (y0_0_1:List (Int×Int×List Int×List Int)) (y0_0_2:List Int) (y0_0_3:List Int) (y1:List Int) (hF:jJ fuel (d__0_0,d__0_1,d__0_2,d__0_3) w_ n_=some ((y0_0_0,y0_0_1,y0_0_2,y0_0_3),y1)),
  uD Tryz.prog 64 #[(.pointer (some ⟨d_b,0,none⟩)),(.int .i64 w_),(.int .i64 n_)] [] [Bx d_b [(.int .i64 d__0_0),(d__0_1h).v,d__0_2v,d__0_3v],E (List (Sh (Int×Int×List Int×List Int))) d__0_1 d__0_1h] (fun v Γ'=>∃ z0 z1:Hd,v=(z1).v∧Γ'=[Bx d_b [(.int .i64 y0_0_0),(z0).v,d__0_2v,d__0_3v],E (List (Sh (Int×Int×List Int×List Int))) y0_0_1 z0,Es (List Int) y1 z1]):=by
 intro fuel
 induction fuel with
 | zero=>intro d_b d__0_0 d__0_1 d__0_1h d__0_2 d__0_2v d__0_3 d__0_3v w_ n_ y0_0_0 y0_0_1 y0_0_2 y0_0_3 y1 hF;cases hF
 | succ fuel ih=>
 intro d_b d__0_0 d__0_1 d__0_1h d__0_2 d__0_2v d__0_3 d__0_3v w_ n_ y0_0_0 y0_0_1 y0_0_2 y0_0_3 y1 hF
 intro w0 S0 fp0 hI hS
 have H:Cx w0 fp0 S0 w0 [Bx d_b [(.int .i64 d__0_0),(d__0_1h).v,d__0_2v,d__0_3v],E (List (Sh (Int×Int×List Int×List Int))) d__0_1 d__0_1h]:=Cx.start hI hS
 clear hI hS
 refine lA (args:=[_,_,_]) gok Tryz.func64 rfl _ rfl rfl rfl ?_
 refine sq ?_
 obtain ⟨a3,e,hF4⟩:=aA hF;clear hF
 refine gA e ?_;clear e
 cases a3
 ·
  have hF5:=fA hF4;clear hF4
  obtain ⟨a6,e,hF7⟩:=aA hF5;clear hF5
  refine gA e ?_;clear e
  cases a6
  ·
   have hF8:=fA hF7;clear hF7
   obtain ⟨y9,e,f0⟩:=aA hF8;clear hF8
   obtain ⟨⟨y9_0_0_0,y9_0_0_1,y9_0_0_2,y9_0_0_3⟩,y9_1⟩:=y9
   have ey9:=e;clear e
   refine iA (kV d_b d__0_0 d__0_1 ((d__0_1h).v) d__0_2 d__0_2v d__0_3 d__0_3v 2 y9_0_0_0 y9_0_0_1 y9_0_0_2 y9_0_0_3 y9_1 ey9) (Γi:=[Bx d_b [(.int .i64 d__0_0),(d__0_1h).v,d__0_2v,d__0_3v]]) H trivial ?_;clear H ey9
   rintro _ _ w1 ⟨h0,rfl,rfl⟩ H
   refine bB (α:=Int) gok rfl rfl rfl rfl H ?_;clear H;intro h1 w2 hx H
   clear hx
   obtain ⟨y0,e,f1⟩:=aA f0;clear f0
   obtain ⟨y0_0_0,y0_0_1,y0_0_2,y0_0_3⟩:=y0
   have i0:=e;clear e
   replace H:=H.frz
   replace H:=H.sel [2,0,1,3] rfl
   replace H:=H.frz
   replace H:=H.sel [2,3,0,1] rfl
   refine aB (tC d_b y9_0_0_0 d__0_1 d__0_1h d__0_2 d__0_2v d__0_3 d__0_3v 3 0 [w_] h1 y9_1 h0 y0_0_0 y0_0_1 y0_0_2 y0_0_3 i0) (Γi:=[Bx d_b [(.int .i64 y9_0_0_0),(d__0_1h).v,d__0_2v,d__0_3v],E (List (Sh (Int×Int×List Int×List Int))) d__0_1 d__0_1h]) H [1,0] rfl (wA qA (wA qA zA)) ?_;clear H i0
   rintro _ _ w3 ⟨h2,rfl,rfl⟩ H
   obtain ⟨r0,f2,f3⟩:=aA f1;clear f1
   refine lH H [10,11,12,3,7,2,1,6,0,4,5,8,9] (.pure 0 (.pure 4 (.pure 5 (.pure 8 (.pure 9 (.alts (.alt 1 (.alts (.alt 2 (.alts (.alt 3 (.act 6 (.act 7 (.act 10 (.act 11 (.act 12 .done))))) (.alt 6 (.alts (.alt 3 (.act 7 (.act 10 (.act 11 (.act 12 .done)))) (.alt 7 (.alts (.alt 3 (.act 10 (.act 11 (.act 12 .done))) (.alt 10 (.act 3 (.act 11 (.act 12 .done))) .no))) .no))) .no))) (.alt 6 (.alts (.alt 2 (.alts (.alt 3 (.act 7 (.act 10 (.act 11 (.act 12 .done)))) (.alt 7 (.alts (.alt 3 (.act 10 (.act 11 (.act 12 .done))) (.alt 10 (.act 3 (.act 11 (.act 12 .done))) .no))) .no))) (.alt 7 (.alts (.alt 2 (.alts (.alt 3 (.act 10 (.act 11 (.act 12 .done))) (.alt 10 (.act 3 (.act 11 (.act 12 .done))) .no))) (.alt 10 (.act 2 (.act 3 (.act 11 (.act 12 .done)))) .no))) .no))) .no))) (.alt 6 (.alts (.alt 1 (.alts (.alt 2 (.alts (.alt 3 (.act 7 (.act 10 (.act 11 (.act 12 .done)))) (.alt 7 (.alts (.alt 3 (.act 10 (.act 11 (.act 12 .done))) (.alt 10 (.act 3 (.act 11 (.act 12 .done))) .no))) .no))) (.alt 7 (.alts (.alt 2 (.alts (.alt 3 (.act 10 (.act 11 (.act 12 .done))) (.alt 10 (.act 3 (.act 11 (.act 12 .done))) .no))) (.alt 10 (.act 2 (.act 3 (.act 11 (.act 12 .done)))) .no))) .no))) (.alt 7 (.alts (.alt 1 (.alts (.alt 2 (.alts (.alt 3 (.act 10 (.act 11 (.act 12 .done))) (.alt 10 (.act 3 (.act 11 (.act 12 .done))) .no))) (.alt 10 (.act 2 (.act 3 (.act 11 (.act 12 .done)))) .no))) (.alt 10 (.act 1 (.act 2 (.act 3 (.act 11 (.act 12 .done))))) .no))) .no))) .no)))))))) vB [] trivial (by kernel_rfl) (fun (q0:(Int×(List (Int×Int×List Int×List Int))×List Int)×(Hd×Hd))=>[(6,(q0.2.2).v)]) (fun (q0:(Int×(List (Int×Int×List Int×List Int))×List Int)×(Hd×Hd)) w'=>(q0.1.1,q0.1.2.1,q0.1.2.2)=r0∧Cx w0 fp0 S0 w' [E (List Int) q0.1.2.2 q0.2.2,Bx d_b [(.int .i64 q0.1.1),(q0.2.1).v,d__0_2v,d__0_3v],E (List (Sh (Int×Int×List Int×List Int))) q0.1.2.1 q0.2.1]) ?_ ?_
   ·
    clear H;intro w4 H
    have hX:Ext w4 w4:=Upd.refl _ _
    have H0:=H
    obtain ⟨a0,e,f4⟩:=aA f2;clear f2
    refine arO e ?_;clear e
    refine pA ?_ ?_
    ·
     obtain ⟨a1,e,f5⟩:=aA f4;clear f4
     have d0:=e;clear e
     obtain ⟨p0,m0,c0,c1,c2,c3⟩:=(H.rs (α:=List Int) 2 rfl).at1 d0;clear c3
     refine dA c0 c1 c2 ?_;clear c2
     refine hold trivial ?_
     refine pA ?_ ?_
     ·
      refine cA ((H.rs (α:=List Int) 2 rfl).at1' c0 c1 d0) ?_;clear c0 c1 d0
      refine hold trivial ?_
      refine pA ?_ ?_
      ·
       refine bB (α:=Int) gok rfl rfl rfl rfl H ?_;clear H;intro h3 w5 hx H
       clear hx
       refine hold trivial ?_
       obtain ⟨a2,e,f6⟩:=aA f5;clear f5
       have d1:=e;clear e
       obtain ⟨p1,m1,c4,c5,c6,c7⟩:=(H.rs (α:=List Int) 3 rfl).at1 d1;clear c7
       refine dA c4 c5 c6 ?_;clear c6
       refine hold trivial ?_
       refine cA ((H.rs (α:=List Int) 3 rfl).at1' c4 c5 d1) ?_;clear c4 c5 d1
       refine hold trivial ?_
       obtain ⟨y2,e,f7⟩:=aA f6;clear f6
       obtain ⟨⟨y2_0_0_0,y2_0_0_1,y2_0_0_2,y2_0_0_3⟩,y2_1⟩:=y2
       have i1:=e;clear e
       replace H:=H.sel [1,2,0,3,4] rfl
       refine aB (ih d_b y0_0_0 y0_0_1 h2 d__0_2 d__0_2v d__0_3 d__0_3v a2 a0 y2_0_0_0 y2_0_0_1 y2_0_0_2 y2_0_0_3 y2_1 i1) (Γi:=[Bx d_b [(.int .i64 y0_0_0),(h2).v,d__0_2v,d__0_3v],E (List (Sh (Int×Int×List Int×List Int))) y0_0_1 h2]) H [] rfl zA ?_;clear H i1
       rintro _ _ w6 ⟨h4,h5,rfl,rfl⟩ H
       refine hold trivial ?_
       obtain ⟨a4,e,f8⟩:=aA f7;clear f7
       replace H:=H.sel [3,0,1,2,4,5] rfl
       refine nC (α:=Int) gok rfl rfl rfl rfl H (Vw.sh 2 rfl) e ?_;clear e H;intro h6 w7 H
       refine hold trivial ?_
       refine hold trivial ?_
       exact ⟨((y2_0_0_0,y2_0_0_1,a4),(h4,h6)),⟨rfl,trivial⟩,Option.some.inj f8,H.sel [0,1,2] rfl⟩
      ·
       refine pA ?_ ?_
       ·
        obtain ⟨a5,o0,f9⟩:=aA f5;clear f5
        obtain ⟨a7,o1,f10⟩:=aA f9;clear f9
        obtain ⟨a8,o2,f11⟩:=aA f10;clear f10
        have e:=o0;clear o0
        have d2:=e;clear e
        obtain ⟨p2,m2,c8,c9,c10,c11⟩:=(H.rs (α:=List Int) 2 rfl).at1 d2;clear c11
        refine dA c8 c9 c10 ?_;clear c10
        refine hold trivial ?_
        refine pA ?_ ?_
        ·
         refine bB (α:=Int) gok rfl rfl rfl rfl H ?_;clear H;intro h7 w8 hx H
         clear hx
         refine hold trivial ?_
         refine cA ((H.rs (α:=List Int) 3 rfl).at1' c8 c9 d2) ?_;clear c8 c9 d2
         refine hold trivial ?_
         have e:=o1;clear o1
         obtain ⟨⟨a7_0_0_0,a7_0_0_1,a7_0_0_2,a7_0_0_3⟩,a7_1⟩:=a7
         have i2:=e;clear e
         replace H:=H.sel [1,2,0,3,4] rfl
         refine aB (ih d_b y0_0_0 y0_0_1 h2 d__0_2 d__0_2v d__0_3 d__0_3v a5 a0 a7_0_0_0 a7_0_0_1 a7_0_0_2 a7_0_0_3 a7_1 i2) (Γi:=[Bx d_b [(.int .i64 y0_0_0),(h2).v,d__0_2v,d__0_3v],E (List (Sh (Int×Int×List Int×List Int))) y0_0_1 h2]) H [] rfl zA ?_;clear H i2
         rintro _ _ w9 ⟨h8,h9,rfl,rfl⟩ H
         refine hold trivial ?_
         have e:=o2;clear o2
         replace H:=H.sel [3,0,1,2,4,5] rfl
         refine nC (α:=Int) gok rfl rfl rfl rfl H (Vw.sh 2 rfl) e ?_;clear e H;intro h10 w10 H
         refine hold trivial ?_
         refine hold trivial ?_
         exact ⟨((a7_0_0_0,a7_0_0_1,a8),(h8,h10)),⟨rfl,trivial⟩,Option.some.inj f11,H.sel [0,1,2] rfl⟩
        ·
         refine pA ?_ ?_
         ·
          refine cA ((H.rs (α:=List Int) 2 rfl).at1' c8 c9 d2) ?_;clear c8 c9 d2
          refine hold trivial ?_
          refine pA ?_ ?_
          ·
           refine bB (α:=Int) gok rfl rfl rfl rfl H ?_;clear H;intro h11 w12 hx H
           clear hx
           refine hold trivial ?_
           have e:=o1;clear o1
           obtain ⟨⟨a7_0_0_0,a7_0_0_1,a7_0_0_2,a7_0_0_3⟩,a7_1⟩:=a7
           have i2:=e;clear e
           replace H:=H.sel [1,2,0,3,4] rfl
           refine aB (ih d_b y0_0_0 y0_0_1 h2 d__0_2 d__0_2v d__0_3 d__0_3v a5 a0 a7_0_0_0 a7_0_0_1 a7_0_0_2 a7_0_0_3 a7_1 i2) (Γi:=[Bx d_b [(.int .i64 y0_0_0),(h2).v,d__0_2v,d__0_3v],E (List (Sh (Int×Int×List Int×List Int))) y0_0_1 h2]) H [] rfl zA ?_;clear H i2
           rintro _ _ w13 ⟨h13,h14,rfl,rfl⟩ H
           refine hold trivial ?_
           have e:=o2;clear o2
           replace H:=H.sel [3,0,1,2,4,5] rfl
           refine nC (α:=Int) gok rfl rfl rfl rfl H (Vw.sh 2 rfl) e ?_;clear e H;intro h16 w15 H
           refine hold trivial ?_
           refine hold trivial ?_
           exact ⟨((a7_0_0_0,a7_0_0_1,a8),(h13,h16)),⟨rfl,trivial⟩,Option.some.inj f11,H.sel [0,1,2] rfl⟩
          ·
           refine pA ?_ ?_
           ·
            have e:=o1;clear o1
            obtain ⟨⟨a7_0_0_0,a7_0_0_1,a7_0_0_2,a7_0_0_3⟩,a7_1⟩:=a7
            have i2:=e;clear e
            refine aB (ih d_b y0_0_0 y0_0_1 h2 d__0_2 d__0_2v d__0_3 d__0_3v a5 a0 a7_0_0_0 a7_0_0_1 a7_0_0_2 a7_0_0_3 a7_1 i2) (Γi:=[Bx d_b [(.int .i64 y0_0_0),(h2).v,d__0_2v,d__0_3v],E (List (Sh (Int×Int×List Int×List Int))) y0_0_1 h2]) H [] rfl zA ?_;clear H i2
            rintro _ _ w16 ⟨h17,h18,rfl,rfl⟩ H
            refine hold trivial ?_
            refine bB (α:=Int) gok rfl rfl rfl rfl H ?_;clear H;intro h19 w17 hx H
            clear hx
            refine hold trivial ?_
            have e:=o2;clear o2
            refine nC (α:=Int) gok rfl rfl rfl rfl H (Vw.sh 2 rfl) e ?_;clear e H;intro h21 w18 H
            refine hold trivial ?_
            refine hold trivial ?_
            exact ⟨((a7_0_0_0,a7_0_0_1,a8),(h17,h21)),⟨rfl,trivial⟩,Option.some.inj f11,H.sel [0,1,2] rfl⟩
           ·
            exact trivial
         ·
          exact trivial
       ·
        exact trivial
     ·
      refine pA ?_ ?_
      ·
       obtain ⟨a9,o3,f12⟩:=aA f5;clear f5
       obtain ⟨a10,o4,f13⟩:=aA f12;clear f12
       obtain ⟨a11,o5,f14⟩:=aA f13;clear f13
       have e:=o3;clear o3
       have d3:=e;clear e
       obtain ⟨p3,m3,c12,c13,c14,c15⟩:=(H.rs (α:=List Int) 2 rfl).at1 d3;clear c15
       refine dA c12 c13 c14 ?_;clear c14
       refine hold trivial ?_
       refine pA ?_ ?_
       ·
        refine cA ((H.rs (α:=List Int) 2 rfl).at1' c0 c1 d0) ?_;clear c0 c1 d0
        refine hold trivial ?_
        refine pA ?_ ?_
        ·
         refine bB (α:=Int) gok rfl rfl rfl rfl H ?_;clear H;intro h22 w20 hx H
         clear hx
         refine hold trivial ?_
         refine cA ((H.rs (α:=List Int) 3 rfl).at1' c12 c13 d3) ?_;clear c12 c13 d3
         refine hold trivial ?_
         have e:=o4;clear o4
         obtain ⟨⟨a10_0_0_0,a10_0_0_1,a10_0_0_2,a10_0_0_3⟩,a10_1⟩:=a10
         have i3:=e;clear e
         replace H:=H.sel [1,2,0,3,4] rfl
         refine aB (ih d_b y0_0_0 y0_0_1 h2 d__0_2 d__0_2v d__0_3 d__0_3v a9 a0 a10_0_0_0 a10_0_0_1 a10_0_0_2 a10_0_0_3 a10_1 i3) (Γi:=[Bx d_b [(.int .i64 y0_0_0),(h2).v,d__0_2v,d__0_3v],E (List (Sh (Int×Int×List Int×List Int))) y0_0_1 h2]) H [] rfl zA ?_;clear H i3
         rintro _ _ w21 ⟨h23,h24,rfl,rfl⟩ H
         refine hold trivial ?_
         have e:=o5;clear o5
         replace H:=H.sel [3,0,1,2,4,5] rfl
         refine nC (α:=Int) gok rfl rfl rfl rfl H (Vw.sh 2 rfl) e ?_;clear e H;intro h25 w22 H
         refine hold trivial ?_
         refine hold trivial ?_
         exact ⟨((a10_0_0_0,a10_0_0_1,a11),(h23,h25)),⟨rfl,trivial⟩,Option.some.inj f14,H.sel [0,1,2] rfl⟩
        ·
         refine pA ?_ ?_
         ·
          refine cA ((H.rs (α:=List Int) 2 rfl).at1' c12 c13 d3) ?_;clear c12 c13 d3
          refine hold trivial ?_
          refine pA ?_ ?_
          ·
           refine bB (α:=Int) gok rfl rfl rfl rfl H ?_;clear H;intro h26 w23 hx H
           clear hx
           refine hold trivial ?_
           have e:=o4;clear o4
           obtain ⟨⟨a10_0_0_0,a10_0_0_1,a10_0_0_2,a10_0_0_3⟩,a10_1⟩:=a10
           have i3:=e;clear e
           replace H:=H.sel [1,2,0,3,4] rfl
           refine aB (ih d_b y0_0_0 y0_0_1 h2 d__0_2 d__0_2v d__0_3 d__0_3v a9 a0 a10_0_0_0 a10_0_0_1 a10_0_0_2 a10_0_0_3 a10_1 i3) (Γi:=[Bx d_b [(.int .i64 y0_0_0),(h2).v,d__0_2v,d__0_3v],E (List (Sh (Int×Int×List Int×List Int))) y0_0_1 h2]) H [] rfl zA ?_;clear H i3
           rintro _ _ w24 ⟨h27,h28,rfl,rfl⟩ H
           refine hold trivial ?_
           have e:=o5;clear o5
           replace H:=H.sel [3,0,1,2,4,5] rfl
           refine nC (α:=Int) gok rfl rfl rfl rfl H (Vw.sh 2 rfl) e ?_;clear e H;intro h29 w25 H
           refine hold trivial ?_
           refine hold trivial ?_
           exact ⟨((a10_0_0_0,a10_0_0_1,a11),(h27,h29)),⟨rfl,trivial⟩,Option.some.inj f14,H.sel [0,1,2] rfl⟩
          ·
           refine pA ?_ ?_
           ·
            have e:=o4;clear o4
            obtain ⟨⟨a10_0_0_0,a10_0_0_1,a10_0_0_2,a10_0_0_3⟩,a10_1⟩:=a10
            have i3:=e;clear e
            refine aB (ih d_b y0_0_0 y0_0_1 h2 d__0_2 d__0_2v d__0_3 d__0_3v a9 a0 a10_0_0_0 a10_0_0_1 a10_0_0_2 a10_0_0_3 a10_1 i3) (Γi:=[Bx d_b [(.int .i64 y0_0_0),(h2).v,d__0_2v,d__0_3v],E (List (Sh (Int×Int×List Int×List Int))) y0_0_1 h2]) H [] rfl zA ?_;clear H i3
            rintro _ _ w26 ⟨h30,h31,rfl,rfl⟩ H
            refine hold trivial ?_
            refine bB (α:=Int) gok rfl rfl rfl rfl H ?_;clear H;intro h32 w27 hx H
            clear hx
            refine hold trivial ?_
            have e:=o5;clear o5
            refine nC (α:=Int) gok rfl rfl rfl rfl H (Vw.sh 2 rfl) e ?_;clear e H;intro h33 w28 H
            refine hold trivial ?_
            refine hold trivial ?_
            exact ⟨((a10_0_0_0,a10_0_0_1,a11),(h30,h33)),⟨rfl,trivial⟩,Option.some.inj f14,H.sel [0,1,2] rfl⟩
           ·
            exact trivial
         ·
          exact trivial
       ·
        refine pA ?_ ?_
        ·
         refine cA ((H.rs (α:=List Int) 2 rfl).at1' c12 c13 d3) ?_;clear c12 c13 d3
         refine hold trivial ?_
         refine pA ?_ ?_
         ·
          refine cA ((H.rs (α:=List Int) 2 rfl).at1' c0 c1 d0) ?_;clear c0 c1 d0
          refine hold trivial ?_
          refine pA ?_ ?_
          ·
           refine bB (α:=Int) gok rfl rfl rfl rfl H ?_;clear H;intro h34 w29 hx H
           clear hx
           refine hold trivial ?_
           have e:=o4;clear o4
           obtain ⟨⟨a10_0_0_0,a10_0_0_1,a10_0_0_2,a10_0_0_3⟩,a10_1⟩:=a10
           have i3:=e;clear e
           replace H:=H.sel [1,2,0,3,4] rfl
           refine aB (ih d_b y0_0_0 y0_0_1 h2 d__0_2 d__0_2v d__0_3 d__0_3v a9 a0 a10_0_0_0 a10_0_0_1 a10_0_0_2 a10_0_0_3 a10_1 i3) (Γi:=[Bx d_b [(.int .i64 y0_0_0),(h2).v,d__0_2v,d__0_3v],E (List (Sh (Int×Int×List Int×List Int))) y0_0_1 h2]) H [] rfl zA ?_;clear H i3
           rintro _ _ w30 ⟨h35,h36,rfl,rfl⟩ H
           refine hold trivial ?_
           have e:=o5;clear o5
           replace H:=H.sel [3,0,1,2,4,5] rfl
           refine nC (α:=Int) gok rfl rfl rfl rfl H (Vw.sh 2 rfl) e ?_;clear e H;intro h37 w31 H
           refine hold trivial ?_
           refine hold trivial ?_
           exact ⟨((a10_0_0_0,a10_0_0_1,a11),(h35,h37)),⟨rfl,trivial⟩,Option.some.inj f14,H.sel [0,1,2] rfl⟩
          ·
           refine pA ?_ ?_
           ·
            have e:=o4;clear o4
            obtain ⟨⟨a10_0_0_0,a10_0_0_1,a10_0_0_2,a10_0_0_3⟩,a10_1⟩:=a10
            have i3:=e;clear e
            refine aB (ih d_b y0_0_0 y0_0_1 h2 d__0_2 d__0_2v d__0_3 d__0_3v a9 a0 a10_0_0_0 a10_0_0_1 a10_0_0_2 a10_0_0_3 a10_1 i3) (Γi:=[Bx d_b [(.int .i64 y0_0_0),(h2).v,d__0_2v,d__0_3v],E (List (Sh (Int×Int×List Int×List Int))) y0_0_1 h2]) H [] rfl zA ?_;clear H i3
            rintro _ _ w32 ⟨h38,h39,rfl,rfl⟩ H
            refine hold trivial ?_
            refine bB (α:=Int) gok rfl rfl rfl rfl H ?_;clear H;intro h40 w33 hx H
            clear hx
            refine hold trivial ?_
            have e:=o5;clear o5
            refine nC (α:=Int) gok rfl rfl rfl rfl H (Vw.sh 2 rfl) e ?_;clear e H;intro h41 w34 H
            refine hold trivial ?_
            refine hold trivial ?_
            exact ⟨((a10_0_0_0,a10_0_0_1,a11),(h38,h41)),⟨rfl,trivial⟩,Option.some.inj f14,H.sel [0,1,2] rfl⟩
           ·
            exact trivial
         ·
          refine pA ?_ ?_
          ·
           have e:=o4;clear o4
           obtain ⟨⟨a10_0_0_0,a10_0_0_1,a10_0_0_2,a10_0_0_3⟩,a10_1⟩:=a10
           have i3:=e;clear e
           refine aB (ih d_b y0_0_0 y0_0_1 h2 d__0_2 d__0_2v d__0_3 d__0_3v a9 a0 a10_0_0_0 a10_0_0_1 a10_0_0_2 a10_0_0_3 a10_1 i3) (Γi:=[Bx d_b [(.int .i64 y0_0_0),(h2).v,d__0_2v,d__0_3v],E (List (Sh (Int×Int×List Int×List Int))) y0_0_1 h2]) H [] rfl zA ?_;clear H i3
           rintro _ _ w35 ⟨h42,h43,rfl,rfl⟩ H
           refine hold trivial ?_
           refine cA ((H.rs (α:=List Int) 3 rfl).at1' c0 c1 d0) ?_;clear c0 c1 d0
           refine hold trivial ?_
           refine bB (α:=Int) gok rfl rfl rfl rfl H ?_;clear H;intro h44 w36 hx H
           clear hx
           refine hold trivial ?_
           have e:=o5;clear o5
           refine nC (α:=Int) gok rfl rfl rfl rfl H (Vw.sh 2 rfl) e ?_;clear e H;intro h45 w37 H
           refine hold trivial ?_
           refine hold trivial ?_
           exact ⟨((a10_0_0_0,a10_0_0_1,a11),(h42,h45)),⟨rfl,trivial⟩,Option.some.inj f14,H.sel [0,1,2] rfl⟩
          ·
           exact trivial
        ·
         exact trivial
      ·
       exact trivial
    ·
     refine pA ?_ ?_
     ·
      obtain ⟨a12,o6,f15⟩:=aA f4;clear f4
      obtain ⟨a13,o7,f16⟩:=aA f15;clear f15
      obtain ⟨a14,o8,f17⟩:=aA f16;clear f16
      obtain ⟨a15,o9,f18⟩:=aA f17;clear f17
      have e:=o7;clear o7
      have d4:=e;clear e
      obtain ⟨p4,m4,c16,c17,c18,c19⟩:=(H.rs (α:=List Int) 2 rfl).at1 d4;clear c19
      refine dA c16 c17 c18 ?_;clear c18
      refine hold trivial ?_
      refine pA ?_ ?_
      ·
       have e:=o6;clear o6
       have d5:=e;clear e
       obtain ⟨p5,m5,c20,c21,c22,c23⟩:=(H.rs (α:=List Int) 2 rfl).at1 d5;clear c23
       refine dA c20 c21 c22 ?_;clear c22
       refine hold trivial ?_
       refine pA ?_ ?_
       ·
        refine cA ((H.rs (α:=List Int) 2 rfl).at1' c20 c21 d5) ?_;clear c20 c21 d5
        refine hold trivial ?_
        refine pA ?_ ?_
        ·
         refine bB (α:=Int) gok rfl rfl rfl rfl H ?_;clear H;intro h46 w38 hx H
         clear hx
         refine hold trivial ?_
         refine cA ((H.rs (α:=List Int) 3 rfl).at1' c16 c17 d4) ?_;clear c16 c17 d4
         refine hold trivial ?_
         have e:=o8;clear o8
         obtain ⟨⟨a14_0_0_0,a14_0_0_1,a14_0_0_2,a14_0_0_3⟩,a14_1⟩:=a14
         have i4:=e;clear e
         replace H:=H.sel [1,2,0,3,4] rfl
         refine aB (ih d_b y0_0_0 y0_0_1 h2 d__0_2 d__0_2v d__0_3 d__0_3v a13 a0 a14_0_0_0 a14_0_0_1 a14_0_0_2 a14_0_0_3 a14_1 i4) (Γi:=[Bx d_b [(.int .i64 y0_0_0),(h2).v,d__0_2v,d__0_3v],E (List (Sh (Int×Int×List Int×List Int))) y0_0_1 h2]) H [] rfl zA ?_;clear H i4
         rintro _ _ w39 ⟨h47,h48,rfl,rfl⟩ H
         refine hold trivial ?_
         have e:=o9;clear o9
         replace H:=H.sel [3,0,1,2,4,5] rfl
         refine nC (α:=Int) gok rfl rfl rfl rfl H (Vw.sh 2 rfl) e ?_;clear e H;intro h49 w40 H
         refine hold trivial ?_
         refine hold trivial ?_
         exact ⟨((a14_0_0_0,a14_0_0_1,a15),(h47,h49)),⟨rfl,trivial⟩,Option.some.inj f18,H.sel [0,1,2] rfl⟩
        ·
         refine pA ?_ ?_
         ·
          refine cA ((H.rs (α:=List Int) 2 rfl).at1' c16 c17 d4) ?_;clear c16 c17 d4
          refine hold trivial ?_
          refine pA ?_ ?_
          ·
           refine bB (α:=Int) gok rfl rfl rfl rfl H ?_;clear H;intro h50 w41 hx H
           clear hx
           refine hold trivial ?_
           have e:=o8;clear o8
           obtain ⟨⟨a14_0_0_0,a14_0_0_1,a14_0_0_2,a14_0_0_3⟩,a14_1⟩:=a14
           have i4:=e;clear e
           replace H:=H.sel [1,2,0,3,4] rfl
           refine aB (ih d_b y0_0_0 y0_0_1 h2 d__0_2 d__0_2v d__0_3 d__0_3v a13 a0 a14_0_0_0 a14_0_0_1 a14_0_0_2 a14_0_0_3 a14_1 i4) (Γi:=[Bx d_b [(.int .i64 y0_0_0),(h2).v,d__0_2v,d__0_3v],E (List (Sh (Int×Int×List Int×List Int))) y0_0_1 h2]) H [] rfl zA ?_;clear H i4
           rintro _ _ w42 ⟨h51,h52,rfl,rfl⟩ H
           refine hold trivial ?_
           have e:=o9;clear o9
           replace H:=H.sel [3,0,1,2,4,5] rfl
           refine nC (α:=Int) gok rfl rfl rfl rfl H (Vw.sh 2 rfl) e ?_;clear e H;intro h53 w43 H
           refine hold trivial ?_
           refine hold trivial ?_
           exact ⟨((a14_0_0_0,a14_0_0_1,a15),(h51,h53)),⟨rfl,trivial⟩,Option.some.inj f18,H.sel [0,1,2] rfl⟩
          ·
           refine pA ?_ ?_
           ·
            have e:=o8;clear o8
            obtain ⟨⟨a14_0_0_0,a14_0_0_1,a14_0_0_2,a14_0_0_3⟩,a14_1⟩:=a14
            have i4:=e;clear e
            refine aB (ih d_b y0_0_0 y0_0_1 h2 d__0_2 d__0_2v d__0_3 d__0_3v a13 a0 a14_0_0_0 a14_0_0_1 a14_0_0_2 a14_0_0_3 a14_1 i4) (Γi:=[Bx d_b [(.int .i64 y0_0_0),(h2).v,d__0_2v,d__0_3v],E (List (Sh (Int×Int×List Int×List Int))) y0_0_1 h2]) H [] rfl zA ?_;clear H i4
            rintro _ _ w44 ⟨h54,h55,rfl,rfl⟩ H
            refine hold trivial ?_
            refine bB (α:=Int) gok rfl rfl rfl rfl H ?_;clear H;intro h56 w45 hx H
            clear hx
            refine hold trivial ?_
            have e:=o9;clear o9
            refine nC (α:=Int) gok rfl rfl rfl rfl H (Vw.sh 2 rfl) e ?_;clear e H;intro h57 w46 H
            refine hold trivial ?_
            refine hold trivial ?_
            exact ⟨((a14_0_0_0,a14_0_0_1,a15),(h54,h57)),⟨rfl,trivial⟩,Option.some.inj f18,H.sel [0,1,2] rfl⟩
           ·
            exact trivial
         ·
          exact trivial
       ·
        refine pA ?_ ?_
        ·
         refine cA ((H.rs (α:=List Int) 2 rfl).at1' c16 c17 d4) ?_;clear c16 c17 d4
         refine hold trivial ?_
         refine pA ?_ ?_
         ·
          refine cA ((H.rs (α:=List Int) 2 rfl).at1' c20 c21 d5) ?_;clear c20 c21 d5
          refine hold trivial ?_
          refine pA ?_ ?_
          ·
           refine bB (α:=Int) gok rfl rfl rfl rfl H ?_;clear H;intro h58 w47 hx H
           clear hx
           refine hold trivial ?_
           have e:=o8;clear o8
           obtain ⟨⟨a14_0_0_0,a14_0_0_1,a14_0_0_2,a14_0_0_3⟩,a14_1⟩:=a14
           have i4:=e;clear e
           replace H:=H.sel [1,2,0,3,4] rfl
           refine aB (ih d_b y0_0_0 y0_0_1 h2 d__0_2 d__0_2v d__0_3 d__0_3v a13 a0 a14_0_0_0 a14_0_0_1 a14_0_0_2 a14_0_0_3 a14_1 i4) (Γi:=[Bx d_b [(.int .i64 y0_0_0),(h2).v,d__0_2v,d__0_3v],E (List (Sh (Int×Int×List Int×List Int))) y0_0_1 h2]) H [] rfl zA ?_;clear H i4
           rintro _ _ w48 ⟨h59,h60,rfl,rfl⟩ H
           refine hold trivial ?_
           have e:=o9;clear o9
           replace H:=H.sel [3,0,1,2,4,5] rfl
           refine nC (α:=Int) gok rfl rfl rfl rfl H (Vw.sh 2 rfl) e ?_;clear e H;intro h61 w49 H
           refine hold trivial ?_
           refine hold trivial ?_
           exact ⟨((a14_0_0_0,a14_0_0_1,a15),(h59,h61)),⟨rfl,trivial⟩,Option.some.inj f18,H.sel [0,1,2] rfl⟩
          ·
           refine pA ?_ ?_
           ·
            have e:=o8;clear o8
            obtain ⟨⟨a14_0_0_0,a14_0_0_1,a14_0_0_2,a14_0_0_3⟩,a14_1⟩:=a14
            have i4:=e;clear e
            refine aB (ih d_b y0_0_0 y0_0_1 h2 d__0_2 d__0_2v d__0_3 d__0_3v a13 a0 a14_0_0_0 a14_0_0_1 a14_0_0_2 a14_0_0_3 a14_1 i4) (Γi:=[Bx d_b [(.int .i64 y0_0_0),(h2).v,d__0_2v,d__0_3v],E (List (Sh (Int×Int×List Int×List Int))) y0_0_1 h2]) H [] rfl zA ?_;clear H i4
            rintro _ _ w50 ⟨h62,h63,rfl,rfl⟩ H
            refine hold trivial ?_
            refine bB (α:=Int) gok rfl rfl rfl rfl H ?_;clear H;intro h64 w51 hx H
            clear hx
            refine hold trivial ?_
            have e:=o9;clear o9
            refine nC (α:=Int) gok rfl rfl rfl rfl H (Vw.sh 2 rfl) e ?_;clear e H;intro h65 w52 H
            refine hold trivial ?_
            refine hold trivial ?_
            exact ⟨((a14_0_0_0,a14_0_0_1,a15),(h62,h65)),⟨rfl,trivial⟩,Option.some.inj f18,H.sel [0,1,2] rfl⟩
           ·
            exact trivial
         ·
          refine pA ?_ ?_
          ·
           have e:=o8;clear o8
           obtain ⟨⟨a14_0_0_0,a14_0_0_1,a14_0_0_2,a14_0_0_3⟩,a14_1⟩:=a14
           have i4:=e;clear e
           refine aB (ih d_b y0_0_0 y0_0_1 h2 d__0_2 d__0_2v d__0_3 d__0_3v a13 a0 a14_0_0_0 a14_0_0_1 a14_0_0_2 a14_0_0_3 a14_1 i4) (Γi:=[Bx d_b [(.int .i64 y0_0_0),(h2).v,d__0_2v,d__0_3v],E (List (Sh (Int×Int×List Int×List Int))) y0_0_1 h2]) H [] rfl zA ?_;clear H i4
           rintro _ _ w53 ⟨h66,h67,rfl,rfl⟩ H
           refine hold trivial ?_
           refine cA ((H.rs (α:=List Int) 3 rfl).at1' c20 c21 d5) ?_;clear c20 c21 d5
           refine hold trivial ?_
           refine bB (α:=Int) gok rfl rfl rfl rfl H ?_;clear H;intro h68 w54 hx H
           clear hx
           refine hold trivial ?_
           have e:=o9;clear o9
           refine nC (α:=Int) gok rfl rfl rfl rfl H (Vw.sh 2 rfl) e ?_;clear e H;intro h69 w55 H
           refine hold trivial ?_
           refine hold trivial ?_
           exact ⟨((a14_0_0_0,a14_0_0_1,a15),(h66,h69)),⟨rfl,trivial⟩,Option.some.inj f18,H.sel [0,1,2] rfl⟩
          ·
           exact trivial
        ·
         exact trivial
      ·
       refine pA ?_ ?_
       ·
        refine cA ((H.rs (α:=List Int) 2 rfl).at1' c16 c17 d4) ?_;clear c16 c17 d4
        refine hold trivial ?_
        refine pA ?_ ?_
        ·
         have e:=o6;clear o6
         have d6:=e;clear e
         obtain ⟨p6,m6,c24,c25,c26,c27⟩:=(H.rs (α:=List Int) 2 rfl).at1 d6;clear c27
         refine dA c24 c25 c26 ?_;clear c26
         refine hold trivial ?_
         refine pA ?_ ?_
         ·
          refine cA ((H.rs (α:=List Int) 2 rfl).at1' c24 c25 d6) ?_;clear c24 c25 d6
          refine hold trivial ?_
          refine pA ?_ ?_
          ·
           refine bB (α:=Int) gok rfl rfl rfl rfl H ?_;clear H;intro h70 w56 hx H
           clear hx
           refine hold trivial ?_
           have e:=o8;clear o8
           obtain ⟨⟨a14_0_0_0,a14_0_0_1,a14_0_0_2,a14_0_0_3⟩,a14_1⟩:=a14
           have i4:=e;clear e
           replace H:=H.sel [1,2,0,3,4] rfl
           refine aB (ih d_b y0_0_0 y0_0_1 h2 d__0_2 d__0_2v d__0_3 d__0_3v a13 a0 a14_0_0_0 a14_0_0_1 a14_0_0_2 a14_0_0_3 a14_1 i4) (Γi:=[Bx d_b [(.int .i64 y0_0_0),(h2).v,d__0_2v,d__0_3v],E (List (Sh (Int×Int×List Int×List Int))) y0_0_1 h2]) H [] rfl zA ?_;clear H i4
           rintro _ _ w57 ⟨h71,h72,rfl,rfl⟩ H
           refine hold trivial ?_
           have e:=o9;clear o9
           replace H:=H.sel [3,0,1,2,4,5] rfl
           refine nC (α:=Int) gok rfl rfl rfl rfl H (Vw.sh 2 rfl) e ?_;clear e H;intro h73 w58 H
           refine hold trivial ?_
           refine hold trivial ?_
           exact ⟨((a14_0_0_0,a14_0_0_1,a15),(h71,h73)),⟨rfl,trivial⟩,Option.some.inj f18,H.sel [0,1,2] rfl⟩
          ·
           refine pA ?_ ?_
           ·
            have e:=o8;clear o8
            obtain ⟨⟨a14_0_0_0,a14_0_0_1,a14_0_0_2,a14_0_0_3⟩,a14_1⟩:=a14
            have i4:=e;clear e
            refine aB (ih d_b y0_0_0 y0_0_1 h2 d__0_2 d__0_2v d__0_3 d__0_3v a13 a0 a14_0_0_0 a14_0_0_1 a14_0_0_2 a14_0_0_3 a14_1 i4) (Γi:=[Bx d_b [(.int .i64 y0_0_0),(h2).v,d__0_2v,d__0_3v],E (List (Sh (Int×Int×List Int×List Int))) y0_0_1 h2]) H [] rfl zA ?_;clear H i4
            rintro _ _ w59 ⟨h74,h75,rfl,rfl⟩ H
            refine hold trivial ?_
            refine bB (α:=Int) gok rfl rfl rfl rfl H ?_;clear H;intro h76 w60 hx H
            clear hx
            refine hold trivial ?_
            have e:=o9;clear o9
            refine nC (α:=Int) gok rfl rfl rfl rfl H (Vw.sh 2 rfl) e ?_;clear e H;intro h77 w61 H
            refine hold trivial ?_
            refine hold trivial ?_
            exact ⟨((a14_0_0_0,a14_0_0_1,a15),(h74,h77)),⟨rfl,trivial⟩,Option.some.inj f18,H.sel [0,1,2] rfl⟩
           ·
            exact trivial
         ·
          refine pA ?_ ?_
          ·
           have e:=o8;clear o8
           obtain ⟨⟨a14_0_0_0,a14_0_0_1,a14_0_0_2,a14_0_0_3⟩,a14_1⟩:=a14
           have i4:=e;clear e
           refine aB (ih d_b y0_0_0 y0_0_1 h2 d__0_2 d__0_2v d__0_3 d__0_3v a13 a0 a14_0_0_0 a14_0_0_1 a14_0_0_2 a14_0_0_3 a14_1 i4) (Γi:=[Bx d_b [(.int .i64 y0_0_0),(h2).v,d__0_2v,d__0_3v],E (List (Sh (Int×Int×List Int×List Int))) y0_0_1 h2]) H [] rfl zA ?_;clear H i4
           rintro _ _ w62 ⟨h78,h79,rfl,rfl⟩ H
           refine hold trivial ?_
           refine cA ((H.rs (α:=List Int) 3 rfl).at1' c24 c25 d6) ?_;clear c24 c25 d6
           refine hold trivial ?_
           refine bB (α:=Int) gok rfl rfl rfl rfl H ?_;clear H;intro h80 w63 hx H
           clear hx
           refine hold trivial ?_
           have e:=o9;clear o9
           refine nC (α:=Int) gok rfl rfl rfl rfl H (Vw.sh 2 rfl) e ?_;clear e H;intro h81 w64 H
           refine hold trivial ?_
           refine hold trivial ?_
           exact ⟨((a14_0_0_0,a14_0_0_1,a15),(h78,h81)),⟨rfl,trivial⟩,Option.some.inj f18,H.sel [0,1,2] rfl⟩
          ·
           exact trivial
        ·
         refine pA ?_ ?_
         ·
          have e:=o8;clear o8
          obtain ⟨⟨a14_0_0_0,a14_0_0_1,a14_0_0_2,a14_0_0_3⟩,a14_1⟩:=a14
          have i4:=e;clear e
          refine aB (ih d_b y0_0_0 y0_0_1 h2 d__0_2 d__0_2v d__0_3 d__0_3v a13 a0 a14_0_0_0 a14_0_0_1 a14_0_0_2 a14_0_0_3 a14_1 i4) (Γi:=[Bx d_b [(.int .i64 y0_0_0),(h2).v,d__0_2v,d__0_3v],E (List (Sh (Int×Int×List Int×List Int))) y0_0_1 h2]) H [] rfl zA ?_;clear H i4
          rintro _ _ w65 ⟨h82,h83,rfl,rfl⟩ H
          refine hold trivial ?_
          have e:=o6;clear o6
          have d7:=e;clear e
          obtain ⟨p7,m7,c28,c29,c30,c31⟩:=(H.rs (α:=List Int) 3 rfl).at1 d7;clear c31
          refine dA c28 c29 c30 ?_;clear c30
          refine hold trivial ?_
          refine cA ((H.rs (α:=List Int) 3 rfl).at1' c28 c29 d7) ?_;clear c28 c29 d7
          refine hold trivial ?_
          refine bB (α:=Int) gok rfl rfl rfl rfl H ?_;clear H;intro h84 w66 hx H
          clear hx
          refine hold trivial ?_
          have e:=o9;clear o9
          refine nC (α:=Int) gok rfl rfl rfl rfl H (Vw.sh 2 rfl) e ?_;clear e H;intro h85 w67 H
          refine hold trivial ?_
          refine hold trivial ?_
          exact ⟨((a14_0_0_0,a14_0_0_1,a15),(h82,h85)),⟨rfl,trivial⟩,Option.some.inj f18,H.sel [0,1,2] rfl⟩
         ·
          exact trivial
       ·
        exact trivial
     ·
      exact trivial
   ·
    clear f2 H
    rintro T0 ⟨⟨s0_0,s0_1,s0_2⟩,⟨g0_0,g0_1⟩⟩ w68 ⟨hr,(H:Cx w0 fp0 S0 w68 [E (List Int) s0_2 g0_1,Bx d_b [(.int .i64 s0_0),(g0_0).v,d__0_2v,d__0_3v],E (List (Sh (Int×Int×List Int×List Int))) s0_1 g0_0])⟩
    subst hr
    replace H:=H.frz
    cases f3
    exact ⟨_,_,rfl,⟨g0_0,g0_1,rfl,rfl⟩,(H.sel [1,2,0] rfl)⟩
  ·
   have f19:=eA hF7;clear hF7
   refine bB (α:=Int) gok rfl rfl rfl rfl H ?_;clear H;intro h86 w69 hx H
   clear hx
   replace H:=H.frz
   cases f19
   exact ⟨_,_,rfl,⟨d__0_1h,h86,rfl,rfl⟩,(H.sel [1,2,0] rfl)⟩
 ·
  have f20:=eA hF4;clear hF4
  refine bB (α:=Int) gok rfl rfl rfl rfl H ?_;clear H;intro h87 w70 hx H
  clear hx
  replace H:=H.nil (α:=Int)
  obtain ⟨y3,e,f21⟩:=aA f20;clear f20
  obtain ⟨y3_0_0,y3_0_1,y3_0_2,y3_0_3⟩:=y3
  have i5:=e;clear e
  replace H:=H.sel [1,0,2,3] rfl
  replace H:=H.frz
  replace H:=H.sel [1,0,2,3] rfl
  replace H:=H.frz
  replace H:=H.sel [2,3,0,1] rfl
  refine aB (tC d_b d__0_0 d__0_1 d__0_1h d__0_2 d__0_2v d__0_3 d__0_3v 4 0 [w_] h87 [] nilH y3_0_0 y3_0_1 y3_0_2 y3_0_3 i5) (Γi:=[Bx d_b [(.int .i64 d__0_0),(d__0_1h).v,d__0_2v,d__0_3v],E (List (Sh (Int×Int×List Int×List Int))) d__0_1 d__0_1h]) H [1,0] rfl (wA qA (wA qA zA)) ?_;clear H i5
  rintro _ _ w71 ⟨h88,rfl,rfl⟩ H
  replace H:=H.nil (α:=Int)
  replace H:=H.frz
  cases f21
  exact ⟨_,_,rfl,⟨h88,nilH,rfl,rfl⟩,(H.sel [1,2,0] rfl)⟩
theorem Bh_ (d_b:Nat) (d__0_0:Int) (d__0_1:List (Int×Int×List Int×List Int)) (d__0_1h:Hd) (d__0_2:List Int) (d__0_2v:Value) (d__0_3:List Int) (d__0_3v:Value) (w_:Int) (n_:Int) (y0_0_0:Int) (y0_0_1:List (Int×Int×List Int×List Int)) (y0_0_2:List Int) (y0_0_3:List Int) (y1:List Int) (hF:wK (d__0_0,d__0_1,d__0_2,d__0_3) w_ n_=some ((y0_0_0,y0_0_1,y0_0_2,y0_0_3),y1)) :
  uD Tryz.prog 64 #[(.pointer (some ⟨d_b,0,none⟩)),(.int .i64 w_),(.int .i64 n_)] [] [Bx d_b [(.int .i64 d__0_0),(d__0_1h).v,d__0_2v,d__0_3v],E (List (Sh (Int×Int×List Int×List Int))) d__0_1 d__0_1h] (fun v Γ'=>∃ z0 z1:Hd,v=(z1).v∧Γ'=[Bx d_b [(.int .i64 y0_0_0),(z0).v,d__0_2v,d__0_3v],E (List (Sh (Int×Int×List Int×List Int))) y0_0_1 z0,Es (List Int) y1 z1]):=Bc_ _ d_b d__0_0 d__0_1 d__0_1h d__0_2 d__0_2v d__0_3 d__0_3v w_ n_ y0_0_0 y0_0_1 y0_0_2 y0_0_3 y1 hF
end Go.Proofs.YtbofgnbanmbopaaGreatDoor
