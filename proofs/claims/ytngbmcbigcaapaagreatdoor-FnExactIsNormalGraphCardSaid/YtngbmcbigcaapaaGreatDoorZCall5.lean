/-
 Contracts, printed by a program (wip/y/gen.py): each function of Go computes its partial function. Condition of each: its partial function yields a value.
-/
import Derived.Test.YtngbmcbigcaapaaGreatDoorZCall4
namespace Go.Proofs.YtngbmcbigcaapaaGreatDoor
open Go Go.Proofs.YtngbmcbigcaapaaGreatDoor.RW
set_option maxRecDepth 100000
set_option maxHeartbeats 1000000
set_option linter.unusedVariables false
theorem Di_:∀ (fuel d_b:Nat) (d__0_0:Int) (d__0_1:List Ty0) (d__0_1h:Hd) (d__0_2:List Int) (d__0_2v:Value) (d__0_3:List Int) (d__0_3v:Value) (w_ n_ y0_0_0:Int) (y0_0_1:List Ty0) (y0_0_2 y0_0_3 y1:List Int) (hF:uK fuel (d__0_0,d__0_1,d__0_2,d__0_3) w_ n_=some ((y0_0_0,y0_0_1,y0_0_2,y0_0_3),y1)),
  tD Tryz.prog 69 #[(vp d_b),(vi w_),(vi n_)] [] [Bx d_b [(vi d__0_0),(d__0_1h).v,d__0_2v,d__0_3v],E (List (Sh Ty0)) d__0_1 d__0_1h] (fun v Γ'=>∃ z0 z1:Hd,v=(z1).v∧Γ'=[Bx d_b [(vi y0_0_0),(z0).v,d__0_2v,d__0_3v],E (List (Sh Ty0)) y0_0_1 z0,Es (List Int) y1 z1]):=by
 intro fuel
 induction fuel with
 | zero=>intro d_b d__0_0 d__0_1 d__0_1h d__0_2 d__0_2v d__0_3 d__0_3v w_ n_ y0_0_0 y0_0_1 y0_0_2 y0_0_3 y1 hF;cases hF
 | succ fuel ih=>
  intro d_b d__0_0 d__0_1 d__0_1h d__0_2 d__0_2v d__0_3 d__0_3v w_ n_ y0_0_0 y0_0_1 y0_0_2 y0_0_3 y1 hF
  refine Zs (args:=[_,_,_]) gok Tryz.func69 rfl _ rfl rfl rfl fun w0 S0 fp0 H=>sq (boolB_ hF (fun hF5=>?_) fun f20=>?_)
  refine boolB_ hF5 (fun hF8=>?_) fun f19=>?_
  obtain ⟨y9,e,f0⟩:=iB hF8
  obtain ⟨⟨y9_0_0_0,y9_0_0_1,y9_0_0_2,y9_0_0_3⟩,y9_1⟩:=y9
  refine have ey9:=e;uB (@kZ d_b d__0_0 d__0_1 ((d__0_1h).v) d__0_2 d__0_2v d__0_3 d__0_3v 2 y9_0_0_0 y9_0_0_1 y9_0_0_2 y9_0_0_3 y9_1 ey9) (Γi:=[Bx d_b [(vi d__0_0),(d__0_1h).v,d__0_2v,d__0_3v]]) H trivial ?_
  rintro _ _ w1 ⟨h0,rfl,rfl⟩ H
  refine zA (α:=Int) gok rfl rfl rfl rfl H fun h1 w2 hx H=>bO f0 fun ⟨y0_0_0,y0_0_1,y0_0_2,y0_0_3⟩ i0 f1=>have H:=((H.frz).sel [2,0,1,3] rfl).frz;have H:=H.sel [2,3,0,1] rfl;bB (@fD d_b y9_0_0_0 d__0_1 d__0_1h d__0_2 d__0_2v d__0_3 d__0_3v 3 0 [w_] h1 y9_1 h0 y0_0_0 y0_0_1 y0_0_2 y0_0_3 i0) (Γi:=[Bx d_b [(vi y9_0_0_0),(d__0_1h).v,d__0_2v,d__0_3v],E (List (Sh Ty0)) d__0_1 d__0_1h]) H [1,0] rfl (qA lA (qA lA yA)) ?_
  rintro _ _ w3 ⟨h2,rfl,rfl⟩ H
  obtain ⟨r0,f2,f3⟩:=iB f1
  refine aG H [10,11,12,3,7,2,1,6,0,4,5,8,9] (.pure 0 (.pure 4 (.pure 5 (.pure 8 (.pure 9 (.alts (.alt 1 (.alts (.alt 2 (.alts (.alt 3 (.act 6 (.act 7 (.act 10 (.act 11 (.act 12 .done))))) (.alt 6 (.alts (.alt 3 (.act 7 (.act 10 (.act 11 (.act 12 .done)))) (.alt 7 (.alts (.alt 3 (.act 10 (.act 11 (.act 12 .done))) (.alt 10 (.act 3 (.act 11 (.act 12 .done))) .no))) .no))) .no))) (.alt 6 (.alts (.alt 2 (.alts (.alt 3 (.act 7 (.act 10 (.act 11 (.act 12 .done)))) (.alt 7 (.alts (.alt 3 (.act 10 (.act 11 (.act 12 .done))) (.alt 10 (.act 3 (.act 11 (.act 12 .done))) .no))) .no))) (.alt 7 (.alts (.alt 2 (.alts (.alt 3 (.act 10 (.act 11 (.act 12 .done))) (.alt 10 (.act 3 (.act 11 (.act 12 .done))) .no))) (.alt 10 (.act 2 (.act 3 (.act 11 (.act 12 .done)))) .no))) .no))) .no))) (.alt 6 (.alts (.alt 1 (.alts (.alt 2 (.alts (.alt 3 (.act 7 (.act 10 (.act 11 (.act 12 .done)))) (.alt 7 (.alts (.alt 3 (.act 10 (.act 11 (.act 12 .done))) (.alt 10 (.act 3 (.act 11 (.act 12 .done))) .no))) .no))) (.alt 7 (.alts (.alt 2 (.alts (.alt 3 (.act 10 (.act 11 (.act 12 .done))) (.alt 10 (.act 3 (.act 11 (.act 12 .done))) .no))) (.alt 10 (.act 2 (.act 3 (.act 11 (.act 12 .done)))) .no))) .no))) (.alt 7 (.alts (.alt 1 (.alts (.alt 2 (.alts (.alt 3 (.act 10 (.act 11 (.act 12 .done))) (.alt 10 (.act 3 (.act 11 (.act 12 .done))) .no))) (.alt 10 (.act 2 (.act 3 (.act 11 (.act 12 .done)))) .no))) (.alt 10 (.act 1 (.act 2 (.act 3 (.act 11 (.act 12 .done))))) .no))) .no))) .no)))))))) fB [] trivial (by kernel_rfl) (fun (q0:(Int×(List Ty0)×List Int)×(Hd×Hd))=>[(6,(q0.2.2).v)]) (fun (q0:(Int×(List Ty0)×List Int)×(Hd×Hd)) w'=>(q0.1.1,q0.1.2.1,q0.1.2.2)=r0∧Cx w0 fp0 S0 w' [E (List Int) q0.1.2.2 q0.2.2,Bx d_b [(vi q0.1.1),(q0.2.1).v,d__0_2v,d__0_3v],E (List (Sh Ty0)) q0.1.2.1 q0.2.1]) ?_ ?_
  intro w4 H
  have hX:Ext w4 w4:=Upd.refl _ _
  refine bO f2 fun a0 e f4=>arO e (both ?_ ?_)
  refine bO f4 fun a1 d0 f5=>Zx ((H.rs (α:=List Int) 2 rfl).at1 d0) fun p0 m0 c0 c1 c2 c3=>fA c0 c1 c2 (hold trivial (both ?_ ?_))
  refine aA ((H.rs (α:=List Int) 2 rfl).at1' c0 c1 d0) (hold trivial (both ?_ ?_))
  refine zA (α:=Int) gok rfl rfl rfl rfl H fun h3 w5 hx H=>hold trivial (bO f5 fun a2 d1 f6=>Zx ((H.rs (α:=List Int) 3 rfl).at1 d1) fun p1 m1 c4 c5 c6 c7=>fA c4 c5 c6 (hold trivial (aA ((H.rs (α:=List Int) 3 rfl).at1' c4 c5 d1) (hold trivial (bO f6 fun y2 e f7=>?_)))))
  obtain ⟨⟨y2_0_0_0,y2_0_0_1,y2_0_0_2,y2_0_0_3⟩,y2_1⟩:=y2
  refine have i1:=e;have H:=H.sel [1,2,0,3,4] rfl;bB (ih d_b y0_0_0 y0_0_1 h2 d__0_2 d__0_2v d__0_3 d__0_3v a2 a0 y2_0_0_0 y2_0_0_1 y2_0_0_2 y2_0_0_3 y2_1 i1) (Γi:=[Bx d_b [(vi y0_0_0),(h2).v,d__0_2v,d__0_3v],E (List (Sh Ty0)) y0_0_1 h2]) H [] rfl yA ?_
  rintro _ _ w6 ⟨h4,h5,rfl,rfl⟩ H
  exact hold trivial (bO f7 fun a4 e f8=>wC (α:=Int) gok rfl rfl rfl rfl (H.sel [3,0,1,2,4,5] rfl) (Vw.sh 2 rfl) e fun h6 w7 H=>hold trivial (hold trivial ⟨((y2_0_0_0,y2_0_0_1,a4),(h4,h6)),⟨rfl,trivial⟩,oi_ f8,H.sel [0,1,2] rfl⟩))
  refine both ?_ ?_
  refine bO f5 fun a5 o0 f9=>bO f9 fun a7 o1 f10=>bO f10 fun a8 o2 f11=>Zx ((H.rs (α:=List Int) 2 rfl).at1 o0) fun p2 m2 c8 c9 c10 c11=>fA c8 c9 c10 (hold trivial (both ?_ ?_))
  refine zA (α:=Int) gok rfl rfl rfl rfl H fun h7 w8 hx H=>hold trivial (aA ((H.rs (α:=List Int) 3 rfl).at1' c8 c9 o0) (hold trivial ?_))
  obtain ⟨⟨a7_0_0_0,a7_0_0_1,a7_0_0_2,a7_0_0_3⟩,a7_1⟩:=a7
  refine have H:=H.sel [1,2,0,3,4] rfl;bB (ih d_b y0_0_0 y0_0_1 h2 d__0_2 d__0_2v d__0_3 d__0_3v a5 a0 a7_0_0_0 a7_0_0_1 a7_0_0_2 a7_0_0_3 a7_1 o1) (Γi:=[Bx d_b [(vi y0_0_0),(h2).v,d__0_2v,d__0_3v],E (List (Sh Ty0)) y0_0_1 h2]) H [] rfl yA ?_
  rintro _ _ w9 ⟨h8,h9,rfl,rfl⟩ H
  exact hold trivial (wC (α:=Int) gok rfl rfl rfl rfl (H.sel [3,0,1,2,4,5] rfl) (Vw.sh 2 rfl) o2 fun h10 w10 H=>hold trivial (hold trivial ⟨((a7_0_0_0,a7_0_0_1,a8),(h8,h10)),⟨rfl,trivial⟩,oi_ f11,H.sel [0,1,2] rfl⟩))
  refine both ?_ ?_
  refine aA ((H.rs (α:=List Int) 2 rfl).at1' c8 c9 o0) (hold trivial (both ?_ ?_))
  refine zA (α:=Int) gok rfl rfl rfl rfl H fun h11 w12 hx H=>hold trivial ?_
  obtain ⟨⟨a7_0_0_0,a7_0_0_1,a7_0_0_2,a7_0_0_3⟩,a7_1⟩:=a7
  refine have H:=H.sel [1,2,0,3,4] rfl;bB (ih d_b y0_0_0 y0_0_1 h2 d__0_2 d__0_2v d__0_3 d__0_3v a5 a0 a7_0_0_0 a7_0_0_1 a7_0_0_2 a7_0_0_3 a7_1 o1) (Γi:=[Bx d_b [(vi y0_0_0),(h2).v,d__0_2v,d__0_3v],E (List (Sh Ty0)) y0_0_1 h2]) H [] rfl yA ?_
  rintro _ _ w13 ⟨h13,h14,rfl,rfl⟩ H
  exact hold trivial (wC (α:=Int) gok rfl rfl rfl rfl (H.sel [3,0,1,2,4,5] rfl) (Vw.sh 2 rfl) o2 fun h16 w15 H=>hold trivial (hold trivial ⟨((a7_0_0_0,a7_0_0_1,a8),(h13,h16)),⟨rfl,trivial⟩,oi_ f11,H.sel [0,1,2] rfl⟩))
  refine both ?_ ?_
  obtain ⟨⟨a7_0_0_0,a7_0_0_1,a7_0_0_2,a7_0_0_3⟩,a7_1⟩:=a7
  refine bB (ih d_b y0_0_0 y0_0_1 h2 d__0_2 d__0_2v d__0_3 d__0_3v a5 a0 a7_0_0_0 a7_0_0_1 a7_0_0_2 a7_0_0_3 a7_1 o1) (Γi:=[Bx d_b [(vi y0_0_0),(h2).v,d__0_2v,d__0_3v],E (List (Sh Ty0)) y0_0_1 h2]) H [] rfl yA ?_
  rintro _ _ w16 ⟨h17,h18,rfl,rfl⟩ H
  exact hold trivial (zA (α:=Int) gok rfl rfl rfl rfl H fun h19 w17 hx H=>hold trivial (wC (α:=Int) gok rfl rfl rfl rfl H (Vw.sh 2 rfl) o2 fun h21 w18 H=>hold trivial (hold trivial ⟨((a7_0_0_0,a7_0_0_1,a8),(h17,h21)),⟨rfl,trivial⟩,oi_ f11,H.sel [0,1,2] rfl⟩)))
  exact trivial
  exact trivial
  exact trivial
  refine both ?_ ?_
  refine bO f5 fun a9 o3 f12=>bO f12 fun a10 o4 f13=>bO f13 fun a11 o5 f14=>Zx ((H.rs (α:=List Int) 2 rfl).at1 o3) fun p3 m3 c12 c13 c14 c15=>fA c12 c13 c14 (hold trivial (both ?_ ?_))
  refine aA ((H.rs (α:=List Int) 2 rfl).at1' c0 c1 d0) (hold trivial (both ?_ ?_))
  refine zA (α:=Int) gok rfl rfl rfl rfl H fun h22 w20 hx H=>hold trivial (aA ((H.rs (α:=List Int) 3 rfl).at1' c12 c13 o3) (hold trivial ?_))
  obtain ⟨⟨a10_0_0_0,a10_0_0_1,a10_0_0_2,a10_0_0_3⟩,a10_1⟩:=a10
  refine have H:=H.sel [1,2,0,3,4] rfl;bB (ih d_b y0_0_0 y0_0_1 h2 d__0_2 d__0_2v d__0_3 d__0_3v a9 a0 a10_0_0_0 a10_0_0_1 a10_0_0_2 a10_0_0_3 a10_1 o4) (Γi:=[Bx d_b [(vi y0_0_0),(h2).v,d__0_2v,d__0_3v],E (List (Sh Ty0)) y0_0_1 h2]) H [] rfl yA ?_
  rintro _ _ w21 ⟨h23,h24,rfl,rfl⟩ H
  exact hold trivial (wC (α:=Int) gok rfl rfl rfl rfl (H.sel [3,0,1,2,4,5] rfl) (Vw.sh 2 rfl) o5 fun h25 w22 H=>hold trivial (hold trivial ⟨((a10_0_0_0,a10_0_0_1,a11),(h23,h25)),⟨rfl,trivial⟩,oi_ f14,H.sel [0,1,2] rfl⟩))
  refine both ?_ ?_
  refine aA ((H.rs (α:=List Int) 2 rfl).at1' c12 c13 o3) (hold trivial (both ?_ ?_))
  refine zA (α:=Int) gok rfl rfl rfl rfl H fun h26 w23 hx H=>hold trivial ?_
  obtain ⟨⟨a10_0_0_0,a10_0_0_1,a10_0_0_2,a10_0_0_3⟩,a10_1⟩:=a10
  refine have H:=H.sel [1,2,0,3,4] rfl;bB (ih d_b y0_0_0 y0_0_1 h2 d__0_2 d__0_2v d__0_3 d__0_3v a9 a0 a10_0_0_0 a10_0_0_1 a10_0_0_2 a10_0_0_3 a10_1 o4) (Γi:=[Bx d_b [(vi y0_0_0),(h2).v,d__0_2v,d__0_3v],E (List (Sh Ty0)) y0_0_1 h2]) H [] rfl yA ?_
  rintro _ _ w24 ⟨h27,h28,rfl,rfl⟩ H
  exact hold trivial (wC (α:=Int) gok rfl rfl rfl rfl (H.sel [3,0,1,2,4,5] rfl) (Vw.sh 2 rfl) o5 fun h29 w25 H=>hold trivial (hold trivial ⟨((a10_0_0_0,a10_0_0_1,a11),(h27,h29)),⟨rfl,trivial⟩,oi_ f14,H.sel [0,1,2] rfl⟩))
  refine both ?_ ?_
  obtain ⟨⟨a10_0_0_0,a10_0_0_1,a10_0_0_2,a10_0_0_3⟩,a10_1⟩:=a10
  refine bB (ih d_b y0_0_0 y0_0_1 h2 d__0_2 d__0_2v d__0_3 d__0_3v a9 a0 a10_0_0_0 a10_0_0_1 a10_0_0_2 a10_0_0_3 a10_1 o4) (Γi:=[Bx d_b [(vi y0_0_0),(h2).v,d__0_2v,d__0_3v],E (List (Sh Ty0)) y0_0_1 h2]) H [] rfl yA ?_
  rintro _ _ w26 ⟨h30,h31,rfl,rfl⟩ H
  exact hold trivial (zA (α:=Int) gok rfl rfl rfl rfl H fun h32 w27 hx H=>hold trivial (wC (α:=Int) gok rfl rfl rfl rfl H (Vw.sh 2 rfl) o5 fun h33 w28 H=>hold trivial (hold trivial ⟨((a10_0_0_0,a10_0_0_1,a11),(h30,h33)),⟨rfl,trivial⟩,oi_ f14,H.sel [0,1,2] rfl⟩)))
  exact trivial
  exact trivial
  refine both ?_ ?_
  refine aA ((H.rs (α:=List Int) 2 rfl).at1' c12 c13 o3) (hold trivial (both ?_ ?_))
  refine aA ((H.rs (α:=List Int) 2 rfl).at1' c0 c1 d0) (hold trivial (both ?_ ?_))
  refine zA (α:=Int) gok rfl rfl rfl rfl H fun h34 w29 hx H=>hold trivial ?_
  obtain ⟨⟨a10_0_0_0,a10_0_0_1,a10_0_0_2,a10_0_0_3⟩,a10_1⟩:=a10
  refine have H:=H.sel [1,2,0,3,4] rfl;bB (ih d_b y0_0_0 y0_0_1 h2 d__0_2 d__0_2v d__0_3 d__0_3v a9 a0 a10_0_0_0 a10_0_0_1 a10_0_0_2 a10_0_0_3 a10_1 o4) (Γi:=[Bx d_b [(vi y0_0_0),(h2).v,d__0_2v,d__0_3v],E (List (Sh Ty0)) y0_0_1 h2]) H [] rfl yA ?_
  rintro _ _ w30 ⟨h35,h36,rfl,rfl⟩ H
  exact hold trivial (wC (α:=Int) gok rfl rfl rfl rfl (H.sel [3,0,1,2,4,5] rfl) (Vw.sh 2 rfl) o5 fun h37 w31 H=>hold trivial (hold trivial ⟨((a10_0_0_0,a10_0_0_1,a11),(h35,h37)),⟨rfl,trivial⟩,oi_ f14,H.sel [0,1,2] rfl⟩))
  refine both ?_ ?_
  obtain ⟨⟨a10_0_0_0,a10_0_0_1,a10_0_0_2,a10_0_0_3⟩,a10_1⟩:=a10
  refine bB (ih d_b y0_0_0 y0_0_1 h2 d__0_2 d__0_2v d__0_3 d__0_3v a9 a0 a10_0_0_0 a10_0_0_1 a10_0_0_2 a10_0_0_3 a10_1 o4) (Γi:=[Bx d_b [(vi y0_0_0),(h2).v,d__0_2v,d__0_3v],E (List (Sh Ty0)) y0_0_1 h2]) H [] rfl yA ?_
  rintro _ _ w32 ⟨h38,h39,rfl,rfl⟩ H
  exact hold trivial (zA (α:=Int) gok rfl rfl rfl rfl H fun h40 w33 hx H=>hold trivial (wC (α:=Int) gok rfl rfl rfl rfl H (Vw.sh 2 rfl) o5 fun h41 w34 H=>hold trivial (hold trivial ⟨((a10_0_0_0,a10_0_0_1,a11),(h38,h41)),⟨rfl,trivial⟩,oi_ f14,H.sel [0,1,2] rfl⟩)))
  exact trivial
  refine both ?_ ?_
  obtain ⟨⟨a10_0_0_0,a10_0_0_1,a10_0_0_2,a10_0_0_3⟩,a10_1⟩:=a10
  refine bB (ih d_b y0_0_0 y0_0_1 h2 d__0_2 d__0_2v d__0_3 d__0_3v a9 a0 a10_0_0_0 a10_0_0_1 a10_0_0_2 a10_0_0_3 a10_1 o4) (Γi:=[Bx d_b [(vi y0_0_0),(h2).v,d__0_2v,d__0_3v],E (List (Sh Ty0)) y0_0_1 h2]) H [] rfl yA ?_
  rintro _ _ w35 ⟨h42,h43,rfl,rfl⟩ H
  exact hold trivial (aA ((H.rs (α:=List Int) 3 rfl).at1' c0 c1 d0) (hold trivial (zA (α:=Int) gok rfl rfl rfl rfl H fun h44 w36 hx H=>hold trivial (wC (α:=Int) gok rfl rfl rfl rfl H (Vw.sh 2 rfl) o5 fun h45 w37 H=>hold trivial (hold trivial ⟨((a10_0_0_0,a10_0_0_1,a11),(h42,h45)),⟨rfl,trivial⟩,oi_ f14,H.sel [0,1,2] rfl⟩)))))
  exact trivial
  exact trivial
  exact trivial
  refine both ?_ ?_
  refine bO f4 fun a12 o6 f15=>bO f15 fun a13 o7 f16=>bO f16 fun a14 o8 f17=>bO f17 fun a15 o9 f18=>Zx ((H.rs (α:=List Int) 2 rfl).at1 o7) fun p4 m4 c16 c17 c18 c19=>fA c16 c17 c18 (hold trivial (both ?_ ?_))
  refine Zx ((H.rs (α:=List Int) 2 rfl).at1 o6) fun p5 m5 c20 c21 c22 c23=>fA c20 c21 c22 (hold trivial (both ?_ ?_))
  refine aA ((H.rs (α:=List Int) 2 rfl).at1' c20 c21 o6) (hold trivial (both ?_ ?_))
  refine zA (α:=Int) gok rfl rfl rfl rfl H fun h46 w38 hx H=>hold trivial (aA ((H.rs (α:=List Int) 3 rfl).at1' c16 c17 o7) (hold trivial ?_))
  obtain ⟨⟨a14_0_0_0,a14_0_0_1,a14_0_0_2,a14_0_0_3⟩,a14_1⟩:=a14
  refine have H:=H.sel [1,2,0,3,4] rfl;bB (ih d_b y0_0_0 y0_0_1 h2 d__0_2 d__0_2v d__0_3 d__0_3v a13 a0 a14_0_0_0 a14_0_0_1 a14_0_0_2 a14_0_0_3 a14_1 o8) (Γi:=[Bx d_b [(vi y0_0_0),(h2).v,d__0_2v,d__0_3v],E (List (Sh Ty0)) y0_0_1 h2]) H [] rfl yA ?_
  rintro _ _ w39 ⟨h47,h48,rfl,rfl⟩ H
  exact hold trivial (wC (α:=Int) gok rfl rfl rfl rfl (H.sel [3,0,1,2,4,5] rfl) (Vw.sh 2 rfl) o9 fun h49 w40 H=>hold trivial (hold trivial ⟨((a14_0_0_0,a14_0_0_1,a15),(h47,h49)),⟨rfl,trivial⟩,oi_ f18,H.sel [0,1,2] rfl⟩))
  refine both ?_ ?_
  refine aA ((H.rs (α:=List Int) 2 rfl).at1' c16 c17 o7) (hold trivial (both ?_ ?_))
  refine zA (α:=Int) gok rfl rfl rfl rfl H fun h50 w41 hx H=>hold trivial ?_
  obtain ⟨⟨a14_0_0_0,a14_0_0_1,a14_0_0_2,a14_0_0_3⟩,a14_1⟩:=a14
  refine have H:=H.sel [1,2,0,3,4] rfl;bB (ih d_b y0_0_0 y0_0_1 h2 d__0_2 d__0_2v d__0_3 d__0_3v a13 a0 a14_0_0_0 a14_0_0_1 a14_0_0_2 a14_0_0_3 a14_1 o8) (Γi:=[Bx d_b [(vi y0_0_0),(h2).v,d__0_2v,d__0_3v],E (List (Sh Ty0)) y0_0_1 h2]) H [] rfl yA ?_
  rintro _ _ w42 ⟨h51,h52,rfl,rfl⟩ H
  exact hold trivial (wC (α:=Int) gok rfl rfl rfl rfl (H.sel [3,0,1,2,4,5] rfl) (Vw.sh 2 rfl) o9 fun h53 w43 H=>hold trivial (hold trivial ⟨((a14_0_0_0,a14_0_0_1,a15),(h51,h53)),⟨rfl,trivial⟩,oi_ f18,H.sel [0,1,2] rfl⟩))
  refine both ?_ ?_
  obtain ⟨⟨a14_0_0_0,a14_0_0_1,a14_0_0_2,a14_0_0_3⟩,a14_1⟩:=a14
  refine bB (ih d_b y0_0_0 y0_0_1 h2 d__0_2 d__0_2v d__0_3 d__0_3v a13 a0 a14_0_0_0 a14_0_0_1 a14_0_0_2 a14_0_0_3 a14_1 o8) (Γi:=[Bx d_b [(vi y0_0_0),(h2).v,d__0_2v,d__0_3v],E (List (Sh Ty0)) y0_0_1 h2]) H [] rfl yA ?_
  rintro _ _ w44 ⟨h54,h55,rfl,rfl⟩ H
  exact hold trivial (zA (α:=Int) gok rfl rfl rfl rfl H fun h56 w45 hx H=>hold trivial (wC (α:=Int) gok rfl rfl rfl rfl H (Vw.sh 2 rfl) o9 fun h57 w46 H=>hold trivial (hold trivial ⟨((a14_0_0_0,a14_0_0_1,a15),(h54,h57)),⟨rfl,trivial⟩,oi_ f18,H.sel [0,1,2] rfl⟩)))
  exact trivial
  exact trivial
  refine both ?_ ?_
  refine aA ((H.rs (α:=List Int) 2 rfl).at1' c16 c17 o7) (hold trivial (both ?_ ?_))
  refine aA ((H.rs (α:=List Int) 2 rfl).at1' c20 c21 o6) (hold trivial (both ?_ ?_))
  refine zA (α:=Int) gok rfl rfl rfl rfl H fun h58 w47 hx H=>hold trivial ?_
  obtain ⟨⟨a14_0_0_0,a14_0_0_1,a14_0_0_2,a14_0_0_3⟩,a14_1⟩:=a14
  refine have H:=H.sel [1,2,0,3,4] rfl;bB (ih d_b y0_0_0 y0_0_1 h2 d__0_2 d__0_2v d__0_3 d__0_3v a13 a0 a14_0_0_0 a14_0_0_1 a14_0_0_2 a14_0_0_3 a14_1 o8) (Γi:=[Bx d_b [(vi y0_0_0),(h2).v,d__0_2v,d__0_3v],E (List (Sh Ty0)) y0_0_1 h2]) H [] rfl yA ?_
  rintro _ _ w48 ⟨h59,h60,rfl,rfl⟩ H
  exact hold trivial (wC (α:=Int) gok rfl rfl rfl rfl (H.sel [3,0,1,2,4,5] rfl) (Vw.sh 2 rfl) o9 fun h61 w49 H=>hold trivial (hold trivial ⟨((a14_0_0_0,a14_0_0_1,a15),(h59,h61)),⟨rfl,trivial⟩,oi_ f18,H.sel [0,1,2] rfl⟩))
  refine both ?_ ?_
  obtain ⟨⟨a14_0_0_0,a14_0_0_1,a14_0_0_2,a14_0_0_3⟩,a14_1⟩:=a14
  refine bB (ih d_b y0_0_0 y0_0_1 h2 d__0_2 d__0_2v d__0_3 d__0_3v a13 a0 a14_0_0_0 a14_0_0_1 a14_0_0_2 a14_0_0_3 a14_1 o8) (Γi:=[Bx d_b [(vi y0_0_0),(h2).v,d__0_2v,d__0_3v],E (List (Sh Ty0)) y0_0_1 h2]) H [] rfl yA ?_
  rintro _ _ w50 ⟨h62,h63,rfl,rfl⟩ H
  exact hold trivial (zA (α:=Int) gok rfl rfl rfl rfl H fun h64 w51 hx H=>hold trivial (wC (α:=Int) gok rfl rfl rfl rfl H (Vw.sh 2 rfl) o9 fun h65 w52 H=>hold trivial (hold trivial ⟨((a14_0_0_0,a14_0_0_1,a15),(h62,h65)),⟨rfl,trivial⟩,oi_ f18,H.sel [0,1,2] rfl⟩)))
  exact trivial
  refine both ?_ ?_
  obtain ⟨⟨a14_0_0_0,a14_0_0_1,a14_0_0_2,a14_0_0_3⟩,a14_1⟩:=a14
  refine bB (ih d_b y0_0_0 y0_0_1 h2 d__0_2 d__0_2v d__0_3 d__0_3v a13 a0 a14_0_0_0 a14_0_0_1 a14_0_0_2 a14_0_0_3 a14_1 o8) (Γi:=[Bx d_b [(vi y0_0_0),(h2).v,d__0_2v,d__0_3v],E (List (Sh Ty0)) y0_0_1 h2]) H [] rfl yA ?_
  rintro _ _ w53 ⟨h66,h67,rfl,rfl⟩ H
  exact hold trivial (aA ((H.rs (α:=List Int) 3 rfl).at1' c20 c21 o6) (hold trivial (zA (α:=Int) gok rfl rfl rfl rfl H fun h68 w54 hx H=>hold trivial (wC (α:=Int) gok rfl rfl rfl rfl H (Vw.sh 2 rfl) o9 fun h69 w55 H=>hold trivial (hold trivial ⟨((a14_0_0_0,a14_0_0_1,a15),(h66,h69)),⟨rfl,trivial⟩,oi_ f18,H.sel [0,1,2] rfl⟩)))))
  exact trivial
  exact trivial
  refine both ?_ ?_
  refine aA ((H.rs (α:=List Int) 2 rfl).at1' c16 c17 o7) (hold trivial (both ?_ ?_))
  refine Zx ((H.rs (α:=List Int) 2 rfl).at1 o6) fun p6 m6 c24 c25 c26 c27=>fA c24 c25 c26 (hold trivial (both ?_ ?_))
  refine aA ((H.rs (α:=List Int) 2 rfl).at1' c24 c25 o6) (hold trivial (both ?_ ?_))
  refine zA (α:=Int) gok rfl rfl rfl rfl H fun h70 w56 hx H=>hold trivial ?_
  obtain ⟨⟨a14_0_0_0,a14_0_0_1,a14_0_0_2,a14_0_0_3⟩,a14_1⟩:=a14
  refine have H:=H.sel [1,2,0,3,4] rfl;bB (ih d_b y0_0_0 y0_0_1 h2 d__0_2 d__0_2v d__0_3 d__0_3v a13 a0 a14_0_0_0 a14_0_0_1 a14_0_0_2 a14_0_0_3 a14_1 o8) (Γi:=[Bx d_b [(vi y0_0_0),(h2).v,d__0_2v,d__0_3v],E (List (Sh Ty0)) y0_0_1 h2]) H [] rfl yA ?_
  rintro _ _ w57 ⟨h71,h72,rfl,rfl⟩ H
  exact hold trivial (wC (α:=Int) gok rfl rfl rfl rfl (H.sel [3,0,1,2,4,5] rfl) (Vw.sh 2 rfl) o9 fun h73 w58 H=>hold trivial (hold trivial ⟨((a14_0_0_0,a14_0_0_1,a15),(h71,h73)),⟨rfl,trivial⟩,oi_ f18,H.sel [0,1,2] rfl⟩))
  refine both ?_ ?_
  obtain ⟨⟨a14_0_0_0,a14_0_0_1,a14_0_0_2,a14_0_0_3⟩,a14_1⟩:=a14
  refine bB (ih d_b y0_0_0 y0_0_1 h2 d__0_2 d__0_2v d__0_3 d__0_3v a13 a0 a14_0_0_0 a14_0_0_1 a14_0_0_2 a14_0_0_3 a14_1 o8) (Γi:=[Bx d_b [(vi y0_0_0),(h2).v,d__0_2v,d__0_3v],E (List (Sh Ty0)) y0_0_1 h2]) H [] rfl yA ?_
  rintro _ _ w59 ⟨h74,h75,rfl,rfl⟩ H
  exact hold trivial (zA (α:=Int) gok rfl rfl rfl rfl H fun h76 w60 hx H=>hold trivial (wC (α:=Int) gok rfl rfl rfl rfl H (Vw.sh 2 rfl) o9 fun h77 w61 H=>hold trivial (hold trivial ⟨((a14_0_0_0,a14_0_0_1,a15),(h74,h77)),⟨rfl,trivial⟩,oi_ f18,H.sel [0,1,2] rfl⟩)))
  exact trivial
  refine both ?_ ?_
  obtain ⟨⟨a14_0_0_0,a14_0_0_1,a14_0_0_2,a14_0_0_3⟩,a14_1⟩:=a14
  refine bB (ih d_b y0_0_0 y0_0_1 h2 d__0_2 d__0_2v d__0_3 d__0_3v a13 a0 a14_0_0_0 a14_0_0_1 a14_0_0_2 a14_0_0_3 a14_1 o8) (Γi:=[Bx d_b [(vi y0_0_0),(h2).v,d__0_2v,d__0_3v],E (List (Sh Ty0)) y0_0_1 h2]) H [] rfl yA ?_
  rintro _ _ w62 ⟨h78,h79,rfl,rfl⟩ H
  exact hold trivial (aA ((H.rs (α:=List Int) 3 rfl).at1' c24 c25 o6) (hold trivial (zA (α:=Int) gok rfl rfl rfl rfl H fun h80 w63 hx H=>hold trivial (wC (α:=Int) gok rfl rfl rfl rfl H (Vw.sh 2 rfl) o9 fun h81 w64 H=>hold trivial (hold trivial ⟨((a14_0_0_0,a14_0_0_1,a15),(h78,h81)),⟨rfl,trivial⟩,oi_ f18,H.sel [0,1,2] rfl⟩)))))
  exact trivial
  refine both ?_ ?_
  obtain ⟨⟨a14_0_0_0,a14_0_0_1,a14_0_0_2,a14_0_0_3⟩,a14_1⟩:=a14
  refine bB (ih d_b y0_0_0 y0_0_1 h2 d__0_2 d__0_2v d__0_3 d__0_3v a13 a0 a14_0_0_0 a14_0_0_1 a14_0_0_2 a14_0_0_3 a14_1 o8) (Γi:=[Bx d_b [(vi y0_0_0),(h2).v,d__0_2v,d__0_3v],E (List (Sh Ty0)) y0_0_1 h2]) H [] rfl yA ?_
  rintro _ _ w65 ⟨h82,h83,rfl,rfl⟩ H
  exact hold trivial (Zx ((H.rs (α:=List Int) 3 rfl).at1 o6) fun p7 m7 c28 c29 c30 c31=>fA c28 c29 c30 (hold trivial (aA ((H.rs (α:=List Int) 3 rfl).at1' c28 c29 o6) (hold trivial (zA (α:=Int) gok rfl rfl rfl rfl H fun h84 w66 hx H=>hold trivial (wC (α:=Int) gok rfl rfl rfl rfl H (Vw.sh 2 rfl) o9 fun h85 w67 H=>hold trivial (hold trivial ⟨((a14_0_0_0,a14_0_0_1,a15),(h82,h85)),⟨rfl,trivial⟩,oi_ f18,H.sel [0,1,2] rfl⟩)))))))
  exact trivial
  exact trivial
  exact trivial
  rintro T0 ⟨⟨s0_0,s0_1,s0_2⟩,⟨g0_0,g0_1⟩⟩ w68 ⟨hr,H⟩;(try dsimp only at H)
  subst hr
  replace H:=H.frz
  cases f3
  exact ⟨_,_,rfl,⟨g0_0,g0_1,rfl,rfl⟩,(H.sel [1,2,0] rfl)⟩
  refine zA (α:=Int) gok rfl rfl rfl rfl H ?_;intro h86 w69 hx H
  replace H:=H.frz
  cases f19
  exact ⟨_,_,rfl,⟨d__0_1h,h86,rfl,rfl⟩,(H.sel [1,2,0] rfl)⟩
  refine zA (α:=Int) gok rfl rfl rfl rfl H fun h87 w70 hx H=>have H:=H.nil (α:=Int);bO f20 fun ⟨y3_0_0,y3_0_1,y3_0_2,y3_0_3⟩ i5 f21=>have H:=((H.sel [1,0,2,3] rfl).frz).sel [1,0,2,3] rfl;have H:=(H.frz).sel [2,3,0,1] rfl;bB (@fD d_b d__0_0 d__0_1 d__0_1h d__0_2 d__0_2v d__0_3 d__0_3v 4 0 [w_] h87 [] nilH y3_0_0 y3_0_1 y3_0_2 y3_0_3 i5) (Γi:=[Bx d_b [(vi d__0_0),(d__0_1h).v,d__0_2v,d__0_3v],E (List (Sh Ty0)) d__0_1 d__0_1h]) H [1,0] rfl (qA lA (qA lA yA)) ?_
  rintro _ _ w71 ⟨h88,rfl,rfl⟩ H
  replace H:=(H.nil (α:=Int)).frz
  cases f21
  exact ⟨_,_,rfl,⟨h88,nilH,rfl,rfl⟩,(H.sel [1,2,0] rfl)⟩
theorem Do_ {d_b:Nat}{d__0_0:Int}{d__0_1:List Ty0}{d__0_1h:Hd}{d__0_2:List Int}{d__0_2v:Value}{d__0_3:List Int}{d__0_3v:Value}{w_ n_ y0_0_0:Int}{y0_0_1:List Ty0}{y0_0_2 y0_0_3 y1:List Int} (hF:rM (d__0_0,d__0_1,d__0_2,d__0_3) w_ n_=some ((y0_0_0,y0_0_1,y0_0_2,y0_0_3),y1)) :
  tD Tryz.prog 69 #[(vp d_b),(vi w_),(vi n_)] [] [Bx d_b [(vi d__0_0),(d__0_1h).v,d__0_2v,d__0_3v],E (List (Sh Ty0)) d__0_1 d__0_1h] (fun v Γ'=>∃ z0 z1:Hd,v=(z1).v∧Γ'=[Bx d_b [(vi y0_0_0),(z0).v,d__0_2v,d__0_3v],E (List (Sh Ty0)) y0_0_1 z0,Es (List Int) y1 z1]):=Di_ _ d_b d__0_0 d__0_1 d__0_1h d__0_2 d__0_2v d__0_3 d__0_3v w_ n_ y0_0_0 y0_0_1 y0_0_2 y0_0_3 y1 hF
theorem Dz_:∀ (fuel d_b:Nat) (d__0_0:Int) (d__0_1:List Ty0) (d__0_1h:Hd) (d__0_2:List Int) (d__0_2v:Value) (d__0_3:List Int) (d__0_3v:Value) (list_:List Int) (list_h:Hd) (y0_0_0:Int) (y0_0_1:List Ty0) (y0_0_2 y0_0_3:List Int) (y1:Int) (hF:pP fuel (d__0_0,d__0_1,d__0_2,d__0_3) list_=some ((y0_0_0,y0_0_1,y0_0_2,y0_0_3),y1)),
  tD Tryz.prog 70 #[(vp d_b),(list_h).v] [Es (List Int) list_ list_h] [Bx d_b [(vi d__0_0),(d__0_1h).v,d__0_2v,d__0_3v],E (List (Sh Ty0)) d__0_1 d__0_1h] (fun v Γ'=>∃ z0:Hd,v=(vi y1)∧Γ'=[Bx d_b [(vi y0_0_0),(z0).v,d__0_2v,d__0_3v],E (List (Sh Ty0)) y0_0_1 z0]):=by
 intro fuel
 induction fuel with
 | zero=>intro d_b d__0_0 d__0_1 d__0_1h d__0_2 d__0_2v d__0_3 d__0_3v list_ list_h y0_0_0 y0_0_1 y0_0_2 y0_0_3 y1 hF;cases hF
 | succ fuel ih=>
  intro d_b d__0_0 d__0_1 d__0_1h d__0_2 d__0_2v d__0_3 d__0_3v list_ list_h y0_0_0 y0_0_1 y0_0_2 y0_0_3 y1 hF
  refine Zs (args:=[_,_]) gok Tryz.func70 rfl _ rfl rfl rfl fun w0 S0 fp0 H=>eA (H.rs (α:=List Int) 0 rfl).len (bO hF fun a4 e hF5=>arO e (sq (boolB_ hF5 (fun hF8=>?_) fun f21=>?_)))
  obtain ⟨y9,e,f0⟩:=iB hF8
  obtain ⟨⟨y9_0_0_0,y9_0_0_1,y9_0_0_2,y9_0_0_3⟩,y9_1⟩:=y9
  refine have ey9:=e;have H:=H.sel [1,0,2] rfl;uB (@vM d_b d__0_0 d__0_1 ((d__0_1h).v) d__0_2 d__0_2v d__0_3 d__0_3v y9_0_0_0 y9_0_0_1 y9_0_0_2 y9_0_0_3 y9_1 ey9) (Γi:=[Bx d_b [(vi d__0_0),(d__0_1h).v,d__0_2v,d__0_3v]]) H trivial ?_
  rintro _ _ w1 ⟨rfl,rfl⟩ H
  refine sq (boolB_ f0 (fun f2=>?_) fun f19=>?_)
  obtain ⟨r0,f3,f4⟩:=iB f2
  refine aG H [5,13,8,12,9,10,0,1,2,3,4,6,7,11] (.pure 0 (.pure 1 (.pure 2 (.pure 3 (.pure 4 (.pure 6 (.pure 7 (.pure 11 (.alts (.alt 5 (.alts (.alt 8 (.alts (.alt 9 (.alts (.alt 10 (.act 12 (.act 13 .done)) (.alt 12 (.act 10 (.act 13 .done)) .no))) (.alt 12 (.act 9 (.act 10 (.act 13 .done))) .no))) (.alt 12 (.act 8 (.act 9 (.act 10 (.act 13 .done)))) .no))) (.alt 8 (.alts (.alt 5 (.alts (.alt 9 (.alts (.alt 10 (.act 12 (.act 13 .done)) (.alt 12 (.act 10 (.act 13 .done)) .no))) (.alt 12 (.act 9 (.act 10 (.act 13 .done))) .no))) (.alt 9 (.alts (.alt 5 (.alts (.alt 10 (.act 12 (.act 13 .done)) (.alt 12 (.act 10 (.act 13 .done)) .no))) (.alt 12 (.act 5 (.act 10 (.act 13 .done))) .no))) (.alt 12 (.alts (.alt 5 (.act 9 (.act 10 (.act 13 .done))) (.alt 9 (.act 5 (.act 10 (.act 13 .done))) .no))) .no)))) (.alt 12 (.alts (.alt 5 (.act 8 (.act 9 (.act 10 (.act 13 .done)))) (.alt 8 (.alts (.alt 5 (.act 9 (.act 10 (.act 13 .done))) (.alt 9 (.act 5 (.act 10 (.act 13 .done))) .no))) .no))) .no)))))))))))) fB [] trivial (by kernel_rfl) (fun (q0:(Int×(List Ty0))×Hd)=>[(6,(vi y9_1))]) (fun (q0:(Int×(List Ty0))×Hd) w'=>(q0.1.1,q0.1.2)=r0∧Cx w0 fp0 S0 w' [Bx d_b [(vi q0.1.1),(q0.2).v,d__0_2v,d__0_3v],E (List (Sh Ty0)) q0.1.2 q0.2]) ?_ ?_
  intro w2 H
  have hX:Ext w2 w2:=Upd.refl _ _
  obtain ⟨a1,e,f5⟩:=iB f3
  refine slSX (α:=Int) gok rfl rfl H 1 rfl e rfl rfl ?_;intro h0 HH;have H:=HH
  refine both ?_ ?_
  obtain ⟨y0,e,f6⟩:=iB f5
  obtain ⟨⟨y0_0_0_0,y0_0_0_1,y0_0_0_2,y0_0_0_3⟩,y0_1⟩:=y0
  refine have i0:=e;have H:=H.sel [1,3,0,2] rfl;bB (ih d_b y9_0_0_0 d__0_1 d__0_1h d__0_2 d__0_2v d__0_3 d__0_3v a1 h0 y0_0_0_0 y0_0_0_1 y0_0_0_2 y0_0_0_3 y0_1 i0) (Γi:=[Bx d_b [(vi y9_0_0_0),(d__0_1h).v,d__0_2v,d__0_3v],E (List (Sh Ty0)) d__0_1 d__0_1h]) H [0] rfl (qA lA yA) ?_
  rintro _ _ w3 ⟨h1,rfl,rfl⟩ H
  refine hold trivial (both ?_ ?_)
  refine bO f6 fun a2 d0 f7=>Zx ((H.rs (α:=List Int) 3 rfl).at1 d0) fun p0 m0 c0 c1 c2 c3=>fA c0 c1 c2 (hold trivial (both ?_ ?_))
  refine aA ((H.rs (α:=List Int) 3 rfl).at1' c0 c1 d0) (hold trivial (both ?_ ?_))
  refine cA (α:=Int) (us:=[(vi y0_1),(vi a2)]) (xs:=[y0_1,a2]) (gs:=[(),()]) gok rfl rfl rfl ⟨rfl,rfl,trivial⟩ rfl rfl ((H.sc (α:=Int) a2).sc (α:=Int) y0_1) fun h2 w4 hx H=>hold trivial (zA (α:=Int) gok rfl rfl rfl rfl H fun h3 w5 hx H=>hold trivial (bO f7 fun ⟨y2_0_0,y2_0_1,y2_0_2,y2_0_3⟩ i1 f8=>have H:=((H.sel [1,0,2,3,4,5] rfl).frz).sel [1,0,2,3,4,5] rfl;have H:=(H.frz).sel [2,3,0,1,4,5] rfl;bB (@fD d_b y0_0_0_0 y0_0_0_1 h1 d__0_2 d__0_2v d__0_3 d__0_3v 5 0 [y0_1,a2] h2 [y9_1] h3 y2_0_0 y2_0_1 y2_0_2 y2_0_3 i1) (Γi:=[Bx d_b [(vi y0_0_0_0),(h1).v,d__0_2v,d__0_3v],E (List (Sh Ty0)) y0_0_0_1 h1]) H [1,0] rfl (qA lA (qA lA yA)) ?_))
  rintro _ _ w6 ⟨h4,rfl,rfl⟩ H
  exact hold trivial ⟨((y2_0_0,y2_0_1),h4),⟨rfl,trivial⟩,oi_ f8,H.sel [0,1] rfl⟩
  refine both ?_ ?_
  refine bO f7 fun a3 o0 f9=>zA (α:=Int) gok rfl rfl rfl rfl H fun h5 w7 hx H=>hold trivial (cA (α:=Int) (us:=[(vi y0_1),(vi a2)]) (xs:=[y0_1,a2]) (gs:=[(),()]) gok rfl rfl rfl ⟨rfl,rfl,trivial⟩ rfl rfl ((H.sc (α:=Int) a2).sc (α:=Int) y0_1) fun h6 w8 hx H=>hold trivial ?_)
  obtain ⟨a3_0_0,a3_0_1,a3_0_2,a3_0_3⟩:=a3
  refine have H:=((H.frz).sel [1,0,2,3,4,5] rfl).frz;have H:=H.sel [2,3,0,1,4,5] rfl;bB (@fD d_b y0_0_0_0 y0_0_0_1 h1 d__0_2 d__0_2v d__0_3 d__0_3v 5 0 [y0_1,a2] h6 [y9_1] h5 a3_0_0 a3_0_1 a3_0_2 a3_0_3 o0) (Γi:=[Bx d_b [(vi y0_0_0_0),(h1).v,d__0_2v,d__0_3v],E (List (Sh Ty0)) y0_0_0_1 h1]) H [1,0] rfl (qA lA (qA lA yA)) ?_
  rintro _ _ w9 ⟨h7,rfl,rfl⟩ H
  exact hold trivial ⟨((a3_0_0,a3_0_1),h7),⟨rfl,trivial⟩,oi_ f9,H.sel [0,1] rfl⟩
  exact trivial
  refine both ?_ ?_
  refine bO f7 fun a5 o1 f10=>zA (α:=Int) gok rfl rfl rfl rfl H fun h8 w10 hx H=>hold trivial (aA ((H.rs (α:=List Int) 4 rfl).at1' c0 c1 d0) (hold trivial (cA (α:=Int) (us:=[(vi y0_1),(vi a2)]) (xs:=[y0_1,a2]) (gs:=[(),()]) gok rfl rfl rfl ⟨rfl,rfl,trivial⟩ rfl rfl ((H.sc (α:=Int) a2).sc (α:=Int) y0_1) fun h9 w12 hx H=>hold trivial ?_)))
  obtain ⟨a5_0_0,a5_0_1,a5_0_2,a5_0_3⟩:=a5
  refine have H:=((H.frz).sel [1,0,2,3,4,5] rfl).frz;have H:=H.sel [2,3,0,1,4,5] rfl;bB (@fD d_b y0_0_0_0 y0_0_0_1 h1 d__0_2 d__0_2v d__0_3 d__0_3v 5 0 [y0_1,a2] h9 [y9_1] h8 a5_0_0 a5_0_1 a5_0_2 a5_0_3 o1) (Γi:=[Bx d_b [(vi y0_0_0_0),(h1).v,d__0_2v,d__0_3v],E (List (Sh Ty0)) y0_0_0_1 h1]) H [1,0] rfl (qA lA (qA lA yA)) ?_
  rintro _ _ w13 ⟨h10,rfl,rfl⟩ H
  exact hold trivial ⟨((a5_0_0,a5_0_1),h10),⟨rfl,trivial⟩,oi_ f10,H.sel [0,1] rfl⟩
  exact trivial
  refine both ?_ ?_
  refine bO f6 fun a7 o2 f11=>bO f11 fun a8 o3 f12=>zA (α:=Int) gok rfl rfl rfl rfl H fun h11 w14 hx H=>hold trivial (Zx ((H.rs (α:=List Int) 4 rfl).at1 o2) fun p1 m1 c4 c5 c6 c7=>fA c4 c5 c6 (hold trivial (aA ((H.rs (α:=List Int) 4 rfl).at1' c4 c5 o2) (hold trivial (cA (α:=Int) (us:=[(vi y0_1),(vi a7)]) (xs:=[y0_1,a7]) (gs:=[(),()]) gok rfl rfl rfl ⟨rfl,rfl,trivial⟩ rfl rfl ((H.sc (α:=Int) a7).sc (α:=Int) y0_1) fun h12 w15 hx H=>hold trivial ?_)))))
  obtain ⟨a8_0_0,a8_0_1,a8_0_2,a8_0_3⟩:=a8
  refine have H:=((H.frz).sel [1,0,2,3,4,5] rfl).frz;have H:=H.sel [2,3,0,1,4,5] rfl;bB (@fD d_b y0_0_0_0 y0_0_0_1 h1 d__0_2 d__0_2v d__0_3 d__0_3v 5 0 [y0_1,a7] h12 [y9_1] h11 a8_0_0 a8_0_1 a8_0_2 a8_0_3 o3) (Γi:=[Bx d_b [(vi y0_0_0_0),(h1).v,d__0_2v,d__0_3v],E (List (Sh Ty0)) y0_0_0_1 h1]) H [1,0] rfl (qA lA (qA lA yA)) ?_
  rintro _ _ w16 ⟨h13,rfl,rfl⟩ H
  exact hold trivial ⟨((a8_0_0,a8_0_1),h13),⟨rfl,trivial⟩,oi_ f12,H.sel [0,1] rfl⟩
  exact trivial
  refine both ?_ ?_
  refine bO f5 fun a9 o4 f13=>bO f13 fun a10 o5 f14=>bO f14 fun a11 o6 f15=>Zx ((H.rs (α:=List Int) 2 rfl).at1 o5) fun p2 m2 c8 c9 c10 c11=>fA c8 c9 c10 (hold trivial (both ?_ ?_))
  obtain ⟨⟨a9_0_0_0,a9_0_0_1,a9_0_0_2,a9_0_0_3⟩,a9_1⟩:=a9
  refine have H:=H.sel [1,3,0,2] rfl;bB (ih d_b y9_0_0_0 d__0_1 d__0_1h d__0_2 d__0_2v d__0_3 d__0_3v a1 h0 a9_0_0_0 a9_0_0_1 a9_0_0_2 a9_0_0_3 a9_1 o4) (Γi:=[Bx d_b [(vi y9_0_0_0),(d__0_1h).v,d__0_2v,d__0_3v],E (List (Sh Ty0)) d__0_1 d__0_1h]) H [0] rfl (qA lA yA) ?_
  rintro _ _ w17 ⟨h14,rfl,rfl⟩ H
  refine hold trivial (both ?_ ?_)
  refine aA ((H.rs (α:=List Int) 3 rfl).at1' c8 c9 o5) (hold trivial (both ?_ ?_))
  refine cA (α:=Int) (us:=[(vi a9_1),(vi a10)]) (xs:=[a9_1,a10]) (gs:=[(),()]) gok rfl rfl rfl ⟨rfl,rfl,trivial⟩ rfl rfl ((H.sc (α:=Int) a10).sc (α:=Int) a9_1) fun h15 w18 hx H=>hold trivial (zA (α:=Int) gok rfl rfl rfl rfl H fun h16 w19 hx H=>hold trivial ?_)
  obtain ⟨a11_0_0,a11_0_1,a11_0_2,a11_0_3⟩:=a11
  refine have H:=((H.sel [1,0,2,3,4,5] rfl).frz).sel [1,0,2,3,4,5] rfl;have H:=(H.frz).sel [2,3,0,1,4,5] rfl;bB (@fD d_b a9_0_0_0 a9_0_0_1 h14 d__0_2 d__0_2v d__0_3 d__0_3v 5 0 [a9_1,a10] h15 [y9_1] h16 a11_0_0 a11_0_1 a11_0_2 a11_0_3 o6) (Γi:=[Bx d_b [(vi a9_0_0_0),(h14).v,d__0_2v,d__0_3v],E (List (Sh Ty0)) a9_0_0_1 h14]) H [1,0] rfl (qA lA (qA lA yA)) ?_
  rintro _ _ w20 ⟨h17,rfl,rfl⟩ H
  exact hold trivial ⟨((a11_0_0,a11_0_1),h17),⟨rfl,trivial⟩,oi_ f15,H.sel [0,1] rfl⟩
  refine both ?_ ?_
  refine zA (α:=Int) gok rfl rfl rfl rfl H fun h18 w21 hx H=>hold trivial (cA (α:=Int) (us:=[(vi a9_1),(vi a10)]) (xs:=[a9_1,a10]) (gs:=[(),()]) gok rfl rfl rfl ⟨rfl,rfl,trivial⟩ rfl rfl ((H.sc (α:=Int) a10).sc (α:=Int) a9_1) fun h19 w22 hx H=>hold trivial ?_)
  obtain ⟨a11_0_0,a11_0_1,a11_0_2,a11_0_3⟩:=a11
  refine have H:=((H.frz).sel [1,0,2,3,4,5] rfl).frz;have H:=H.sel [2,3,0,1,4,5] rfl;bB (@fD d_b a9_0_0_0 a9_0_0_1 h14 d__0_2 d__0_2v d__0_3 d__0_3v 5 0 [a9_1,a10] h19 [y9_1] h18 a11_0_0 a11_0_1 a11_0_2 a11_0_3 o6) (Γi:=[Bx d_b [(vi a9_0_0_0),(h14).v,d__0_2v,d__0_3v],E (List (Sh Ty0)) a9_0_0_1 h14]) H [1,0] rfl (qA lA (qA lA yA)) ?_
  rintro _ _ w23 ⟨h20,rfl,rfl⟩ H
  exact hold trivial ⟨((a11_0_0,a11_0_1),h20),⟨rfl,trivial⟩,oi_ f15,H.sel [0,1] rfl⟩
  exact trivial
  refine both ?_ ?_
  refine zA (α:=Int) gok rfl rfl rfl rfl H fun h21 w24 hx H=>hold trivial (aA ((H.rs (α:=List Int) 4 rfl).at1' c8 c9 o5) (hold trivial (cA (α:=Int) (us:=[(vi a9_1),(vi a10)]) (xs:=[a9_1,a10]) (gs:=[(),()]) gok rfl rfl rfl ⟨rfl,rfl,trivial⟩ rfl rfl ((H.sc (α:=Int) a10).sc (α:=Int) a9_1) fun h22 w25 hx H=>hold trivial ?_)))
  obtain ⟨a11_0_0,a11_0_1,a11_0_2,a11_0_3⟩:=a11
  refine have H:=((H.frz).sel [1,0,2,3,4,5] rfl).frz;have H:=H.sel [2,3,0,1,4,5] rfl;bB (@fD d_b a9_0_0_0 a9_0_0_1 h14 d__0_2 d__0_2v d__0_3 d__0_3v 5 0 [a9_1,a10] h22 [y9_1] h21 a11_0_0 a11_0_1 a11_0_2 a11_0_3 o6) (Γi:=[Bx d_b [(vi a9_0_0_0),(h14).v,d__0_2v,d__0_3v],E (List (Sh Ty0)) a9_0_0_1 h14]) H [1,0] rfl (qA lA (qA lA yA)) ?_
  rintro _ _ w26 ⟨h23,rfl,rfl⟩ H
  exact hold trivial ⟨((a11_0_0,a11_0_1),h23),⟨rfl,trivial⟩,oi_ f15,H.sel [0,1] rfl⟩
  exact trivial
  refine both ?_ ?_
  refine aA ((H.rs (α:=List Int) 2 rfl).at1' c8 c9 o5) (hold trivial (both ?_ ?_))
  obtain ⟨⟨a9_0_0_0,a9_0_0_1,a9_0_0_2,a9_0_0_3⟩,a9_1⟩:=a9
  refine have H:=H.sel [1,3,0,2] rfl;bB (ih d_b y9_0_0_0 d__0_1 d__0_1h d__0_2 d__0_2v d__0_3 d__0_3v a1 h0 a9_0_0_0 a9_0_0_1 a9_0_0_2 a9_0_0_3 a9_1 o4) (Γi:=[Bx d_b [(vi y9_0_0_0),(d__0_1h).v,d__0_2v,d__0_3v],E (List (Sh Ty0)) d__0_1 d__0_1h]) H [0] rfl (qA lA yA) ?_
  rintro _ _ w27 ⟨h24,rfl,rfl⟩ H
  refine hold trivial (both ?_ ?_)
  refine cA (α:=Int) (us:=[(vi a9_1),(vi a10)]) (xs:=[a9_1,a10]) (gs:=[(),()]) gok rfl rfl rfl ⟨rfl,rfl,trivial⟩ rfl rfl ((H.sc (α:=Int) a10).sc (α:=Int) a9_1) fun h25 w28 hx H=>hold trivial (zA (α:=Int) gok rfl rfl rfl rfl H fun h26 w29 hx H=>hold trivial ?_)
  obtain ⟨a11_0_0,a11_0_1,a11_0_2,a11_0_3⟩:=a11
  refine have H:=((H.sel [1,0,2,3,4,5] rfl).frz).sel [1,0,2,3,4,5] rfl;have H:=(H.frz).sel [2,3,0,1,4,5] rfl;bB (@fD d_b a9_0_0_0 a9_0_0_1 h24 d__0_2 d__0_2v d__0_3 d__0_3v 5 0 [a9_1,a10] h25 [y9_1] h26 a11_0_0 a11_0_1 a11_0_2 a11_0_3 o6) (Γi:=[Bx d_b [(vi a9_0_0_0),(h24).v,d__0_2v,d__0_3v],E (List (Sh Ty0)) a9_0_0_1 h24]) H [1,0] rfl (qA lA (qA lA yA)) ?_
  rintro _ _ w30 ⟨h27,rfl,rfl⟩ H
  exact hold trivial ⟨((a11_0_0,a11_0_1),h27),⟨rfl,trivial⟩,oi_ f15,H.sel [0,1] rfl⟩
  refine both ?_ ?_
  refine zA (α:=Int) gok rfl rfl rfl rfl H fun h28 w31 hx H=>hold trivial (cA (α:=Int) (us:=[(vi a9_1),(vi a10)]) (xs:=[a9_1,a10]) (gs:=[(),()]) gok rfl rfl rfl ⟨rfl,rfl,trivial⟩ rfl rfl ((H.sc (α:=Int) a10).sc (α:=Int) a9_1) fun h29 w32 hx H=>hold trivial ?_)
  obtain ⟨a11_0_0,a11_0_1,a11_0_2,a11_0_3⟩:=a11
  refine have H:=((H.frz).sel [1,0,2,3,4,5] rfl).frz;have H:=H.sel [2,3,0,1,4,5] rfl;bB (@fD d_b a9_0_0_0 a9_0_0_1 h24 d__0_2 d__0_2v d__0_3 d__0_3v 5 0 [a9_1,a10] h29 [y9_1] h28 a11_0_0 a11_0_1 a11_0_2 a11_0_3 o6) (Γi:=[Bx d_b [(vi a9_0_0_0),(h24).v,d__0_2v,d__0_3v],E (List (Sh Ty0)) a9_0_0_1 h24]) H [1,0] rfl (qA lA (qA lA yA)) ?_
  rintro _ _ w33 ⟨h30,rfl,rfl⟩ H
  exact hold trivial ⟨((a11_0_0,a11_0_1),h30),⟨rfl,trivial⟩,oi_ f15,H.sel [0,1] rfl⟩
  exact trivial
  refine both ?_ ?_
  refine zA (α:=Int) gok rfl rfl rfl rfl H fun h31 w34 hx H=>hold trivial ?_
  obtain ⟨⟨a9_0_0_0,a9_0_0_1,a9_0_0_2,a9_0_0_3⟩,a9_1⟩:=a9
  refine have H:=H.sel [2,4,0,1,3] rfl;bB (ih d_b y9_0_0_0 d__0_1 d__0_1h d__0_2 d__0_2v d__0_3 d__0_3v a1 h0 a9_0_0_0 a9_0_0_1 a9_0_0_2 a9_0_0_3 a9_1 o4) (Γi:=[Bx d_b [(vi y9_0_0_0),(d__0_1h).v,d__0_2v,d__0_3v],E (List (Sh Ty0)) d__0_1 d__0_1h]) H [1] rfl (qA lA yA) ?_
  rintro _ _ w35 ⟨h32,rfl,rfl⟩ H
  refine hold trivial (cA (α:=Int) (us:=[(vi a9_1),(vi a10)]) (xs:=[a9_1,a10]) (gs:=[(),()]) gok rfl rfl rfl ⟨rfl,rfl,trivial⟩ rfl rfl ((H.sc (α:=Int) a10).sc (α:=Int) a9_1) fun h33 w36 hx H=>hold trivial ?_)
  obtain ⟨a11_0_0,a11_0_1,a11_0_2,a11_0_3⟩:=a11
  refine have H:=((H.frz).sel [3,0,1,2,4,5] rfl).frz;have H:=H.sel [2,3,0,1,4,5] rfl;bB (@fD d_b a9_0_0_0 a9_0_0_1 h32 d__0_2 d__0_2v d__0_3 d__0_3v 5 0 [a9_1,a10] h33 [y9_1] h31 a11_0_0 a11_0_1 a11_0_2 a11_0_3 o6) (Γi:=[Bx d_b [(vi a9_0_0_0),(h32).v,d__0_2v,d__0_3v],E (List (Sh Ty0)) a9_0_0_1 h32]) H [1,0] rfl (qA lA (qA lA yA)) ?_
  rintro _ _ w37 ⟨h34,rfl,rfl⟩ H
  exact hold trivial ⟨((a11_0_0,a11_0_1),h34),⟨rfl,trivial⟩,oi_ f15,H.sel [0,1] rfl⟩
  exact trivial
  refine both ?_ ?_
  refine zA (α:=Int) gok rfl rfl rfl rfl H fun h35 w38 hx H=>hold trivial (both ?_ ?_)
  obtain ⟨⟨a9_0_0_0,a9_0_0_1,a9_0_0_2,a9_0_0_3⟩,a9_1⟩:=a9
  refine have H:=H.sel [2,4,0,1,3] rfl;bB (ih d_b y9_0_0_0 d__0_1 d__0_1h d__0_2 d__0_2v d__0_3 d__0_3v a1 h0 a9_0_0_0 a9_0_0_1 a9_0_0_2 a9_0_0_3 a9_1 o4) (Γi:=[Bx d_b [(vi y9_0_0_0),(d__0_1h).v,d__0_2v,d__0_3v],E (List (Sh Ty0)) d__0_1 d__0_1h]) H [1] rfl (qA lA yA) ?_
  rintro _ _ w39 ⟨h36,rfl,rfl⟩ H
  refine hold trivial (aA ((H.rs (α:=List Int) 4 rfl).at1' c8 c9 o5) (hold trivial (cA (α:=Int) (us:=[(vi a9_1),(vi a10)]) (xs:=[a9_1,a10]) (gs:=[(),()]) gok rfl rfl rfl ⟨rfl,rfl,trivial⟩ rfl rfl ((H.sc (α:=Int) a10).sc (α:=Int) a9_1) fun h37 w40 hx H=>hold trivial ?_)))
  obtain ⟨a11_0_0,a11_0_1,a11_0_2,a11_0_3⟩:=a11
  refine have H:=((H.frz).sel [3,0,1,2,4,5] rfl).frz;have H:=H.sel [2,3,0,1,4,5] rfl;bB (@fD d_b a9_0_0_0 a9_0_0_1 h36 d__0_2 d__0_2v d__0_3 d__0_3v 5 0 [a9_1,a10] h37 [y9_1] h35 a11_0_0 a11_0_1 a11_0_2 a11_0_3 o6) (Γi:=[Bx d_b [(vi a9_0_0_0),(h36).v,d__0_2v,d__0_3v],E (List (Sh Ty0)) a9_0_0_1 h36]) H [1,0] rfl (qA lA (qA lA yA)) ?_
  rintro _ _ w41 ⟨h38,rfl,rfl⟩ H
  exact hold trivial ⟨((a11_0_0,a11_0_1),h38),⟨rfl,trivial⟩,oi_ f15,H.sel [0,1] rfl⟩
  refine both ?_ ?_
  refine aA ((H.rs (α:=List Int) 3 rfl).at1' c8 c9 o5) (hold trivial ?_)
  obtain ⟨⟨a9_0_0_0,a9_0_0_1,a9_0_0_2,a9_0_0_3⟩,a9_1⟩:=a9
  refine have H:=H.sel [2,4,0,1,3] rfl;bB (ih d_b y9_0_0_0 d__0_1 d__0_1h d__0_2 d__0_2v d__0_3 d__0_3v a1 h0 a9_0_0_0 a9_0_0_1 a9_0_0_2 a9_0_0_3 a9_1 o4) (Γi:=[Bx d_b [(vi y9_0_0_0),(d__0_1h).v,d__0_2v,d__0_3v],E (List (Sh Ty0)) d__0_1 d__0_1h]) H [1] rfl (qA lA yA) ?_
  rintro _ _ w42 ⟨h39,rfl,rfl⟩ H
  refine hold trivial (cA (α:=Int) (us:=[(vi a9_1),(vi a10)]) (xs:=[a9_1,a10]) (gs:=[(),()]) gok rfl rfl rfl ⟨rfl,rfl,trivial⟩ rfl rfl ((H.sc (α:=Int) a10).sc (α:=Int) a9_1) fun h40 w43 hx H=>hold trivial ?_)
  obtain ⟨a11_0_0,a11_0_1,a11_0_2,a11_0_3⟩:=a11
  refine have H:=((H.frz).sel [3,0,1,2,4,5] rfl).frz;have H:=H.sel [2,3,0,1,4,5] rfl;bB (@fD d_b a9_0_0_0 a9_0_0_1 h39 d__0_2 d__0_2v d__0_3 d__0_3v 5 0 [a9_1,a10] h40 [y9_1] h35 a11_0_0 a11_0_1 a11_0_2 a11_0_3 o6) (Γi:=[Bx d_b [(vi a9_0_0_0),(h39).v,d__0_2v,d__0_3v],E (List (Sh Ty0)) a9_0_0_1 h39]) H [1,0] rfl (qA lA (qA lA yA)) ?_
  rintro _ _ w44 ⟨h41,rfl,rfl⟩ H
  exact hold trivial ⟨((a11_0_0,a11_0_1),h41),⟨rfl,trivial⟩,oi_ f15,H.sel [0,1] rfl⟩
  exact trivial
  exact trivial
  refine both ?_ ?_
  refine bO f5 fun a13 o7 f16=>bO f16 fun a14 o8 f17=>bO f17 fun a15 o9 f18=>zA (α:=Int) gok rfl rfl rfl rfl H fun h42 w45 hx H=>hold trivial (both ?_ ?_)
  obtain ⟨⟨a13_0_0_0,a13_0_0_1,a13_0_0_2,a13_0_0_3⟩,a13_1⟩:=a13
  refine have H:=H.sel [2,4,0,1,3] rfl;bB (ih d_b y9_0_0_0 d__0_1 d__0_1h d__0_2 d__0_2v d__0_3 d__0_3v a1 h0 a13_0_0_0 a13_0_0_1 a13_0_0_2 a13_0_0_3 a13_1 o7) (Γi:=[Bx d_b [(vi y9_0_0_0),(d__0_1h).v,d__0_2v,d__0_3v],E (List (Sh Ty0)) d__0_1 d__0_1h]) H [1] rfl (qA lA yA) ?_
  rintro _ _ w46 ⟨h43,rfl,rfl⟩ H
  refine hold trivial (Zx ((H.rs (α:=List Int) 4 rfl).at1 o8) fun p3 m3 c12 c13 c14 c15=>fA c12 c13 c14 (hold trivial (aA ((H.rs (α:=List Int) 4 rfl).at1' c12 c13 o8) (hold trivial (cA (α:=Int) (us:=[(vi a13_1),(vi a14)]) (xs:=[a13_1,a14]) (gs:=[(),()]) gok rfl rfl rfl ⟨rfl,rfl,trivial⟩ rfl rfl ((H.sc (α:=Int) a14).sc (α:=Int) a13_1) fun h44 w47 hx H=>hold trivial ?_)))))
  obtain ⟨a15_0_0,a15_0_1,a15_0_2,a15_0_3⟩:=a15
  refine have H:=((H.frz).sel [3,0,1,2,4,5] rfl).frz;have H:=H.sel [2,3,0,1,4,5] rfl;bB (@fD d_b a13_0_0_0 a13_0_0_1 h43 d__0_2 d__0_2v d__0_3 d__0_3v 5 0 [a13_1,a14] h44 [y9_1] h42 a15_0_0 a15_0_1 a15_0_2 a15_0_3 o9) (Γi:=[Bx d_b [(vi a13_0_0_0),(h43).v,d__0_2v,d__0_3v],E (List (Sh Ty0)) a13_0_0_1 h43]) H [1,0] rfl (qA lA (qA lA yA)) ?_
  rintro _ _ w48 ⟨h45,rfl,rfl⟩ H
  exact hold trivial ⟨((a15_0_0,a15_0_1),h45),⟨rfl,trivial⟩,oi_ f18,H.sel [0,1] rfl⟩
  refine both ?_ ?_
  refine Zx ((H.rs (α:=List Int) 3 rfl).at1 o8) fun p4 m4 c16 c17 c18 c19=>fA c16 c17 c18 (hold trivial (both ?_ ?_))
  obtain ⟨⟨a13_0_0_0,a13_0_0_1,a13_0_0_2,a13_0_0_3⟩,a13_1⟩:=a13
  refine have H:=H.sel [2,4,0,1,3] rfl;bB (ih d_b y9_0_0_0 d__0_1 d__0_1h d__0_2 d__0_2v d__0_3 d__0_3v a1 h0 a13_0_0_0 a13_0_0_1 a13_0_0_2 a13_0_0_3 a13_1 o7) (Γi:=[Bx d_b [(vi y9_0_0_0),(d__0_1h).v,d__0_2v,d__0_3v],E (List (Sh Ty0)) d__0_1 d__0_1h]) H [1] rfl (qA lA yA) ?_
  rintro _ _ w49 ⟨h46,rfl,rfl⟩ H
  refine hold trivial (aA ((H.rs (α:=List Int) 4 rfl).at1' c16 c17 o8) (hold trivial (cA (α:=Int) (us:=[(vi a13_1),(vi a14)]) (xs:=[a13_1,a14]) (gs:=[(),()]) gok rfl rfl rfl ⟨rfl,rfl,trivial⟩ rfl rfl ((H.sc (α:=Int) a14).sc (α:=Int) a13_1) fun h47 w50 hx H=>hold trivial ?_)))
  obtain ⟨a15_0_0,a15_0_1,a15_0_2,a15_0_3⟩:=a15
  refine have H:=((H.frz).sel [3,0,1,2,4,5] rfl).frz;have H:=H.sel [2,3,0,1,4,5] rfl;bB (@fD d_b a13_0_0_0 a13_0_0_1 h46 d__0_2 d__0_2v d__0_3 d__0_3v 5 0 [a13_1,a14] h47 [y9_1] h42 a15_0_0 a15_0_1 a15_0_2 a15_0_3 o9) (Γi:=[Bx d_b [(vi a13_0_0_0),(h46).v,d__0_2v,d__0_3v],E (List (Sh Ty0)) a13_0_0_1 h46]) H [1,0] rfl (qA lA (qA lA yA)) ?_
  rintro _ _ w51 ⟨h48,rfl,rfl⟩ H
  exact hold trivial ⟨((a15_0_0,a15_0_1),h48),⟨rfl,trivial⟩,oi_ f18,H.sel [0,1] rfl⟩
  refine both ?_ ?_
  refine aA ((H.rs (α:=List Int) 3 rfl).at1' c16 c17 o8) (hold trivial ?_)
  obtain ⟨⟨a13_0_0_0,a13_0_0_1,a13_0_0_2,a13_0_0_3⟩,a13_1⟩:=a13
  refine have H:=H.sel [2,4,0,1,3] rfl;bB (ih d_b y9_0_0_0 d__0_1 d__0_1h d__0_2 d__0_2v d__0_3 d__0_3v a1 h0 a13_0_0_0 a13_0_0_1 a13_0_0_2 a13_0_0_3 a13_1 o7) (Γi:=[Bx d_b [(vi y9_0_0_0),(d__0_1h).v,d__0_2v,d__0_3v],E (List (Sh Ty0)) d__0_1 d__0_1h]) H [1] rfl (qA lA yA) ?_
  rintro _ _ w52 ⟨h49,rfl,rfl⟩ H
  refine hold trivial (cA (α:=Int) (us:=[(vi a13_1),(vi a14)]) (xs:=[a13_1,a14]) (gs:=[(),()]) gok rfl rfl rfl ⟨rfl,rfl,trivial⟩ rfl rfl ((H.sc (α:=Int) a14).sc (α:=Int) a13_1) fun h50 w53 hx H=>hold trivial ?_)
  obtain ⟨a15_0_0,a15_0_1,a15_0_2,a15_0_3⟩:=a15
  refine have H:=((H.frz).sel [3,0,1,2,4,5] rfl).frz;have H:=H.sel [2,3,0,1,4,5] rfl;bB (@fD d_b a13_0_0_0 a13_0_0_1 h49 d__0_2 d__0_2v d__0_3 d__0_3v 5 0 [a13_1,a14] h50 [y9_1] h42 a15_0_0 a15_0_1 a15_0_2 a15_0_3 o9) (Γi:=[Bx d_b [(vi a13_0_0_0),(h49).v,d__0_2v,d__0_3v],E (List (Sh Ty0)) a13_0_0_1 h49]) H [1,0] rfl (qA lA (qA lA yA)) ?_
  rintro _ _ w54 ⟨h51,rfl,rfl⟩ H
  exact hold trivial ⟨((a15_0_0,a15_0_1),h51),⟨rfl,trivial⟩,oi_ f18,H.sel [0,1] rfl⟩
  exact trivial
  exact trivial
  exact trivial
  rintro T0 ⟨⟨s0_0,s0_1⟩,g0⟩ w55 ⟨hr,H⟩;(try dsimp only at H)
  subst hr
  cases f4
  exact ⟨_,_,rfl,⟨g0,rfl,rfl⟩,(H.sel [0,1] rfl)⟩
  refine zA (α:=Int) gok rfl rfl rfl rfl H fun h52 w56 hx H=>have H:=H.nil (α:=Int);bO f19 fun ⟨y3_0_0,y3_0_1,y3_0_2,y3_0_3⟩ i9 f20=>have H:=((H.frz).sel [1,0,2,3,4] rfl).frz;have H:=H.sel [2,4,0,1,3] rfl;bB (@fD d_b y9_0_0_0 d__0_1 d__0_1h d__0_2 d__0_2v d__0_3 d__0_3v 6 0 [] nilH [y9_1] h52 y3_0_0 y3_0_1 y3_0_2 y3_0_3 i9) (Γi:=[Bx d_b [(vi y9_0_0_0),(d__0_1h).v,d__0_2v,d__0_3v],E (List (Sh Ty0)) d__0_1 d__0_1h]) H [1,0] rfl (qA lA (qA lA yA)) ?_
  rintro _ _ w57 ⟨h53,rfl,rfl⟩ H
  cases f20
  exact ⟨_,_,rfl,⟨h53,rfl,rfl⟩,(H.sel [0,1] rfl)⟩
  refine Zi f21 (H.rs (α:=List Int) 0 rfl) fun a16 p5 m5 c23 f22=>aA c23 ?_
  cases f22
  exact ⟨_,_,rfl,⟨d__0_1h,rfl,rfl⟩,(H.sel [1,2] rfl)⟩
theorem DJ_ {d_b:Nat}{d__0_0:Int}{d__0_1:List Ty0}{d__0_1h:Hd}{d__0_2:List Int}{d__0_2v:Value}{d__0_3:List Int}{d__0_3v:Value}{list_:List Int}{list_h:Hd}{y0_0_0:Int}{y0_0_1:List Ty0}{y0_0_2 y0_0_3:List Int}{y1:Int} (hF:bV (d__0_0,d__0_1,d__0_2,d__0_3) list_=some ((y0_0_0,y0_0_1,y0_0_2,y0_0_3),y1)) :
  tD Tryz.prog 70 #[(vp d_b),(list_h).v] [Es (List Int) list_ list_h] [Bx d_b [(vi d__0_0),(d__0_1h).v,d__0_2v,d__0_3v],E (List (Sh Ty0)) d__0_1 d__0_1h] (fun v Γ'=>∃ z0:Hd,v=(vi y1)∧Γ'=[Bx d_b [(vi y0_0_0),(z0).v,d__0_2v,d__0_3v],E (List (Sh Ty0)) y0_0_1 z0]):=Dz_ _ d_b d__0_0 d__0_1 d__0_1h d__0_2 d__0_2v d__0_3 d__0_3v list_ list_h y0_0_0 y0_0_1 y0_0_2 y0_0_3 y1 hF
theorem Dm_ {d_b:Nat}{d__0_0:Int}{d__0_1:List Ty0}{d__0_1h:Hd}{d__0_2:List Int}{d__0_2v:Value}{d__0_3:List Int}{d__0_3v:Value}{ins_:List Int}{ins_h:Hd}{rows_:List (List Int)}{rows_h:Hd}{cols_ y0_0_0:Int}{y0_0_1:List Ty0}{y0_0_2 y0_0_3 y1:List Int} (hF:iU (d__0_0,d__0_1,d__0_2,d__0_3) ins_ rows_ cols_=some ((y0_0_0,y0_0_1,y0_0_2,y0_0_3),y1)) :
  tD Tryz.prog 42 #[(vp d_b),(ins_h).v,(rows_h).v,(vi cols_)] [Es (List Int) ins_ ins_h,Es (List (List Int)) rows_ rows_h] [Bx d_b [(vi d__0_0),(d__0_1h).v,d__0_2v,d__0_3v],E (List (Sh Ty0)) d__0_1 d__0_1h] (fun v Γ'=>∃ z0 z1:Hd,v=(z1).v∧Γ'=[Bx d_b [(vi y0_0_0),(z0).v,d__0_2v,d__0_3v],E (List (Sh Ty0)) y0_0_1 z0,Es (List Int) y1 z1]):=by
 refine Zs (args:=[_,_,_,_]) gok Tryz.func42 rfl _ rfl rfl rfl fun w0 S0 fp0 H=>bO hF fun a5 e hF6=>jD (α:=List Int) gok rfl rfl rfl rfl (uD e) H fun h8 w7 hx H=>sq (eA (H.rs (α:=List (List Int)) 2 rfl).len (have x0:=(H.rs (α:=List (List Int)) 2 rfl).max;bO hF6 fun r0 e f0=>wA _ rows_.length (fun (k0:Nat) (s0:Int×(List Ty0)×List (List Int)) (g0:Hd)=>[(0,(vp d_b)),(1,(ins_h).v),(9,(h8).v),(25,(rows_h).v),(26,(vi ((rows_.length:Nat):Int))),(27,(vi ((k0:Nat):Int)))]) (fun _ (s0:Int×(List Ty0)×List (List Int)) (g0:Hd) w'=>Cx w0 fp0 S0 w' [Bx d_b [(vi s0.1),(g0).v,d__0_2v,d__0_3v],E (List (Sh Ty0)) s0.2.1 g0,Es (List Int) ins_ ins_h,E (List (List Int)) s0.2.2 h8,Es (List (List Int)) rows_ rows_h]) (d__0_0,d__0_1,a5) d__0_1h e r6_ (H.sel [3,4,1,0,2] rfl) ?_ ?_));rintro T0 k0 ⟨s0_0,s0_1,s0_2⟩ g0 w1 o0 hk H f1;(try dsimp only at H);refine bA (z:=true) (sA hk) (sq (sq ?_));refine bO f1 fun a0 e f2=>Zz (H.elL 4 rfl e) fun p0 m0 h0 c0 c1 c2 c3 H=>fA c0 c1 c2 (aA c3 (uG (α:=Int) gok rfl rfl H fun h1 w2 hx H=>sq (eA (H.rs (α:=List Int) 1 rfl).len (have x1:=(H.rs (α:=List Int) 1 rfl).max;bO f2 fun r1 e f3=>wA _ a0.length (fun (k1:Nat) (s1:List Int) (g1:Hd)=>[(0,(vp d_b)),(1,(ins_h).v),(9,(h8).v),(10,(vi ((k0:Nat):Int))),(11,(h0).v),(12,(g1).v),(25,(rows_h).v),(26,(vi ((rows_.length:Nat):Int))),(27,(vi ((k0:Nat):Int))),(33,(h0).v),(34,(vi ((a0.length:Nat):Int))),(35,(vi ((k1:Nat):Int)))]) (fun _ (s1:List Int) (g1:Hd) w'=>Cx w0 fp0 S0 w' [Bx d_b [(vi s0_0),(g0).v,d__0_2v,d__0_3v],E (List (Sh Ty0)) s0_1 g0,Es (List Int) ins_ ins_h,E (List (List Int)) s0_2 h8,Es (List Int) a0 h0,E (List Int) s1 g1,Es (List (List Int)) rows_ rows_h]) ([]:List Int) h1 e r12_ (H.sel [2,3,4,5,1,0,6] rfl) ?_ ?_))));rintro T1 k1 s1 g1 w3 o1 hk H f4;refine bA (z:=true) (sA hk) (sq (sq ?_));refine Zi f4 (H.rs (α:=List Int) 4 rfl) fun a1 p1 m1 c7 f5=>aA c7 (boolB_ f5 (fun f7=>?_) fun f8=>?_);refine arK hk x1 ?_;obtain rfl:=oi_ f7;exact ⟨g1,r12_,H.sel [0,1,2,3,4,5,6] rfl⟩;refine zA (α:=Int) gok rfl rfl rfl rfl H fun h2 w4 hx H=>bO f8 fun a3 e f9=>append_ (α:=Int) gok rfl rfl rfl rfl (H.sel [6,0,1,2,3,4,5,7] rfl) e fun h3 w5 H=>arK hk x1 ?_;obtain rfl:=oi_ f9;exact ⟨h3,r12_,H.sel [1,2,3,4,5,0,6] rfl⟩;rintro T2 g2 w6 H;refine bA (z:=false) tA (sq (Zi f3 (H.rs (α:=List Int) 2 rfl) fun a4 p2 m2 c11 f10=>aA c11 (eA (H.ro (α:=List Int) 5 rfl).len (bO f10 fun y0 e f11=>?_))));obtain ⟨⟨y0_0_0_0,y0_0_0_1,y0_0_0_2,y0_0_0_3⟩,y0_1⟩:=y0
 refine have i0:=e;bB (@Do_ d_b s0_0 s0_1 g0 d__0_2 d__0_2v d__0_3 d__0_3v a4 ((r1.length:Nat):Int) y0_0_0_0 y0_0_0_1 y0_0_0_2 y0_0_0_3 y0_1 i0) (Γi:=[Bx d_b [(vi s0_0),(g0).v,d__0_2v,d__0_3v],E (List (Sh Ty0)) s0_1 g0]) H [] rfl yA ?_;rintro _ _ w8 ⟨h4,h5,rfl,rfl⟩ H;refine eA (H.rs (α:=List Int) 2 rfl).len (have x2:=(H.rs (α:=List Int) 2 rfl).max;bO f11 fun r2 e f12=>wA _ y0_1.length (fun (k2:Nat) (s2:Int×(List Ty0)×List (List Int)) (g3:Hd)=>[(0,(vp d_b)),(1,(ins_h).v),(9,(h8).v),(11,(h0).v),(12,(g2).v),(25,(rows_h).v),(26,(vi ((rows_.length:Nat):Int))),(27,(vi ((k0:Nat):Int))),(54,(h5).v),(55,(vi ((y0_1.length:Nat):Int))),(56,(vi ((k2:Nat):Int)))]) (fun _ (s2:Int×(List Ty0)×List (List Int)) (g3:Hd) w'=>Cx w0 fp0 S0 w' [Bx d_b [(vi s2.1),(g3).v,d__0_2v,d__0_3v],E (List (Sh Ty0)) s2.2.1 g3,Es (List Int) ins_ ins_h,E (List (List Int)) s2.2.2 h8,Es (List Int) a0 h0,E (List Int) r1 g2,Es (List (List Int)) rows_ rows_h,Es (List Int) y0_1 h5]) (y0_0_0_0,y0_0_0_1,s0_2) h4 e r11_ (H.sel [0,1,3,4,5,6,7,2] rfl) ?_ ?_);rintro T3 k2 ⟨s2_0,s2_1,s2_2⟩ g3 w9 o2 hk H f13;(try dsimp only at H);refine bA (z:=true) (sA hk) (sq (sq ?_));refine Zi f13 (H.rs (α:=List Int) 7 rfl) fun a6 p3 m3 c15 f14=>aA c15 (Zi f14 (H.ro (α:=List Int) 5 rfl) fun a7 p4 m4 c19 f15=>aA c19 (bO f15 fun r3 f16 f17=>cut (fun (q0:(Int×(List Ty0)×Int)×Hd)=>[(0,(vp d_b)),(1,(ins_h).v),(9,(h8).v),(11,(h0).v),(12,(g2).v),(16,(vi q0.1.2.2)),(17,(vi a7)),(25,(rows_h).v),(26,(vi ((rows_.length:Nat):Int))),(27,(vi ((k0:Nat):Int))),(54,(h5).v),(55,(vi ((y0_1.length:Nat):Int))),(56,(vi ((k2:Nat):Int)))]) (fun (q0:(Int×(List Ty0)×Int)×Hd) w'=>(q0.1.1,q0.1.2.1,q0.1.2.2)=r3∧Cx w0 fp0 S0 w' [Bx d_b [(vi q0.1.1),(q0.2).v,d__0_2v,d__0_3v],E (List (Sh Ty0)) q0.1.2.1 q0.2,Es (List Int) ins_ ins_h,E (List (List Int)) s2_2 h8,Es (List Int) a0 h0,E (List Int) r1 g2,Es (List (List Int)) rows_ rows_h,Es (List Int) y0_1 h5]) ?_ ?_));refine Zi f16 (H.rs (α:=List Int) 4 rfl) fun a8 p5 m5 c23 f18=>aA c23 (boolB_ f18 (fun f20=>?_) fun f21=>?_);exact ⟨((s2_0,s2_1,a6),g3),r13_,oi_ f20,H.sel [0,1,2,3,4,5,6,7] rfl⟩;obtain ⟨y2,e,f22⟩:=iB f21;obtain ⟨⟨y2_0_0_0,y2_0_0_1,y2_0_0_2,y2_0_0_3⟩,y2_1⟩:=y2;refine have i1:=e;uB (@vM d_b s2_0 s2_1 ((g3).v) d__0_2 d__0_2v d__0_3 d__0_3v y2_0_0_0 y2_0_0_1 y2_0_0_2 y2_0_0_3 y2_1 i1) (Γi:=[Bx d_b [(vi s2_0),(g3).v,d__0_2v,d__0_3v]]) H trivial ?_;rintro _ _ w10 ⟨rfl,rfl⟩ H
 refine zA (α:=Int) gok rfl rfl rfl rfl H fun h6 w11 hx H=>zA (α:=Int) gok rfl rfl rfl rfl H fun h7 w12 hx H=>bO f22 fun ⟨y3_0_0,y3_0_1,y3_0_2,y3_0_3⟩ i2 f23=>have H:=((H.sel [1,0,2,3,4,5,6,7,8,9] rfl).frz).sel [1,0,2,3,4,5,6,7,8,9] rfl;have H:=(H.frz).sel [2,3,0,1,4,5,6,7,8,9] rfl;bB (@fD d_b y2_0_0_0 s2_1 g3 d__0_2 d__0_2v d__0_3 d__0_3v 7 a8 [a6] h6 [y2_1] h7 y3_0_0 y3_0_1 y3_0_2 y3_0_3 i2) (Γi:=[Bx d_b [(vi y2_0_0_0),(g3).v,d__0_2v,d__0_3v],E (List (Sh Ty0)) s2_1 g3]) H [1,0] rfl (qA lA (qA lA yA)) ?_;rintro _ _ w13 ⟨h9,rfl,rfl⟩ H;exact ⟨((y3_0_0,y3_0_1,y2_1),h9),r13_,oi_ f23,H.sel [0,1,4,5,6,7,8,9] rfl⟩;rintro T4 ⟨⟨s3_0,s3_1,s3_2⟩,g4⟩ w14 ⟨hr,H⟩;(try dsimp only at H);subst hr;refine bO f17 fun a10 e f24=>have H:=(H.sel [3,0,1,2,4,5,6,7] rfl).toEH (α:=List Int);Zz (H.peekL e) fun p6 m6 h10 c24 c25 c26 c27 H=>fA c24 c25 c26 (aA c27 (zA (α:=Int) gok rfl rfl rfl rfl H fun h11 w15 hx H=>have H:=(H.sel [1,0,2,3,4,5,6,7,8] rfl).takeK 0 rfl;bO f24 fun a11 e f25=>append_ (α:=Int) gok rfl rfl rfl rfl (H.sel [0,2,1,3,4,5,6,7,8,9] rfl) e fun h12 w16 H=>fA c24 c25 c26 (stX0 (H.sel [1,0,2,3,4,5,6,7,8] rfl) c24 rfl rfl fun w17 H=>bO f25 fun a12 e f26=>have H:=(H.sel [1,0,2,3,4,5,6,7,8] rfl).put c25 e;arK hk x2 ?_)));obtain rfl:=oi_ f26;exact ⟨g4,r11_,H.sel [1,2,3,0,4,5,6,7] rfl⟩;obtain ⟨s4_0,s4_1,s4_2⟩:=r2;rintro T5 g5 w18 H;refine bA (z:=false) tA (sq (arK hk x0 ?_));obtain rfl:=oi_ f12;exact ⟨g5,r6_,H.sel [0,1,2,3,6] rfl⟩;obtain ⟨s5_0,s5_1,s5_2⟩:=r0;rintro T6 g6 w19 H;refine bA (z:=false) tA (sq (uG (α:=Int) gok rfl rfl H fun h13 w20 hx H=>sq (eA (H.ro (α:=List (List Int)) 4 rfl).len (have H:=(H.sel [4,0,1,2,3,5] rfl).frz;have x3:=(H.rs (α:=List (List Int)) 0 rfl).max;bO f0 fun r4 e f27=>wA _ s5_2.length (fun (k3:Nat) (s6:Int×(List Ty0)×List Int) (g7:Hd×Hd)=>[(0,(vp d_b)),(20,(g7.2).v),(94,(h8).v),(95,(vi ((s5_2.length:Nat):Int))),(96,(vi ((k3:Nat):Int)))]) (fun _ (s6:Int×(List Ty0)×List Int) (g7:Hd×Hd) w'=>Cx w0 fp0 S0 w' [Bx d_b [(vi s6.1),(g7.1).v,d__0_2v,d__0_3v],E (List (Sh Ty0)) s6.2.1 g7.1,E (List Int) s6.2.2 g7.2,Es (List (List Int)) s5_2 h8]) (s5_0,s5_1,([]:List Int)) (g6,h13) e r5_ (H.sel [2,3,1,0] rfl) ?_ ?_))));rintro T7 k3 ⟨s6_0,s6_1,s6_2⟩ ⟨g7_0,g7_1⟩ w21 o3 hk H f28;(try dsimp only at H);refine bA (z:=true) (sA hk) (sq (sq ?_));refine bO f28 fun a13 e f29=>Zz (H.elL 3 rfl e) fun p7 m7 h14 c28 c29 c30 c31 H=>fA c28 c29 c30 (aA c31 (bO f29 fun y4 e f30=>?_));obtain ⟨⟨y4_0_0_0,y4_0_0_1,y4_0_0_2,y4_0_0_3⟩,y4_1⟩:=y4
 refine have i3:=e;have H:=H.sel [1,2,0,3,4] rfl;bB (DJ_ i3) (Γi:=[Bx d_b [(vi s6_0),(g7_0).v,d__0_2v,d__0_3v],E (List (Sh Ty0)) s6_1 g7_0]) H [0] rfl (qA lA yA) ?_;rintro _ _ w22 ⟨h15,rfl,rfl⟩ H;refine zA (α:=Int) gok rfl rfl rfl rfl H fun h16 w23 hx H=>bO f30 fun a14 e f31=>append_ (α:=Int) gok rfl rfl rfl rfl (H.sel [4,0,1,2,3,5] rfl) e fun h17 w24 H=>arK hk x3 ?_;obtain rfl:=oi_ f31;exact ⟨(h15,h17),r5_,H.sel [1,2,0,4] rfl⟩;obtain ⟨s7_0,s7_1,s7_2⟩:=r4;rintro T8 ⟨g8_0,g8_1⟩ w25 H;(try dsimp only at H);refine bA (z:=false) tA (sq ?_);replace H:=(H.sel [2,0,1,3] rfl).frz;cases f27;exact ⟨_,_,rfl,⟨g8_0,g8_1,rfl,rfl⟩,(H.sel [1,2,0] rfl)⟩
theorem Dw_ {list_:List Int}{list_h:Hd}{n_:Int}{y:Bool} (hF:qU list_ n_=some y) :
  dA Tryz.prog 110 #[(list_h).v,(vi n_)] [Es (List Int) list_ list_h] [] (fun v Γ'=>v=(.bool y)∧Γ'=[]):=by
 refine Ze (args:=[_,_]) gok Tryz.func110 rfl _ rfl rfl rfl fun w0 S0 fp0 H=>sq (eA (H.rs (α:=List Int) 0 rfl).len (boolB_ hF (fun hF4=>?_) fun f15=>?_));refine bO hF4 fun a5 e hF6=>jD (α:=Bool) gok rfl rfl rfl rfl (uD e) H fun h8 w7 hx H=>sq (eA (H.rs (α:=List Int) 1 rfl).len (have x0:=(H.rs (α:=List Int) 1 rfl).max;bO hF6 fun r0 e f0=>mF _ list_.length (fun (k0:Nat) (s0:List Bool) (_:Unit)=>[(1,(vi n_)),(5,(h8).v),(14,(list_h).v),(15,(vi ((list_.length:Nat):Int))),(16,(vi ((k0:Nat):Int)))]) (fun _ (s0:List Bool) (_:Unit) w'=>Cx w0 fp0 S0 w' [E (List Bool) s0 h8,Es (List Int) list_ list_h]) a5 () e r5_ (H.sel [0,1] rfl) ?_ ?_));rintro T0 k0 s0 _ w1 o0 hk H hrt f1;refine bA (z:=true) (sA hk) (sq (sq ?_));refine Zi f1 (H.rs (α:=List Int) 1 rfl) fun a0 p0 m0 c3 f2=>aA c3 (sq (bO f2 fun r1 f3 f4=>cut (fun (q0:Bool)=>[(1,(vi n_)),(5,(h8).v),(7,(vi a0)),(14,(list_h).v),(15,(vi ((list_.length:Nat):Int))),(16,(vi ((k0:Nat):Int))),(30,(.bool q0))]) (fun (q0:Bool) w'=>q0=r1∧Cx w0 fp0 S0 w' [E (List Bool) s0 h8,Es (List Int) list_ list_h]) ?_ ?_));refine bO f3 fun a1 e f5=>arO e (vA f5 rJ H trivial fun y0 f6 w2 H=>boolB_ f6 (fun f8=>?_) fun f10=>?_);exact bO f8 fun a4 e f9=>Zx ((H.ro (α:=List Bool) 0 rfl).at1 e) fun p1 m1 c4 c5 c6 c7=>fA c4 c5 c6 (aA c7 ⟨a4,r7_,oi_ f9,H.sel [0,1] rfl⟩);exact ⟨true,r7_,oi_ f10,H.sel [0,1] rfl⟩;rintro T1 s1 w3 ⟨hr,H⟩;(try dsimp only at H);subst hr;cases s1;refine have f11:=sB f4;bO f11 fun a6 i1 f12=>Zy ((H.ro (α:=List Bool) 0 rfl).setp i1) fun p2 m2 c8 c9 c10=>fA c8 c9 c10 (jC (α:=Bool) H c8 c9 i1 fun w4 H=>arK hk x0 ?_);obtain rfl:=oi_ f12;exact ⟨a6,(),rfl,r5_,H.sel [0,1] rfl⟩;have f13:=rB f4;obtain rfl:=oi_ f13;have hr:=hrt _ rfl;subst hr;have f14:some _=some _:=f0;cases f14;exact ⟨_,_,rfl,⟨rfl,rfl⟩,(H.sel [] rfl).close trivial⟩;rintro T2 s2 _ w5 hr H;subst hr;refine bA (z:=false) tA (sq ?_);cases f0;exact ⟨_,_,rfl,⟨rfl,rfl⟩,(H.sel [] rfl).close trivial⟩;cases f15;exact ⟨_,_,rfl,⟨rfl,rfl⟩,(H.sel [] rfl).close trivial⟩
theorem tZ {n_:Int}{lists_:List (List Int)}{lists_h:Hd}{y:Bool} (hF:jV n_ lists_=some y) :
  dA Tryz.prog 92 #[(vi n_),(lists_h).v] [Es (List (List Int)) lists_ lists_h] [] (fun v Γ'=>v=(.bool y)∧Γ'=[]):=by
 refine Ze (args:=[_,_]) gok Tryz.func92 rfl _ rfl rfl rfl fun w0 S0 fp0 H=>qC hF rH H ⟨Vw.sh 0 rfl,trivial⟩ fun y2 hF3 h5 w4 H=>vA hF3 Dw_ H ⟨Vw.own 0 rfl,trivial⟩ fun y7 hF8 w9 H=>?_;cases hF8;exact ⟨_,_,rfl,⟨rfl,rfl⟩,(H.sel [] rfl).close trivial⟩
theorem Da_ {g__0:Int}{g__1:List Ty0}{g__1h:Hd}{g__2:List Int}{g__2h:Hd}{g__3:List Int}{g__3h:Hd}{y:Bool} (hF:cU (g__0,g__1,g__2,g__3)=some y) :
  dA Tryz.prog 71 #[(.agg #[(vi g__0),(g__1h).v,(g__2h).v,(g__3h).v])] [Es (List Ty0) g__1 g__1h,Es (List Int) g__2 g__2h,Es (List Int) g__3 g__3h] [] (fun v Γ'=>v=(.bool y)∧Γ'=[]):=by
 refine Ze (args:=[_]) gok Tryz.func71 rfl _ rfl rfl rfl fun w0 S0 fp0 H=>cB H fun b5 w4 hx H=>sq (Zn (H.bz_ 0 rfl) rfl (vA hF mZ H ⟨Vw.sh 1 rfl,Vw.sh 2 rfl,Vw.sh 3 rfl,trivial⟩ fun y7 hF8 w9 H=>boolB_ hF8 (fun f1=>?_) fun f15=>?_));obtain ⟨r0,f2,f3⟩:=iB f1
 refine aG H [] (.fst 0 (.fst 3 (.fst 1 (.fst 4 (.alts (.alt 2 (.fst 6 (.act 5 (.fst 7 .done))) (.alt 5 (.act 2 (.fst 6 (.fst 7 .done))) .no))))))) fB [] trivial (by kernel_rfl) (fun (q0:(List (List Int)×List (List Int))×(Hd×Hd))=>[(1,(vp b5)),(3,(q0.2.1).v),(4,(q0.2.2).v)]) (fun (q0:(List (List Int)×List (List Int))×(Hd×Hd)) w'=>(q0.1.1,q0.1.2)=r0∧Cx w0 fp0 S0 w' [Bx b5 [(vi g__0),(g__1h).v,(g__2h).v,(g__3h).v],Es (List Ty0) g__1 g__1h,Es (List Int) g__2 g__2h,Es (List Int) g__3 g__3h,E (List (Sh (List Int))) q0.1.1 q0.2.1,E (List (Sh (List Int))) q0.1.2 q0.2.2]) ?_ ?_
 intro w1 H;have hX:Ext w1 w1:=Upd.refl _ _;refine nA (fun _=>fld gok rfl rfl rfl rfl ⟨rfl,rfl⟩) (nA (fun _=>fld gok rfl rfl rfl rfl ⟨rfl,rfl⟩) (gA (H.bx 0 rfl (j:=2) rfl) (gA (H.bx 0 rfl (j:=3) rfl) (both ?_ ?_))))
 refine sC (α:=Sh (List Int)) gok rfl rfl rfl rfl (by rfl) (H.dup 2 rfl lA) ?_;intro h0 w2 hx H
 refine hold_ hX hx fun hX=>?_
 refine sC (α:=Sh (List Int)) gok rfl rfl rfl rfl (by rfl) (H.dup 4 rfl lA) ?_;intro h1 w3 hx H
 exact hold_ hX hx fun hX=>⟨(([g__2],[g__3]),(h0,h1)),r3_,oi_ f2,H.sel [2,3,4,5,1,0] rfl⟩;refine both ?_ ?_
 refine sC (α:=Sh (List Int)) gok rfl rfl rfl rfl (by rfl) (H.dup 3 rfl lA) ?_;intro h2 w5 hx H
 refine hold_ hX hx fun hX=>?_
 refine sC (α:=Sh (List Int)) gok rfl rfl rfl rfl (by rfl) (H.dup 3 rfl lA) ?_;intro h3 w6 hx H
 exact hold_ hX hx fun hX=>⟨(([g__2],[g__3]),(h3,h2)),r3_,oi_ f2,H.sel [2,3,4,5,0,1] rfl⟩;exact trivial;rintro T0 ⟨⟨s0_0,s0_1⟩,⟨g0_0,g0_1⟩⟩ w7 ⟨hr,H⟩;(try dsimp only at H);subst hr;refine sq (fld gok rfl rfl rfl rfl (aA (H.bx 0 rfl (j:=1) rfl) (eA (H.rs (α:=List Ty0) 1 rfl).len (have x0:=(H.rs (α:=List Ty0) 1 rfl).max;bO f3 fun r1 e f4=>wA _ g__1.length (fun (k0:Nat) (s1:List (List Int)×List (List Int)) (g1:Hd×Hd)=>[(1,(vp b5)),(3,(g1.1).v),(4,(g1.2).v),(17,(g__1h).v),(18,(vi ((g__1.length:Nat):Int))),(19,(vi ((k0:Nat):Int)))]) (fun _ (s1:List (List Int)×List (List Int)) (g1:Hd×Hd) w'=>Cx w0 fp0 S0 w' [Bx b5 [(vi g__0),(g__1h).v,(g__2h).v,(g__3h).v],Es (List Ty0) g__1 g__1h,Es (List Int) g__2 g__2h,Es (List Int) g__3 g__3h,E (List (Sh (List Int))) s1.1 g1.1,E (List (Sh (List Int))) s1.2 g1.2]) (s0_0,s0_1) (g0_0,g0_1) e r6_ (H.sel [0,1,2,3,4,5] rfl) ?_ ?_))));rintro T1 k0 ⟨s1_0,s1_1⟩ ⟨g1_0,g1_1⟩ w8 o0 hk H f5;(try dsimp only at H);refine bA (z:=true) (sA hk) (sq (sq ?_));refine bO f5 fun a1 e f6=>Zz (H.el (α:=Ty0) 1 rfl e) fun p0 m0 g2 c0 c1 c2 c3 H=>?_;obtain ⟨a1_0,a1_1,a1_2,a1_3⟩:=a1;obtain ⟨_,_,h4,h5⟩:=g2;refine have H:=((H.part (β:=List Int) a1_2 (h4:Hd) 0 rfl (fun S h=>(And.left (And.right (And.right h))))).part (β:=List Int) a1_3 (h5:Hd) 1 rfl (fun S h=>(And.right (And.right (And.right h))))).sel [0,1,3,4,5,6,7,8] rfl;fA c0 c1 c2 (iC [(vi a1_0),(vi a1_1),(h4).v,(h5).v] rfl c3 (dB gok rfl H fun b0 w10 hx H=>stA gok _ rfl H rfl rfl rfl fun w11 H=>fld gok rfl rfl rfl rfl (aA (H.bx 0 rfl (j:=3) rfl) ?_)))
 refine sC (α:=Sh (List Int)) gok rfl rfl rfl rfl (by rfl) (H.dup 1 rfl lA) ?_;intro h6 w12 hx H
 refine bO f6 fun a2 e f7=>append_ (α:=Sh (List Int)) gok rfl rfl rfl rfl (H.sel [8,0,1,2,3,4,5,6,7,9] rfl) e fun h7 w13 H=>fld gok rfl rfl rfl rfl (aA (H.bx 1 rfl (j:=2) rfl) ?_)
 refine sC (α:=Sh (List Int)) gok rfl rfl rfl rfl (by rfl) (H.dup 3 rfl lA) ?_;intro h8 w14 hx H
 refine bO f7 fun a3 e f8=>append_ (α:=Sh (List Int)) gok rfl rfl rfl rfl (H.sel [9,0,1,2,3,4,5,6,7,8] rfl) e fun h9 w15 H=>arK hk x0 ?_;obtain rfl:=oi_ f8;exact ⟨(h7,h9),r6_,H.sel [5,6,7,8,1,0] rfl⟩;obtain ⟨s2_0,s2_1⟩:=r1;rintro T2 ⟨g3_0,g3_1⟩ w16 H;(try dsimp only at H);refine bA (z:=false) tA (sq (bO f4 fun r2 f9 f10=>cut (fun (q1:Bool)=>[(2,(.bool q1))]) (fun (q1:Bool) w'=>q1=r2∧Cx w0 fp0 S0 w' []) ?_ ?_));refine fld gok rfl rfl rfl rfl (aA (H.bx 0 rfl (j:=0) rfl) (vA f9 tZ H ⟨Vw.part (β:=List (List Int)) (Vw.own (α:=List (Sh (List Int))) 4 rfl) s2_0 g3_0 (fun S h=>h),trivial⟩ fun y0 f11 w17 H=>?_));cases y0;have f12:=sB f11;exact ⟨false,⟨rfl,trivial⟩,oi_ f12,H.sel [] rfl⟩;have f13:=rB f11;exact fld gok rfl rfl rfl rfl (aA (H.bx 0 rfl (j:=0) rfl) (vA f13 tZ H ⟨Vw.part (β:=List (List Int)) (Vw.own (α:=List (Sh (List Int))) 5 rfl) s2_1 g3_1 (fun S h=>h),trivial⟩ fun y1 f14 w18 H=>⟨y1,⟨rfl,trivial⟩,oi_ f14,H.sel [] rfl⟩));rintro T3 s3 w19 ⟨hr,H⟩;(try dsimp only at H);subst hr;cases f10;exact ⟨_,_,rfl,⟨rfl,rfl⟩,(H.sel [] rfl).close trivial⟩;cases f15;exact ⟨_,_,rfl,⟨rfl,rfl⟩,(H.sel [] rfl).close trivial⟩
theorem mD {a_ n_:Int}{y:List Int} (hF:cL a_ n_=some y) :
  dA Tryz.prog 113 #[(vi a_),(vi n_)] [] [] (fun v Γ'=>∃ z0:Hd,v=(z0).v∧Γ'=[E (List Int) y z0]):=by
 refine Ze (args:=[_,_]) gok Tryz.func113 rfl _ rfl rfl rfl fun w0 S0 fp0 H=>qC hF gL H trivial fun y1 hF2 h4 w3 H=>sq (eA (H.ro (α:=List Int) 0 rfl).len (have x0:=(H.ro (α:=List Int) 0 rfl).max;bO hF2 fun r0 e f0=>wA _ y1.length (fun (k6:Nat) (s0:List Int) (_:Unit)=>[(0,(vi a_)),(5,(h4).v),(10,(vi ((y1.length:Nat):Int))),(11,(vi ((k6:Nat):Int)))]) (fun _ (s0:List Int) (_:Unit) w'=>Cx w0 fp0 S0 w' [E (List Int) s0 h4]) y1 () e r4_ (H.sel [0] rfl) ?_ ?_));rintro T0 k6 s0 _ w1 o0 hk H f1;refine bA (z:=true) (sA hk) (sq (sq ?_));refine bO f1 fun a0 i0 f2=>Zy ((H.ro (α:=List Int) 0 rfl).setp i0) fun p0 m0 c0 c1 c2=>fA c0 c1 c2 (jC (α:=Int) H c0 c1 i0 fun w2 H=>arK hk x0 ?_);obtain rfl:=oi_ f2;exact ⟨(),r4_,H.sel [0] rfl⟩;rintro T1 _ w4 H;refine bA (z:=false) tA (sq ?_);cases f0;exact ⟨_,_,rfl,⟨h4,rfl,rfl⟩,(H.sel [0] rfl).close ⟨cloE,trivial⟩⟩
theorem xM {g__0:Int}{g__1:List Ty0}{g__1h:Hd}{g__2:List Int}{g__2h:Hd}{g__3:List Int}{g__3h:Hd}{y_0 y_1:List Int} (hF:lV (g__0,g__1,g__2,g__3)=some (y_0,y_1)) :
  dA Tryz.prog 149 #[(.agg #[(vi g__0),(g__1h).v,(g__2h).v,(g__3h).v])] [Es (List Ty0) g__1 g__1h,Es (List Int) g__2 g__2h,Es (List Int) g__3 g__3h] [] (fun v Γ'=>∃ z0 z1:Hd,v=(.agg #[(z0).v,(z1).v])∧Γ'=[E (List Int) y_0 z0,E (List Int) y_1 z1]):=by
 refine Ze (args:=[_]) gok Tryz.func149 rfl _ rfl rfl rfl fun w0 S0 fp0 H=>cB H fun b5 w4 hx H=>dB gok rfl H fun b8 w7 hx H=>bO hF fun r0 f0 f1=>?_
 refine aG H [] (.fst 0 (.fst 3 (.fst 1 (.fst 4 (.alts (.alt 2 (.alts (.alt 5 (.fst 6 (.act 7 (.act 8 .done))) (.alt 7 (.act 5 (.fst 6 (.act 8 .done))) .no))) (.alt 7 (.act 2 (.act 5 (.fst 6 (.act 8 .done)))) .no))))))) fB [] trivial (by kernel_rfl) (fun (q0:(List Int×List Int)×(Hd×Hd×Nat))=>[(1,(vp b5)),(2,(vp b8)),(3,(vp q0.2.2.2))]) (fun (q0:(List Int×List Int)×(Hd×Hd×Nat)) w'=>(q0.1.1,q0.1.2)=r0∧Cx w0 fp0 S0 w' [Bx b5 [(vi g__0),(g__1h).v,(g__2h).v,(g__3h).v],Es (List Ty0) g__1 g__1h,Es (List Int) g__2 g__2h,Es (List Int) g__3 g__3h,Bx b8 [vn,vn],Bx q0.2.2.2 [(q0.2.1).v,(q0.2.2.1).v],E (List Int) q0.1.1 q0.2.1,E (List Int) q0.1.2 q0.2.2.1]) ?_ ?_
 intro w1 H;have hX:Ext w1 w1:=Upd.refl _ _;refine nA (fun _=>fld gok rfl rfl rfl rfl ⟨rfl,rfl⟩) (nA (fun _=>fld gok rfl rfl rfl rfl ⟨rfl,rfl⟩) (gA (H.bx 1 rfl (j:=0) rfl) (gA (H.bx 1 rfl (j:=0) rfl) (both ?_ ?_))));refine bO f0 fun y0 i0 f2=>kA (@mD (-1) g__0 y0 i0) H trivial ?_;rintro _ _ w2 ⟨h0,rfl,rfl⟩ hx H;refine hold_ hX hx fun hX=>(both ?_ ?_);refine bO f2 fun y1 i1 f3=>kA (@mD (-1) g__0 y1 i1) H trivial ?_;rintro _ _ w3 ⟨h1,rfl,rfl⟩ hx H;refine hold_ hX hx fun hX=>(nA (fun _=>qB (cs:=#[(h0).v,(h1).v]) gok rfl rfl rfl ⟨rfl,rfl⟩) ?_);refine lC gok rfl H ?_;intro b0 w5 hx v0 H;replace v0:=Nat.le_trans hX.size v0;refine hold_ hX hx fun hX=>(pF gok _ rfl H rfl rfl rfl fun w6 hu H=>?_);replace hX:=hX.fresh hu v0;exact hold hX ⟨((y0,y1),(h0,h1,b0)),r3_,oi_ f3,H.sel [4,5,6,7,3,0,2,1] rfl⟩;refine both ?_ ?_;obtain ⟨a0,o0,f4⟩:=iB f2;refine lC gok rfl H ?_;intro b1 w8 hx v1 H;replace v1:=Nat.le_trans hX.size v1;refine hold_ hX hx fun hX=>(kA (@mD (-1) g__0 a0 o0) H trivial ?_);rintro _ _ w9 ⟨h2,rfl,rfl⟩ hx H;refine hold_ hX hx fun hX=>(nA (fun _=>qB (cs:=#[(h0).v,(h2).v]) gok rfl rfl rfl ⟨rfl,rfl⟩) (pF gok _ rfl (H.sel [1,0,2,3,4,5,6,7] rfl) rfl rfl rfl fun w10 hu H=>?_));replace hX:=hX.fresh hu v1;exact hold hX ⟨((y0,a0),(h0,h2,b1)),r3_,oi_ f4,H.sel [4,5,6,7,3,0,2,1] rfl⟩;exact trivial;refine both ?_ ?_;refine bO f0 fun a1 o1 f5=>bO f5 fun a2 o2 f6=>?_;refine lC gok rfl H ?_;intro b2 w11 hx v2 H;replace v2:=Nat.le_trans hX.size v2;refine hold_ hX hx fun hX=>(kA (@mD (-1) g__0 a1 o1) H trivial ?_);rintro _ _ w12 ⟨h3,rfl,rfl⟩ hx H;refine hold_ hX hx fun hX=>(kA (@mD (-1) g__0 a2 o2) H trivial ?_);rintro _ _ w13 ⟨h4,rfl,rfl⟩ hx H;refine hold_ hX hx fun hX=>(nA (fun _=>qB (cs:=#[(h3).v,(h4).v]) gok rfl rfl rfl ⟨rfl,rfl⟩) (pF gok _ rfl (H.sel [2,0,1,3,4,5,6,7] rfl) rfl rfl rfl fun w14 hu H=>?_));replace hX:=hX.fresh hu v2;exact hold hX ⟨((a1,a2),(h3,h4,b2)),r3_,oi_ f6,H.sel [4,5,6,7,3,0,2,1] rfl⟩;exact trivial;rintro T0 ⟨⟨s0_0,s0_1⟩,⟨g0_0,g0_1,g0_2⟩⟩ w15 ⟨hr,H⟩;(try dsimp only at H);subst hr
 refine sq (fld gok rfl rfl rfl rfl (aA (H.bx 0 rfl (j:=1) rfl) (eA (H.rs (α:=List Ty0) 1 rfl).len (have x0:=(H.rs (α:=List Ty0) 1 rfl).max;bO f1 fun r1 e f7=>wA _ g__1.length (fun (k0:Nat) (s1:List Int×List Int) (_:Unit)=>[(2,(vp b8)),(3,(vp g0_2)),(18,(g__1h).v),(19,(vi ((g__1.length:Nat):Int))),(20,(vi ((k0:Nat):Int)))]) (fun _ (s1:List Int×List Int) (_:Unit) w'=>Cx w0 fp0 S0 w' [Bx b8 [vn,vn],Bx g0_2 [(g0_0).v,(g0_1).v],E (List Int) s1.1 g0_0,E (List Int) s1.2 g0_1,Es (List Ty0) g__1 g__1h]) (s0_0,s0_1) () e r5_ (H.sel [4,5,6,7,1] rfl) ?_ ?_))));rintro T1 k0 ⟨s1_0,s1_1⟩ _ w16 o3 hk H f8;(try dsimp only at H);refine bA (z:=true) (sA hk) (sq (sq ?_));refine bO f8 fun a3 e f9=>Zz (H.el (α:=Ty0) 4 rfl e) fun p0 m0 g1 c0 c1 c2 c3 H=>?_;obtain ⟨a3_0,a3_1,a3_2,a3_3⟩:=a3;obtain ⟨_,_,h5,h6⟩:=g1;replace H:=((H.part (β:=List Int) a3_2 (h5:Hd) 0 rfl (fun S h=>(And.left (And.right (And.right h))))).part (β:=List Int) a3_3 (h6:Hd) 1 rfl (fun S h=>(And.right (And.right (And.right h))))).sel [0,1,3,4,5,6,7] rfl;refine fA c0 c1 c2 (iC [(vi a3_0),(vi a3_1),(h5).v,(h6).v] rfl c3 (dB gok rfl H fun b3 w17 hx H=>stA gok _ rfl H rfl rfl rfl fun w18 H=>sq (fld gok rfl rfl rfl rfl (aA (H.bx 0 rfl (j:=3) rfl) (eA (H.rs (α:=List Int) 1 rfl).len (have x1:=(H.rs (α:=List Int) 1 rfl).max;bO f9 fun r2 e f10=>wA _ a3_3.length (fun (k1:Nat) (s2:List Int) (_:Unit)=>[(2,(vp b8)),(3,(vp g0_2)),(4,(vi ((k0:Nat):Int))),(5,(vp b3)),(18,(g__1h).v),(19,(vi ((g__1.length:Nat):Int))),(20,(vi ((k0:Nat):Int))),(26,(h6).v),(27,(vi ((a3_3.length:Nat):Int))),(28,(vi ((k1:Nat):Int)))]) (fun _ (s2:List Int) (_:Unit) w'=>Cx w0 fp0 S0 w' [Bx b8 [vn,vn],Bx g0_2 [(g0_0).v,(g0_1).v],E (List Int) s2 g0_0,E (List Int) s1_1 g0_1,Bx b3 [(vi a3_0),(vi a3_1),(h5).v,(h6).v],Es (List Int) a3_2 h5,Es (List Int) a3_3 h6,Es (List Ty0) g__1 g__1h]) s1_0 () e r10_ (H.sel [3,4,5,6,0,2,1,7] rfl) ?_ ?_))))));rintro T2 k1 s2 _ w19 o4 hk H f11;refine bA (z:=true) (sA hk) (sq (sq ?_));refine Zi f11 (H.rs (α:=List Int) 6 rfl) fun a4 p1 m1 c7 f12=>aA c7 (fld gok rfl rfl rfl rfl (aA (H.bx 1 rfl (j:=0) rfl) (bO f12 fun a5 i5 f13=>Zy ((H.ro (α:=List Int) 2 rfl).setp i5) fun p2 m2 c8 c9 c10=>fA c8 c9 c10 (jC (α:=Int) (H.sel [2,0,1,3,4,5,6,7] rfl) c8 c9 i5 fun w20 H=>arK hk x1 ?_))));obtain rfl:=oi_ f13;exact ⟨(),r10_,H.sel [1,2,0,3,4,5,6,7] rfl⟩;rintro T3 _ w21 H
 refine bA (z:=false) tA (sq (fld gok rfl rfl rfl rfl (aA (H.bx 4 rfl (j:=2) rfl) (eA (H.rs (α:=List Int) 5 rfl).len (have x2:=(H.rs (α:=List Int) 5 rfl).max;bO f10 fun r3 e f14=>wA _ a3_2.length (fun (k2:Nat) (s3:List Int) (_:Unit)=>[(2,(vp b8)),(3,(vp g0_2)),(4,(vi ((k0:Nat):Int))),(18,(g__1h).v),(19,(vi ((g__1.length:Nat):Int))),(20,(vi ((k0:Nat):Int))),(39,(h5).v),(40,(vi ((a3_2.length:Nat):Int))),(41,(vi ((k2:Nat):Int)))]) (fun _ (s3:List Int) (_:Unit) w'=>Cx w0 fp0 S0 w' [Bx b8 [vn,vn],Bx g0_2 [(g0_0).v,(g0_1).v],E (List Int) r2 g0_0,E (List Int) s3 g0_1,Es (List Ty0) g__1 g__1h,Es (List Int) a3_2 h5]) s1_1 () e r9_ (H.sel [0,1,2,3,7,5] rfl) ?_ ?_)))));rintro T4 k2 s3 _ w22 o5 hk H f15;refine bA (z:=true) (sA hk) (sq (sq ?_));refine Zi f15 (H.rs (α:=List Int) 5 rfl) fun a6 p3 m3 c14 f16=>aA c14 (fld gok rfl rfl rfl rfl (aA (H.bx 1 rfl (j:=1) rfl) (bO f16 fun a7 i6 f17=>Zy ((H.ro (α:=List Int) 3 rfl).setp i6) fun p4 m4 c15 c16 c17=>fA c15 c16 c17 (jC (α:=Int) (H.sel [3,0,1,2,4,5] rfl) c15 c16 i6 fun w23 H=>arK hk x2 ?_))));obtain rfl:=oi_ f17;exact ⟨(),r9_,H.sel [1,2,3,0,4,5] rfl⟩;rintro T5 _ w24 H;refine bA (z:=false) tA (sq (arK hk x0 ?_));obtain rfl:=oi_ f14;exact ⟨(),r5_,H.sel [0,1,2,3,4] rfl⟩;obtain ⟨s4_0,s4_1⟩:=r1;rintro T6 _ w25 H;refine bA (z:=false) tA (sq (Zn (H.bz_ 1 rfl) rfl (stA gok _ rfl H rfl rfl rfl fun w26 H=>Zn (H.bz_ 0 rfl) rfl ?_)));cases f7;exact ⟨_,_,rfl,⟨g0_0,g0_1,rfl,rfl⟩,(H.sel [2,3] rfl).close ⟨cloE,cloE,trivial⟩⟩
theorem D3_ {g__0:Int}{g__1:List Ty0}{g__1h:Hd}{g__2:List Int}{g__2h:Hd}{g__3:List Int}{g__3h:Hd}{y_0_0:Int}{y_0_1:List Ty0}{y_0_2 y_0_3 y_1_0 y_1_1:List Int}{y_2 y_3:MI}{y_4 y_5:List Int} (hF:zZ (g__0,g__1,g__2,g__3)=some ((y_0_0,y_0_1,y_0_2,y_0_3),(y_1_0,y_1_1),y_2,y_3,y_4,y_5)) :
  dA Tryz.prog 132 #[(.agg #[(vi g__0),(g__1h).v,(g__2h).v,(g__3h).v])] [Es (List Ty0) g__1 g__1h,Es (List Int) g__2 g__2h,Es (List Int) g__3 g__3h] [] (fun v Γ'=>∃ (z0:Nat) (z1:Hd) (z2:Hd) (z3:Mh) (z4:Mh) (z5:Hd) (z6:Hd),v=(vp z0)∧Γ'=[Bx z0 [(vi y_0_0),(g__1h).v,(g__2h).v,(g__3h).v,(z1).v,(z2).v,(z3).v,(z4).v,(z5).v,(z6).v],E (List Int) y_1_0 z1,E (List Int) y_1_1 z2,E MI y_2 z3,E MI y_3 z4,E (List Int) y_4 z5,E (List Int) y_5 z6]):=by
 refine Ze (args:=[_]) gok Tryz.func132 rfl _ rfl rfl rfl fun w0 S0 fp0 H=>cB H fun b5 w4 hx H=>bO hF fun r0 f0 f1=>?_
 refine aG H [] (.fst 0 (.fst 1 (.alts (.alt 2 (.alts (.alt 3 (.act 4 (.fst 5 (.act 6 (.fst 7 .done)))) (.alt 4 (.act 3 (.fst 5 (.act 6 (.fst 7 .done)))) .no))) (.alt 3 (.alts (.alt 2 (.act 4 (.fst 5 (.act 6 (.fst 7 .done)))) (.alt 4 (.act 2 (.fst 5 (.act 6 (.fst 7 .done)))) .no))) (.alt 4 (.alts (.alt 2 (.act 3 (.fst 5 (.act 6 (.fst 7 .done)))) (.alt 3 (.act 2 (.fst 5 (.act 6 (.fst 7 .done)))) .no))) .no)))))) fB [] trivial (by kernel_rfl) (fun (q0:(Int×List Int×List Int×MI×MI)×(Hd×Hd×Mh×Mh×Nat))=>[(2,(vp q0.2.2.2.2.2))]) (fun (q0:(Int×List Int×List Int×MI×MI)×(Hd×Hd×Mh×Mh×Nat)) w'=>(q0.1.1,q0.1.2.1,q0.1.2.2.1,q0.1.2.2.2.1,q0.1.2.2.2.2)=r0∧Cx w0 fp0 S0 w' [Bx q0.2.2.2.2.2 [(vi q0.1.1),(g__1h).v,(g__2h).v,(g__3h).v,(q0.2.1).v,(q0.2.2.1).v,(q0.2.2.2.1).v,(q0.2.2.2.2.1).v,vn,vn],Es (List Ty0) g__1 g__1h,Es (List Int) g__2 g__2h,Es (List Int) g__3 g__3h,E (List Int) q0.1.2.1 q0.2.1,E (List Int) q0.1.2.2.1 q0.2.2.1,E MI q0.1.2.2.2.1 q0.2.2.2.1,E MI q0.1.2.2.2.2 q0.2.2.2.2.1]) ?_ ?_
 intro w1 H;have hX:Ext w1 w1:=Upd.refl _ _;refine Zo (H.bz_ 0 rfl) rfl (Zo (H.bz_ 0 rfl) rfl (both ?_ ?_));refine bO f0 fun ⟨y0_0,y0_1⟩ i0 f2=>Zq2 (xM i0) H ⟨Vw.sh 1 rfl,Vw.sh 2 rfl,Vw.sh 3 rfl,trivial⟩ fun h0 h1 w2 hx H=>hold_ hX hx fun hX=>(both ?_ ?_);refine mkM H fun h2 w3 hx H=>hold_ hX hx fun hX=>(mkM H fun h3 w5 hx H=>hold_ hX hx fun hX=>?_)
 refine nA (fun _=>qB (cs:=#[(vi g__0),(g__1h).v,(g__2h).v,(g__3h).v,(h0).v,(h1).v,(h2).v,(h3).v,vn,vn]) gok rfl rfl (by kernel_rfl) ⟨rfl,rfl⟩) ?_
 refine boxX H ?_;intro b0 w6 hx v0 H;replace v0:=Nat.le_trans hX.size v0;exact hold_ hX hx fun hX=>⟨((g__0,y0_0,y0_1,(⟨[]⟩:MI),(⟨[]⟩:MI)),(h0,h1,h2,h3,b0)),⟨rfl,trivial⟩,oi_ f2,H.sel [0,6,7,8,3,4,2,1] rfl⟩;refine both ?_ ?_;refine mkM H fun h4 w7 hx H=>hold_ hX hx fun hX=>(mkM H fun h5 w8 hx H=>hold_ hX hx fun hX=>?_)
 refine nA (fun _=>qB (cs:=#[(vi g__0),(g__1h).v,(g__2h).v,(g__3h).v,(h0).v,(h1).v,(h5).v,(h4).v,vn,vn]) gok rfl rfl (by kernel_rfl) ⟨rfl,rfl⟩) ?_
 refine boxX H ?_;intro b1 w9 hx v1 H;replace v1:=Nat.le_trans hX.size v1;exact hold_ hX hx fun hX=>⟨((g__0,y0_0,y0_1,(⟨[]⟩:MI),(⟨[]⟩:MI)),(h0,h1,h5,h4,b1)),⟨rfl,trivial⟩,oi_ f2,H.sel [0,6,7,8,3,4,1,2] rfl⟩;exact trivial;refine both ?_ ?_;refine bO f0 fun a0 o0 f3=>mkM H fun h6 w10 hx H=>hold_ hX hx fun hX=>(both ?_ ?_);obtain ⟨a0_0,a0_1⟩:=a0;refine Zq2 (xM o0) H ⟨Vw.sh 2 rfl,Vw.sh 3 rfl,Vw.sh 4 rfl,trivial⟩ fun h7 h8 w11 hx H=>hold_ hX hx fun hX=>(mkM H fun h9 w12 hx H=>hold_ hX hx fun hX=>?_)
 refine nA (fun _=>qB (cs:=#[(vi g__0),(g__1h).v,(g__2h).v,(g__3h).v,(h7).v,(h8).v,(h6).v,(h9).v,vn,vn]) gok rfl rfl (by kernel_rfl) ⟨rfl,rfl⟩) ?_
 refine boxX H ?_;intro b2 w13 hx v2 H;replace v2:=Nat.le_trans hX.size v2;exact hold_ hX hx fun hX=>⟨((g__0,a0_0,a0_1,(⟨[]⟩:MI),(⟨[]⟩:MI)),(h7,h8,h6,h9,b2)),⟨rfl,trivial⟩,oi_ f3,H.sel [0,6,7,8,2,3,4,1] rfl⟩;refine both ?_ ?_;refine mkM H fun h10 w14 hx H=>hold_ hX hx fun hX=>?_;obtain ⟨a0_0,a0_1⟩:=a0;refine Zq2 (xM o0) H ⟨Vw.sh 3 rfl,Vw.sh 4 rfl,Vw.sh 5 rfl,trivial⟩ fun h11 h12 w15 hx H=>hold_ hX hx fun hX=>?_
 refine nA (fun _=>qB (cs:=#[(vi g__0),(g__1h).v,(g__2h).v,(g__3h).v,(h11).v,(h12).v,(h6).v,(h10).v,vn,vn]) gok rfl rfl (by kernel_rfl) ⟨rfl,rfl⟩) ?_
 refine boxX H ?_;intro b3 w16 hx v3 H;replace v3:=Nat.le_trans hX.size v3;exact hold_ hX hx fun hX=>⟨((g__0,a0_0,a0_1,(⟨[]⟩:MI),(⟨[]⟩:MI)),(h11,h12,h6,h10,b3)),⟨rfl,trivial⟩,oi_ f3,H.sel [0,6,7,8,1,2,4,3] rfl⟩;exact trivial;refine both ?_ ?_;refine bO f0 fun a1 o1 f4=>mkM H fun h13 w17 hx H=>hold_ hX hx fun hX=>(both ?_ ?_);obtain ⟨a1_0,a1_1⟩:=a1;refine Zq2 (xM o1) H ⟨Vw.sh 2 rfl,Vw.sh 3 rfl,Vw.sh 4 rfl,trivial⟩ fun h14 h15 w18 hx H=>hold_ hX hx fun hX=>(mkM H fun h16 w19 hx H=>hold_ hX hx fun hX=>?_)
 refine nA (fun _=>qB (cs:=#[(vi g__0),(g__1h).v,(g__2h).v,(g__3h).v,(h14).v,(h15).v,(h16).v,(h13).v,vn,vn]) gok rfl rfl (by kernel_rfl) ⟨rfl,rfl⟩) ?_
 refine boxX H ?_;intro b4 w20 hx v4 H;replace v4:=Nat.le_trans hX.size v4;exact hold_ hX hx fun hX=>⟨((g__0,a1_0,a1_1,(⟨[]⟩:MI),(⟨[]⟩:MI)),(h14,h15,h16,h13,b4)),⟨rfl,trivial⟩,oi_ f4,H.sel [0,6,7,8,2,3,1,4] rfl⟩;refine both ?_ ?_;refine mkM H fun h17 w21 hx H=>hold_ hX hx fun hX=>?_;obtain ⟨a1_0,a1_1⟩:=a1;refine Zq2 (xM o1) H ⟨Vw.sh 3 rfl,Vw.sh 4 rfl,Vw.sh 5 rfl,trivial⟩ fun h18 h19 w22 hx H=>hold_ hX hx fun hX=>?_
 refine nA (fun _=>qB (cs:=#[(vi g__0),(g__1h).v,(g__2h).v,(g__3h).v,(h18).v,(h19).v,(h17).v,(h13).v,vn,vn]) gok rfl rfl (by kernel_rfl) ⟨rfl,rfl⟩) ?_
 refine boxX H ?_;intro b6 w23 hx v5 H;replace v5:=Nat.le_trans hX.size v5;exact hold_ hX hx fun hX=>⟨((g__0,a1_0,a1_1,(⟨[]⟩:MI),(⟨[]⟩:MI)),(h18,h19,h17,h13,b6)),⟨rfl,trivial⟩,oi_ f4,H.sel [0,6,7,8,1,2,3,4] rfl⟩;exact trivial;exact trivial;rintro T0 ⟨⟨s0_0,s0_1,s0_2,s0_3,s0_4⟩,⟨g0_0,g0_1,g0_2,g0_3,g0_4⟩⟩ w24 ⟨hr,H⟩;(try dsimp only at H);subst hr;replace H:=(H.nil (α:=Int)).nil (α:=Int);cases f1;exact ⟨_,_,rfl,⟨g0_4,g0_0,g0_1,g0_2,g0_3,nilH,nilH,rfl,rfl⟩,(H.sel [2,6,7,8,9,1,0] rfl).close ⟨cloB,cloE,cloE,cloE,cloE,cloE,cloE,trivial⟩⟩
theorem nZ {k_b:Nat}{k__0_0:Int}{k__0_1:List Ty0}{k__0_1v:Value}{k__0_2:List Int}{k__0_2v:Value}{k__0_3:List Int}{k__0_3v:Value}{k__1_0:List Int}{k__1_0v:Value}{k__1_1:List Int}{k__1_1v:Value}{k__2:MI}{k__2h:Mh}{k__3:MI}{k__3v:Value}{k__4:List Int}{k__4h:Hd}{k__5:List Int}{k__5v:Value}{w_ y_0_0:Int}{y_0_1:List Ty0}{y_0_2 y_0_3 y_1_0 y_1_1:List Int}{y_2 y_3:MI}{y_4 y_5:List Int} (hF:zK ((k__0_0,k__0_1,k__0_2,k__0_3),(k__1_0,k__1_1),k__2,k__3,k__4,k__5) w_=some ((y_0_0,y_0_1,y_0_2,y_0_3),(y_1_0,y_1_1),y_2,y_3,y_4,y_5)) :
  dA Tryz.prog 133 #[(vp k_b),(vi w_)] [] [Bx k_b [(vi k__0_0),k__0_1v,k__0_2v,k__0_3v,k__1_0v,k__1_1v,(k__2h).v,k__3v,(k__4h).v,k__5v],E MI k__2 k__2h,E (List Int) k__4 k__4h] (fun v Γ'=>∃ (z0:Mh) (z1:Hd),v=(.tuple #[])∧Γ'=[Bx k_b [(vi y_0_0),k__0_1v,k__0_2v,k__0_3v,k__1_0v,k__1_1v,(z0).v,k__3v,(z1).v,k__5v],E MI y_2 z0,E (List Int) y_4 z1]):=by
 refine Ze (args:=[_,_]) gok Tryz.func133 rfl _ rfl rfl rfl fun w0 S0 fp0 H=>fld gok rfl rfl rfl rfl (aA (H.bx 0 rfl (j:=6) rfl) (bO hF fun a4 e hF5=>CQ_ gok Tryz.underlying132 Tryz.underlying3 rfl (H.ro (α:=MI) 1 rfl) e (boolB_ hF5 (fun hF8=>?_) fun hF9=>?_)));cases hF8;exact ⟨_,_,rfl,⟨k__2h,k__4h,rfl,rfl⟩,(H.sel [0,1,2] rfl).close ⟨cloB,cloE,cloE,trivial⟩⟩
 refine vB H [10] (.fst 0 (.fst 1 (.fst 2 (.fst 4 (.fst 5 (.fst 6 (.fst 7 (.fst 3 (.fst 8 (.act 9 (.act 10 .done))))))))))) fB [] trivial (by kernel_rfl) ?_;intro w1 H
 have hX:Ext w1 w1:=Upd.refl _ _;refine nA (fun _=>fld gok rfl rfl rfl rfl ⟨rfl,rfl⟩) (nA (fun _=>fld gok rfl rfl rfl rfl ⟨rfl,rfl⟩) (gA (H.bx 0 rfl (j:=6) rfl) (gA (H.bx 0 rfl (j:=6) rfl) (lenM Tryz.underlying132 (H.ro (α:=MI) 1 rfl) (hold hX (have H:=H.sel [1,0,2] rfl;updM Tryz.underlying132 Tryz.underlying3 H fun w2 H=>hold trivial (fld gok rfl rfl rfl rfl (aA (H.bx 1 rfl (j:=8) rfl) (zA (α:=Int) gok rfl rfl rfl rfl H fun h0 w3 hx H=>bO hF9 fun a0 e f0=>append_ (α:=Int) gok rfl rfl rfl rfl (H.sel [3,0,1,2] rfl) e fun h1 w4 H=>?_)))))))));refine fld gok rfl rfl rfl rfl (stB (j:=8) (H.sel [2,0,1] rfl) rfl rfl fun w5 H=>?_);cases f0;exact ⟨_,_,rfl,⟨k__2h,h1,rfl,rfl⟩,(H.sel [0,2,1] rfl).close ⟨cloB,cloE,cloE,trivial⟩⟩
theorem oZ {k_b:Nat}{k__0_0:Int}{k__0_1:List Ty0}{k__0_1h:Hd}{k__0_2:List Int}{k__0_2h:Hd}{k__0_3:List Int}{k__0_3h:Hd}{k__1_0:List Int}{k__1_0h:Hd}{k__1_1:List Int}{k__1_1h:Hd}{k__2:MI}{k__2h:Mh}{k__3:MI}{k__3h:Mh}{k__4:List Int}{k__4h:Hd}{k__5:List Int}{k__5h:Hd}{e_ y_0_0:Int}{y_0_1:List Ty0}{y_0_2 y_0_3 y_1_0 y_1_1:List Int}{y_2 y_3:MI}{y_4 y_5:List Int} (hF:aL ((k__0_0,k__0_1,k__0_2,k__0_3),(k__1_0,k__1_1),k__2,k__3,k__4,k__5) e_=some ((y_0_0,y_0_1,y_0_2,y_0_3),(y_1_0,y_1_1),y_2,y_3,y_4,y_5)) :
  dA Tryz.prog 150 #[(vp k_b),(vi e_)] [Es (List Ty0) k__0_1 k__0_1h,Es (List Int) k__0_2 k__0_2h,Es (List Int) k__0_3 k__0_3h,Es (List Int) k__1_0 k__1_0h,Es (List Int) k__1_1 k__1_1h] [Bx k_b [(vi k__0_0),(k__0_1h).v,(k__0_2h).v,(k__0_3h).v,(k__1_0h).v,(k__1_1h).v,(k__2h).v,(k__3h).v,(k__4h).v,(k__5h).v],E MI k__2 k__2h,E MI k__3 k__3h,E (List Int) k__4 k__4h,E (List Int) k__5 k__5h] (fun v Γ'=>∃ (z0:Mh) (z1:Mh) (z2:Hd) (z3:Hd),v=(.tuple #[])∧Γ'=[Bx k_b [(vi y_0_0),(k__0_1h).v,(k__0_2h).v,(k__0_3h).v,(k__1_0h).v,(k__1_1h).v,(z0).v,(z1).v,(z2).v,(z3).v],E MI y_2 z0,E MI y_3 z1,E (List Int) y_4 z2,E (List Int) y_5 z3]):=by
 refine Ze (args:=[_,_]) gok Tryz.func150 rfl _ rfl rfl rfl fun w0 S0 fp0 H=>sq (boolB_ hF (fun f1=>?_) fun f13=>?_);refine sq (fld gok rfl rfl rfl rfl (aA (H.bx 5 rfl (j:=7) rfl) (bO f1 fun a1 e f2=>CQ_ gok Tryz.underlying132 Tryz.underlying3 rfl (H.ro (α:=MI) 7 rfl) e ?_)));cases a1;have f3:=sB f2
 refine vB H [10] (.fst 0 (.fst 1 (.fst 2 (.fst 4 (.fst 5 (.fst 6 (.fst 7 (.fst 3 (.fst 8 (.act 9 (.act 10 .done))))))))))) fB [] trivial (by kernel_rfl) ?_;intro w1 H
 have hX:Ext w1 w1:=Upd.refl _ _;refine nA (fun _=>fld gok rfl rfl rfl rfl ⟨rfl,rfl⟩) (nA (fun _=>fld gok rfl rfl rfl rfl ⟨rfl,rfl⟩) (gA (H.bx 5 rfl (j:=7) rfl) (gA (H.bx 5 rfl (j:=7) rfl) (lenM Tryz.underlying132 (H.ro (α:=MI) 7 rfl) (hold hX (have H:=H.sel [7,0,1,2,3,4,5,6,8,9] rfl;updM Tryz.underlying132 Tryz.underlying3 H fun w2 H=>hold trivial (fld gok rfl rfl rfl rfl (aA (H.bx 6 rfl (j:=9) rfl) (zA (α:=Int) gok rfl rfl rfl rfl H fun h0 w3 hx H=>bO f3 fun a2 e f4=>append_ (α:=Int) gok rfl rfl rfl rfl (H.sel [10,0,1,2,3,4,5,6,7,8,9] rfl) e fun h1 w4 H=>?_)))))))));refine fld gok rfl rfl rfl rfl (stB (j:=9) (H.sel [7,0,1,2,3,4,5,6,8,9] rfl) rfl rfl fun w5 H=>?_)
 refine vB H [] (.fst 0 (.fst 1 (.fst 2 (.fst 3 (.fst 5 (.fst 9 (.fst 10 (.fst 11 (.fst 12 (.fst 14 (.fst 21 (.fst 4 (.fst 6 (.fst 7 (.fst 8 (.fst 13 (.fst 15 (.fst 16 (.fst 17 (.act 18 (.act 19 (.fst 20 .done)))))))))))))))))))))) fB [] trivial (by kernel_rfl) ?_;intro w6 H
 have hX:Ext w6 w6:=Upd.refl _ _;refine nA (fun _=>fld gok rfl rfl rfl rfl ⟨rfl,rfl⟩) (nA (fun _=>fld gok rfl rfl rfl rfl ⟨rfl,rfl⟩) (nA (fun _=>fld gok rfl rfl rfl rfl ⟨rfl,rfl⟩) (nA (fun _=>fld gok rfl rfl rfl rfl ⟨rfl,rfl⟩) (gA (H.bx 0 rfl (j:=1) rfl) (bO f4 fun a3 e f5=>Zz (H.el (α:=Ty0) 3 rfl e) fun p0 m0 g0 c0 c1 c2 c3 H=>?_)))));obtain ⟨a3_0,a3_1,a3_2,a3_3⟩:=a3;obtain ⟨_,_,h2,h3⟩:=g0;refine have H:=((H.part (β:=List Int) a3_2 (h2:Hd) 0 rfl (fun S h=>(And.left (And.right (And.right h))))).part (β:=List Int) a3_3 (h3:Hd) 1 rfl (fun S h=>(And.right (And.right (And.right h))))).sel [0,1,3,4,5,6,7,8,9,10,11,12] rfl;fA c0 c1 c2 (nA (fun _=>fld gok rfl rfl rfl rfl ⟨rfl,rfl⟩) (gA (c3 2 _ rfl) (gA (H.bx 2 rfl (j:=1) rfl) (bO f5 fun a4 e f6=>Zz (H.el (α:=Ty0) 5 rfl e) fun p1 m1 g1 c4 c5 c6 c7 H=>?_))));obtain ⟨a4_0,a4_1,a4_2,a4_3⟩:=a4;obtain ⟨_,_,h4,h5⟩:=g1;refine have H:=((H.part (β:=List Int) a4_2 (h4:Hd) 0 rfl (fun S h=>(And.left (And.right (And.right h))))).part (β:=List Int) a4_3 (h5:Hd) 1 rfl (fun S h=>(And.right (And.right (And.right h))))).sel [0,1,3,4,5,6,7,8,9,10,11,12,13,14] rfl;fA c4 c5 c6 (nA (fun _=>fld gok rfl rfl rfl rfl ⟨rfl,rfl⟩) (gA (c7 3 _ rfl) (cA (α:=Sh (List Int)) (us:=[(h2).v,(h5).v]) (xs:=[a3_2,a4_3]) (gs:=([h2,h5]:List Hd)) gok rfl rfl rfl ⟨rfl,rfl,trivial⟩ rfl rfl ((H.dup 0 rfl lA).dup 4 rfl lA) fun h6 w7 hx H=>hold_ hX hx fun hX=>(bO f6 fun y0 i0 f7=>kA (@rH [a3_2,a4_3] h6 y0 i0) H ⟨Vw.part (β:=List (List Int)) (Vw.own (α:=List (Sh (List Int))) 0 rfl) [a3_2,a4_3] h6 (fun S h=>h),trivial⟩ ?_))));rintro _ _ w8 ⟨h7,rfl,rfl⟩ hx H;refine hold_ hX hx fun hX=>(eA (H.ro (α:=List Int) 0 rfl).len (have x0:=(H.ro (α:=List Int) 0 rfl).max;bO f7 fun r0 e f8=>wA _ y0.length (fun (k0:Nat) (s0:Int×MI×List Int) (g2:Mh×Hd)=>[(0,(vp k_b)),(59,(h7).v),(60,(vi ((y0.length:Nat):Int))),(61,(vi ((k0:Nat):Int)))]) (fun _ (s0:Int×MI×List Int) (g2:Mh×Hd) w'=>Cx w0 fp0 S0 w' [Bx k_b [(vi s0.1),(k__0_1h).v,(k__0_2h).v,(k__0_3h).v,(k__1_0h).v,(k__1_1h).v,(g2.1).v,(k__3h).v,(g2.2).v,(h1).v],Es (List Ty0) k__0_1 k__0_1h,Es (List Int) k__0_2 k__0_2h,Es (List Int) k__0_3 k__0_3h,Es (List Int) k__1_0 k__1_0h,Es (List Int) k__1_1 k__1_1h,E MI s0.2.1 g2.1,E MI (lH k__3 e_ ((k__3.kvs.length:Nat):Int)) k__3h,E (List Int) s0.2.2 g2.2,E (List Int) a2 h1,E (List Int) y0 h7]) (k__0_0,k__2,k__4) (k__2h,k__4h) e r4_ (H.sel [6,9,10,11,12,13,14,8,15,7,0] rfl) ?_ ?_));rintro T0 k0 ⟨s0_0,s0_1,s0_2⟩ ⟨g2_0,g2_1⟩ w9 o0 hk H f9;(try dsimp only at H);refine bA (z:=true) (sA hk) (sq (sq ?_))
 refine Zi f9 (H.ro (α:=List Int) 10 rfl) fun a5 p2 m2 c11 f10=>aA c11 (bO f10 fun y1 e f11=>?_);obtain ⟨⟨y1_0_0,y1_0_1,y1_0_2,y1_0_3⟩,⟨y1_1_0,y1_1_1⟩,y1_2,y1_3,y1_4,y1_5⟩:=y1;refine have i1:=e;have H:=H.sel [0,6,8,1,2,3,4,5,7,9,10] rfl;uB (@nZ k_b s0_0 k__0_1 ((k__0_1h).v) k__0_2 ((k__0_2h).v) k__0_3 ((k__0_3h).v) k__1_0 ((k__1_0h).v) k__1_1 ((k__1_1h).v) s0_1 g2_0 (lH k__3 e_ ((k__3.kvs.length:Nat):Int)) ((k__3h).v) s0_2 g2_1 a2 ((h1).v) a5 y1_0_0 y1_0_1 y1_0_2 y1_0_3 y1_1_0 y1_1_1 y1_2 y1_3 y1_4 y1_5 i1) (Γi:=[Bx k_b [(vi s0_0),(k__0_1h).v,(k__0_2h).v,(k__0_3h).v,(k__1_0h).v,(k__1_1h).v,(g2_0).v,(k__3h).v,(g2_1).v,(h1).v],E MI s0_1 g2_0,E (List Int) s0_2 g2_1]) H trivial ?_;rintro _ _ w10 ⟨h8,h9,rfl,rfl⟩ H;refine arK hk x0 ?_;obtain rfl:=oi_ f11;exact ⟨(h8,h9),r4_,H.sel [0,3,4,5,6,7,1,8,2,9,10] rfl⟩;obtain ⟨s1_0,s1_1,s1_2⟩:=r0;rintro T1 ⟨g3_0,g3_1⟩ w11 H;(try dsimp only at H);refine bA (z:=false) tA (sq ?_);cases f8;exact ⟨_,_,rfl,⟨g3_0,k__3h,g3_1,h1,rfl,rfl⟩,(H.sel [0,6,7,8,9] rfl).close ⟨cloB,cloE,cloE,cloE,cloE,trivial⟩⟩;have f12:=rB f2;cases f12;exact ⟨_,_,rfl,⟨k__2h,k__3h,k__4h,k__5h,rfl,rfl⟩,(H.sel [5,6,7,8,9] rfl).close ⟨cloB,cloE,cloE,cloE,cloE,trivial⟩⟩;cases f13;exact ⟨_,_,rfl,⟨k__2h,k__3h,k__4h,k__5h,rfl,rfl⟩,(H.sel [5,6,7,8,9] rfl).close ⟨cloB,cloE,cloE,cloE,cloE,trivial⟩⟩
theorem DF_ {k_b:Nat}{k__0_0:Int}{k__0_1:List Ty0}{k__0_1h:Hd}{k__0_2:List Int}{k__0_2h:Hd}{k__0_3:List Int}{k__0_3h:Hd}{k__1_0:List Int}{k__1_0h:Hd}{k__1_1:List Int}{k__1_1h:Hd}{k__2:MI}{k__2h:Mh}{k__3:MI}{k__3h:Mh}{k__4:List Int}{k__4h:Hd}{k__5:List Int}{k__5h:Hd}{y_0_0:Int}{y_0_1:List Ty0}{y_0_2 y_0_3 y_1_0 y_1_1:List Int}{y_2 y_3:MI}{y_4 y_5:List Int} (hF:xU ((k__0_0,k__0_1,k__0_2,k__0_3),(k__1_0,k__1_1),k__2,k__3,k__4,k__5)=some ((y_0_0,y_0_1,y_0_2,y_0_3),(y_1_0,y_1_1),y_2,y_3,y_4,y_5)) :
  dA Tryz.prog 134 #[(vp k_b)] [Es (List Ty0) k__0_1 k__0_1h,Es (List Int) k__0_2 k__0_2h,Es (List Int) k__0_3 k__0_3h,Es (List Int) k__1_0 k__1_0h,Es (List Int) k__1_1 k__1_1h] [Bx k_b [(vi k__0_0),(k__0_1h).v,(k__0_2h).v,(k__0_3h).v,(k__1_0h).v,(k__1_1h).v,(k__2h).v,(k__3h).v,(k__4h).v,(k__5h).v],E MI k__2 k__2h,E MI k__3 k__3h,E (List Int) k__4 k__4h,E (List Int) k__5 k__5h] (fun v Γ'=>∃ (z0:Mh) (z1:Mh) (z2:Hd) (z3:Hd),v=(.tuple #[])∧Γ'=[Bx k_b [(vi y_0_0),(k__0_1h).v,(k__0_2h).v,(k__0_3h).v,(k__1_0h).v,(k__1_1h).v,(z0).v,(z1).v,(z2).v,(z3).v],E MI y_2 z0,E MI y_3 z1,E (List Int) y_4 z2,E (List Int) y_5 z3]):=by
 refine Ze (args:=[_]) gok Tryz.func134 rfl _ rfl rfl rfl fun w0 S0 fp0 H=>jE _ (fun (s0:Int×MI×MI×List Int×List Int) (g0:Mh×Mh×Hd×Hd)=>[(0,(vp k_b))]) (fun (s0:Int×MI×MI×List Int×List Int) (g0:Mh×Mh×Hd×Hd) w'=>Cx w0 fp0 S0 w' [Bx k_b [(vi s0.1),(k__0_1h).v,(k__0_2h).v,(k__0_3h).v,(k__1_0h).v,(k__1_1h).v,(g0.1).v,(g0.2.1).v,(g0.2.2.1).v,(g0.2.2.2).v],Es (List Ty0) k__0_1 k__0_1h,Es (List Int) k__0_2 k__0_2h,Es (List Int) k__0_3 k__0_3h,Es (List Int) k__1_0 k__1_0h,Es (List Int) k__1_1 k__1_1h,E MI s0.2.1 g0.1,E MI s0.2.2.1 g0.2.1,E (List Int) s0.2.2.2.1 g0.2.2.1,E (List Int) s0.2.2.2.2 g0.2.2.2]) (k__0_0,k__2,k__3,k__4,k__5) (k__2h,k__3h,k__4h,k__5h) hF ⟨rfl,trivial⟩ (H.sel [5,0,1,2,3,4,6,7,8,9] rfl) ?_;rintro T0 ⟨s0_0,s0_1,s0_2,s0_3,s0_4⟩ ⟨g0_0,g0_1,g0_2,g0_3⟩ w1 o0 H hrt f0;(try dsimp only at H);refine sq (fld gok rfl rfl rfl rfl (aA (H.bx 0 rfl (j:=8) rfl) (eA (H.ro (α:=List Int) 8 rfl).len (boolB_ f0 (fun f2=>?_) fun f4=>?_))));obtain rfl:=oi_ f2;have f3:some _=some _:=congrArg some (hrt _ rfl).symm;cases f3;exact ⟨_,_,rfl,⟨g0_0,g0_1,g0_2,g0_3,rfl,rfl⟩,(H.sel [0,6,7,8,9] rfl).close ⟨cloB,cloE,cloE,cloE,cloE,trivial⟩⟩;refine fld gok rfl rfl rfl rfl (aA (H.bx 0 rfl (j:=8) rfl) (Zi f4 (H.ro (α:=List Int) 8 rfl) fun a1 p0 m0 c3 f5=>aA c3 (fld gok rfl rfl rfl rfl (aA (H.bx 0 rfl (j:=8) rfl) (bO f5 fun a2 e f6=>have H:=H.sel [8,0,1,2,3,4,5,6,7,9] rfl;slO (α:=Int) (hi:=none) gok rfl rfl H e rfl (congrArg (fun n:Nat=>some (n:Int)) (H.ro (α:=List Int) 0 rfl).len) fun h0 H=>fld gok rfl rfl rfl rfl (stB (j:=8) (H.sel [1,0,2,3,4,5,6,7,8,9] rfl) rfl rfl fun w2 H=>fld gok rfl rfl rfl rfl (fld gok rfl rfl rfl rfl (aA (H.bx 0 rfl (j:=5) rfl) ?_))))))));refine Zi f6 (H.rs (α:=List Int) 6 rfl) fun a3 p1 m1 c7 f7=>aA c7 (bO f7 fun y0 e f8=>?_);obtain ⟨⟨y0_0_0,y0_0_1,y0_0_2,y0_0_3⟩,⟨y0_1_0,y0_1_1⟩,y0_2,y0_3,y0_4,y0_5⟩:=y0;refine have i0:=e;have H:=H.sel [0,7,8,1,9,2,3,4,5,6] rfl;Zd4 (oZ i0) (Γi:=[Bx k_b [(vi s0_0),(k__0_1h).v,(k__0_2h).v,(k__0_3h).v,(k__1_0h).v,(k__1_1h).v,(g0_0).v,(g0_1).v,(h0).v,(g0_3).v],E MI s0_1 g0_0,E MI s0_2 g0_1,E (List Int) a2 h0,E (List Int) s0_4 g0_3]) H ⟨Vw.sh 0 rfl,Vw.sh 1 rfl,Vw.sh 2 rfl,Vw.sh 3 rfl,Vw.sh 4 rfl,trivial⟩ fun h1 h2 h3 h4 w3 H=>fld gok rfl rfl rfl rfl (fld gok rfl rfl rfl rfl (aA (H.bx 0 rfl (j:=4) rfl) (Zi f8 (H.rs (α:=List Int) 8 rfl) fun a4 p2 m2 c11 f9=>aA c11 (bO f9 fun y1 e f10=>?_))));obtain ⟨⟨y1_0_0,y1_0_1,y1_0_2,y1_0_3⟩,⟨y1_1_0,y1_1_1⟩,y1_2,y1_3,y1_4,y1_5⟩:=y1
 refine have i1:=e;Zd4 (oZ i1) (Γi:=[Bx k_b [(vi y0_0_0),(k__0_1h).v,(k__0_2h).v,(k__0_3h).v,(k__1_0h).v,(k__1_1h).v,(h1).v,(h2).v,(h3).v,(h4).v],E MI y0_2 h1,E MI y0_3 h2,E (List Int) y0_4 h3,E (List Int) y0_5 h4]) H ⟨Vw.sh 0 rfl,Vw.sh 1 rfl,Vw.sh 2 rfl,Vw.sh 3 rfl,Vw.sh 4 rfl,trivial⟩ fun h5 h6 h7 h8 w4 H=>?_;obtain rfl:=oi_ f10;exact ⟨(y1_0_0,y1_2,y1_3,y1_4,y1_5),(h5,h6,h7,h8),rfl,⟨rfl,trivial⟩,H.sel [0,5,6,7,8,9,1,2,3,4] rfl⟩
theorem Dq_ {g__0:Int}{g__1:List Ty0}{g__1h:Hd}{g__2:List Int}{g__2h:Hd}{g__3:List Int}{g__3h:Hd}{y_0_0:Int}{y_0_1:List Ty0}{y_0_2 y_0_3 y_1_0 y_1_1:List Int}{y_2 y_3:MI}{y_4 y_5:List Int} (hF:lU (g__0,g__1,g__2,g__3)=some ((y_0_0,y_0_1,y_0_2,y_0_3),(y_1_0,y_1_1),y_2,y_3,y_4,y_5)) :
  dA Tryz.prog 112 #[(.agg #[(vi g__0),(g__1h).v,(g__2h).v,(g__3h).v])] [Es (List Ty0) g__1 g__1h,Es (List Int) g__2 g__2h,Es (List Int) g__3 g__3h] [] (fun v Γ'=>∃ (z0:Nat) (z1:Hd) (z2:Hd) (z3:Mh) (z4:Mh) (z5:Hd) (z6:Hd),v=(vp z0)∧Γ'=[Bx z0 [(vi y_0_0),(g__1h).v,(g__2h).v,(g__3h).v,(z1).v,(z2).v,(z3).v,(z4).v,(z5).v,(z6).v],E (List Int) y_1_0 z1,E (List Int) y_1_1 z2,E MI y_2 z3,E MI y_3 z4,E (List Int) y_4 z5,E (List Int) y_5 z6]):=by
 refine Ze (args:=[_]) gok Tryz.func112 rfl _ rfl rfl rfl fun w0 S0 fp0 H=>cB H fun b5 w4 hx H=>Zn (H.bz_ 0 rfl) rfl (bO hF fun y7 e hF8=>?_);obtain ⟨⟨y7_0_0,y7_0_1,y7_0_2,y7_0_3⟩,⟨y7_1_0,y7_1_1⟩,y7_2,y7_3,y7_4,y7_5⟩:=y7;refine have ey7:=e;callF0_ (D3_ ey7) H ⟨Vw.sh 1 rfl,Vw.sh 2 rfl,Vw.sh 3 rfl,trivial⟩ ?_;rintro _ _ w9 ⟨b0,h0,h1,h2,h3,h4,h5,rfl,rfl⟩ H;refine sq (fld gok rfl rfl rfl rfl (aA (H.bx 7 rfl (j:=2) rfl) (fld gok rfl rfl rfl rfl (aA (H.bx 7 rfl (j:=3) rfl) (cA (α:=Sh (List Int)) (us:=[(g__2h).v,(g__3h).v]) (xs:=[g__2,g__3]) (gs:=([g__2h,g__3h]:List Hd)) gok rfl rfl rfl ⟨rfl,rfl,trivial⟩ rfl rfl ((H.dup 10 rfl lA).dup 10 rfl lA) fun h6 w1 hx H=>bO hF8 fun y0 i0 f0=>callF0_ (@rH [g__2,g__3] h6 y0 i0) H ⟨Vw.part (β:=List (List Int)) (Vw.own (α:=List (Sh (List Int))) 0 rfl) [g__2,g__3] h6 (fun S h=>h),trivial⟩ ?_)))));rintro _ _ w2 ⟨h7,rfl,rfl⟩ H;refine eA (H.ro (α:=List Int) 0 rfl).len (have x0:=(H.ro (α:=List Int) 0 rfl).max;bO f0 fun r0 e f1=>wA _ y0.length (fun (k0:Nat) (s0:Int×MI×List Int) (g0:Mh×Hd)=>[(3,(vp b0)),(13,(h7).v),(14,(vi ((y0.length:Nat):Int))),(15,(vi ((k0:Nat):Int)))]) (fun _ (s0:Int×MI×List Int) (g0:Mh×Hd) w'=>Cx w0 fp0 S0 w' [Bx b0 [(vi s0.1),(g__1h).v,(g__2h).v,(g__3h).v,(h0).v,(h1).v,(g0.1).v,(h3).v,(g0.2).v,(h5).v],Es (List Ty0) g__1 g__1h,Es (List Int) g__2 g__2h,Es (List Int) g__3 g__3h,E (List Int) y7_1_0 h0,E (List Int) y7_1_1 h1,E MI s0.2.1 g0.1,E MI y7_3 h3,E (List Int) s0.2.2 g0.2,E (List Int) y7_5 h5,E (List Int) y0 h7]) (y7_0_0,y7_2,y7_4) (h2,h4) e r4_ (H.sel [2,10,11,12,3,4,5,6,7,8,0] rfl) ?_ ?_);rintro T0 k0 ⟨s0_0,s0_1,s0_2⟩ ⟨g0_0,g0_1⟩ w3 o0 hk H f2;(try dsimp only at H);refine bA (z:=true) (sA hk) (sq (sq ?_));refine Zi f2 (H.ro (α:=List Int) 10 rfl) fun a0 p0 m0 c3 f3=>aA c3 (bO f3 fun y1 e f4=>?_);obtain ⟨⟨y1_0_0,y1_0_1,y1_0_2,y1_0_3⟩,⟨y1_1_0,y1_1_1⟩,y1_2,y1_3,y1_4,y1_5⟩:=y1;refine have i1:=e;have H:=H.sel [0,6,8,1,2,3,4,5,7,9,10] rfl;uB (@nZ b0 s0_0 g__1 ((g__1h).v) g__2 ((g__2h).v) g__3 ((g__3h).v) y7_1_0 ((h0).v) y7_1_1 ((h1).v) s0_1 g0_0 y7_3 ((h3).v) s0_2 g0_1 y7_5 ((h5).v) a0 y1_0_0 y1_0_1 y1_0_2 y1_0_3 y1_1_0 y1_1_1 y1_2 y1_3 y1_4 y1_5 i1) (Γi:=[Bx b0 [(vi s0_0),(g__1h).v,(g__2h).v,(g__3h).v,(h0).v,(h1).v,(g0_0).v,(h3).v,(g0_1).v,(h5).v],E MI s0_1 g0_0,E (List Int) s0_2 g0_1]) H trivial ?_;rintro _ _ w5 ⟨h8,h9,rfl,rfl⟩ H;refine arK hk x0 ?_;obtain rfl:=oi_ f4;exact ⟨(h8,h9),r4_,H.sel [0,3,4,5,6,7,1,8,2,9,10] rfl⟩;obtain ⟨s1_0,s1_1,s1_2⟩:=r0;rintro T1 ⟨g1_0,g1_1⟩ w6 H;(try dsimp only at H);refine bA (z:=false) tA (sq (bO f1 fun y2 e f5=>?_));obtain ⟨⟨y2_0_0,y2_0_1,y2_0_2,y2_0_3⟩,⟨y2_1_0,y2_1_1⟩,y2_2,y2_3,y2_4,y2_5⟩:=y2
 refine have i2:=e;have H:=H.sel [0,6,7,8,9,1,2,3,4,5,10] rfl;Zd4 (DF_ i2) (Γi:=[Bx b0 [(vi s1_0),(g__1h).v,(g__2h).v,(g__3h).v,(h0).v,(h1).v,(g1_0).v,(h3).v,(g1_1).v,(h5).v],E MI s1_1 g1_0,E MI y7_3 h3,E (List Int) s1_2 g1_1,E (List Int) y7_5 h5]) H ⟨Vw.sh 0 rfl,Vw.sh 1 rfl,Vw.sh 2 rfl,Vw.own 3 rfl,Vw.own 4 rfl,trivial⟩ fun h10 h11 h13 h15 w7 H=>?_;cases f5;exact ⟨_,_,rfl,⟨b0,h0,h1,h10,h11,h13,h15,rfl,rfl⟩,(H.sel [0,8,9,1,2,3,4] rfl).close ⟨cloB,cloE,cloE,cloE,cloE,cloE,cloE,trivial⟩⟩
theorem EW_ {n_:Int}{y:List Int} (hF:sW n_=some y) :
  dA Tryz.prog 151 #[(vi n_)] [] [] (fun v Γ'=>∃ z0:Hd,v=(z0).v∧Γ'=[E (List Int) y z0]):=by
 refine Ze (args:=[_]) gok Tryz.func151 rfl _ rfl rfl rfl fun w0 S0 fp0 H=>qC hF gL H trivial fun y1 hF2 h4 w3 H=>sq (eA (H.ro (α:=List Int) 0 rfl).len (have x0:=(H.ro (α:=List Int) 0 rfl).max;bO hF2 fun r0 e f0=>wA _ y1.length (fun (k6:Nat) (s0:List Int) (_:Unit)=>[(3,(h4).v),(8,(vi ((y1.length:Nat):Int))),(9,(vi ((k6:Nat):Int)))]) (fun _ (s0:List Int) (_:Unit) w'=>Cx w0 fp0 S0 w' [E (List Int) s0 h4]) y1 () e r3_ (H.sel [0] rfl) ?_ ?_));rintro T0 k6 s0 _ w1 o0 hk H f1;refine bA (z:=true) (sA hk) (sq (sq ?_));refine bO f1 fun a0 i0 f2=>Zy ((H.ro (α:=List Int) 0 rfl).setp i0) fun p0 m0 c0 c1 c2=>fA c0 c1 c2 (jC (α:=Int) H c0 c1 i0 fun w2 H=>arK hk x0 ?_);obtain rfl:=oi_ f2;exact ⟨(),r3_,H.sel [0] rfl⟩;rintro T1 _ w4 H;refine bA (z:=false) tA (sq ?_);cases f0;exact ⟨_,_,rfl,⟨h4,rfl,rfl⟩,(H.sel [0] rfl).close ⟨cloE,trivial⟩⟩
theorem sU {c_:List Int}{c_h:Hd}{w_ y:Int} (hF:xK c_ w_=some y) :
  dA Tryz.prog 153 #[(c_h).v,(vi w_)] [Es (List Int) c_ c_h] [] (fun v Γ'=>v=(vi y)∧Γ'=[]):=by
 refine Ze (args:=[_,_]) gok Tryz.func153 rfl _ rfl rfl rfl fun w0 S0 fp0 H=>bO hF fun r0 f0 f1=>cut (fun (q0:Int)=>[(1,(vi q0))]) (fun (q0:Int) w'=>q0=r0∧Cx w0 fp0 S0 w' []) ?_ ?_;refine jE _ (fun (s0:Int) (_:Unit)=>[(0,(c_h).v),(1,(vi s0))]) (fun (s0:Int) (_:Unit) w'=>Cx w0 fp0 S0 w' [Es (List Int) c_ c_h]) w_ () f0 ⟨rfl,rfl,trivial⟩ (H.sel [0] rfl) ?_;rintro T0 s0 _ w1 o0 H hrt f2;refine sq (Zi f2 (H.rs (α:=List Int) 0 rfl) fun a0 p0 m0 c3 f3=>aA c3 (boolB_ f3 (fun f5=>?_) fun f7=>?_));obtain rfl:=oi_ f5;have f6:some _=some _:=congrArg some (hrt _ rfl).symm;exact ⟨s0,⟨rfl,trivial⟩,oi_ f6,H.sel [] rfl⟩;refine Zi f7 (H.rs (α:=List Int) 0 rfl) fun a2 p1 m1 c7 f8=>aA c7 ?_;obtain rfl:=oi_ f8;exact ⟨a2,(),rfl,⟨rfl,rfl,trivial⟩,H.sel [0] rfl⟩;rintro T1 s1 w2 ⟨hr,H⟩;(try dsimp only at H);subst hr;cases f1;exact ⟨_,_,rfl,⟨rfl,rfl⟩,(H.sel [] rfl).close trivial⟩
theorem DA_ {c_:List Int}{c_h:Hd}{v_ w_:Int}{y:List Int} (hF:yK c_ v_ w_=some y) :
  dA Tryz.prog 152 #[(c_h).v,(vi v_),(vi w_)] [] [E (List Int) c_ c_h] (fun v Γ'=>v=(.tuple #[])∧Γ'=[E (List Int) y c_h]):=by
 refine Ze (args:=[_,_,_]) gok Tryz.func152 rfl _ rfl rfl rfl fun w0 S0 fp0 H=>vA hF sU H ⟨Vw.own 0 rfl,trivial⟩ fun y2 hF3 w4 H=>vA hF3 sU H ⟨Vw.own 0 rfl,trivial⟩ fun y5 hF6 w7 H=>bO hF6 fun a8 e hF9=>max_ e (bO hF9 fun a0 e f0=>min_ e (bO f0 fun a1 i0 f1=>Zy ((H.ro (α:=List Int) 0 rfl).setp i0) fun p0 m0 c0 c1 c2=>fA c0 c1 c2 (jC (α:=Int) H c0 c1 i0 fun w1 H=>?_)));cases f1;exact ⟨_,_,rfl,⟨rfl,rfl⟩,(H.sel [0] rfl).close ⟨cloE,trivial⟩⟩
theorem Dh_ {g__0:Int}{g__1:List Ty0}{g__1h:Hd}{g__2:List Int}{g__2h:Hd}{g__3:List Int}{g__3h:Hd}{y0:List Int}{y1:Int} (hF:fU (g__0,g__1,g__2,g__3)=some (y0,y1)) :
  dA Tryz.prog 135 #[(.agg #[(vi g__0),(g__1h).v,(g__2h).v,(g__3h).v])] [Es (List Ty0) g__1 g__1h,Es (List Int) g__2 g__2h,Es (List Int) g__3 g__3h] [] (fun v Γ'=>∃ z0:Hd,v=(.tuple #[(z0).v,(vi y1)])∧Γ'=[E (List Int) y0 z0]):=by
 refine Ze (args:=[_]) gok Tryz.func135 rfl _ rfl rfl rfl fun w0 S0 fp0 H=>cB H fun b5 w4 hx H=>fld gok rfl rfl rfl rfl (aA (H.bx 0 rfl (j:=0) rfl) (qC hF EW_ H trivial fun y7 hF8 h0 w9 H=>sq (fld gok rfl rfl rfl rfl (aA (H.bx 1 rfl (j:=1) rfl) (eA (H.rs (α:=List Ty0) 2 rfl).len (have x0:=(H.rs (α:=List Ty0) 2 rfl).max;bO hF8 fun r0 e f0=>wA _ g__1.length (fun (k0:Nat) (s0:List Int) (_:Unit)=>[(1,(vp b5)),(4,(h0).v),(18,(g__1h).v),(19,(vi ((g__1.length:Nat):Int))),(20,(vi ((k0:Nat):Int)))]) (fun _ (s0:List Int) (_:Unit) w'=>Cx w0 fp0 S0 w' [Bx b5 [(vi g__0),(g__1h).v,(g__2h).v,(g__3h).v],Es (List Ty0) g__1 g__1h,Es (List Int) g__2 g__2h,Es (List Int) g__3 g__3h,E (List Int) s0 h0]) y7 () e r5_ (H.sel [1,2,3,4,0] rfl) ?_ ?_))))));rintro T0 k0 s0 _ w1 o0 hk H f1;refine bA (z:=true) (sA hk) (sq (sq ?_));refine bO f1 fun a0 e f2=>Zz (H.el (α:=Ty0) 1 rfl e) fun p0 m0 g0 c0 c1 c2 c3 H=>?_;obtain ⟨a0_0,a0_1,a0_2,a0_3⟩:=a0;obtain ⟨_,_,h1,h2⟩:=g0;refine have H:=((H.part (β:=List Int) a0_2 (h1:Hd) 0 rfl (fun S h=>(And.left (And.right (And.right h))))).part (β:=List Int) a0_3 (h2:Hd) 1 rfl (fun S h=>(And.right (And.right (And.right h))))).sel [0,1,3,4,5,6,7] rfl;fA c0 c1 c2 (iC [(vi a0_0),(vi a0_1),(h1).v,(h2).v] rfl c3 (dB gok rfl H fun b0 w2 hx H=>stA gok _ rfl H rfl rfl rfl fun w3 H=>fld gok rfl rfl rfl rfl (aA (H.bx 0 rfl (j:=2) rfl) (fld gok rfl rfl rfl rfl (aA (H.bx 0 rfl (j:=3) rfl) (cA (α:=Sh (List Int)) (us:=[(h1).v,(h2).v]) (xs:=[a0_2,a0_3]) (gs:=([h1,h2]:List Hd)) gok rfl rfl rfl ⟨rfl,rfl,trivial⟩ rfl rfl ((H.dup 1 rfl lA).dup 3 rfl lA) fun h3 w5 hx H=>bO f2 fun y2 i0 f3=>callF0_ (@rH [a0_2,a0_3] h3 y2 i0) H ⟨Vw.part (β:=List (List Int)) (Vw.own (α:=List (Sh (List Int))) 0 rfl) [a0_2,a0_3] h3 (fun S h=>h),trivial⟩ ?_))))));rintro _ _ w6 ⟨h4,rfl,rfl⟩ H;refine eA (H.ro (α:=List Int) 0 rfl).len (have x1:=(H.ro (α:=List Int) 0 rfl).max;bO f3 fun r1 e f4=>wA _ y2.length (fun (k1:Nat) (s1:List Int) (_:Unit)=>[(1,(vp b5)),(4,(h0).v),(7,(h4).v),(18,(g__1h).v),(19,(vi ((g__1.length:Nat):Int))),(20,(vi ((k0:Nat):Int))),(30,(h4).v),(31,(vi ((y2.length:Nat):Int))),(32,(vi ((k1:Nat):Int)))]) (fun _ (s1:List Int) (_:Unit) w'=>Cx w0 fp0 S0 w' [Bx b5 [(vi g__0),(g__1h).v,(g__2h).v,(g__3h).v],Es (List Ty0) g__1 g__1h,Es (List Int) g__2 g__2h,Es (List Int) g__3 g__3h,E (List Int) s1 h0,E (List Int) y2 h4]) s0 () e r9_ (H.sel [5,6,7,8,9,0] rfl) ?_ ?_);rintro T1 k1 s1 _ w7 o1 hk H f5;refine bA (z:=true) (sA hk) (sq (sq ?_))
 refine Zi f5 (H.ro (α:=List Int) 5 rfl) fun a1 p1 m1 c7 f6=>aA c7 (Zi f6 (H.ro (α:=List Int) 5 rfl) fun a2 p2 m2 c11 f7=>aA c11 (bO f7 fun y3 i1 f8=>have H:=H.sel [4,0,1,2,3,5] rfl;Zd0 (DA_ i1) (Γi:=[E (List Int) s1 h0]) H trivial fun w8 H=>arK hk x1 ?_));obtain rfl:=oi_ f8;exact ⟨(),r9_,H.sel [1,2,3,4,0,5] rfl⟩;rintro T2 _ w10 H;refine bA (z:=false) tA (sq (arK hk x0 ?_));obtain rfl:=oi_ f4;exact ⟨(),r5_,H.sel [0,1,2,3,4] rfl⟩;rintro T3 _ w11 H;refine bA (z:=false) tA (sq (fld gok rfl rfl rfl rfl (aA (H.bx 0 rfl (j:=0) rfl) (qC f0 gL H trivial fun y4 f9 h5 w12 H=>sq (eA (H.ro (α:=List Int) 0 rfl).len (have x2:=(H.ro (α:=List Int) 0 rfl).max;bO f9 fun r2 e f10=>wA _ y4.length (fun (k2:Nat) (s2:List Int×Int) (_:Unit)=>[(4,(h0).v),(10,(h5).v),(11,(vi s2.2)),(48,(vi ((y4.length:Nat):Int))),(49,(vi ((k2:Nat):Int)))]) (fun _ (s2:List Int×Int) (_:Unit) w'=>Cx w0 fp0 S0 w' [E (List Int) r0 h0,E (List Int) s2.1 h5]) (y4,0) () e r5_ (H.sel [5,0] rfl) ?_ ?_))))));rintro T4 k2 ⟨s2_0,s2_1⟩ _ w13 o2 hk H f11;(try dsimp only at H);refine bA (z:=true) (sA hk) (sq (bO f11 fun r3 f12 f13=>cut (fun (q0:List Int×Int)=>[(4,(h0).v),(10,(h5).v),(11,(vi q0.2)),(48,(vi ((y4.length:Nat):Int))),(49,(vi ((k2:Nat):Int)))]) (fun (q0:List Int×Int) w'=>(q0.1,q0.2)=r3∧Cx w0 fp0 S0 w' [E (List Int) r0 h0,E (List Int) q0.1 h5]) ?_ ?_));refine sq (bO f12 fun y5 i3 f14=>uB (@sU r0 h0 ((k2:Nat):Int) y5 i3) (Γi:=[]) H ⟨Vw.own 0 rfl,trivial⟩ ?_);rintro _ _ w14 ⟨rfl,rfl⟩ H;refine boolB_ f14 (fun f16=>?_) fun f19=>?_;exact bO f16 fun a4 i4 f17=>Zy ((H.ro (α:=List Int) 1 rfl).setp i4) fun p3 m3 c12 c13 c14=>fA c12 c13 c14 (jC (α:=Int) (H.sel [1,0] rfl) c12 c13 i4 fun w15 H=>bO f17 fun a5 e f18=>arO e ⟨(a4,a5),r5_,oi_ f18,H.sel [1,0] rfl⟩);exact Zi f19 (H.ro (α:=List Int) 1 rfl) fun a6 p4 m4 c18 f20=>aA c18 (bO f20 fun a7 i5 f21=>Zy ((H.ro (α:=List Int) 1 rfl).setp i5) fun p5 m5 c19 c20 c21=>fA c19 c20 c21 (jC (α:=Int) (H.sel [1,0] rfl) c19 c20 i5 fun w16 H=>⟨(a7,s2_1),r5_,oi_ f21,H.sel [1,0] rfl⟩));rintro T5 ⟨s3_0,s3_1⟩ w17 ⟨hr,H⟩;(try dsimp only at H);subst hr;refine arK hk x2 ?_;obtain rfl:=oi_ f13;exact ⟨(),r5_,H.sel [0,1] rfl⟩;obtain ⟨s4_0,s4_1⟩:=r2;rintro T6 _ w18 H;refine bA (z:=false) tA (sq ?_);cases f10;exact ⟨_,_,rfl,⟨h5,rfl,rfl⟩,(H.sel [1] rfl).close ⟨cloE,trivial⟩⟩
theorem Dd_ {g__0:Int}{g__1:List Ty0}{g__1h:Hd}{g__2:List Int}{g__2h:Hd}{g__3:List Int}{g__3h:Hd}{open_b:Nat}{open__0_0:Int}{open__0_1:List Ty0}{open__0_1h:Hd}{open__0_2:List Int}{open__0_2h:Hd}{open__0_3:List Int}{open__0_3h:Hd}{open__1_0:List Int}{open__1_0h:Hd}{open__1_1:List Int}{open__1_1h:Hd}{open__2:MI}{open__2h:Mh}{open__3:MI}{open__3h:Mh}{open__4:List Int}{open__4h:Hd}{open__5:List Int}{open__5h:Hd}{y:List Int} (hF:dU (g__0,g__1,g__2,g__3) ((open__0_0,open__0_1,open__0_2,open__0_3),(open__1_0,open__1_1),open__2,open__3,open__4,open__5)=some y) :
  dA Tryz.prog 115 #[(.agg #[(vi g__0),(g__1h).v,(g__2h).v,(g__3h).v]),(vp open_b)] [Es (List Ty0) g__1 g__1h,Es (List Int) g__2 g__2h,Es (List Int) g__3 g__3h,Es (List Ty0) open__0_1 open__0_1h,Es (List Int) open__0_2 open__0_2h,Es (List Int) open__0_3 open__0_3h,Es (List Int) open__1_0 open__1_0h,Es (List Int) open__1_1 open__1_1h,Es MI open__2 open__2h,Es MI open__3 open__3h,Es (List Int) open__4 open__4h,Es (List Int) open__5 open__5h] [Bx open_b [(vi open__0_0),(open__0_1h).v,(open__0_2h).v,(open__0_3h).v,(open__1_0h).v,(open__1_1h).v,(open__2h).v,(open__3h).v,(open__4h).v,(open__5h).v]] (fun v Γ'=>∃ z0:Hd,v=(z0).v∧Γ'=[Bx open_b [(vi open__0_0),(open__0_1h).v,(open__0_2h).v,(open__0_3h).v,(open__1_0h).v,(open__1_1h).v,(open__2h).v,(open__3h).v,(open__4h).v,(open__5h).v],E (List Int) y z0]):=by
 intro w0 S0 fp0 hI hS
 have H:Cx w0 fp0 S0 w0 [Es (List Ty0) g__1 g__1h,Es (List Int) g__2 g__2h,Es (List Int) g__3 g__3h,Es (List Ty0) open__0_1 open__0_1h,Es (List Int) open__0_2 open__0_2h,Es (List Int) open__0_3 open__0_3h,Es (List Int) open__1_0 open__1_0h,Es (List Int) open__1_1 open__1_1h,Es MI open__2 open__2h,Es MI open__3 open__3h,Es (List Int) open__4 open__4h,Es (List Int) open__5 open__5h,Bx open_b [(vi open__0_0),(open__0_1h).v,(open__0_2h).v,(open__0_3h).v,(open__1_0h).v,(open__1_1h).v,(open__2h).v,(open__3h).v,(open__4h).v,(open__5h).v]]:=Cx.start hI hS
 clear hI hS
 refine fJ (args:=[_,_]) gok Tryz.func115 rfl _ rfl rfl rfl ?_
 refine cB H ?_;clear H;intro b5 w4 hx H
 clear hx
 replace H:Cx w0 fp0 S0 w4 [Bx b5 [(vi g__0),(g__1h).v,(g__2h).v,(g__3h).v],Bx open_b [(vi open__0_0),(open__0_1h).v,(open__0_2h).v,(open__0_3h).v,(open__1_0h).v,(open__1_1h).v,(open__2h).v,(open__3h).v,(open__4h).v,(open__5h).v],Es (List Ty0) g__1 g__1h,Es (List Int) g__2 g__2h,Es (List Int) g__3 g__3h,Es MI open__2 open__2h]:=H.sel [0,13,1,2,3,9] rfl
 refine iC [(vi g__0),(g__1h).v,(g__2h).v,(g__3h).v] rfl (H.bz_ 0 rfl) ?_
 obtain ⟨y7,e,hF8⟩:=iB hF;clear hF
 obtain ⟨y7,y0⟩:=y7
 have ey7:=e;clear e
 refine callF0_ (Dh_ ey7) H ⟨Vw.sh 2 rfl,Vw.sh 3 rfl,Vw.sh 4 rfl,trivial⟩ ?_;clear H ey7
 rintro _ _ w9 ⟨h0,rfl,rfl⟩ H
 refine mkML H ?_;clear H;intro bm w1 hx H
 clear hx
 refine sq ?_
 refine fld gok rfl rfl rfl rfl ?_
 refine aA (H.bx 2 rfl (j:=1) rfl) ?_
 refine eA (H.rs (α:=List Ty0) 4 rfl).len ?_
 have x0:=(H.rs (α:=List Ty0) 4 rfl).max
 obtain ⟨r0,e,f0⟩:=iB hF8;clear hF8
 obtain ⟨hc,hy⟩:=FV_ f0;clear f0
 have hc:(decide (g__1.length≤aB)&&open__2.kvs.all (fun p=>(idxO y7 p.1).isSome)&&r0.all (fun c=>open__2.kvs.any fun p=>decide (idxO y7 p.1=some c)))=true:=hc
 rw [Bool.and_eq_true,Bool.and_eq_true,decide_eq_true_eq] at hc
 obtain ⟨⟨hmxN,hall⟩,hany⟩:=hc
 refine wA _ g__1.length (fun (k0:Nat) (s:List Int) (_:List Int)=>[(1,(vp open_b)),(2,(vp b5)),(5,(h0).v),(7,(.map (some bm))),(22,(g__1h).v),(23,(vi ((g__1.length:Nat):Int))),(24,(vi ((k0:Nat):Int)))]) (fun k0 (s:List Int) (ks:List Int) w'=>(∀ c∈ks,c∈s)∧Cx w0 fp0 S0 w' [EML bm ks k0 none,E (List Int) y7 h0,Bx b5 [(vi g__0),(g__1h).v,(g__2h).v,(g__3h).v],Bx open_b [(vi open__0_0),(open__0_1h).v,(open__0_2h).v,(open__0_3h).v,(open__1_0h).v,(open__1_1h).v,(open__2h).v,(open__3h).v,(open__4h).v,(open__5h).v],Es (List Ty0) g__1 g__1h,Es (List Int) g__2 g__2h,Es (List Int) g__3 g__3h,Es MI open__2 open__2h]) [] [] e r7_ ⟨fun _ h=>h,H⟩ ?_ ?_
 ·
  clear H e
  rintro T0 k0 s0 ks w2 o0 hk ⟨hks,(H:Cx w0 fp0 S0 w2 [EML bm ks k0 none,E (List Int) y7 h0,Bx b5 [(vi g__0),(g__1h).v,(g__2h).v,(g__3h).v],Bx open_b [(vi open__0_0),(open__0_1h).v,(open__0_2h).v,(open__0_3h).v,(open__1_0h).v,(open__1_1h).v,(open__2h).v,(open__3h).v,(open__4h).v,(open__5h).v],Es (List Ty0) g__1 g__1h,Es (List Int) g__2 g__2h,Es (List Int) g__3 g__3h,Es MI open__2 open__2h])⟩ f1
  refine bA (z:=true) (sA hk) ?_
  refine sq ?_
  refine sq ?_
  obtain ⟨a0,e,f2⟩:=iB f1;clear f1
  have HH:=H;clear H;obtain ⟨p0,m0,g0,c0,c1,c2,c3,H⟩:=HH.el (α:=Ty0) 4 rfl e;clear HH
  clear e
  obtain ⟨a0_0,a0_1,a0_2,a0_3⟩:=a0
  obtain ⟨_,_,h3,h4⟩:=g0
  replace H:=H.part (β:=List Int) a0_2 (h3:Hd) 0 rfl (fun S h=>(And.left (And.right (And.right h))))
  replace H:=H.part (β:=List Int) a0_3 (h4:Hd) 1 rfl (fun S h=>(And.right (And.right (And.right h))))
  replace H:=H.sel [0,1,3,4,5,6,7,8,9,10] rfl
  refine fA c0 c1 c2 ?_;clear c0 c1 c2
  refine iC [(vi a0_0),(vi a0_1),(h3).v,(h4).v] rfl c3 ?_;clear c3
  refine dB gok rfl H ?_;clear H;intro b0 w3 hx H
  clear hx
  refine stA gok [(vi a0_0),(vi a0_1),(h3).v,(h4).v] rfl H rfl rfl rfl ?_;clear H;intro w5 H
  refine fld gok rfl rfl rfl rfl ?_
  refine aA (H.bx 0 rfl (j:=2) rfl) ?_
  refine fld gok rfl rfl rfl rfl ?_
  refine aA (H.bx 0 rfl (j:=3) rfl) ?_
  replace H:=H.dup 1 rfl lA
  replace H:=H.dup 3 rfl lA
  refine cA (α:=Sh (List Int)) (us:=[(h3).v,(h4).v]) (xs:=[a0_2,a0_3]) (gs:=([h3,h4]:List Hd)) gok rfl rfl rfl ⟨rfl,rfl,trivial⟩ rfl rfl H ?_;clear H;intro h5 w6 hx H
  clear hx
  obtain ⟨y1,e,f3⟩:=iB f2;clear f2
  have i0:=e;clear e
  refine callF0_ (@rH [a0_2,a0_3] h5 y1 i0) H ⟨Vw.part (β:=List (List Int)) (Vw.own (α:=List (Sh (List Int))) 0 rfl) [a0_2,a0_3] h5 (fun S h=>h),trivial⟩ ?_;clear H i0
  rintro _ _ w7 ⟨h6,rfl,rfl⟩ H
  obtain ⟨a1,e,f4⟩:=iB f3;clear f3
  obtain ⟨p1,m1,c4,c5,c6,c7⟩:=(H.ro (α:=List Int) 0 rfl).at1 e;clear e
  refine fA c4 c5 c6 ?_;clear c4 c5 c6
  refine aA c7 ?_;clear c7
  obtain ⟨a2,e,f5⟩:=iB f4;clear f4
  obtain ⟨p2,m2,c8,c9,c10,c11⟩:=(H.ro (α:=List Int) 6 rfl).at1 e;clear e
  refine fA c8 c9 c10 ?_;clear c8 c9 c10
  refine aA c11 ?_;clear c11
  replace H:Cx w0 fp0 S0 w7 [EML bm ks k0 none,E (List Int) y7 h0,Bx b5 [(vi g__0),(g__1h).v,(g__2h).v,(g__3h).v],Bx open_b [(vi open__0_0),(open__0_1h).v,(open__0_2h).v,(open__0_3h).v,(open__1_0h).v,(open__1_1h).v,(open__2h).v,(open__3h).v,(open__4h).v,(open__5h).v],Es (List Ty0) g__1 g__1h,Es (List Int) g__2 g__2h,Es (List Int) g__3 g__3h,Es MI open__2 open__2h]:=H.sel [5,6,7,8,9,10,11,12] rfl
  refine lookML gok Tryz.underlying157 Tryz.underlying3 rfl H ?_;clear H;intro l hl hll H
  refine zA (α:=Int) gok rfl rfl rfl rfl H ?_;clear H;intro h7 w8 hx H
  clear hx
  replace H:=H.sel [1,0,2,3,4,5,6,7,8,9] rfl
  have e:xA l [((k0:Nat):Int)]=some (l++[((k0:Nat):Int)]):=by
   unfold xA
   rw [if_pos (by simp only [List.length_cons,List.length_nil];omega)]
  refine append_ (α:=Int) gok rfl rfl rfl rfl H e ?_;clear e H;intro h8 w10 H
  refine updML (N':=k0+1) Tryz.underlying157 Tryz.underlying3 H (by simp;omega) (Nat.le_succ _) ?_;clear H;intro w12 ks' hks' H
  refine arK hk x0 ?_
  obtain rfl:=oi_ f5;clear f5
  refine ⟨ks',r7_,fun c hc=>?_,H⟩
  rcases hks' c hc with h | h
  ·
   exact List.mem_append_left _ (hks c h)
  ·
   exact List.mem_append_right _ (by rw [h];simp)
 ·
  clear H e
  rintro T1 ks w13 ⟨hks,(H:Cx w0 fp0 S0 w13 [EML bm ks g__1.length none,E (List Int) y7 h0,Bx b5 [(vi g__0),(g__1h).v,(g__2h).v,(g__3h).v],Bx open_b [(vi open__0_0),(open__0_1h).v,(open__0_2h).v,(open__0_3h).v,(open__1_0h).v,(open__1_1h).v,(open__2h).v,(open__3h).v,(open__4h).v,(open__5h).v],Es (List Ty0) g__1 g__1h,Es (List Int) g__2 g__2h,Es (List Int) g__3 g__3h,Es MI open__2 open__2h])⟩
  refine bA (z:=false) tA ?_
  refine sq ?_
  refine sq ?_
  refine fld gok rfl rfl rfl rfl ?_
  refine aA (H.bx 3 rfl (j:=6) rfl) ?_
  refine qY Tryz.underlying132 H 7 rfl ?_;clear H;intro bi w14 hx hkk H
  clear hx
  refine tY (fun (_:Unit) (_ _:Int)=>some ()) (fun _ _ _ _ _ _=>rfl) open__2.kvs hkk (fun (_:Unit) (_:List Int)=>[(1,(vp open_b)),(2,(vp b5)),(5,(h0).v),(7,(.map (some bm))),(53,(vp bi))]) (fun lf (_:Unit) (ks:List Int) w'=>((∀ p∈lf,p∈open__2.kvs)∧∀ c∈ks,∃ p∈lf,idxO y7 p.1=some c)∧Cx w0 fp0 S0 w' [EML bm ks g__1.length none,E (List Int) y7 h0,Bx b5 [(vi g__0),(g__1h).v,(g__2h).v,(g__3h).v],Bx open_b [(vi open__0_0),(open__0_1h).v,(open__0_2h).v,(open__0_3h).v,(open__1_0h).v,(open__1_1h).v,(open__2h).v,(open__3h).v,(open__4h).v,(open__5h).v],Es (List Ty0) g__1 g__1h,Es (List Int) g__2 g__2h,Es (List Int) g__3 g__3h,Es MI open__2 open__2h,It open__2h bi none lf]) () ks (BD_ _) r5_ ⟨⟨fun p hp=>hp,fun c hc=>?_⟩,H.sel [1,2,3,4,5,6,7,8,0] rfl⟩ ?_ ?_
  ·
   have:=List.all_eq_true.1 hany c (hks c hc)
   obtain ⟨p,hp,h⟩:=List.any_eq_true.1 this
   exact ⟨p,hp,of_decide_eq_true h⟩
  ·
   clear H
   rintro T2 lf _ ks w15 J0 hne ⟨⟨hlf,hkl⟩,(H:Cx w0 fp0 S0 w15 [EML bm ks g__1.length none,E (List Int) y7 h0,Bx b5 [(vi g__0),(g__1h).v,(g__2h).v,(g__3h).v],Bx open_b [(vi open__0_0),(open__0_1h).v,(open__0_2h).v,(open__0_3h).v,(open__1_0h).v,(open__1_1h).v,(open__2h).v,(open__3h).v,(open__4h).v,(open__5h).v],Es (List Ty0) g__1 g__1h,Es (List Int) g__2 g__2h,Es (List Int) g__3 g__3h,Es MI open__2 open__2h,It open__2h bi none lf])⟩ hgo
   replace H:=H.sel [8,0,1,2,3,4,5,6,7] rfl
   refine nextM H hne ?_;clear H;intro k v lf' w16 hp H
   obtain ⟨_,_,hj⟩:=hgo _ _ _ hp
   refine sq ?_
   refine zY H 0 rfl ?_
   have hmem:(k,v)∈open__2.kvs:=hlf _ (hp.mem_iff.2 (.head _))
   obtain ⟨a3,e⟩:=Option.isSome_iff_exists.1 (List.all_eq_true.1 hall _ hmem)
   have e':=e
   obtain ⟨p3,m3,c12,c13,c14,c15⟩:=(H.ro (α:=List Int) 2 rfl).at1 e
   refine fA c12 c13 c14 ?_;clear c12 c13 c14
   refine aA c15 ?_;clear c15
   replace H:=H.itEnd
   replace H:=H.sel [1,2,3,4,5,6,7,8,0] rfl
   refine delML Tryz.underlying157 Tryz.underlying3 H ?_;clear H;intro w17 ks' hks' H
   refine hj ks' _ _ r5_ ⟨⟨fun p h=>hlf p (hp.mem_iff.2 (.tail _ h)),fun c hc=>?_⟩,H⟩
   obtain ⟨h1,h2⟩:=hks' c hc
   obtain ⟨p,hp1,hp2⟩:=hkl c h1
   rcases List.mem_cons.1 (hp.mem_iff.1 hp1) with rfl | h
   ·
    rw [e'] at hp2
    exact (h2 (oi_ hp2).symm).elim
   ·
    exact ⟨p,h,hp2⟩
  ·
   clear H
   rintro T3 ks w18 ⟨⟨_,hkl⟩,(H:Cx w0 fp0 S0 w18 [EML bm ks g__1.length none,E (List Int) y7 h0,Bx b5 [(vi g__0),(g__1h).v,(g__2h).v,(g__3h).v],Bx open_b [(vi open__0_0),(open__0_1h).v,(open__0_2h).v,(open__0_3h).v,(open__1_0h).v,(open__1_1h).v,(open__2h).v,(open__3h).v,(open__4h).v,(open__5h).v],Es (List Ty0) g__1 g__1h,Es (List Int) g__2 g__2h,Es (List Int) g__3 g__3h,Es MI open__2 open__2h,It open__2h bi none []])⟩
   obtain rfl:ks=[]:=by
    cases ks with
    | nil=>rfl
    | cons c ks=>obtain ⟨p,hp,_⟩:=hkl c (.head _);cases hp
   replace H:=H.sel [8,0,1,2,3,4,5,6,7] rfl
   refine nextN H ?_
   refine sq ?_
   refine uG (α:=Int) gok rfl rfl H ?_;clear H;intro h9 w19 hx H
   clear hx
   replace H:=H.sel [2,0,5] rfl
   refine sq ?_
   refine rangeML Tryz.underlying157 H ?_;clear H;intro r1 w20 H
   refine loop (σ:=Unit) (fun _=>[(12,(h9).v),(65,(vp r1))]) (fun _ w'=>Cx w0 fp0 S0 w' [EIt bm r1,E (List Int) [] h9,Bx open_b [(vi open__0_0),(open__0_1h).v,(open__0_2h).v,(open__0_3h).v,(open__1_0h).v,(open__1_1h).v,(open__2h).v,(open__3h).v,(open__4h).v,(open__5h).v]]) (fun _=>0) () ⟨rfl,rfl,trivial⟩ H ?_
   clear H
   rintro T4 _ w21 (H:Cx w0 fp0 S0 w21 [EIt bm r1,E (List Int) [] h9,Bx open_b [(vi open__0_0),(open__0_1h).v,(open__0_2h).v,(open__0_3h).v,(open__1_0h).v,(open__1_1h).v,(open__2h).v,(open__3h).v,(open__4h).v,(open__5h).v]])
   refine nextML H ?_
   refine sq ?_
   have hn:=(H.ro (α:=List Int) 1 rfl).len
   refine callF0_ (E2_ h9 _ hn) H trivial ?_;clear H
   rintro _ _ w22 ⟨rfl,rfl⟩ H
   cases hy
   exact ⟨_,_,rfl,⟨h9,rfl,rfl⟩,(H.sel [2,1] rfl).close ⟨cloB,cloE,trivial⟩⟩
end Go.Proofs.YtngbmcbigcaapaaGreatDoor
