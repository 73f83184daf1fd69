/-
 Contracts, printed by a program (wip/y/gen.py): each function of Go computes its partial function. Condition of each: its partial function yields a value.
-/
import Derived.Test.YtlggnmkelgplnaaGreatDoorZCall5
namespace Go.Proofs.YtlggnmkelgplnaaGreatDoor
open Go Go.Proofs.YtlggnmkelgplnaaGreatDoor.RW
set_option maxRecDepth 100000
set_option maxHeartbeats 2000000
set_option linter.unusedVariables false
theorem qS {r__0 r__1:Int}{r__2:List (List Int)}{r__2h:Hd}{d0__0 d0__1:Int}{d0__2:List (List Int)}{d0__2h:Hd}{y:List (List Int)} (hF:rS (r__0,r__1,r__2) (d0__0,d0__1,d0__2)=some y) :
  bF Tryz.prog 86 #[(.agg #[(vi r__0),(vi r__1),(r__2h).v]),(.func (.func 40) #[(.agg #[(vi d0__0),(vi d0__1),(d0__2h).v])] #[])] [Es (List (List Int)) r__2 r__2h,Es (List (List Int)) d0__2 d0__2h] [] (fun v Γ'=>∃ z0:Hd,v=(z0).v∧Γ'=[E (List (Sh (List Int))) y z0]):=by
 intro w0 S0 fp0 hI hS
 have H:=Cx.start hI hS;dsimp at H
 refine iA (args:=[_,_]) gok Tryz.func86 rfl _ rfl rfl rfl ?_
 refine xA H ?_;intro b4 w3 hx H
 refine wF (α:=List Int) gok rfl rfl H ?_;intro h7 w6 hx H
 refine sq ?_
 refine fld gok rfl rfl rfl rfl (bA (H.bx 1 rfl (j:=2) rfl) ?_)
 refine nA (H.rs (α:=List (List Int)) 2 rfl).len ?_
 have x0:=(H.rs (α:=List (List Int)) 2 rfl).max
 obtain ⟨r0,e,f0⟩:=aA hF
 replace H:=H.frzE (α:=List Int)
 refine nB _ r__2.length (fun (k9:Nat) (s0:List (List Int)) (g0:Hd)=>[(1,(.func (.func 40) #[(.agg #[(vi d0__0),(vi d0__1),(d0__2h).v])] #[])),(5,(g0).v),(10,(r__2h).v),(11,(vi ((r__2.length:Nat):Int))),(12,(vi ((k9:Nat):Int)))]) (fun _ (s0:List (List Int)) (g0:Hd) w'=>Cx w0 fp0 S0 w' [Es (List (List Int)) d0__2 d0__2h,E (List (Sh (List Int))) s0 g0,Es (List (List Int)) r__2 r__2h]) ([]:List (List Int)) h7 e r5_ (H.sel [3,0,2] rfl) ?_ ?_
 rintro T0 k9 s0 g0 w1 o0 hk (H:Cx w0 fp0 S0 w1 [Es (List (List Int)) d0__2 d0__2h,E (List (Sh (List Int))) s0 g0,Es (List (List Int)) r__2 r__2h]) f1
 refine jA (z:=true) (cB hk) ?_
 refine sq (sq ?_)
 obtain ⟨a0,e,f2⟩:=aA f1
 have HH:=H;obtain ⟨p0,m0,h0,c0,c1,c2,c3,H⟩:=HH.elL 2 rfl e
 refine dA c0 c1 c2 ?_
 refine bA c3 ?_
 obtain ⟨y0,i0,f3⟩:=aA f2
 refine qE (gN i0) (Γi:=[]) H [1,0] rfl (yA uA (yA uA xB)) ?_
 rintro _ _ w2 ⟨h1,rfl,rfl⟩ H
 replace H:=H.dup 0 rfl uA
 refine pC (α:=Sh (List Int)) (g:=h1) gok rfl rfl rfl rfl rfl H ?_;intro h2 w4 hx H
 obtain ⟨a1,e,f4⟩:=aA f3
 refine append_ (α:=Sh (List Int)) gok rfl rfl rfl rfl (H.sel [4,0,1,2,3,5] rfl) e ?_;intro h3 w5 H
 refine arK hk x0 ?_
 obtain rfl:=oi_ f4
 exact ⟨h3,r5_,H.sel [3,0,4] rfl⟩
 rintro T1 g1 w7 H;try dsimp only at H
 refine jA (z:=false) dB ?_
 refine sq ?_
 cases f0
 exact ⟨_,_,rfl,⟨g1,rfl,rfl⟩,(H.sel [1] rfl)⟩
theorem F9_ {p_ a__0 a__1:Int}{a__2:List (List Int)}{a__2h:Hd}{b__0 b__1:Int}{b__2:List (List Int)}{b__2h:Hd}{y_0 y_1:Int}{y_2:List (List Int)} (hF:tP p_ (a__0,a__1,a__2) (b__0,b__1,b__2)=some (y_0,y_1,y_2)) :
  kA Tryz.prog 69 #[(vi p_),(.agg #[(vi a__0),(vi a__1),(a__2h).v]),(.agg #[(vi b__0),(vi b__1),(b__2h).v])] [Es (List (List Int)) a__2 a__2h,Es (List (List Int)) b__2 b__2h] [] (fun v Γ'=>∃ z0:Hd,v=(.agg #[(vi y_0),(vi y_1),(z0).v])∧Γ'=[E (List (List Int)) y_2 z0]):=by
 intro w0 S0 fp0 hI hS
 have H:=Cx.start hI hS;dsimp at H
 refine iA (args:=[_,_,_]) gok Tryz.func69 rfl _ rfl rfl rfl ?_
 refine xA H ?_;intro b4 w3 hx H
 refine xA H ?_;intro b7 w6 hx H
 refine sA gok rfl H ?_;intro b0 w9 hx H
 refine cA [(vi a__0),(vi a__1),(a__2h).v] rfl (H.bz_ 2 rfl) ?_
 refine cA [(vi a__0),(vi a__1),(a__2h).v] rfl (H.bz_ 2 rfl) ?_
 obtain ⟨y0,i0,f0⟩:=aA hF
 refine qE (oS i0) (Γi:=[]) H [3,3] rfl (yA uA (yA uA xB)) ?_
 rintro _ _ w1 ⟨h0,rfl,rfl⟩ H
 refine sq ?_
 refine cA [(vi b__0),(vi b__1),(b__2h).v] rfl (H.bz_ 2 rfl) ?_
 refine cA [(vi b__0),(vi b__1),(b__2h).v] rfl (H.bz_ 2 rfl) ?_
 obtain ⟨y1,i1,f1⟩:=aA f0
 refine qE (qS i1) (Γi:=[]) H [5,5] rfl (yA uA (yA uA xB)) ?_
 rintro _ _ w2 ⟨h1,rfl,rfl⟩ H
 refine nA (Rdb.len (α:=Sh (List Int)) (H.ro (α:=List (Sh (List Int))) 0 rfl)) ?_
 have x0:=(Rdb.max (α:=Sh (List Int)) (H.ro (α:=List (Sh (List Int))) 0 rfl))
 obtain ⟨r0,e,f2⟩:=aA f1
 refine nB _ y1.length (fun (k0:Nat) (s0:List (List Int)) (g0:Hd)=>[(0,(vi p_)),(4,(vp b4)),(5,(vp b7)),(6,(vp b0)),(7,(g0).v),(25,(h1).v),(26,(vi ((y1.length:Nat):Int))),(27,(vi ((k0:Nat):Int)))]) (fun _ (s0:List (List Int)) (g0:Hd) w'=>Cx w0 fp0 S0 w' [Bx b4 [(vi a__0),(vi a__1),(a__2h).v],Es (List (List Int)) a__2 a__2h,Bx b7 [(vi b__0),(vi b__1),(b__2h).v],Es (List (List Int)) b__2 b__2h,Bx b0 [(vi 0),(vi 0),vn],E (List (Sh (List Int))) s0 g0,E (List (Sh (List Int))) y1 h1]) y0 h0 e r8_ (H.sel [4,5,3,6,2,1,0] rfl) ?_ ?_
 rintro T0 k0 s0 g0 w4 o0 hk (H:Cx w0 fp0 S0 w4 [Bx b4 [(vi a__0),(vi a__1),(a__2h).v],Es (List (List Int)) a__2 a__2h,Bx b7 [(vi b__0),(vi b__1),(b__2h).v],Es (List (List Int)) b__2 b__2h,Bx b0 [(vi 0),(vi 0),vn],E (List (Sh (List Int))) s0 g0,E (List (Sh (List Int))) y1 h1]) f3
 refine jA (z:=true) (cB hk) ?_
 refine sq (sq ?_)
 obtain ⟨a0,e,f4⟩:=aA f3
 have HH:=H;obtain ⟨p0,m0,h2,c0,c1,c2,c3,H⟩:=HH.exL 6 rfl e
 refine dA c0 c1 c2 ?_
 refine bA c3 ?_
 refine nA (H.rs (α:=List Int) 0 rfl).len ?_
 obtain ⟨y2,i2,f5⟩:=aA f4
 refine gC (@sJ ((a0.length:Nat):Int) y2 i2) (Γi:=[]) H trivial ?_
 rintro _ _ w5 ⟨h3,rfl,rfl⟩ H
 obtain ⟨y3,i3,f6⟩:=aA f5
 refine gC (@jT p_ y2 h3 (-1) a0 h2 y3 i3) (Γi:=[E (List Int) y2 h3]) H ⟨Vw.sh 0 rfl,trivial⟩ ?_
 rintro _ _ w7 ⟨rfl,rfl⟩ H
 refine pC (α:=List Int) (g:=h3) gok rfl rfl rfl rfl rfl H ?_;intro h4 w8 hx H
 obtain ⟨a1,e,f7⟩:=aA f6
 replace H:=H.frzE (α:=List Int)
 refine append_ (α:=Sh (List Int)) gok rfl rfl rfl rfl (H.sel [7,0,1,2,3,4,5,6,8] rfl) e ?_;intro h5 w10 H
 refine arK hk x0 ?_
 obtain rfl:=oi_ f7
 exact ⟨h5,r8_,H.sel [2,3,4,5,6,0,7] rfl⟩
 rintro T1 g1 w11 H;try dsimp only at H
 refine jA (z:=false) dB ?_
 refine sq ?_
 obtain ⟨r1,f8,f9⟩:=aA f2
 refine sH H [] (.fst 0 (.fst 1 (.fst 4 (.fst 5 (.alts (.alt 2 (.alts (.alt 3 (.act 6 (.act 7 (.fst 8 (.fst 9 .done)))) (.alt 6 (.act 3 (.act 7 (.fst 8 (.fst 9 .done)))) .no))) (.alt 6 (.act 2 (.act 3 (.act 7 (.fst 8 (.fst 9 .done))))) .no))))))) bB [] trivial (by kernel_rfl) (fun (q0:(List (List Int)×List (List Int))×(Hd×Hd))=>[(0,(vi p_)),(4,(vp b4)),(5,(vp b7)),(6,(vp b0)),(7,(g1).v),(11,(q0.2.1).v),(12,(q0.2.2).v)]) (fun (q0:(List (List Int)×List (List Int))×(Hd×Hd)) w'=>(q0.1.1,q0.1.2)=r1∧Cx w0 fp0 S0 w' [Bx b4 [(vi a__0),(vi a__1),(a__2h).v],Es (List (List Int)) a__2 a__2h,Bx b7 [(vi b__0),(vi b__1),(b__2h).v],Es (List (List Int)) b__2 b__2h,Bx b0 [(vi 0),(vi 0),vn],E (List (Sh (List Int))) r0 g1,E (List (Sh (List Int))) q0.1.1 q0.2.1,E (List (Sh (List Int))) q0.1.2 q0.2.2]) ?_ ?_
 intro w12 H
 have hX:Ext w12 w12:=Upd.refl _ _
 refine sC [(vi a__0),(vi a__1),(a__2h).v] rfl (H.bz_ 0 rfl) ?_
 refine sC [(vi a__0),(vi a__1),(a__2h).v] rfl (H.bz_ 0 rfl) ?_
 refine sC [(vi b__0),(vi b__1),(b__2h).v] rfl (H.bz_ 2 rfl) ?_
 refine sC [(vi b__0),(vi b__1),(b__2h).v] rfl (H.bz_ 2 rfl) ?_
 refine both ?_ ?_
 refine hold hX ?_
 refine both ?_ ?_
 obtain ⟨y4,i4,f10⟩:=aA f8
 refine xC (qS i4) H [1,1] rfl (yA uA (yA uA xB)) ?_
 rintro _ _ w13 ⟨h6,rfl,rfl⟩ hx H
 refine hold_ hX hx fun hX=>?_
 refine hold hX ?_
 obtain ⟨y5,i5,f11⟩:=aA f10
 refine xC (oS i5) H [4,4] rfl (yA uA (yA uA xB)) ?_
 rintro _ _ w15 ⟨h7,rfl,rfl⟩ hx H
 refine hold_ hX hx fun hX=>?_
 exact ⟨((y4,y5),(h6,h7)),r7_,oi_ f11,H.sel [2,3,4,5,6,7,1,0] rfl⟩
 refine both ?_ ?_
 obtain ⟨a2,o1,f12⟩:=aA f8
 obtain ⟨a3,o2,f13⟩:=aA f12
 refine hold hX ?_
 have i6:=o1
 refine xC (qS i6) H [1,1] rfl (yA uA (yA uA xB)) ?_
 rintro _ _ w16 ⟨h8,rfl,rfl⟩ hx H
 refine hold_ hX hx fun hX=>?_
 have i7:=o2
 refine xC (oS i7) H [4,4] rfl (yA uA (yA uA xB)) ?_
 rintro _ _ w17 ⟨h9,rfl,rfl⟩ hx H
 refine hold_ hX hx fun hX=>?_
 exact ⟨((a2,a3),(h8,h9)),r7_,oi_ f13,H.sel [2,3,4,5,6,7,1,0] rfl⟩
 exact trivial
 refine both ?_ ?_
 obtain ⟨a4,o3,f14⟩:=aA f8
 obtain ⟨a5,o4,f15⟩:=aA f14
 refine hold hX ?_
 refine hold hX ?_
 have i8:=o3
 refine xC (qS i8) H [1,1] rfl (yA uA (yA uA xB)) ?_
 rintro _ _ w18 ⟨h10,rfl,rfl⟩ hx H
 refine hold_ hX hx fun hX=>?_
 have i9:=o4
 refine xC (oS i9) H [4,4] rfl (yA uA (yA uA xB)) ?_
 rintro _ _ w20 ⟨h11,rfl,rfl⟩ hx H
 refine hold_ hX hx fun hX=>?_
 exact ⟨((a4,a5),(h10,h11)),r7_,oi_ f15,H.sel [2,3,4,5,6,7,1,0] rfl⟩
 exact trivial
 rintro T2 ⟨⟨s1_0,s1_1⟩,⟨g2_0,g2_1⟩⟩ w21 ⟨hr,H⟩;try dsimp only at H
 subst hr
 refine wF (α:=List Int) gok rfl rfl H ?_;intro h12 w22 hx H
 refine sq ?_
 refine fld gok rfl rfl rfl rfl (bA (H.bx 1 rfl (j:=1) rfl) ?_)
 obtain ⟨y6,i10,f16⟩:=aA f9
 refine callF0_ (GP_ i10) H ⟨Vw.part (β:=List (List Int)) (Vw.own (α:=List (Sh (List Int))) 6 rfl) r0 g1 (fun S h=>h),trivial⟩ ?_
 rintro _ _ w23 ⟨h13,rfl,rfl⟩ H
 refine nA (H.ro (α:=List (List Int)) 0 rfl).len ?_
 replace H:=H.frz
 have x1:=(H.rs (α:=List (List Int)) 0 rfl).max
 obtain ⟨r2,e,f17⟩:=aA f16
 refine nB _ y6.length (fun (k1:Nat) (s2:List (List Int)) (g3:Hd)=>[(0,(vi p_)),(4,(vp b4)),(5,(vp b7)),(6,(vp b0)),(11,(g2_0).v),(12,(g2_1).v),(13,(g3).v),(56,(h13).v),(57,(vi ((y6.length:Nat):Int))),(58,(vi ((k1:Nat):Int)))]) (fun _ (s2:List (List Int)) (g3:Hd) w'=>Cx w0 fp0 S0 w' [Bx b4 [(vi a__0),(vi a__1),(a__2h).v],Es (List (List Int)) a__2 a__2h,Bx b7 [(vi b__0),(vi b__1),(b__2h).v],Es (List (List Int)) b__2 b__2h,Bx b0 [(vi 0),(vi 0),vn],E (List (Sh (List Int))) s1_0 g2_0,E (List (Sh (List Int))) s1_1 g2_1,E (List (List Int)) s2 g3,Es (List (List Int)) y6 h13]) ([]:List (List Int)) h12 e r10_ (H.sel [2,3,4,5,6,8,9,1,0] rfl) ?_ ?_
 rintro T3 k1 s2 g3 w24 o5 hk (H:Cx w0 fp0 S0 w24 [Bx b4 [(vi a__0),(vi a__1),(a__2h).v],Es (List (List Int)) a__2 a__2h,Bx b7 [(vi b__0),(vi b__1),(b__2h).v],Es (List (List Int)) b__2 b__2h,Bx b0 [(vi 0),(vi 0),vn],E (List (Sh (List Int))) s1_0 g2_0,E (List (Sh (List Int))) s1_1 g2_1,E (List (List Int)) s2 g3,Es (List (List Int)) y6 h13]) f18
 refine jA (z:=true) (cB hk) ?_
 refine sq (sq ?_)
 obtain ⟨a6,e,f19⟩:=aA f18
 have HH:=H;obtain ⟨p1,m1,h14,c4,c5,c6,c7,H⟩:=HH.elL 8 rfl e
 refine dA c4 c5 c6 ?_
 refine bA c7 ?_
 refine kB H [] (.fst 0 (.fst 1 (.fst 2 (.fst 3 (.fst 4 (.fst 5 (.fst 6 (.fst 7 (.act 8 (.fst 9 .done)))))))))) bB [] trivial (by kernel_rfl) ?_
 intro w25 H
 have hX:Ext w25 w25:=Upd.refl _ _
 refine nA (Rdb.len (α:=Sh (List Int)) (H.ro (α:=List (Sh (List Int))) 6 rfl)) ?_
 obtain ⟨a7,e,f20⟩:=aA f19
 refine tH (α:=Int) gok rfl rfl H 0 rfl e rfl rfl ?_;intro h16 HH;have H:=HH
 refine oA (fun _=>fld gok rfl rfl rfl rfl ⟨rfl,rfl⟩) ?_
 refine gA (H.bx 2 rfl (j:=0) rfl) ?_
 obtain ⟨y7,i11,f21⟩:=aA f20
 refine eA (Cq_ i11) H ⟨Vw.sh 0 rfl,Vw.part (β:=List (List Int)) (Vw.own (α:=List (Sh (List Int))) 7 rfl) s1_0 g2_0 (fun S h=>h),trivial⟩ ?_
 rintro _ _ w26 ⟨h17,rfl,rfl⟩ hx H
 refine hold_ hX hx fun hX=>?_
 refine kB H [] (.fst 0 (.fst 1 (.fst 2 (.fst 3 (.fst 4 (.fst 5 (.fst 6 (.fst 7 (.act 8 (.fst 9 .done)))))))))) bB [] trivial (by kernel_rfl) ?_
 intro w27 H
 have hX:Ext w27 w27:=Upd.refl _ _
 refine nA (Rdb.len (α:=Sh (List Int)) (H.ro (α:=List (Sh (List Int))) 8 rfl)) ?_
 obtain ⟨a8,e,f22⟩:=aA f21
 refine tH (α:=Int) (hi:=none) gok rfl rfl H 2 rfl e rfl (congrArg (fun n:Nat=>some (n:Int)) (H.rs (α:=List Int) 2 rfl).len) ?_;intro h18 HH;have H:=HH
 refine oA (fun _=>fld gok rfl rfl rfl rfl ⟨rfl,rfl⟩) ?_
 refine gA (H.bx 6 rfl (j:=1) rfl) ?_
 obtain ⟨y8,i12,f23⟩:=aA f22
 refine eA (Cq_ i12) H ⟨Vw.sh 0 rfl,Vw.part (β:=List (List Int)) (Vw.own (α:=List (Sh (List Int))) 10 rfl) s1_1 g2_1 (fun S h=>h),trivial⟩ ?_
 rintro _ _ w28 ⟨h19,rfl,rfl⟩ hx H
 refine hold_ hX hx fun hX=>?_
 replace H:=H.sel [2,0,1,3,4,5,6,7,8,9,10,11,12,13] rfl
 replace H:=H.frz
 replace H:=H.sel [1,0,2,3,4,5,6,7,8,9,10,11,12,13] rfl
 replace H:=H.frz
 replace H:=H.dup 0 rfl uA
 replace H:=H.dup 2 rfl uA
 refine mA (α:=Sh (List Int)) (us:=[(h17).v,(h19).v]) (xs:=[y7,y8]) (gs:=[h17,h19]) gok rfl rfl rfl ⟨rfl,rfl,trivial⟩ rfl rfl H ?_;intro h21 w29 hx H
 obtain ⟨y9,i13,f24⟩:=aA f23
 refine callF0_ (@eM [y7,y8] h21 y9 i13) H ⟨Vw.part (β:=List (List Int)) (Vw.own (α:=List (Sh (List Int))) 0 rfl) [y7,y8] h21 (fun S h=>h),trivial⟩ ?_
 rintro _ _ w30 ⟨h22,rfl,rfl⟩ H
 refine pC (α:=List Int) (g:=h22) gok rfl rfl rfl rfl rfl H ?_;intro h23 w31 hx H
 obtain ⟨a9,e,f25⟩:=aA f24
 refine append_ (α:=List Int) gok rfl rfl rfl rfl (H.sel [14,0,1,2,3,4,5,6,7,8,9,10,11,12,13,15] rfl) e ?_;intro h24 w32 H
 refine arK hk x1 ?_
 obtain rfl:=oi_ f25
 exact ⟨h24,r10_,H.sel [7,8,9,10,11,12,13,0,14] rfl⟩
 rintro T4 g4 w33 H;try dsimp only at H
 refine jA (z:=false) dB ?_
 refine sq ?_
 refine fld gok rfl rfl rfl rfl (bA (H.bx 0 rfl (j:=0) rfl) ?_)
 refine fld gok rfl rfl rfl rfl (bA (H.bx 2 rfl (j:=1) rfl) ?_)
 obtain ⟨⟨y10_0,y10_1,y10_2⟩,i14,f26⟩:=aA f17
 refine callF0_ (jN i14) H ⟨Vw.own 7 rfl,trivial⟩ ?_
 rintro _ _ w34 ⟨h25,rfl,rfl⟩ H
 refine stA gok [(vi y10_0),(vi y10_1),(h25).v] rfl (H.sel [5,0,1,2,3,4,6,7,8,9] rfl) rfl rfl rfl ?_;intro w35 H
 refine cA [(vi y10_0),(vi y10_1),(h25).v] rfl (H.bz_ 0 rfl) ?_
 cases f26
 exact ⟨_,_,rfl,⟨h25,rfl,rfl⟩,(H.sel [1] rfl).close ⟨cloE,trivial⟩⟩
theorem F7_ {row_:List Int}{row_h:Hd}{c0_b:Nat}{c0__0 c0__1:Int}{c0__2:List (List Int)}{c0__2h:Hd}{c1_b:Nat}{c1__0 c1__1:Int}{c1__2:List (List Int)}{c1__2h:Hd}{y:List Int} (hF:Ck_ row_ (c0__0,c0__1,c0__2) (c1__0,c1__1,c1__2)=some y) :
  kA Tryz.prog 93 #[(row_h).v,(vp c0_b),(vp c1_b)] [Es (List Int) row_ row_h,Es (List (List Int)) c0__2 c0__2h,Es (List (List Int)) c1__2 c1__2h] [Bx c0_b [(vi c0__0),(vi c0__1),(c0__2h).v],Bx c1_b [(vi c1__0),(vi c1__1),(c1__2h).v]] (fun v Γ'=>∃ z0:Hd,v=(z0).v∧Γ'=[Bx c0_b [(vi c0__0),(vi c0__1),(c0__2h).v],Bx c1_b [(vi c1__0),(vi c1__1),(c1__2h).v],E (List Int) y z0]):=by
 intro w0 S0 fp0 hI hS
 have H:=Cx.start hI hS;dsimp at H
 refine iA (args:=[_,_,_]) gok Tryz.func93 rfl _ rfl rfl rfl ?_
 refine kB H [] (.fst 1 (.fst 3 (.fst 7 (.fst 9 (.fst 0 (.fst 4 (.fst 6 (.fst 10 (.act 2 (.act 5 (.act 8 (.act 11 (.act 12 (.act 13 (.fst 14 .done))))))))))))))) bB [] trivial (by kernel_rfl) ?_
 intro w6 H
 have hX:Ext w6 w6:=Upd.refl _ _
 refine oA (fun _=>fld gok rfl rfl rfl rfl ⟨rfl,rfl⟩) ?_
 refine oA (fun _=>fld gok rfl rfl rfl rfl ⟨rfl,rfl⟩) ?_
 refine sC [(vi c0__0),(vi c0__1),(c0__2h).v] rfl (H.bz_ 3 rfl) ?_
 refine gA (H.bx 4 rfl (j:=0) rfl) ?_
 refine sC [(vi c0__0),(vi c0__1),(c0__2h).v] rfl (H.bz_ 3 rfl) ?_
 refine gA (H.bx 4 rfl (j:=1) rfl) ?_
 obtain ⟨y7,ey7,hF8⟩:=aA hF
 refine xC (gN ey7) H [1,0] rfl (yA uA (yA uA xB)) ?_
 rintro _ _ w9 ⟨h0,rfl,rfl⟩ hx H
 refine hold_ hX hx fun hX=>?_
 obtain ⟨y0,i0,f0⟩:=aA hF8
 refine eA (sJ i0) H trivial ?_
 rintro _ _ w1 ⟨h1,rfl,rfl⟩ hx H
 refine hold_ hX hx fun hX=>?_
 obtain ⟨y1,i1,f1⟩:=aA f0
 refine xC (fN i1) H [3,2] rfl (yA uA (yA uA xB)) ?_
 rintro _ _ w2 ⟨h2,rfl,rfl⟩ hx H
 refine hold_ hX hx fun hX=>?_
 obtain ⟨y2,i2,f2⟩:=aA f1
 refine eA (sJ i2) H trivial ?_
 rintro _ _ w3 ⟨h3,rfl,rfl⟩ hx H
 refine hold_ hX hx fun hX=>?_
 replace H:=H.sel [2,0,1,3,4,5,6,7,8] rfl
 replace H:=H.frz
 replace H:=H.sel [1,0,2,3,4,5,6,7,8] rfl
 replace H:=H.frz
 replace H:=H.dup 0 rfl uA
 replace H:=H.dup 3 rfl uA
 replace H:=H.dup 3 rfl uA
 replace H:=H.dup 6 rfl uA
 refine mA (α:=Sh (List Int)) (us:=[(h0).v,(h1).v,(h2).v,(h3).v]) (xs:=[y7,y0,y1,y2]) (gs:=[h0,h1,h2,h3]) gok rfl rfl rfl r4_ rfl rfl H ?_;intro h4 w4 hx H
 refine hold_ hX hx fun hX=>?_
 obtain ⟨y3,i3,f3⟩:=aA f2
 refine eA (@eM [y7,y0,y1,y2] h4 y3 i3) H ⟨Vw.part (β:=List (List Int)) (Vw.own (α:=List (Sh (List Int))) 0 rfl) [y7,y0,y1,y2] h4 (fun S h=>h),trivial⟩ ?_
 rintro _ _ w5 ⟨h5,rfl,rfl⟩ hx H
 refine hold_ hX hx fun hX=>?_
 cases f3
 exact ⟨_,_,rfl,⟨h5,rfl,rfl⟩,(H.sel [9,10,0] rfl).close ⟨cloB,cloB,cloE,trivial⟩⟩
theorem Fz_ {r__0 r__1:Int}{r__2:List (List Int)}{r__2h:Hd}{d0_b:Nat}{d0__0 d0__1:Int}{d0__2:List (List Int)}{d0__2h:Hd}{d1_b:Nat}{d1__0 d1__1:Int}{d1__2:List (List Int)}{d1__2h:Hd}{y:List (List Int)} (hF:aY (r__0,r__1,r__2) (d0__0,d0__1,d0__2) (d1__0,d1__1,d1__2)=some y) :
  kA Tryz.prog 86 #[(.agg #[(vi r__0),(vi r__1),(r__2h).v]),(.func (.func 93) #[] #[(vp d0_b),(vp d1_b)])] [Es (List (List Int)) r__2 r__2h,Es (List (List Int)) d0__2 d0__2h,Es (List (List Int)) d1__2 d1__2h] [Bx d0_b [(vi d0__0),(vi d0__1),(d0__2h).v],Bx d1_b [(vi d1__0),(vi d1__1),(d1__2h).v]] (fun v Γ'=>∃ z0:Hd,v=(z0).v∧Γ'=[Bx d0_b [(vi d0__0),(vi d0__1),(d0__2h).v],Bx d1_b [(vi d1__0),(vi d1__1),(d1__2h).v],E (List (List Int)) y z0]):=by
 intro w0 S0 fp0 hI hS
 have H:=Cx.start hI hS;dsimp at H
 refine iA (args:=[_,_]) gok Tryz.func86 rfl _ rfl rfl rfl ?_
 refine xA H ?_;intro b7 w6 hx H
 refine wF (α:=List Int) gok rfl rfl H ?_;intro h0 w9 hx H
 refine sq ?_
 refine fld gok rfl rfl rfl rfl (bA (H.bx 1 rfl (j:=2) rfl) ?_)
 refine nA (H.rs (α:=List (List Int)) 2 rfl).len ?_
 have x0:=(H.rs (α:=List (List Int)) 2 rfl).max
 obtain ⟨r0,e,f0⟩:=aA hF
 refine nB _ r__2.length (fun (k0:Nat) (s0:List (List Int)) (g0:Hd)=>[(1,(.func (.func 93) #[] #[(vp d0_b),(vp d1_b)])),(5,(g0).v),(10,(r__2h).v),(11,(vi ((r__2.length:Nat):Int))),(12,(vi ((k0:Nat):Int)))]) (fun _ (s0:List (List Int)) (g0:Hd) w'=>Cx w0 fp0 S0 w' [Bx d0_b [(vi d0__0),(vi d0__1),(d0__2h).v],Es (List (List Int)) d0__2 d0__2h,Bx d1_b [(vi d1__0),(vi d1__1),(d1__2h).v],Es (List (List Int)) d1__2 d1__2h,E (List (List Int)) s0 g0,Es (List (List Int)) r__2 r__2h]) ([]:List (List Int)) h0 e r5_ (H.sel [5,3,6,4,0,2] rfl) ?_ ?_
 rintro T0 k0 s0 g0 w1 o0 hk (H:Cx w0 fp0 S0 w1 [Bx d0_b [(vi d0__0),(vi d0__1),(d0__2h).v],Es (List (List Int)) d0__2 d0__2h,Bx d1_b [(vi d1__0),(vi d1__1),(d1__2h).v],Es (List (List Int)) d1__2 d1__2h,E (List (List Int)) s0 g0,Es (List (List Int)) r__2 r__2h]) f1
 refine jA (z:=true) (cB hk) ?_
 refine sq (sq ?_)
 obtain ⟨a0,e,f2⟩:=aA f1
 have HH:=H;obtain ⟨p0,m0,h1,c0,c1,c2,c3,H⟩:=HH.elL 5 rfl e
 refine dA c0 c1 c2 ?_
 refine bA c3 ?_
 obtain ⟨y0,i0,f3⟩:=aA f2
 replace H:=H.sel [1,3,0,2,4,5,6] rfl
 refine gC (F7_ i0) (Γi:=[Bx d0_b [(vi d0__0),(vi d0__1),(d0__2h).v],Bx d1_b [(vi d1__0),(vi d1__1),(d1__2h).v]]) H ⟨Vw.sh 0 rfl,Vw.sh 1 rfl,Vw.sh 2 rfl,trivial⟩ ?_
 rintro _ _ w2 ⟨h2,rfl,rfl⟩ H
 replace H:=H.sel [2,0,1,3,4,5,6,7] rfl
 refine pC (α:=List Int) (g:=h2) gok rfl rfl rfl rfl rfl H ?_;intro h3 w3 hx H
 obtain ⟨a1,e,f4⟩:=aA f3
 refine append_ (α:=List Int) gok rfl rfl rfl rfl (H.sel [6,0,1,2,3,4,5,7] rfl) e ?_;intro h4 w4 H
 refine arK hk x0 ?_
 obtain rfl:=oi_ f4
 exact ⟨h4,r5_,H.sel [1,4,2,5,0,6] rfl⟩
 rintro T1 g1 w5 H;try dsimp only at H
 refine jA (z:=false) dB ?_
 refine sq ?_
 cases f0
 exact ⟨_,_,rfl,⟨g1,rfl,rfl⟩,(H.sel [0,2,4] rfl).close ⟨cloB,cloB,cloE,trivial⟩⟩
theorem F6_ {row_:List Int}{row_h:Hd}{c0_b:Nat}{c0__0 c0__1:Int}{c0__2:List (List Int)}{c0__2h:Hd}{c1_b:Nat}{c1__0 c1__1:Int}{c1__2:List (List Int)}{c1__2h:Hd}{y:List Int} (hF:Cj_ row_ (c0__0,c0__1,c0__2) (c1__0,c1__1,c1__2)=some y) :
  kA Tryz.prog 94 #[(row_h).v,(vp c0_b),(vp c1_b)] [Es (List Int) row_ row_h,Es (List (List Int)) c0__2 c0__2h,Es (List (List Int)) c1__2 c1__2h] [Bx c0_b [(vi c0__0),(vi c0__1),(c0__2h).v],Bx c1_b [(vi c1__0),(vi c1__1),(c1__2h).v]] (fun v Γ'=>∃ z0:Hd,v=(z0).v∧Γ'=[Bx c0_b [(vi c0__0),(vi c0__1),(c0__2h).v],Bx c1_b [(vi c1__0),(vi c1__1),(c1__2h).v],E (List Int) y z0]):=by
 intro w0 S0 fp0 hI hS
 have H:=Cx.start hI hS;dsimp at H
 refine iA (args:=[_,_,_]) gok Tryz.func94 rfl _ rfl rfl rfl ?_
 refine kB H [] (.fst 0 (.fst 4 (.fst 6 (.fst 10 (.fst 1 (.fst 3 (.fst 7 (.fst 9 (.act 2 (.act 5 (.act 8 (.act 11 (.act 12 (.act 13 (.fst 14 .done))))))))))))))) bB [] trivial (by kernel_rfl) ?_
 intro w6 H
 have hX:Ext w6 w6:=Upd.refl _ _
 refine oA (fun _=>fld gok rfl rfl rfl rfl ⟨rfl,rfl⟩) ?_
 refine oA (fun _=>fld gok rfl rfl rfl rfl ⟨rfl,rfl⟩) ?_
 refine gA (H.bx 3 rfl (j:=0) rfl) ?_
 refine sC [(vi c1__0),(vi c1__1),(c1__2h).v] rfl (H.bz_ 4 rfl) ?_
 refine gA (H.bx 3 rfl (j:=1) rfl) ?_
 refine sC [(vi c1__0),(vi c1__1),(c1__2h).v] rfl (H.bz_ 4 rfl) ?_
 obtain ⟨y7,ey7,hF8⟩:=aA hF
 refine eA (sJ ey7) H trivial ?_
 rintro _ _ w9 ⟨h0,rfl,rfl⟩ hx H
 refine hold_ hX hx fun hX=>?_
 obtain ⟨y0,i0,f0⟩:=aA hF8
 refine xC (gN i0) H [3,1] rfl (yA uA (yA uA xB)) ?_
 rintro _ _ w1 ⟨h1,rfl,rfl⟩ hx H
 refine hold_ hX hx fun hX=>?_
 obtain ⟨y1,i1,f1⟩:=aA f0
 refine eA (sJ i1) H trivial ?_
 rintro _ _ w2 ⟨h2,rfl,rfl⟩ hx H
 refine hold_ hX hx fun hX=>?_
 obtain ⟨y2,i2,f2⟩:=aA f1
 refine xC (fN i2) H [5,3] rfl (yA uA (yA uA xB)) ?_
 rintro _ _ w3 ⟨h3,rfl,rfl⟩ hx H
 refine hold_ hX hx fun hX=>?_
 replace H:=H.sel [3,0,1,2,4,5,6,7,8] rfl
 replace H:=H.frz
 replace H:=H.sel [2,0,1,3,4,5,6,7,8] rfl
 replace H:=H.frz
 replace H:=H.dup 2 rfl uA
 replace H:=H.dup 1 rfl uA
 replace H:=H.dup 5 rfl uA
 replace H:=H.dup 4 rfl uA
 refine mA (α:=Sh (List Int)) (us:=[(h0).v,(h1).v,(h2).v,(h3).v]) (xs:=[y7,y0,y1,y2]) (gs:=[h0,h1,h2,h3]) gok rfl rfl rfl r4_ rfl rfl H ?_;intro h4 w4 hx H
 refine hold_ hX hx fun hX=>?_
 obtain ⟨y3,i3,f3⟩:=aA f2
 refine eA (@eM [y7,y0,y1,y2] h4 y3 i3) H ⟨Vw.part (β:=List (List Int)) (Vw.own (α:=List (Sh (List Int))) 0 rfl) [y7,y0,y1,y2] h4 (fun S h=>h),trivial⟩ ?_
 rintro _ _ w5 ⟨h5,rfl,rfl⟩ hx H
 refine hold_ hX hx fun hX=>?_
 cases f3
 exact ⟨_,_,rfl,⟨h5,rfl,rfl⟩,(H.sel [9,10,0] rfl).close ⟨cloB,cloB,cloE,trivial⟩⟩
theorem Fy_ {r__0 r__1:Int}{r__2:List (List Int)}{r__2h:Hd}{d0_b:Nat}{d0__0 d0__1:Int}{d0__2:List (List Int)}{d0__2h:Hd}{d1_b:Nat}{d1__0 d1__1:Int}{d1__2:List (List Int)}{d1__2h:Hd}{y:List (List Int)} (hF:zX (r__0,r__1,r__2) (d0__0,d0__1,d0__2) (d1__0,d1__1,d1__2)=some y) :
  kA Tryz.prog 86 #[(.agg #[(vi r__0),(vi r__1),(r__2h).v]),(.func (.func 94) #[] #[(vp d0_b),(vp d1_b)])] [Es (List (List Int)) r__2 r__2h,Es (List (List Int)) d0__2 d0__2h,Es (List (List Int)) d1__2 d1__2h] [Bx d0_b [(vi d0__0),(vi d0__1),(d0__2h).v],Bx d1_b [(vi d1__0),(vi d1__1),(d1__2h).v]] (fun v Γ'=>∃ z0:Hd,v=(z0).v∧Γ'=[Bx d0_b [(vi d0__0),(vi d0__1),(d0__2h).v],Bx d1_b [(vi d1__0),(vi d1__1),(d1__2h).v],E (List (List Int)) y z0]):=by
 intro w0 S0 fp0 hI hS
 have H:=Cx.start hI hS;dsimp at H
 refine iA (args:=[_,_]) gok Tryz.func86 rfl _ rfl rfl rfl ?_
 refine xA H ?_;intro b7 w6 hx H
 refine wF (α:=List Int) gok rfl rfl H ?_;intro h0 w9 hx H
 refine sq ?_
 refine fld gok rfl rfl rfl rfl (bA (H.bx 1 rfl (j:=2) rfl) ?_)
 refine nA (H.rs (α:=List (List Int)) 2 rfl).len ?_
 have x0:=(H.rs (α:=List (List Int)) 2 rfl).max
 obtain ⟨r0,e,f0⟩:=aA hF
 refine nB _ r__2.length (fun (k0:Nat) (s0:List (List Int)) (g0:Hd)=>[(1,(.func (.func 94) #[] #[(vp d0_b),(vp d1_b)])),(5,(g0).v),(10,(r__2h).v),(11,(vi ((r__2.length:Nat):Int))),(12,(vi ((k0:Nat):Int)))]) (fun _ (s0:List (List Int)) (g0:Hd) w'=>Cx w0 fp0 S0 w' [Bx d0_b [(vi d0__0),(vi d0__1),(d0__2h).v],Es (List (List Int)) d0__2 d0__2h,Bx d1_b [(vi d1__0),(vi d1__1),(d1__2h).v],Es (List (List Int)) d1__2 d1__2h,E (List (List Int)) s0 g0,Es (List (List Int)) r__2 r__2h]) ([]:List (List Int)) h0 e r5_ (H.sel [5,3,6,4,0,2] rfl) ?_ ?_
 rintro T0 k0 s0 g0 w1 o0 hk (H:Cx w0 fp0 S0 w1 [Bx d0_b [(vi d0__0),(vi d0__1),(d0__2h).v],Es (List (List Int)) d0__2 d0__2h,Bx d1_b [(vi d1__0),(vi d1__1),(d1__2h).v],Es (List (List Int)) d1__2 d1__2h,E (List (List Int)) s0 g0,Es (List (List Int)) r__2 r__2h]) f1
 refine jA (z:=true) (cB hk) ?_
 refine sq (sq ?_)
 obtain ⟨a0,e,f2⟩:=aA f1
 have HH:=H;obtain ⟨p0,m0,h1,c0,c1,c2,c3,H⟩:=HH.elL 5 rfl e
 refine dA c0 c1 c2 ?_
 refine bA c3 ?_
 obtain ⟨y0,i0,f3⟩:=aA f2
 replace H:=H.sel [1,3,0,2,4,5,6] rfl
 refine gC (F6_ i0) (Γi:=[Bx d0_b [(vi d0__0),(vi d0__1),(d0__2h).v],Bx d1_b [(vi d1__0),(vi d1__1),(d1__2h).v]]) H ⟨Vw.sh 0 rfl,Vw.sh 1 rfl,Vw.sh 2 rfl,trivial⟩ ?_
 rintro _ _ w2 ⟨h2,rfl,rfl⟩ H
 replace H:=H.sel [2,0,1,3,4,5,6,7] rfl
 refine pC (α:=List Int) (g:=h2) gok rfl rfl rfl rfl rfl H ?_;intro h3 w3 hx H
 obtain ⟨a1,e,f4⟩:=aA f3
 refine append_ (α:=List Int) gok rfl rfl rfl rfl (H.sel [6,0,1,2,3,4,5,7] rfl) e ?_;intro h4 w4 H
 refine arK hk x0 ?_
 obtain rfl:=oi_ f4
 exact ⟨h4,r5_,H.sel [1,4,2,5,0,6] rfl⟩
 rintro T1 g1 w5 H;try dsimp only at H
 refine jA (z:=false) dB ?_
 refine sq ?_
 cases f0
 exact ⟨_,_,rfl,⟨g1,rfl,rfl⟩,(H.sel [0,2,4] rfl).close ⟨cloB,cloB,cloE,trivial⟩⟩
theorem GN_ {p_ a__0 a__1:Int}{a__2:List (List Int)}{a__2h:Hd}{b__0 b__1:Int}{b__2:List (List Int)}{b__2h:Hd}{y_0 y_1:Int}{y_2:List (List Int)} (hF:fQ p_ (a__0,a__1,a__2) (b__0,b__1,b__2)=some (y_0,y_1,y_2)) :
  kA Tryz.prog 70 #[(vi p_),(.agg #[(vi a__0),(vi a__1),(a__2h).v]),(.agg #[(vi b__0),(vi b__1),(b__2h).v])] [Es (List (List Int)) a__2 a__2h,Es (List (List Int)) b__2 b__2h] [] (fun v Γ'=>∃ z0:Hd,v=(.agg #[(vi y_0),(vi y_1),(z0).v])∧Γ'=[E (List (List Int)) y_2 z0]):=by
 intro w0 S0 fp0 hI hS
 have H:=Cx.start hI hS;dsimp at H
 refine iA (args:=[_,_,_]) gok Tryz.func70 rfl _ rfl rfl rfl ?_
 refine xA H ?_;intro b4 w3 hx H
 refine xA H ?_;intro b7 w6 hx H
 refine sA gok rfl H ?_;intro b0 w9 hx H
 refine cA [(vi a__0),(vi a__1),(a__2h).v] rfl (H.bz_ 2 rfl) ?_
 obtain ⟨y0,i0,f0⟩:=aA hF
 replace H:=H.sel [2,1,0,3,4] rfl
 refine gC (Fz_ i0) (Γi:=[Bx b4 [(vi a__0),(vi a__1),(a__2h).v],Bx b7 [(vi b__0),(vi b__1),(b__2h).v]]) H ⟨Vw.sh 1 rfl,Vw.sh 1 rfl,Vw.sh 2 rfl,trivial⟩ ?_
 rintro _ _ w1 ⟨h0,rfl,rfl⟩ H
 refine cA [(vi b__0),(vi b__1),(b__2h).v] rfl (H.bz_ 1 rfl) ?_
 obtain ⟨y1,i1,f1⟩:=aA f0
 refine gC (Fy_ i1) (Γi:=[Bx b4 [(vi a__0),(vi a__1),(a__2h).v],Bx b7 [(vi b__0),(vi b__1),(b__2h).v]]) H ⟨Vw.sh 3 rfl,Vw.sh 2 rfl,Vw.sh 3 rfl,trivial⟩ ?_
 rintro _ _ w2 ⟨h1,rfl,rfl⟩ H
 obtain ⟨a0,e,f2⟩:=aA f1
 refine append_ (α:=List Int) gok rfl rfl rfl rfl (H.sel [3,2,0,1,4,5,6] rfl) e ?_;intro h2 w4 H
 refine fld gok rfl rfl rfl rfl (bA (H.bx 1 rfl (j:=0) rfl) ?_)
 refine fld gok rfl rfl rfl rfl (bA (H.bx 2 rfl (j:=0) rfl) ?_)
 obtain ⟨a1,e,f3⟩:=aA f2
 refine arO e ?_
 refine fld gok rfl rfl rfl rfl (bA (H.bx 1 rfl (j:=1) rfl) ?_)
 refine fld gok rfl rfl rfl rfl (bA (H.bx 2 rfl (j:=1) rfl) ?_)
 obtain ⟨a2,e,f4⟩:=aA f3
 refine arO e ?_
 obtain ⟨⟨y2_0,y2_1,y2_2⟩,i2,f5⟩:=aA f4
 refine callF0_ (jN i2) H ⟨Vw.own 0 rfl,trivial⟩ ?_
 rintro _ _ w5 ⟨h3,rfl,rfl⟩ H
 refine stA gok [(vi y2_0),(vi y2_1),(h3).v] rfl (H.sel [4,0,1,2,3,5,6] rfl) rfl rfl rfl ?_;intro w7 H
 refine cA [(vi y2_0),(vi y2_1),(h3).v] rfl (H.bz_ 0 rfl) ?_
 cases f5
 exact ⟨_,_,rfl,⟨h3,rfl,rfl⟩,(H.sel [1] rfl).close ⟨cloE,trivial⟩⟩
theorem FC_ {n_ y_0 y_1:Int}{y_2:List (List Int)} (hF:B0_ n_=some (y_0,y_1,y_2)) :
  kA Tryz.prog 95 #[(vi n_)] [] [] (fun v Γ'=>∃ z0:Hd,v=(.agg #[(vi y_0),(vi y_1),(z0).v])∧Γ'=[E (List (List Int)) y_2 z0]):=by
 intro w0 S0 fp0 hI hS
 have H:Cx w0 fp0 S0 w0 []:=Cx.start hI hS
 refine iA (args:=[_]) gok Tryz.func95 rfl _ rfl rfl rfl ?_
 refine sA gok rfl H ?_;intro b2 w1 hx H
 refine pB (cs:=#[(vi n_),(vi n_),vn]) gok rfl rfl rfl ?_
 refine sA gok rfl H ?_;intro b5 w4 hx H
 refine stA gok [(vi n_),(vi n_),vn] rfl H rfl rfl rfl ?_;intro w7 H
 refine sq ?_
 obtain ⟨a0,hn,f0⟩:=aA hF
 obtain ⟨r0,e,f1⟩:=aA f0
 replace H:=H.nil (α:=List Int)
 refine nB _ n_.toNat (fun (k8:Nat) (s0:List (List Int)) (g0:Hd)=>[(0,(vi n_)),(2,(vp b2)),(3,(vp b5)),(8,(vi n_)),(9,(vi ((k8:Nat):Int)))]) (fun _ (s0:List (List Int)) (g0:Hd) w'=>Cx w0 fp0 S0 w' [Bx b2 [(vi 0),(vi 0),vn],Bx b5 [(vi n_),(vi n_),(g0).v],E (List (List Int)) s0 g0]) [] nilH e r5_ (H.sel [2,1,0] rfl) ?_ ?_
 rintro T0 k8 s0 g0 w2 o0 hk (H:Cx w0 fp0 S0 w2 [Bx b2 [(vi 0),(vi 0),vn],Bx b5 [(vi n_),(vi n_),(g0).v],E (List (List Int)) s0 g0]) f2
 refine jA (z:=true) (nX hk) ?_
 refine sq (sq ?_)
 refine kB H [11,13,12] (.fst 0 (.fst 2 (.fst 3 (.fst 5 (.fst 6 (.fst 1 (.act 4 (.act 7 (.act 8 (.act 9 (.act 10 (.act 11 (.act 12 (.act 13 .done)))))))))))))) bB [] trivial (by kernel_rfl) ?_
 intro w3 H
 have hX:Ext w3 w3:=Upd.refl _ _
 refine oA (fun _=>fld gok rfl rfl rfl rfl ⟨rfl,rfl⟩) ?_
 refine gA (H.bx 1 rfl (j:=2) rfl) ?_
 obtain ⟨y0,i0,f3⟩:=aA f2
 refine eA (@Ar_ n_ ((k8:Nat):Int) y0 i0) H trivial ?_
 rintro _ _ w5 ⟨h0,rfl,rfl⟩ hx H
 refine hold_ hX hx fun hX=>?_
 obtain ⟨y1,i1,f4⟩:=aA f3
 refine eA (@Ar_ n_ ((k8:Nat):Int) y1 i1) H trivial ?_
 rintro _ _ w6 ⟨h1,rfl,rfl⟩ hx H
 refine hold_ hX hx fun hX=>?_
 replace H:=H.sel [1,0,2,3,4] rfl
 refine mA (α:=List Int) (us:=[(h0).v,(h1).v]) (xs:=[y0,y1]) (gs:=[h0,h1]) gok rfl rfl rfl ⟨rfl,rfl,trivial⟩ rfl rfl H ?_;intro h2 w8 hx H
 refine hold_ hX hx fun hX=>?_
 obtain ⟨y2,i2,f5⟩:=aA f4
 refine eA (@eM [y0,y1] h2 y2 i2) H ⟨Vw.own 0 rfl,trivial⟩ ?_
 rintro _ _ w9 ⟨h3,rfl,rfl⟩ hx H
 refine hold_ hX hx fun hX=>?_
 refine pC (α:=List Int) (g:=h3) gok rfl rfl rfl rfl rfl H ?_;intro h4 w10 hx H
 refine hold_ hX hx fun hX=>?_
 obtain ⟨a1,e,f6⟩:=aA f5
 refine append_ (α:=List Int) gok rfl rfl rfl rfl (H.sel [4,0,1,2,3] rfl) e ?_;intro h5 w11 H
 refine hold trivial ?_
 refine fld gok rfl rfl rfl rfl ?_
 refine hold trivial ?_
 replace H:=H.sel [3,0,1,2] rfl
 refine stB (j:=2) H rfl rfl ?_;intro w12 H
 refine hold trivial ?_
 refine arK hk (maxI hn) ?_
 obtain rfl:=oi_ f6
 exact ⟨h5,r5_,H.sel [3,0,1] rfl⟩
 rintro T1 g1 w13 H;try dsimp only at H
 refine jA (z:=false) sX ?_
 refine sq ?_
 refine cA [(vi n_),(vi n_),(g1).v] rfl (H.bz_ 1 rfl) ?_
 refine stA gok [(vi n_),(vi n_),(g1).v] rfl H rfl rfl rfl ?_;intro w14 H
 refine cA [(vi n_),(vi n_),(g1).v] rfl (H.bz_ 0 rfl) ?_
 cases f1
 exact ⟨_,_,rfl,⟨g1,rfl,rfl⟩,(H.sel [2] rfl).close ⟨cloE,trivial⟩⟩
theorem B7_ {kind_ y:Int} (hF:cT kind_=some y) :
  kA Tryz.prog 97 #[(vi kind_)] [] [] (fun v Γ'=>v=(vi y)∧Γ'=[]):=by
 intro w0 S0 fp0 hI hS
 have H:Cx w0 fp0 S0 w0 []:=Cx.start hI hS
 refine iA (args:=[_]) gok Tryz.func97 rfl _ rfl rfl rfl ?_
 refine sq ?_
 obtain ⟨y1,ey1,hF2⟩:=aA hF
 refine callF0_ (oJ ey1) H trivial ?_
 rintro _ _ w3 ⟨rfl,rfl⟩ H
 cases y1
 have hF4:=fB hF2
 obtain ⟨y5,ey5,hF6⟩:=aA hF4
 refine callF0_ (oJ ey5) H trivial ?_
 rintro _ _ w7 ⟨rfl,rfl⟩ H
 cases y5
 have hF8:=fB hF6
 cases hF8
 exact ⟨_,_,rfl,⟨rfl,rfl⟩,(H.sel [] rfl).close trivial⟩
 have hF9:=eB hF6
 obtain ⟨a0,e,f0⟩:=aA hF9
 refine arO e ?_
 obtain ⟨a1,e,f1⟩:=aA f0
 refine arO e ?_
 cases f1
 exact ⟨_,_,rfl,⟨rfl,rfl⟩,(H.sel [] rfl).close trivial⟩
 have f2:=eB hF2
 obtain ⟨a2,e,f3⟩:=aA f2
 refine arO e ?_
 obtain ⟨a3,e,f4⟩:=aA f3
 refine arO e ?_
 cases f4
 exact ⟨_,_,rfl,⟨rfl,rfl⟩,(H.sel [] rfl).close trivial⟩
theorem B1_ {kind_ value_:Int}{y:List (List Int)} (hF:uS kind_ value_=some y) :
  kA Tryz.prog 99 #[(vi kind_),(vi value_)] [] [] (fun v Γ'=>∃ z0:Hd,v=(z0).v∧Γ'=[E (List (List Int)) y z0]):=by
 intro w0 S0 fp0 hI hS
 have H:Cx w0 fp0 S0 w0 []:=Cx.start hI hS
 refine iA (args:=[_,_]) gok Tryz.func99 rfl _ rfl rfl rfl ?_
 refine sq ?_
 refine boolB_ hF (fun hF3=>?_) fun f5=>?_
 refine boolB_ hF3 (fun hF6=>?_) fun f4=>?_
 refine boolB_ hF6 (fun hF9=>?_) fun f3=>?_
 refine boolB_ hF9 (fun f1=>?_) fun f2=>?_
 replace H:=H.nil (α:=List Int)
 cases f1
 exact ⟨_,_,rfl,⟨nilH,rfl,rfl⟩,(H.sel [0] rfl).close ⟨cloE,trivial⟩⟩
 replace H:=H.sc (α:=Int) value_
 replace H:=H.sc (α:=Int) 1
 refine mA (α:=Int) (us:=[(vi 1),(vi value_)]) (xs:=[1,value_]) (gs:=[(),()]) gok rfl rfl rfl ⟨rfl,rfl,trivial⟩ rfl rfl H ?_;intro h0 w1 hx H
 refine pC (α:=List Int) (g:=h0) gok rfl rfl rfl rfl rfl H ?_;intro h1 w2 hx H
 cases f2
 exact ⟨_,_,rfl,⟨h1,rfl,rfl⟩,(H.sel [0] rfl).close ⟨cloE,trivial⟩⟩
 replace H:=H.sc (α:=Int) 1
 replace H:=H.sc (α:=Int) 0
 replace H:=H.sc (α:=Int) 1
 refine mA (α:=Int) (us:=[(vi 1),(vi 0),(vi 1)]) (xs:=[1,0,1]) (gs:=[(),(),()]) gok rfl rfl rfl r3_ rfl rfl H ?_;intro h2 w3 hx H
 replace H:=H.sc (α:=Int) 1
 replace H:=H.sc (α:=Int) 1
 replace H:=H.sc (α:=Int) 0
 refine mA (α:=Int) (us:=[(vi 0),(vi 1),(vi 1)]) (xs:=[0,1,1]) (gs:=[(),(),()]) gok rfl rfl rfl r3_ rfl rfl H ?_;intro h3 w4 hx H
 replace H:=H.sel [1,0] rfl
 refine mA (α:=List Int) (us:=[(h2).v,(h3).v]) (xs:=[[1,0,1],[0,1,1]]) (gs:=[h2,h3]) gok rfl rfl rfl ⟨rfl,rfl,trivial⟩ rfl rfl H ?_;intro h4 w5 hx H
 cases f3
 exact ⟨_,_,rfl,⟨h4,rfl,rfl⟩,(H.sel [0] rfl).close ⟨cloE,trivial⟩⟩
 refine jE (α:=Int) gok rfl rfl rfl rfl H ?_;intro h5 w6 hx H
 refine pC (α:=List Int) (g:=h5) gok rfl rfl rfl rfl rfl H ?_;intro h6 w7 hx H
 cases f4
 exact ⟨_,_,rfl,⟨h6,rfl,rfl⟩,(H.sel [0] rfl).close ⟨cloE,trivial⟩⟩
 replace H:=H.sc (α:=Int) 1
 replace H:=H.sc (α:=Int) 1
 replace H:=H.sc (α:=Int) 1
 refine mA (α:=Int) (us:=[(vi 1),(vi 1),(vi 1)]) (xs:=[1,1,1]) (gs:=[(),(),()]) gok rfl rfl rfl r3_ rfl rfl H ?_;intro h7 w8 hx H
 refine pC (α:=List Int) (g:=h7) gok rfl rfl rfl rfl rfl H ?_;intro h8 w9 hx H
 cases f5
 exact ⟨_,_,rfl,⟨h8,rfl,rfl⟩,(H.sel [0] rfl).close ⟨cloE,trivial⟩⟩
theorem FO_ {row_:List Int}{row_h:Hd}{c0_b:Nat}{c0__0 c0__1:Int}{c0__2:List (List Int)}{c0__2h:Hd}{y:List Int} (hF:B9_ row_ (c0__0,c0__1,c0__2)=some y) :
  kA Tryz.prog 121 #[(row_h).v,(vp c0_b)] [Es (List Int) row_ row_h,Gl c0_b [(vi c0__0),(vi c0__1),(c0__2h).v],Es (List (List Int)) c0__2 c0__2h] [] (fun v Γ'=>∃ z0:Hd,v=(z0).v∧Γ'=[E (List Int) y z0]):=by
 intro w0 S0 fp0 hI hS
 have H:=Cx.start hI hS;dsimp at H
 refine iA (args:=[_,_]) gok Tryz.func121 rfl _ rfl rfl rfl ?_
 refine kB H [] (.fst 1 (.fst 4 (.fst 0 (.fst 3 (.act 2 (.act 5 (.act 6 (.act 7 (.fst 8 .done))))))))) bB [] trivial (by kernel_rfl) ?_
 intro w4 H
 have hX:Ext w4 w4:=Upd.refl _ _
 refine sC [(vi c0__0),(vi c0__1),(c0__2h).v] rfl (fun j u hj=>H.glx 1 rfl hj) ?_
 refine sC [(vi c0__0),(vi c0__1),(c0__2h).v] rfl (fun j u hj=>H.glx 1 rfl hj) ?_
 obtain ⟨y5,ey5,hF6⟩:=aA hF
 refine xC (fN ey5) H [2,0] rfl (yA uA (yA uA xB)) ?_
 rintro _ _ w7 ⟨h8,rfl,rfl⟩ hx H
 refine hold_ hX hx fun hX=>?_
 obtain ⟨y0,i0,f0⟩:=aA hF6
 refine xC (gN i0) H [3,1] rfl (yA uA (yA uA xB)) ?_
 rintro _ _ w1 ⟨h0,rfl,rfl⟩ hx H
 refine hold_ hX hx fun hX=>?_
 replace H:=H.dup 0 rfl uA
 replace H:=H.dup 2 rfl uA
 refine mA (α:=Sh (List Int)) (us:=[(h8).v,(h0).v]) (xs:=[y5,y0]) (gs:=[h8,h0]) gok rfl rfl rfl ⟨rfl,rfl,trivial⟩ rfl rfl H ?_;intro h1 w2 hx H
 refine hold_ hX hx fun hX=>?_
 obtain ⟨y1,i1,f1⟩:=aA f0
 refine eA (@eM [y5,y0] h1 y1 i1) H ⟨Vw.part (β:=List (List Int)) (Vw.own (α:=List (Sh (List Int))) 0 rfl) [y5,y0] h1 (fun S h=>h),trivial⟩ ?_
 rintro _ _ w3 ⟨h2,rfl,rfl⟩ hx H
 refine hold_ hX hx fun hX=>?_
 cases f1
 exact ⟨_,_,rfl,⟨h2,rfl,rfl⟩,(H.sel [0] rfl).close ⟨cloE,trivial⟩⟩
theorem Fw_ {r__0 r__1:Int}{r__2:List (List Int)}{r__2h:Hd}{d0_b:Nat}{d0__0 d0__1:Int}{d0__2:List (List Int)}{d0__2h:Hd}{y:List (List Int)} (hF:xX (r__0,r__1,r__2) (d0__0,d0__1,d0__2)=some y) :
  kA Tryz.prog 86 #[(.agg #[(vi r__0),(vi r__1),(r__2h).v]),(.func (.func 121) #[] #[(vp d0_b)])] [Es (List (List Int)) r__2 r__2h,Gl d0_b [(vi d0__0),(vi d0__1),(d0__2h).v],Es (List (List Int)) d0__2 d0__2h] [] (fun v Γ'=>∃ z0:Hd,v=(z0).v∧Γ'=[E (List (List Int)) y z0]):=by
 intro w0 S0 fp0 hI hS
 have H:=Cx.start hI hS;dsimp at H
 refine iA (args:=[_,_]) gok Tryz.func86 rfl _ rfl rfl rfl ?_
 refine xA H ?_;intro b5 w4 hx H
 refine wF (α:=List Int) gok rfl rfl H ?_;intro h8 w7 hx H
 refine sq ?_
 refine fld gok rfl rfl rfl rfl (bA (H.bx 1 rfl (j:=2) rfl) ?_)
 refine nA (H.rs (α:=List (List Int)) 2 rfl).len ?_
 have x0:=(H.rs (α:=List (List Int)) 2 rfl).max
 obtain ⟨r0,e,f0⟩:=aA hF
 refine nB _ r__2.length (fun (k0:Nat) (s0:List (List Int)) (g0:Hd)=>[(1,(.func (.func 121) #[] #[(vp d0_b)])),(5,(g0).v),(10,(r__2h).v),(11,(vi ((r__2.length:Nat):Int))),(12,(vi ((k0:Nat):Int)))]) (fun _ (s0:List (List Int)) (g0:Hd) w'=>Cx w0 fp0 S0 w' [Gl d0_b [(vi d0__0),(vi d0__1),(d0__2h).v],Es (List (List Int)) d0__2 d0__2h,E (List (List Int)) s0 g0,Es (List (List Int)) r__2 r__2h]) ([]:List (List Int)) h8 e r5_ (H.sel [3,4,0,2] rfl) ?_ ?_
 rintro T0 k0 s0 g0 w1 o0 hk (H:Cx w0 fp0 S0 w1 [Gl d0_b [(vi d0__0),(vi d0__1),(d0__2h).v],Es (List (List Int)) d0__2 d0__2h,E (List (List Int)) s0 g0,Es (List (List Int)) r__2 r__2h]) f1
 refine jA (z:=true) (cB hk) ?_
 refine sq (sq ?_)
 obtain ⟨a0,e,f2⟩:=aA f1
 have HH:=H;obtain ⟨p0,m0,h0,c0,c1,c2,c3,H⟩:=HH.elL 3 rfl e
 refine dA c0 c1 c2 ?_
 refine bA c3 ?_
 obtain ⟨y0,i0,f3⟩:=aA f2
 refine callF0_ (FO_ i0) H ⟨Vw.sh 0 rfl,Vw.gl 1 rfl,Vw.sh 2 rfl,trivial⟩ ?_
 rintro _ _ w2 ⟨h1,rfl,rfl⟩ H
 refine pC (α:=List Int) (g:=h1) gok rfl rfl rfl rfl rfl H ?_;intro h2 w3 hx H
 obtain ⟨a1,e,f4⟩:=aA f3
 refine append_ (α:=List Int) gok rfl rfl rfl rfl (H.sel [4,0,1,2,3,5] rfl) e ?_;intro h3 w5 H
 refine arK hk x0 ?_
 obtain rfl:=oi_ f4
 exact ⟨h3,r5_,H.sel [2,3,0,4] rfl⟩
 rintro T1 g1 w6 H;try dsimp only at H
 refine jA (z:=false) dB ?_
 refine sq ?_
 cases f0
 exact ⟨_,_,rfl,⟨g1,rfl,rfl⟩,(H.sel [2] rfl).close ⟨cloE,trivial⟩⟩
theorem F8_ {p_ r__0 r__1:Int}{r__2:List (List Int)}{r__2h:Hd}{y_0 y_1:Int}{y_2:List (List Int)} (hF:zY p_ (r__0,r__1,r__2)=some (y_0,y_1,y_2)) :
  kA Tryz.prog 98 #[(vi p_),(.agg #[(vi r__0),(vi r__1),(r__2h).v])] [Es (List (List Int)) r__2 r__2h] [] (fun v Γ'=>∃ z0:Hd,v=(.agg #[(vi y_0),(vi y_1),(z0).v])∧Γ'=[E (List (List Int)) y_2 z0]):=by
 intro w0 S0 fp0 hI hS
 have H:=Cx.start hI hS;dsimp at H
 refine iA (args:=[_,_]) gok Tryz.func98 rfl _ rfl rfl rfl ?_
 refine xA H ?_;intro b3 w2 hx H
 refine sA gok rfl H ?_;intro b6 w5 hx H
 refine kB H [9] (.fst 0 (.fst 1 (.fst 3 (.fst 2 (.fst 4 (.fst 5 (.act 6 (.act 7 (.act 8 (.act 9 .done)))))))))) bB [] trivial (by kernel_rfl) ?_
 intro w8 H
 have hX:Ext w8 w8:=Upd.refl _ _
 refine oA (fun _=>fld gok rfl rfl rfl rfl ⟨rfl,rfl⟩) ?_
 refine oA (fun _=>fld gok rfl rfl rfl rfl ⟨rfl,rfl⟩) ?_
 refine gA (H.bx 1 rfl (j:=1) rfl) ?_
 refine gA (H.bx 1 rfl (j:=0) rfl) ?_
 refine sC [(vi r__0),(vi r__1),(r__2h).v] rfl (H.bz_ 1 rfl) ?_
 refine hold hX ?_
 obtain ⟨y9,ey9,f0⟩:=aA hF
 refine eA (Fw_ ey9) H ⟨Vw.sh 2 rfl,Vw.bxg 1 rfl,Vw.sh 2 rfl,trivial⟩ ?_
 rintro _ _ w1 ⟨h0,rfl,rfl⟩ hx H
 refine hold_ hX hx fun hX=>?_
 obtain ⟨⟨y0_0,y0_1,y0_2⟩,i0,f1⟩:=aA f0
 refine eA (jN i0) H ⟨Vw.own 0 rfl,trivial⟩ ?_
 rintro _ _ w3 ⟨h1,rfl,rfl⟩ hx H
 refine hold_ hX hx fun hX=>?_
 refine stA gok [(vi y0_0),(vi y0_1),(h1).v] rfl (H.sel [2,0,1,3,4] rfl) rfl rfl rfl ?_;intro w4 H
 refine hold trivial ?_
 refine cA [(vi y0_0),(vi y0_1),(h1).v] rfl (H.bz_ 0 rfl) ?_
 cases f1
 exact ⟨_,_,rfl,⟨h1,rfl,rfl⟩,(H.sel [1] rfl).close ⟨cloE,trivial⟩⟩
theorem FE_ {p_ n__0 n__1:Int}{n__2:ByteArray}{y_0 y_1:Int}{y_2:List (List Int)} (hF:zL p_ (n__0,n__1,n__2)=some (y_0,y_1,y_2)) :
  kA Tryz.prog 71 #[(vi p_),(.agg #[(vi n__0),(vi n__1),(.string n__2)])] [] [] (fun v Γ'=>∃ z0:Hd,v=(.agg #[(vi y_0),(vi y_1),(z0).v])∧Γ'=[E (List (List Int)) y_2 z0]):=by
 intro w0 S0 fp0 hI hS
 have H:Cx w0 fp0 S0 w0 []:=Cx.start hI hS
 refine iA (args:=[_,_]) gok Tryz.func71 rfl _ rfl rfl rfl ?_
 refine xA H ?_;intro b2 w1 hx H
 refine sA gok rfl H ?_;intro b5 w4 hx H
 refine sq ?_
 refine fld gok rfl rfl rfl rfl (bA (H.bx 1 rfl (j:=0) rfl) ?_)
 refine boolB_ hF (fun hF9=>?_) fun f16=>?_
 refine fld gok rfl rfl rfl rfl (bA (H.bx 1 rfl (j:=0) rfl) ?_)
 refine boolB_ hF9 (fun f1=>?_) fun f14=>?_
 refine fld gok rfl rfl rfl rfl (bA (H.bx 1 rfl (j:=0) rfl) ?_)
 refine boolB_ f1 (fun f3=>?_) fun f7=>?_
 refine fld gok rfl rfl rfl rfl (bA (H.bx 1 rfl (j:=0) rfl) ?_)
 obtain ⟨⟨y0_0,y0_1⟩,i0,f4⟩:=aA f3
 refine callF0_ (gP i0) H trivial ?_
 rintro _ _ w2 ⟨rfl,rfl⟩ H
 refine sA gok rfl H ?_;intro b0 w3 hx H
 refine stA gok [(vi y0_0),(vi y0_1)] rfl H rfl rfl rfl ?_;intro w5 H
 refine kB H [11] (.fst 0 (.fst 1 (.fst 3 (.fst 5 (.fst 7 (.fst 2 (.fst 4 (.fst 6 (.fst 8 (.act 9 (.act 10 (.act 11 .done)))))))))))) bB [] trivial (by kernel_rfl) ?_
 intro w6 H
 have hX:Ext w6 w6:=Upd.refl _ _
 refine oA (fun _=>fld gok rfl rfl rfl rfl ⟨rfl,rfl⟩) ?_
 refine oA (fun _=>fld gok rfl rfl rfl rfl ⟨rfl,rfl⟩) ?_
 refine oA (fun _=>fld gok rfl rfl rfl rfl ⟨rfl,rfl⟩) ?_
 refine oA (fun _=>fld gok rfl rfl rfl rfl ⟨rfl,rfl⟩) ?_
 refine gA (H.bx 0 rfl (j:=0) rfl) ?_
 refine gA (H.bx 0 rfl (j:=1) rfl) ?_
 refine gA (H.bx 2 rfl (j:=0) rfl) ?_
 refine gA (H.bx 2 rfl (j:=1) rfl) ?_
 obtain ⟨y1,i1,f5⟩:=aA f4
 refine eA (B1_ i1) H trivial ?_
 rintro _ _ w7 ⟨h0,rfl,rfl⟩ hx H
 refine hold_ hX hx fun hX=>?_
 obtain ⟨⟨y2_0,y2_1,y2_2⟩,i2,f6⟩:=aA f5
 refine eA (jN i2) H ⟨Vw.own 0 rfl,trivial⟩ ?_
 rintro _ _ w8 ⟨h1,rfl,rfl⟩ hx H
 refine hold_ hX hx fun hX=>?_
 refine stA gok [(vi y2_0),(vi y2_1),(h1).v] rfl (H.sel [3,0,1,2,4] rfl) rfl rfl rfl ?_;intro w9 H
 refine hold trivial ?_
 refine cA [(vi y2_0),(vi y2_1),(h1).v] rfl (H.bz_ 0 rfl) ?_
 cases f6
 exact ⟨_,_,rfl,⟨h1,rfl,rfl⟩,(H.sel [1] rfl).close ⟨cloE,trivial⟩⟩
 refine fld gok rfl rfl rfl rfl (bA (H.bx 1 rfl (j:=0) rfl) ?_)
 obtain ⟨y3,i3,f8⟩:=aA f7
 refine callF0_ (B7_ i3) H trivial ?_
 rintro _ _ w10 ⟨rfl,rfl⟩ H
 obtain ⟨⟨y4_0,y4_1⟩,i4,f9⟩:=aA f8
 refine callF0_ (gP i4) H trivial ?_
 rintro _ _ w11 ⟨rfl,rfl⟩ H
 refine sA gok rfl H ?_;intro b1 w12 hx H
 refine stA gok [(vi y4_0),(vi y4_1)] rfl H rfl rfl rfl ?_;intro w13 H
 refine kB H [14] (.fst 0 (.fst 1 (.fst 2 (.fst 4 (.fst 6 (.fst 9 (.fst 3 (.fst 5 (.fst 7 (.fst 10 (.act 8 (.act 11 (.act 12 (.act 13 (.act 14 .done))))))))))))))) bB [] trivial (by kernel_rfl) ?_
 intro w14 H
 have hX:Ext w14 w14:=Upd.refl _ _
 refine oA (fun _=>fld gok rfl rfl rfl rfl ⟨rfl,rfl⟩) ?_
 refine oA (fun _=>fld gok rfl rfl rfl rfl ⟨rfl,rfl⟩) ?_
 refine oA (fun _=>fld gok rfl rfl rfl rfl ⟨rfl,rfl⟩) ?_
 refine oA (fun _=>fld gok rfl rfl rfl rfl ⟨rfl,rfl⟩) ?_
 refine gA (H.bx 0 rfl (j:=0) rfl) ?_
 refine gA (H.bx 0 rfl (j:=1) rfl) ?_
 refine gA (H.bx 2 rfl (j:=0) rfl) ?_
 refine gA (H.bx 2 rfl (j:=1) rfl) ?_
 obtain ⟨y5,i5,f10⟩:=aA f9
 refine eA (B7_ i5) H trivial ?_
 rintro _ _ w15 ⟨rfl,rfl⟩ hx H
 refine hold_ hX hx fun hX=>?_
 obtain ⟨y6,i6,f11⟩:=aA f10
 refine eA (B1_ i6) H trivial ?_
 rintro _ _ w16 ⟨h2,rfl,rfl⟩ hx H
 refine hold_ hX hx fun hX=>?_
 obtain ⟨⟨y7_0,y7_1,y7_2⟩,i7,f12⟩:=aA f11
 refine eA (jN i7) H ⟨Vw.own 0 rfl,trivial⟩ ?_
 rintro _ _ w17 ⟨h3,rfl,rfl⟩ hx H
 refine hold_ hX hx fun hX=>?_
 obtain ⟨⟨y8_0,y8_1,y8_2⟩,i8,f13⟩:=aA f12
 refine eA (F8_ i8) H ⟨Vw.own 0 rfl,trivial⟩ ?_
 rintro _ _ w20 ⟨h4,rfl,rfl⟩ hx H
 refine hold_ hX hx fun hX=>?_
 refine stA gok [(vi y8_0),(vi y8_1),(h4).v] rfl (H.sel [4,0,1,2,3,5] rfl) rfl rfl rfl ?_;intro w21 H
 refine hold trivial ?_
 refine cA [(vi y8_0),(vi y8_1),(h4).v] rfl (H.bz_ 0 rfl) ?_
 cases f13
 exact ⟨_,_,rfl,⟨h4,rfl,rfl⟩,(H.sel [1] rfl).close ⟨cloE,trivial⟩⟩
 replace H:=H.sc (α:=Int) 1
 replace H:=H.sc (α:=Int) 0
 replace H:=H.sc (α:=Int) 0
 replace H:=H.sc (α:=Int) 1
 refine mA (α:=Int) (us:=[(vi 1),(vi 0),(vi 0),(vi 1)]) (xs:=[1,0,0,1]) (gs:=[(),(),(),()]) gok rfl rfl rfl r4_ rfl rfl H ?_;intro h5 w24 hx H
 replace H:=H.sc (α:=Int) 0
 replace H:=H.sc (α:=Int) 1
 replace H:=H.sc (α:=Int) 1
 replace H:=H.sc (α:=Int) 0
 refine mA (α:=Int) (us:=[(vi 0),(vi 1),(vi 1),(vi 0)]) (xs:=[0,1,1,0]) (gs:=[(),(),(),()]) gok rfl rfl rfl r4_ rfl rfl H ?_;intro h6 w25 hx H
 replace H:=H.sel [1,0,2,3] rfl
 refine mA (α:=List Int) (us:=[(h5).v,(h6).v]) (xs:=[[1,0,0,1],[0,1,1,0]]) (gs:=[h5,h6]) gok rfl rfl rfl ⟨rfl,rfl,trivial⟩ rfl rfl H ?_;intro h7 w27 hx H
 obtain ⟨⟨y9_0,y9_1,y9_2⟩,i9,f15⟩:=aA f14
 refine callF0_ (@jN p_ 2 2 [[1,0,0,1],[0,1,1,0]] h7 y9_0 y9_1 y9_2 i9) H ⟨Vw.own 0 rfl,trivial⟩ ?_
 rintro _ _ w28 ⟨h8,rfl,rfl⟩ H
 refine stA gok [(vi y9_0),(vi y9_1),(h8).v] rfl (H.sel [2,0,1,3] rfl) rfl rfl rfl ?_;intro w29 H
 refine cA [(vi y9_0),(vi y9_1),(h8).v] rfl (H.bz_ 0 rfl) ?_
 cases f15
 exact ⟨_,_,rfl,⟨h8,rfl,rfl⟩,(H.sel [1] rfl).close ⟨cloE,trivial⟩⟩
 refine fld gok rfl rfl rfl rfl (bA (H.bx 1 rfl (j:=1) rfl) ?_)
 obtain ⟨⟨y10_0,y10_1,y10_2⟩,i10,f17⟩:=aA f16
 refine callF0_ (FC_ i10) H trivial ?_
 rintro _ _ w30 ⟨h9,rfl,rfl⟩ H
 refine stA gok [(vi y10_0),(vi y10_1),(h9).v] rfl (H.sel [1,0,2] rfl) rfl rfl rfl ?_;intro w32 H
 refine cA [(vi y10_0),(vi y10_1),(h9).v] rfl (H.bz_ 0 rfl) ?_
 cases f17
 exact ⟨_,_,rfl,⟨h9,rfl,rfl⟩,(H.sel [1] rfl).close ⟨cloE,trivial⟩⟩
theorem oF {p_:Int}{t__0:List Ty4}{t__0h:Hd}{y_0 y_1:Int}{y_2:List (List Int)} (hF:tN p_ t__0=some (y_0,y_1,y_2)) :
  bF Tryz.prog 52 #[(vi p_),(.agg #[(t__0h).v])] [Es (List Ty4) t__0 t__0h] [] (fun v Γ'=>∃ z0:Hd,v=(.agg #[(vi y_0),(vi y_1),(z0).v])∧Γ'=[Es (List (List Int)) y_2 z0]):=by
 intro w0 S0 fp0 hI hS
 have H:=Cx.start hI hS;dsimp at H
 refine iA (args:=[_,_]) gok Tryz.func52 rfl _ rfl rfl rfl ?_
 refine xA H ?_;intro b3 w2 hx H
 refine sA gok rfl H ?_;intro b6 w5 hx H
 refine wF (α:=Ty3) gok rfl rfl H ?_;intro h9 w8 hx H
 refine sq ?_
 refine fld gok rfl rfl rfl rfl (bA (H.bx 2 rfl (j:=0) rfl) ?_)
 refine nA (H.rs (α:=List Ty4) 3 rfl).len ?_
 have x0:=(H.rs (α:=List Ty4) 3 rfl).max
 obtain ⟨r0,e,f0⟩:=aA hF
 replace H:=H.frzE (α:=Ty3)
 refine nB _ t__0.length (fun (k0:Nat) (s0:List Ty3) (g0:Hd)=>[(0,(vi p_)),(4,(vp b6)),(5,(g0).v),(11,(t__0h).v),(12,(vi ((t__0.length:Nat):Int))),(13,(vi ((k0:Nat):Int)))]) (fun _ (s0:List Ty3) (g0:Hd) w'=>Cx w0 fp0 S0 w' [Bx b6 [(vi 0),(vi 0),vn],E (List (Sh Ty3)) s0 g0,Es (List Ty4) t__0 t__0h]) ([]:List Ty3) h9 e r6_ (H.sel [1,0,3] rfl) ?_ ?_
 rintro T0 k0 s0 g0 w1 o0 hk (H:Cx w0 fp0 S0 w1 [Bx b6 [(vi 0),(vi 0),vn],E (List (Sh Ty3)) s0 g0,Es (List Ty4) t__0 t__0h]) f1
 refine jA (z:=true) (cB hk) ?_
 refine sq (sq ?_)
 obtain ⟨a0,e,f2⟩:=aA f1
 have HH:=H;obtain ⟨p0,m0,g1,c0,c1,c2,c3,H⟩:=HH.el (α:=Ty4) 2 rfl e
 obtain ⟨a0_0,a0_1,a0_2⟩:=a0
 obtain ⟨_,_,_⟩:=g1
 replace H:=H.sel [1,2,3] rfl
 refine dA c0 c1 c2 ?_
 refine cA [(vi a0_0),(vi a0_1),(.string a0_2)] rfl c3 ?_
 refine sA gok rfl H ?_;intro b0 w3 hx H
 refine stA gok [(vi a0_0),(vi a0_1),(.string a0_2)] rfl H rfl rfl rfl ?_;intro w4 H
 refine nA (Rdb.len (α:=Sh Ty3) (H.ro (α:=List (Sh Ty3)) 2 rfl)) ?_
 obtain ⟨a1,e,f3⟩:=aA f2
 refine arO e ?_
 refine fld gok rfl rfl rfl rfl (bA (H.bx 0 rfl (j:=0) rfl) ?_)
 refine boolB_ f3 (fun f5=>?_) fun f18=>?_
 refine boolB_ f5 (fun f7=>?_) fun f10=>?_
 refine cA [(vi a0_0),(vi a0_1),(.string a0_2)] rfl (H.bz_ 0 rfl) ?_
 obtain ⟨⟨y0_0,y0_1,y0_2⟩,i0,f8⟩:=aA f7
 refine callF0_ (FE_ i0) H trivial ?_
 rintro _ _ w6 ⟨h0,rfl,rfl⟩ H
 replace H:=H.sc (α:=Int) y0_1
 replace H:=H.join (α:=Int) (β:=List (List Int))
 replace H:=H.sc (α:=Int) y0_0
 replace H:=H.join (α:=Int) (β:=Int×List (List Int))
 refine pC (α:=Ty3) (g:=((),(),h0)) gok rfl rfl rfl rfl rfl H ?_;intro h1 w7 hx H
 obtain ⟨a4,e,f9⟩:=aA f8
 replace H:=H.frzE (α:=Ty3)
 refine append_ (α:=Sh Ty3) gok rfl rfl rfl rfl (H.sel [3,0,1,2,4] rfl) e ?_;intro h2 w9 H
 refine arK hk x0 ?_
 obtain rfl:=oi_ f9
 exact ⟨h2,r6_,H.sel [2,0,3] rfl⟩
 refine kB H [16,17] (.fst 0 (.fst 1 (.fst 2 (.fst 4 (.fst 5 (.fst 6 (.fst 7 (.fst 8 (.fst 10 (.fst 11 (.fst 12 (.fst 9 (.fst 13 (.fst 3 (.act 14 (.act 15 (.act 16 (.act 17 .done)))))))))))))))))) bB [] trivial (by kernel_rfl) ?_
 intro w10 H
 have hX:Ext w10 w10:=Upd.refl _ _
 obtain ⟨a5,e,f11⟩:=aA f10
 refine arO e ?_
 obtain ⟨a6,e,f12⟩:=aA f11
 refine arO e ?_
 obtain ⟨a7,e,f13⟩:=aA f12
 have HH:=H;obtain ⟨p1,m1,g2,c4,c5,c6,c7,H⟩:=HH.ex (α:=Ty3) 2 rfl e
 obtain ⟨a7_0,a7_1,a7_2⟩:=a7
 obtain ⟨_,_,h3⟩:=g2
 replace H:=H.part (β:=List (List Int)) a7_2 (h3:Hd) 0 rfl (fun S h=>(And.right (And.right h)))
 replace H:=H.sel [0,2,3,4,5] rfl
 refine dA c4 c5 c6 ?_
 obtain ⟨a8,e,f14⟩:=aA f13
 have HH:=H;obtain ⟨p2,m2,g3,c8,c9,c10,c11,H⟩:=HH.ex (α:=Ty3) 3 rfl e
 obtain ⟨a8_0,a8_1,a8_2⟩:=a8
 obtain ⟨_,_,h4⟩:=g3
 replace H:=H.part (β:=List (List Int)) a8_2 (h4:Hd) 0 rfl (fun S h=>(And.right (And.right h)))
 replace H:=H.sel [0,2,3,4,5,6] rfl
 refine dA c8 c9 c10 ?_
 refine sC [(vi a7_0),(vi a7_1),(h3).v] rfl c7 ?_
 refine sC [(vi a8_0),(vi a8_1),(h4).v] rfl c11 ?_
 obtain ⟨a9,e,f15⟩:=aA f14
 replace H:=H.sel [4,0,1,2,3,5] rfl
 refine slOX (α:=Sh Ty3) gok rfl rfl H e rfl rfl ?_;intro h5 HH;have H:=HH
 obtain ⟨⟨y1_0,y1_1,y1_2⟩,i1,f16⟩:=aA f15
 refine eA (GN_ i1) H ⟨Vw.sh 2 rfl,Vw.sh 1 rfl,trivial⟩ ?_
 rintro _ _ w11 ⟨h6,rfl,rfl⟩ hx H
 refine hold_ hX hx fun hX=>?_
 replace H:=H.sc (α:=Int) y1_1
 replace H:=H.join (α:=Int) (β:=List (List Int))
 replace H:=H.sc (α:=Int) y1_0
 replace H:=H.join (α:=Int) (β:=Int×List (List Int))
 refine pC (α:=Ty3) (g:=((),(),h6)) gok rfl rfl rfl rfl rfl H ?_;intro h7 w12 hx H
 refine hold_ hX hx fun hX=>?_
 obtain ⟨a10,e,f17⟩:=aA f16
 replace H:=H.frzE (α:=Ty3)
 refine append_ (α:=Sh Ty3) gok rfl rfl rfl rfl (H.sel [1,0,2,3,4,5,6] rfl) e ?_;intro h8 w13 H
 refine hold trivial ?_
 refine hold trivial ?_
 refine arK hk x0 ?_
 obtain rfl:=oi_ f17
 exact ⟨h8,r6_,H.sel [4,0,5] rfl⟩
 refine kB H [16,17] (.fst 0 (.fst 1 (.fst 2 (.fst 4 (.fst 5 (.fst 6 (.fst 7 (.fst 8 (.fst 10 (.fst 11 (.fst 12 (.fst 9 (.fst 13 (.fst 3 (.act 14 (.act 15 (.act 16 (.act 17 .done)))))))))))))))))) bB [] trivial (by kernel_rfl) ?_
 intro w14 H
 have hX:Ext w14 w14:=Upd.refl _ _
 obtain ⟨a11,e,f19⟩:=aA f18
 refine arO e ?_
 obtain ⟨a12,e,f20⟩:=aA f19
 refine arO e ?_
 obtain ⟨a13,e,f21⟩:=aA f20
 have HH:=H;obtain ⟨p3,m3,g4,c12,c13,c14,c15,H⟩:=HH.ex (α:=Ty3) 2 rfl e
 obtain ⟨a13_0,a13_1,a13_2⟩:=a13
 obtain ⟨_,_,h10⟩:=g4
 replace H:=H.part (β:=List (List Int)) a13_2 (h10:Hd) 0 rfl (fun S h=>(And.right (And.right h)))
 replace H:=H.sel [0,2,3,4,5] rfl
 refine dA c12 c13 c14 ?_
 obtain ⟨a14,e,f22⟩:=aA f21
 have HH:=H;obtain ⟨p4,m4,g5,c16,c17,c18,c19,H⟩:=HH.ex (α:=Ty3) 3 rfl e
 obtain ⟨a14_0,a14_1,a14_2⟩:=a14
 obtain ⟨_,_,h11⟩:=g5
 replace H:=H.part (β:=List (List Int)) a14_2 (h11:Hd) 0 rfl (fun S h=>(And.right (And.right h)))
 replace H:=H.sel [0,2,3,4,5,6] rfl
 refine dA c16 c17 c18 ?_
 refine sC [(vi a13_0),(vi a13_1),(h10).v] rfl c15 ?_
 refine sC [(vi a14_0),(vi a14_1),(h11).v] rfl c19 ?_
 obtain ⟨a15,e,f23⟩:=aA f22
 replace H:=H.sel [4,0,1,2,3,5] rfl
 refine slOX (α:=Sh Ty3) gok rfl rfl H e rfl rfl ?_;intro h12 HH;have H:=HH
 obtain ⟨⟨y2_0,y2_1,y2_2⟩,i2,f24⟩:=aA f23
 refine eA (F9_ i2) H ⟨Vw.sh 2 rfl,Vw.sh 1 rfl,trivial⟩ ?_
 rintro _ _ w15 ⟨h13,rfl,rfl⟩ hx H
 refine hold_ hX hx fun hX=>?_
 replace H:=H.sc (α:=Int) y2_1
 replace H:=H.join (α:=Int) (β:=List (List Int))
 replace H:=H.sc (α:=Int) y2_0
 replace H:=H.join (α:=Int) (β:=Int×List (List Int))
 refine pC (α:=Ty3) (g:=((),(),h13)) gok rfl rfl rfl rfl rfl H ?_;intro h14 w16 hx H
 refine hold_ hX hx fun hX=>?_
 obtain ⟨a16,e,f25⟩:=aA f24
 replace H:=H.frzE (α:=Ty3)
 refine append_ (α:=Sh Ty3) gok rfl rfl rfl rfl (H.sel [1,0,2,3,4,5,6] rfl) e ?_;intro h15 w17 H
 refine hold trivial ?_
 refine hold trivial ?_
 refine arK hk x0 ?_
 obtain rfl:=oi_ f25
 exact ⟨h15,r6_,H.sel [4,0,5] rfl⟩
 rintro T1 g6 w18 H;try dsimp only at H
 refine jA (z:=false) dB ?_
 refine sq ?_
 obtain ⟨a17,e,f26⟩:=aA f0
 have HH:=H;obtain ⟨p5,m5,g7,c20,c21,c22,c23,H⟩:=HH.ex (α:=Ty3) 1 rfl e
 obtain ⟨a17_0,a17_1,a17_2⟩:=a17
 obtain ⟨_,_,h16⟩:=g7
 replace H:=H.part (β:=List (List Int)) a17_2 (h16:Hd) 0 rfl (fun S h=>(And.right (And.right h)))
 replace H:=H.sel [0,2,3,4] rfl
 refine dA c20 c21 c22 ?_
 refine cA [(vi a17_0),(vi a17_1),(h16).v] rfl c23 ?_
 refine stA gok [(vi a17_0),(vi a17_1),(h16).v] rfl (H.sel [1,0,2,3] rfl) rfl rfl rfl ?_;intro w19 H
 refine cA [(vi a17_0),(vi a17_1),(h16).v] rfl (H.bz_ 0 rfl) ?_
 cases f26
 exact ⟨_,_,rfl,⟨h16,rfl,rfl⟩,(H.sel [1] rfl)⟩
theorem F5_ {p_:Int}{a__0:List Ty4}{a__0h:Hd}{b__0:List Ty4}{b__0h:Hd}{y0_0 y0_1:Int}{y0_2:List (List Int)}{y1_0 y1_1:Int}{y1_2:List (List Int)}{y2:Bool} (hF:yY p_ a__0 b__0=some ((y0_0,y0_1,y0_2),(y1_0,y1_1,y1_2),y2)) :
  bF Tryz.prog 33 #[(vi p_),(.agg #[(a__0h).v]),(.agg #[(b__0h).v])] [Es (List Ty4) a__0 a__0h,Es (List Ty4) b__0 b__0h,Gl 0 [.int .i64 2,.int .i64 3,.int .i64 5,.int .i64 7]] [] (fun v Γ'=>∃ z0 z1:Hd,v=(.tuple #[(.agg #[(vi y0_0),(vi y0_1),(z0).v]),(.agg #[(vi y1_0),(vi y1_1),(z1).v]),(.bool y2)])∧Γ'=[Es (List (List Int)) y0_2 z0,Es (List (List Int)) y1_2 z1]):=by
 intro w0 S0 fp0 hI hS
 have H:=Cx.start hI hS;dsimp at H
 refine iA (args:=[_,_,_]) gok Tryz.func33 rfl _ rfl rfl rfl ?_
 refine xA H ?_;intro b5 w4 hx H
 refine xA H ?_;intro b8 w7 hx H
 refine sA gok rfl H ?_;intro b0 w1 hx H
 refine sA gok rfl H ?_;intro b1 w2 hx H
 refine sq ?_
 obtain ⟨r0,f0,f1⟩:=aA hF
 refine cut (fun (q0:Bool)=>[(0,(vi p_)),(4,(vp b5)),(5,(vp b8)),(6,(vp b0)),(7,(vp b1)),(20,(.bool q0))]) (fun (q0:Bool) w'=>q0=r0∧Cx w0 fp0 S0 w' [Bx b5 [(a__0h).v],Es (List Ty4) a__0 a__0h,Bx b8 [(b__0h).v],Es (List Ty4) b__0 b__0h,Bx b0 [(vi 0),(vi 0),vn],Bx b1 [(vi 0),(vi 0),vn],Gl 0 [.int .i64 2,.int .i64 3,.int .i64 5,.int .i64 7]]) ?_ ?_
 refine cA [(a__0h).v] rfl (H.bz_ 3 rfl) ?_
 obtain ⟨y0,i0,f2⟩:=aA f0
 refine callF0_ (B2_ i0) H ⟨Vw.sh 4 rfl,Vw.gl 6 rfl,trivial⟩ ?_
 rintro _ _ w3 ⟨rfl,rfl⟩ H
 refine boolB_ f2 (fun f4=>?_) fun f7=>?_
 refine cA [(b__0h).v] rfl (H.bz_ 2 rfl) ?_
 obtain ⟨y1,i1,f5⟩:=aA f4
 refine callF0_ (B2_ i1) H ⟨Vw.sh 5 rfl,Vw.gl 6 rfl,trivial⟩ ?_
 rintro _ _ w5 ⟨rfl,rfl⟩ H
 obtain ⟨a1,e,f6⟩:=aA f5
 refine tB e ?_
 exact ⟨a1,r6_,oi_ f6,H.sel [3,4,2,5,1,0,6] rfl⟩
 exact ⟨true,r6_,oi_ f7,H.sel [3,4,2,5,1,0,6] rfl⟩
 rintro T0 s0 w6 ⟨hr,H⟩;try dsimp only at H
 subst hr
 cases s0
 have f8:=fB f1
 obtain ⟨r1,f9,f10⟩:=aA f8
 refine sH H [] (.fst 0 (.fst 3 (.fst 1 (.fst 4 (.alts (.alt 2 (.alts (.alt 5 (.alts (.alt 6 (.act 7 (.act 8 (.act 9 .done))) (.alt 7 (.act 6 (.act 8 (.act 9 .done))) .no))) (.alt 6 (.alts (.alt 5 (.act 7 (.act 8 (.act 9 .done))) (.alt 7 (.act 5 (.act 8 (.act 9 .done))) .no))) (.alt 7 (.alts (.alt 5 (.act 6 (.act 8 (.act 9 .done))) (.alt 6 (.act 5 (.act 8 (.act 9 .done))) .no))) .no)))) (.alt 6 (.alts (.alt 2 (.alts (.alt 5 (.act 7 (.act 8 (.act 9 .done))) (.alt 7 (.act 5 (.act 8 (.act 9 .done))) .no))) (.alt 7 (.act 2 (.act 5 (.act 8 (.act 9 .done)))) .no))) (.alt 7 (.alts (.alt 2 (.alts (.alt 5 (.act 6 (.act 8 (.act 9 .done))) (.alt 6 (.act 5 (.act 8 (.act 9 .done))) .no))) (.alt 6 (.act 2 (.act 5 (.act 8 (.act 9 .done)))) .no))) .no)))))))) bB [] trivial (by kernel_rfl) (fun (q1:(Int×Int×List (List Int)×Int×Int×List (List Int))×(Hd×Hd×Nat×Nat))=>[(6,(vp b0)),(7,(vp b1)),(9,(vp q1.2.2.2.2)),(10,(vp q1.2.2.2.1))]) (fun (q1:(Int×Int×List (List Int)×Int×Int×List (List Int))×(Hd×Hd×Nat×Nat)) w'=>(q1.1.1,q1.1.2.1,q1.1.2.2.1,q1.1.2.2.2.1,q1.1.2.2.2.2.1,q1.1.2.2.2.2.2)=r1∧Cx w0 fp0 S0 w' [Bx b0 [(vi 0),(vi 0),vn],Bx b1 [(vi 0),(vi 0),vn],Bx q1.2.2.2.2 [(vi q1.1.2.2.2.1),(vi q1.1.2.2.2.2.1),(q1.2.2.1).v],Es (List (List Int)) q1.1.2.2.2.2.2 q1.2.2.1,Bx q1.2.2.2.1 [(vi q1.1.1),(vi q1.1.2.1),(q1.2.1).v],Es (List (List Int)) q1.1.2.2.1 q1.2.1,Gl 0 [.int .i64 2,.int .i64 3,.int .i64 5,.int .i64 7]]) ?_ ?_
 intro w8 H
 have hX:Ext w8 w8:=Upd.refl _ _
 refine sC [(a__0h).v] rfl (H.bz_ 0 rfl) ?_
 refine sC [(b__0h).v] rfl (H.bz_ 2 rfl) ?_
 refine both ?_ ?_
 obtain ⟨⟨y3_0,y3_1,y3_2⟩,i2,f11⟩:=aA f9
 refine xC (oF i2) H [1] rfl (yA uA xB) ?_
 rintro _ _ w9 ⟨h0,rfl,rfl⟩ hx H
 refine hold_ hX hx fun hX=>?_
 refine both ?_ ?_
 obtain ⟨⟨y4_0,y4_1,y4_2⟩,i3,f12⟩:=aA f11
 refine xC (oF i3) H [4] rfl (yA uA xB) ?_
 rintro _ _ w11 ⟨h1,rfl,rfl⟩ hx H
 refine hold_ hX hx fun hX=>?_
 refine both ?_ ?_
 refine vC gok rfl H ?_;intro b2 w12 hx v0 H;replace v0:=Nat.le_trans hX.size v0
 refine hold_ hX hx fun hX=>?_
 refine vC gok rfl H ?_;intro b3 w14 hx v1 H;replace v1:=Nat.le_trans hX.size v1
 refine hold_ hX hx fun hX=>?_
 refine oC gok [(vi y3_0),(vi y3_1),(h0).v] rfl (H.sel [1,0,2,3,4,5,6,7,8,9,10] rfl) rfl rfl rfl ?_;intro w15 hu H
 replace hX:=hX.fresh hu v0
 refine hold hX ?_
 refine oC gok [(vi y4_0),(vi y4_1),(h1).v] rfl (H.sel [1,0,2,3,4,5,6,7,8,9,10] rfl) rfl rfl rfl ?_;intro w16 hu H
 replace hX:=hX.fresh hu v1
 refine hold hX ?_
 exact ⟨((y4_0,y4_1,y4_2,y3_0,y3_1,y3_2),(h1,h0,b3,b2)),r4_,oi_ f12,H.sel [8,9,1,3,0,2,10] rfl⟩
 refine both ?_ ?_
 refine vC gok rfl H ?_;intro b4 w17 hx v2 H;replace v2:=Nat.le_trans hX.size v2
 refine hold_ hX hx fun hX=>?_
 refine vC gok rfl H ?_;intro b6 w18 hx v3 H;replace v3:=Nat.le_trans hX.size v3
 refine hold_ hX hx fun hX=>?_
 refine oC gok [(vi y3_0),(vi y3_1),(h0).v] rfl H rfl rfl rfl ?_;intro w19 hu H
 replace hX:=hX.fresh hu v3
 refine hold hX ?_
 refine oC gok [(vi y4_0),(vi y4_1),(h1).v] rfl (H.sel [1,0,2,3,4,5,6,7,8,9,10] rfl) rfl rfl rfl ?_;intro w20 hu H
 replace hX:=hX.fresh hu v2
 refine hold hX ?_
 exact ⟨((y4_0,y4_1,y4_2,y3_0,y3_1,y3_2),(h1,h0,b4,b6)),r4_,oi_ f12,H.sel [8,9,1,3,0,2,10] rfl⟩
 exact trivial
 refine both ?_ ?_
 obtain ⟨a2,o0,f13⟩:=aA f11
 refine vC gok rfl H ?_;intro b7 w21 hx v4 H;replace v4:=Nat.le_trans hX.size v4
 refine hold_ hX hx fun hX=>?_
 refine both ?_ ?_
 have e:=o0
 obtain ⟨a2_0,a2_1,a2_2⟩:=a2
 have i4:=e
 refine xC (oF i4) H [5] rfl (yA uA xB) ?_
 rintro _ _ w22 ⟨h2,rfl,rfl⟩ hx H
 refine hold_ hX hx fun hX=>?_
 refine vC gok rfl H ?_;intro b9 w23 hx v5 H;replace v5:=Nat.le_trans hX.size v5
 refine hold_ hX hx fun hX=>?_
 refine oC gok [(vi y3_0),(vi y3_1),(h0).v] rfl (H.sel [2,0,1,3,4,5,6,7,8,9,10] rfl) rfl rfl rfl ?_;intro w24 hu H
 replace hX:=hX.fresh hu v4
 refine hold hX ?_
 refine oC gok [(vi a2_0),(vi a2_1),(h2).v] rfl (H.sel [1,0,2,3,4,5,6,7,8,9,10] rfl) rfl rfl rfl ?_;intro w25 hu H
 replace hX:=hX.fresh hu v5
 refine hold hX ?_
 exact ⟨((a2_0,a2_1,a2_2,y3_0,y3_1,y3_2),(h2,h0,b9,b7)),r4_,oi_ f13,H.sel [8,9,1,3,0,2,10] rfl⟩
 refine both ?_ ?_
 refine vC gok rfl H ?_;intro b10 w26 hx v6 H;replace v6:=Nat.le_trans hX.size v6
 refine hold_ hX hx fun hX=>?_
 have e:=o0
 obtain ⟨a2_0,a2_1,a2_2⟩:=a2
 have i4:=e
 refine xC (oF i4) H [6] rfl (yA uA xB) ?_
 rintro _ _ w27 ⟨h3,rfl,rfl⟩ hx H
 refine hold_ hX hx fun hX=>?_
 refine oC gok [(vi y3_0),(vi y3_1),(h0).v] rfl (H.sel [2,0,1,3,4,5,6,7,8,9,10] rfl) rfl rfl rfl ?_;intro w28 hu H
 replace hX:=hX.fresh hu v4
 refine hold hX ?_
 refine oC gok [(vi a2_0),(vi a2_1),(h3).v] rfl (H.sel [2,0,1,3,4,5,6,7,8,9,10] rfl) rfl rfl rfl ?_;intro w29 hu H
 replace hX:=hX.fresh hu v6
 refine hold hX ?_
 exact ⟨((a2_0,a2_1,a2_2,y3_0,y3_1,y3_2),(h3,h0,b10,b7)),r4_,oi_ f13,H.sel [8,9,1,3,0,2,10] rfl⟩
 exact trivial
 refine both ?_ ?_
 obtain ⟨a3,o1,f14⟩:=aA f11
 refine vC gok rfl H ?_;intro b12 w30 hx v7 H;replace v7:=Nat.le_trans hX.size v7
 refine hold_ hX hx fun hX=>?_
 refine both ?_ ?_
 have e:=o1
 obtain ⟨a3_0,a3_1,a3_2⟩:=a3
 have i5:=e
 refine xC (oF i5) H [5] rfl (yA uA xB) ?_
 rintro _ _ w31 ⟨h4,rfl,rfl⟩ hx H
 refine hold_ hX hx fun hX=>?_
 refine vC gok rfl H ?_;intro b13 w32 hx v8 H;replace v8:=Nat.le_trans hX.size v8
 refine hold_ hX hx fun hX=>?_
 refine oC gok [(vi y3_0),(vi y3_1),(h0).v] rfl H rfl rfl rfl ?_;intro w33 hu H
 replace hX:=hX.fresh hu v8
 refine hold hX ?_
 refine oC gok [(vi a3_0),(vi a3_1),(h4).v] rfl (H.sel [2,0,1,3,4,5,6,7,8,9,10] rfl) rfl rfl rfl ?_;intro w34 hu H
 replace hX:=hX.fresh hu v7
 refine hold hX ?_
 exact ⟨((a3_0,a3_1,a3_2,y3_0,y3_1,y3_2),(h4,h0,b12,b13)),r4_,oi_ f14,H.sel [8,9,1,3,0,2,10] rfl⟩
 refine both ?_ ?_
 refine vC gok rfl H ?_;intro b15 w35 hx v9 H;replace v9:=Nat.le_trans hX.size v9
 refine hold_ hX hx fun hX=>?_
 have e:=o1
 obtain ⟨a3_0,a3_1,a3_2⟩:=a3
 have i5:=e
 refine xC (oF i5) H [6] rfl (yA uA xB) ?_
 rintro _ _ w37 ⟨h5,rfl,rfl⟩ hx H
 refine hold_ hX hx fun hX=>?_
 refine oC gok [(vi y3_0),(vi y3_1),(h0).v] rfl (H.sel [1,0,2,3,4,5,6,7,8,9,10] rfl) rfl rfl rfl ?_;intro w38 hu H
 replace hX:=hX.fresh hu v9
 refine hold hX ?_
 refine oC gok [(vi a3_0),(vi a3_1),(h5).v] rfl (H.sel [2,0,1,3,4,5,6,7,8,9,10] rfl) rfl rfl rfl ?_;intro w39 hu H
 replace hX:=hX.fresh hu v7
 refine hold hX ?_
 exact ⟨((a3_0,a3_1,a3_2,y3_0,y3_1,y3_2),(h5,h0,b12,b15)),r4_,oi_ f14,H.sel [8,9,1,3,0,2,10] rfl⟩
 exact trivial
 exact trivial
 refine both ?_ ?_
 obtain ⟨a4,o2,f15⟩:=aA f9
 obtain ⟨a5,o3,f16⟩:=aA f15
 refine vC gok rfl H ?_;intro b16 w40 hx v10 H;replace v10:=Nat.le_trans hX.size v10
 refine hold_ hX hx fun hX=>?_
 refine both ?_ ?_
 have e:=o2
 obtain ⟨a4_0,a4_1,a4_2⟩:=a4
 have i6:=e
 refine xC (oF i6) H [2] rfl (yA uA xB) ?_
 rintro _ _ w41 ⟨h6,rfl,rfl⟩ hx H
 refine hold_ hX hx fun hX=>?_
 refine both ?_ ?_
 have e:=o3
 obtain ⟨a5_0,a5_1,a5_2⟩:=a5
 have i7:=e
 refine xC (oF i7) H [5] rfl (yA uA xB) ?_
 rintro _ _ w43 ⟨h7,rfl,rfl⟩ hx H
 refine hold_ hX hx fun hX=>?_
 refine vC gok rfl H ?_;intro b17 w44 hx v11 H;replace v11:=Nat.le_trans hX.size v11
 refine hold_ hX hx fun hX=>?_
 refine oC gok [(vi a4_0),(vi a4_1),(h6).v] rfl (H.sel [3,0,1,2,4,5,6,7,8,9,10] rfl) rfl rfl rfl ?_;intro w45 hu H
 replace hX:=hX.fresh hu v10
 refine hold hX ?_
 refine oC gok [(vi a5_0),(vi a5_1),(h7).v] rfl (H.sel [1,0,2,3,4,5,6,7,8,9,10] rfl) rfl rfl rfl ?_;intro w47 hu H
 replace hX:=hX.fresh hu v11
 refine hold hX ?_
 exact ⟨((a5_0,a5_1,a5_2,a4_0,a4_1,a4_2),(h7,h6,b17,b16)),r4_,oi_ f16,H.sel [8,9,1,3,0,2,10] rfl⟩
 refine both ?_ ?_
 refine vC gok rfl H ?_;intro b18 w48 hx v12 H;replace v12:=Nat.le_trans hX.size v12
 refine hold_ hX hx fun hX=>?_
 have e:=o3
 obtain ⟨a5_0,a5_1,a5_2⟩:=a5
 have i7:=e
 refine xC (oF i7) H [6] rfl (yA uA xB) ?_
 rintro _ _ w49 ⟨h8,rfl,rfl⟩ hx H
 refine hold_ hX hx fun hX=>?_
 refine oC gok [(vi a4_0),(vi a4_1),(h6).v] rfl (H.sel [3,0,1,2,4,5,6,7,8,9,10] rfl) rfl rfl rfl ?_;intro w50 hu H
 replace hX:=hX.fresh hu v10
 refine hold hX ?_
 refine oC gok [(vi a5_0),(vi a5_1),(h8).v] rfl (H.sel [2,0,1,3,4,5,6,7,8,9,10] rfl) rfl rfl rfl ?_;intro w51 hu H
 replace hX:=hX.fresh hu v12
 refine hold hX ?_
 exact ⟨((a5_0,a5_1,a5_2,a4_0,a4_1,a4_2),(h8,h6,b18,b16)),r4_,oi_ f16,H.sel [8,9,1,3,0,2,10] rfl⟩
 exact trivial
 refine both ?_ ?_
 refine vC gok rfl H ?_;intro b19 w52 hx v13 H;replace v13:=Nat.le_trans hX.size v13
 refine hold_ hX hx fun hX=>?_
 have e:=o2
 obtain ⟨a4_0,a4_1,a4_2⟩:=a4
 have i6:=e
 refine xC (oF i6) H [3] rfl (yA uA xB) ?_
 rintro _ _ w53 ⟨h9,rfl,rfl⟩ hx H
 refine hold_ hX hx fun hX=>?_
 have e:=o3
 obtain ⟨a5_0,a5_1,a5_2⟩:=a5
 have i7:=e
 refine xC (oF i7) H [6] rfl (yA uA xB) ?_
 rintro _ _ w54 ⟨h10,rfl,rfl⟩ hx H
 refine hold_ hX hx fun hX=>?_
 refine oC gok [(vi a4_0),(vi a4_1),(h9).v] rfl (H.sel [3,0,1,2,4,5,6,7,8,9,10] rfl) rfl rfl rfl ?_;intro w55 hu H
 replace hX:=hX.fresh hu v10
 refine hold hX ?_
 refine oC gok [(vi a5_0),(vi a5_1),(h10).v] rfl (H.sel [3,0,1,2,4,5,6,7,8,9,10] rfl) rfl rfl rfl ?_;intro w56 hu H
 replace hX:=hX.fresh hu v13
 refine hold hX ?_
 exact ⟨((a5_0,a5_1,a5_2,a4_0,a4_1,a4_2),(h10,h9,b19,b16)),r4_,oi_ f16,H.sel [8,9,1,3,0,2,10] rfl⟩
 exact trivial
 refine both ?_ ?_
 obtain ⟨a6,o4,f17⟩:=aA f9
 obtain ⟨a7,o5,f18⟩:=aA f17
 refine vC gok rfl H ?_;intro b20 w57 hx v14 H;replace v14:=Nat.le_trans hX.size v14
 refine hold_ hX hx fun hX=>?_
 refine both ?_ ?_
 have e:=o4
 obtain ⟨a6_0,a6_1,a6_2⟩:=a6
 have i8:=e
 refine xC (oF i8) H [2] rfl (yA uA xB) ?_
 rintro _ _ w58 ⟨h11,rfl,rfl⟩ hx H
 refine hold_ hX hx fun hX=>?_
 refine both ?_ ?_
 have e:=o5
 obtain ⟨a7_0,a7_1,a7_2⟩:=a7
 have i9:=e
 refine xC (oF i9) H [5] rfl (yA uA xB) ?_
 rintro _ _ w59 ⟨h12,rfl,rfl⟩ hx H
 refine hold_ hX hx fun hX=>?_
 refine vC gok rfl H ?_;intro b21 w60 hx v15 H;replace v15:=Nat.le_trans hX.size v15
 refine hold_ hX hx fun hX=>?_
 refine oC gok [(vi a6_0),(vi a6_1),(h11).v] rfl H rfl rfl rfl ?_;intro w61 hu H
 replace hX:=hX.fresh hu v15
 refine hold hX ?_
 refine oC gok [(vi a7_0),(vi a7_1),(h12).v] rfl (H.sel [3,0,1,2,4,5,6,7,8,9,10] rfl) rfl rfl rfl ?_;intro w62 hu H
 replace hX:=hX.fresh hu v14
 refine hold hX ?_
 exact ⟨((a7_0,a7_1,a7_2,a6_0,a6_1,a6_2),(h12,h11,b20,b21)),r4_,oi_ f18,H.sel [8,9,1,3,0,2,10] rfl⟩
 refine both ?_ ?_
 refine vC gok rfl H ?_;intro b22 w63 hx v16 H;replace v16:=Nat.le_trans hX.size v16
 refine hold_ hX hx fun hX=>?_
 have e:=o5
 obtain ⟨a7_0,a7_1,a7_2⟩:=a7
 have i9:=e
 refine xC (oF i9) H [6] rfl (yA uA xB) ?_
 rintro _ _ w64 ⟨h13,rfl,rfl⟩ hx H
 refine hold_ hX hx fun hX=>?_
 refine oC gok [(vi a6_0),(vi a6_1),(h11).v] rfl (H.sel [1,0,2,3,4,5,6,7,8,9,10] rfl) rfl rfl rfl ?_;intro w65 hu H
 replace hX:=hX.fresh hu v16
 refine hold hX ?_
 refine oC gok [(vi a7_0),(vi a7_1),(h13).v] rfl (H.sel [3,0,1,2,4,5,6,7,8,9,10] rfl) rfl rfl rfl ?_;intro w66 hu H
 replace hX:=hX.fresh hu v14
 refine hold hX ?_
 exact ⟨((a7_0,a7_1,a7_2,a6_0,a6_1,a6_2),(h13,h11,b20,b22)),r4_,oi_ f18,H.sel [8,9,1,3,0,2,10] rfl⟩
 exact trivial
 refine both ?_ ?_
 refine vC gok rfl H ?_;intro b23 w67 hx v17 H;replace v17:=Nat.le_trans hX.size v17
 refine hold_ hX hx fun hX=>?_
 have e:=o4
 obtain ⟨a6_0,a6_1,a6_2⟩:=a6
 have i8:=e
 refine xC (oF i8) H [3] rfl (yA uA xB) ?_
 rintro _ _ w68 ⟨h14,rfl,rfl⟩ hx H
 refine hold_ hX hx fun hX=>?_
 have e:=o5
 obtain ⟨a7_0,a7_1,a7_2⟩:=a7
 have i9:=e
 refine xC (oF i9) H [6] rfl (yA uA xB) ?_
 rintro _ _ w69 ⟨h15,rfl,rfl⟩ hx H
 refine hold_ hX hx fun hX=>?_
 refine oC gok [(vi a6_0),(vi a6_1),(h14).v] rfl (H.sel [2,0,1,3,4,5,6,7,8,9,10] rfl) rfl rfl rfl ?_;intro w70 hu H
 replace hX:=hX.fresh hu v17
 refine hold hX ?_
 refine oC gok [(vi a7_0),(vi a7_1),(h15).v] rfl (H.sel [3,0,1,2,4,5,6,7,8,9,10] rfl) rfl rfl rfl ?_;intro w71 hu H
 replace hX:=hX.fresh hu v14
 refine hold hX ?_
 exact ⟨((a7_0,a7_1,a7_2,a6_0,a6_1,a6_2),(h15,h14,b20,b23)),r4_,oi_ f18,H.sel [8,9,1,3,0,2,10] rfl⟩
 exact trivial
 exact trivial
 rintro T1 ⟨⟨s1_0,s1_1,s1_2,s1_3,s1_4,s1_5⟩,⟨g0_0,g0_1,g0_2,g0_3⟩⟩ w72 ⟨hr,H⟩;try dsimp only at H
 subst hr
 obtain ⟨r2,f19,f20⟩:=aA f10
 refine cut (fun (q2:(Int×Int×List (List Int)×Int×Int×List (List Int)×Bool)×(Hd×Hd))=>[(6,(vp b0)),(7,(vp b1)),(8,(.bool q2.1.2.2.2.2.2.2))]) (fun (q2:(Int×Int×List (List Int)×Int×Int×List (List Int)×Bool)×(Hd×Hd)) w'=>(q2.1.1,q2.1.2.1,q2.1.2.2.1,q2.1.2.2.2.1,q2.1.2.2.2.2.1,q2.1.2.2.2.2.2.1,q2.1.2.2.2.2.2.2)=r2∧Cx w0 fp0 S0 w' [Bx b0 [(vi q2.1.1),(vi q2.1.2.1),(q2.2.1).v],Es (List (List Int)) q2.1.2.2.1 q2.2.1,Bx b1 [(vi q2.1.2.2.2.1),(vi q2.1.2.2.2.2.1),(q2.2.2).v],Es (List (List Int)) q2.1.2.2.2.2.2.1 q2.2.2,Gl 0 [.int .i64 2,.int .i64 3,.int .i64 5,.int .i64 7]]) ?_ ?_
 refine kB H [14,15,16,0,1,8,9,10,11,12,13] (.pure 0 (.pure 1 (.fst 2 (.fst 4 (.fst 3 (.fst 5 (.fst 6 (.fst 7 (.pure 8 (.pure 9 (.pure 10 (.pure 11 (.pure 12 (.pure 13 (.act 14 (.act 15 (.act 16 .done))))))))))))))))) bB [((Addr.add ⟨g0_3,0,none⟩ 0),(vi s1_3)),((Addr.add ⟨g0_3,0,none⟩ 1),(vi s1_4)),((Addr.add ⟨g0_3,0,none⟩ 2),(g0_1).v),((Addr.add ⟨g0_2,0,none⟩ 0),(vi s1_0)),((Addr.add ⟨g0_2,0,none⟩ 1),(vi s1_1)),((Addr.add ⟨g0_2,0,none⟩ 2),(g0_0).v),((Addr.add ⟨g0_3,0,none⟩ 1),(vi s1_4)),((Addr.add ⟨g0_2,0,none⟩ 1),(vi s1_1))] ⟨H.bx 2 rfl (j:=0) rfl,H.bx 2 rfl (j:=1) rfl,H.bx 2 rfl (j:=2) rfl,H.bx 4 rfl (j:=0) rfl,H.bx 4 rfl (j:=1) rfl,H.bx 4 rfl (j:=2) rfl,H.bx 2 rfl (j:=1) rfl,H.bx 4 rfl (j:=1) rfl,trivial⟩ (by kernel_rfl) ?_
 intro w73 H
 have hX:Ext w73 w73:=Upd.refl _ _
 refine aN 0 [(vi s1_3),(vi s1_4),(g0_1).v] rfl r3_ ?_
 refine aN 3 [(vi s1_0),(vi s1_1),(g0_0).v] rfl r3_ ?_
 refine oA (fun _=>fld gok rfl rfl rfl rfl ⟨rfl,rfl⟩) ?_
 refine oA (fun _=>fld gok rfl rfl rfl rfl ⟨rfl,rfl⟩) ?_
 refine gA (H.bx 2 rfl (j:=0) rfl) ?_
 refine gA (H.bx 4 rfl (j:=0) rfl) ?_
 refine boolB_ f19 (fun f22=>?_) fun f23=>?_
 refine stA gok [(vi s1_3),(vi s1_4),(g0_1).v] rfl H rfl rfl rfl ?_;intro w74 H
 refine hold ⟨H.bx 2 rfl (j:=0) rfl,H.bx 2 rfl (j:=1) rfl,H.bx 2 rfl (j:=2) rfl,H.bx 4 rfl (j:=0) rfl,H.bx 4 rfl (j:=1) rfl,H.bx 4 rfl (j:=2) rfl,H.bx 2 rfl (j:=1) rfl,H.bx 4 rfl (j:=1) rfl,trivial⟩ ?_
 refine stA gok [(vi s1_0),(vi s1_1),(g0_0).v] rfl (H.sel [1,0,2,3,4,5,6] rfl) rfl rfl rfl ?_;intro w75 H
 refine hold ⟨H.bx 2 rfl (j:=0) rfl,H.bx 2 rfl (j:=1) rfl,H.bx 2 rfl (j:=2) rfl,H.bx 4 rfl (j:=0) rfl,H.bx 4 rfl (j:=1) rfl,H.bx 4 rfl (j:=2) rfl,H.bx 2 rfl (j:=1) rfl,H.bx 4 rfl (j:=1) rfl,trivial⟩ ?_
 refine hold ⟨H.bx 2 rfl (j:=0) rfl,H.bx 2 rfl (j:=1) rfl,H.bx 2 rfl (j:=2) rfl,H.bx 4 rfl (j:=0) rfl,H.bx 4 rfl (j:=1) rfl,H.bx 4 rfl (j:=2) rfl,H.bx 2 rfl (j:=1) rfl,H.bx 4 rfl (j:=1) rfl,trivial⟩ ?_
 exact ⟨((s1_3,s1_4,s1_5,s1_0,s1_1,s1_2,false),(g0_1,g0_0)),r3_,oi_ f22,H.sel [1,3,0,5,6] rfl⟩
 refine oA (fun _=>fld gok rfl rfl rfl rfl ⟨rfl,rfl⟩) ?_
 refine gI 6 rfl ?_
 refine oA (fun _=>fld gok rfl rfl rfl rfl ⟨rfl,rfl⟩) ?_
 refine gI 7 rfl ?_
 obtain ⟨a9,e,f24⟩:=aA f23
 refine tB e ?_
 refine stA gok [(vi s1_3),(vi s1_4),(g0_1).v] rfl H rfl rfl rfl ?_;intro w76 H
 refine hold ⟨H.bx 2 rfl (j:=0) rfl,H.bx 2 rfl (j:=1) rfl,H.bx 2 rfl (j:=2) rfl,H.bx 4 rfl (j:=0) rfl,H.bx 4 rfl (j:=1) rfl,H.bx 4 rfl (j:=2) rfl,H.bx 2 rfl (j:=1) rfl,H.bx 4 rfl (j:=1) rfl,trivial⟩ ?_
 refine stA gok [(vi s1_0),(vi s1_1),(g0_0).v] rfl (H.sel [1,0,2,3,4,5,6] rfl) rfl rfl rfl ?_;intro w77 H
 refine hold ⟨H.bx 2 rfl (j:=0) rfl,H.bx 2 rfl (j:=1) rfl,H.bx 2 rfl (j:=2) rfl,H.bx 4 rfl (j:=0) rfl,H.bx 4 rfl (j:=1) rfl,H.bx 4 rfl (j:=2) rfl,H.bx 2 rfl (j:=1) rfl,H.bx 4 rfl (j:=1) rfl,trivial⟩ ?_
 refine hold ⟨H.bx 2 rfl (j:=0) rfl,H.bx 2 rfl (j:=1) rfl,H.bx 2 rfl (j:=2) rfl,H.bx 4 rfl (j:=0) rfl,H.bx 4 rfl (j:=1) rfl,H.bx 4 rfl (j:=2) rfl,H.bx 2 rfl (j:=1) rfl,H.bx 4 rfl (j:=1) rfl,trivial⟩ ?_
 exact ⟨((s1_3,s1_4,s1_5,s1_0,s1_1,s1_2,a9),(g0_1,g0_0)),r3_,oi_ f24,H.sel [1,3,0,5,6] rfl⟩
 rintro T2 ⟨⟨s2_0,s2_1,s2_2,s2_3,s2_4,s2_5,s2_6⟩,⟨g1_0,g1_1⟩⟩ w78 ⟨hr,H⟩;try dsimp only at H
 subst hr
 refine cA [(vi s2_0),(vi s2_1),(g1_0).v] rfl (H.bz_ 0 rfl) ?_
 refine cA [(vi s2_3),(vi s2_4),(g1_1).v] rfl (H.bz_ 2 rfl) ?_
 cases f20
 exact ⟨_,_,rfl,⟨g1_0,g1_1,rfl,rfl⟩,(H.sel [1,3] rfl)⟩
 have f25:=eB f1
 refine pB (cs:=#[(vi 0),(vi 0),vn]) gok rfl rfl rfl ?_
 refine pB (cs:=#[(vi 0),(vi 0),vn]) gok rfl rfl rfl ?_
 refine stA gok [(vi 0),(vi 0),vn] rfl (H.sel [4,0,1,2,3,5,6] rfl) rfl rfl rfl ?_;intro w79 H
 refine stA gok [(vi 0),(vi 0),vn] rfl (H.sel [5,0,1,2,3,4,6] rfl) rfl rfl rfl ?_;intro w80 H
 refine cA [(vi 0),(vi 0),vn] rfl (H.bz_ 1 rfl) ?_
 refine cA [(vi 0),(vi 0),vn] rfl (H.bz_ 0 rfl) ?_
 replace H:=H.nil (α:=List Int)
 replace H:=H.frz
 replace H:=H.nil (α:=List Int)
 replace H:=H.frz
 cases f25
 exact ⟨_,_,rfl,⟨nilH,nilH,rfl,rfl⟩,(H.sel [1,0] rfl)⟩
theorem Gq_ {p_:Int}{r__0:ByteArray}{r__1_0:List Ty4}{r__1_0h:Hd}{r__2_0:List Ty4}{r__2_0h:Hd}{y0_0 y0_1:Int}{y0_2:List (List Int)}{y1_0 y1_1:Int}{y1_2:List (List Int)}{y2:Bool} (hF:kZ p_ (r__0,r__1_0,r__2_0)=some ((y0_0,y0_1,y0_2),(y1_0,y1_1,y1_2),y2)) :
  bF Tryz.prog 44 #[(vi p_),(.agg #[(.string r__0),(r__1_0h).v,(r__2_0h).v])] [Es (List Ty4) r__1_0 r__1_0h,Es (List Ty4) r__2_0 r__2_0h,Gl 0 [.int .i64 2,.int .i64 3,.int .i64 5,.int .i64 7]] [] (fun v Γ'=>∃ z0 z1:Hd,v=(.tuple #[(.agg #[(vi y0_0),(vi y0_1),(z0).v]),(.agg #[(vi y1_0),(vi y1_1),(z1).v]),(.bool y2)])∧Γ'=[Es (List (List Int)) y0_2 z0,Es (List (List Int)) y1_2 z1]):=by
 intro w0 S0 fp0 hI hS
 have H:=Cx.start hI hS;dsimp at H
 refine iA (args:=[_,_]) gok Tryz.func44 rfl _ rfl rfl rfl ?_
 refine xA H ?_;intro b5 w4 hx H
 refine sA gok rfl H ?_;intro b8 w7 hx H
 refine sA gok rfl H ?_;intro b0 w1 hx H
 refine sq ?_
 refine cA [(.string r__0),(r__1_0h).v,(r__2_0h).v] rfl (H.bz_ 2 rfl) ?_
 obtain ⟨y0,i0,f0⟩:=aA hF
 refine callF0_ (GU_ i0) H ⟨Vw.sh 3 rfl,Vw.sh 4 rfl,Vw.gl 5 rfl,trivial⟩ ?_
 rintro _ _ w2 ⟨rfl,rfl⟩ H
 refine boolB_ f0 (fun f2=>?_) fun f4=>?_
 refine fld gok rfl rfl rfl rfl ?_
 refine cA [(r__1_0h).v] rfl (H.bxs 2 rfl 1 rfl) ?_
 refine fld gok rfl rfl rfl rfl ?_
 refine cA [(r__2_0h).v] rfl (H.bxs 2 rfl 2 rfl) ?_
 obtain ⟨y1,e,f3⟩:=aA f2
 obtain ⟨⟨y1_0_0,y1_0_1,y1_0_2⟩,⟨y1_1_0,y1_1_1,y1_1_2⟩,y1_2⟩:=y1
 have i1:=e
 refine qE (F5_ i1) (Γi:=[]) H [3,4,5] rfl (yA uA (yA uA (yA persG xB))) ?_
 rintro _ _ w3 ⟨h0,h1,rfl,rfl⟩ H
 refine stA gok [(vi y1_0_0),(vi y1_0_1),(h0).v] rfl (H.sel [3,0,1,2,4,5,6,7] rfl) rfl rfl rfl ?_;intro w5 H
 refine stA gok [(vi y1_1_0),(vi y1_1_1),(h1).v] rfl (H.sel [3,0,1,2,4,5,6,7] rfl) rfl rfl rfl ?_;intro w6 H
 refine cA [(vi y1_0_0),(vi y1_0_1),(h0).v] rfl (H.bz_ 1 rfl) ?_
 refine cA [(vi y1_1_0),(vi y1_1_1),(h1).v] rfl (H.bz_ 0 rfl) ?_
 cases f3
 exact ⟨_,_,rfl,⟨h0,h1,rfl,rfl⟩,(H.sel [2,3] rfl)⟩
 refine pB (cs:=#[(vi 0),(vi 0),vn]) gok rfl rfl rfl ?_
 refine pB (cs:=#[(vi 0),(vi 0),vn]) gok rfl rfl rfl ?_
 refine stA gok [(vi 0),(vi 0),vn] rfl (H.sel [1,0,2,3,4,5] rfl) rfl rfl rfl ?_;intro w8 H
 refine stA gok [(vi 0),(vi 0),vn] rfl (H.sel [1,0,2,3,4,5] rfl) rfl rfl rfl ?_;intro w9 H
 refine cA [(vi 0),(vi 0),vn] rfl (H.bz_ 1 rfl) ?_
 refine cA [(vi 0),(vi 0),vn] rfl (H.bz_ 0 rfl) ?_
 replace H:=H.nil (α:=List Int)
 replace H:=H.frz
 replace H:=H.nil (α:=List Int)
 replace H:=H.frz
 cases f4
 exact ⟨_,_,rfl,⟨nilH,nilH,rfl,rfl⟩,(H.sel [1,0] rfl)⟩
theorem CU_ {v_:List Int}{v_h:Hd}{y:Int} (hF:rQ v_=some y) :
  kA Tryz.prog 100 #[(v_h).v] [Es (List Int) v_ v_h] [] (fun v Γ'=>v=(vi y)∧Γ'=[]):=by
 intro w0 S0 fp0 hI hS
 have H:Cx w0 fp0 S0 w0 [Es (List Int) v_ v_h]:=Cx.start hI hS
 refine iA (args:=[_]) gok Tryz.func100 rfl _ rfl rfl rfl ?_
 refine sq ?_
 refine nA (H.rs (α:=List Int) 0 rfl).len ?_
 have x0:=(H.rs (α:=List Int) 0 rfl).max
 obtain ⟨r0,e,f0⟩:=aA hF
 refine iE _ v_.length (fun (k2:Nat) (_:Unit) (_:Unit)=>[(0,(v_h).v),(5,(v_h).v),(6,(vi ((v_.length:Nat):Int))),(7,(vi ((k2:Nat):Int)))]) (fun _ (_:Unit) (_:Unit) w'=>Cx w0 fp0 S0 w' [Es (List Int) v_ v_h]) () () e r4_ (H.sel [0] rfl) ?_ ?_
 rintro T0 k2 _ _ w1 o0 hk (H:Cx w0 fp0 S0 w1 [Es (List Int) v_ v_h]) hrt f1
 refine jA (z:=true) (cB hk) ?_
 refine sq (sq ?_)
 obtain ⟨a0,e,f2⟩:=aA f1
 obtain ⟨p0,m0,c0,c1,c2,c3⟩:=(H.rs (α:=List Int) 0 rfl).at1 e
 refine dA c0 c1 c2 ?_
 refine bA c3 ?_
 refine boolB_ f2 (fun f4=>?_) fun f5=>?_
 refine arK hk x0 ?_
 obtain rfl:=oi_ f4
 exact ⟨(),(),rfl,r4_,H.sel [0] rfl⟩
 obtain rfl:=oi_ f5
 have hr:=hrt _ rfl;subst hr
 have f6:some _=some _:=f0
 cases f6
 exact ⟨_,_,rfl,⟨rfl,rfl⟩,(H.sel [] rfl).close trivial⟩
 rintro T1 _ _ w2 hr H;try dsimp only at H
 subst hr
 refine jA (z:=false) dB ?_
 refine sq ?_
 refine nA (H.rs (α:=List Int) 0 rfl).len ?_
 cases f0
 exact ⟨_,_,rfl,⟨rfl,rfl⟩,(H.sel [] rfl).close trivial⟩
theorem GQ_ {v_:List Int}{v_h:Hd}{y:Bool} (hF:Ad_ v_=some y) :
  kA Tryz.prog 101 #[(v_h).v] [Es (List Int) v_ v_h] [] (fun v Γ'=>v=(.bool y)∧Γ'=[]):=by
 intro w0 S0 fp0 hI hS
 have H:Cx w0 fp0 S0 w0 [Es (List Int) v_ v_h]:=Cx.start hI hS
 refine iA (args:=[_]) gok Tryz.func101 rfl _ rfl rfl rfl ?_
 obtain ⟨y2,ey2,hF3⟩:=aA hF
 refine callF0_ (CU_ ey2) H ⟨Vw.sh 0 rfl,trivial⟩ ?_
 rintro _ _ w4 ⟨rfl,rfl⟩ H
 refine nA (H.rs (α:=List Int) 0 rfl).len ?_
 obtain ⟨a5,e,hF6⟩:=aA hF3
 refine tB e ?_
 cases hF6
 exact ⟨_,_,rfl,⟨rfl,rfl⟩,(H.sel [] rfl).close trivial⟩
theorem FJ_ {p_:Int}{basis_:List (List Int)}{basis_h:Hd}{v_:List Int}{v_h:Hd}{y0:List Int}{y1:Bool} (hF:kY p_ basis_ v_=some (y0,y1)) :
  kA Tryz.prog 72 #[(vi p_),(basis_h).v,(v_h).v] [Es (List (List Int)) basis_ basis_h,Es (List Int) v_ v_h] [] (fun v Γ'=>∃ z0:Hd,v=(.tuple #[(z0).v,(.bool y1)])∧Γ'=[E (List Int) y0 z0]):=by
 intro w0 S0 fp0 hI hS
 have H:=Cx.start hI hS;dsimp at H
 refine iA (args:=[_,_,_]) gok Tryz.func72 rfl _ rfl rfl rfl ?_
 obtain ⟨y3,ey3,hF4⟩:=aA hF
 refine callF0_ (kH ey3) H ⟨Vw.sh 1 rfl,trivial⟩ ?_
 rintro _ _ w5 ⟨h6,rfl,rfl⟩ H
 refine wF (α:=Int) gok rfl rfl H ?_;intro h9 w8 hx H
 refine sq ?_
 refine nA (H.rs (α:=List (List Int)) 2 rfl).len ?_
 have x0:=(H.rs (α:=List (List Int)) 2 rfl).max
 obtain ⟨r0,e,f0⟩:=aA hF4
 refine nB _ basis_.length (fun (k0:Nat) (s0:List Int×List Int) (g0:Hd)=>[(0,(vi p_)),(8,(h6).v),(9,(g0).v),(16,(basis_h).v),(17,(vi ((basis_.length:Nat):Int))),(18,(vi ((k0:Nat):Int)))]) (fun _ (s0:List Int×List Int) (g0:Hd) w'=>Cx w0 fp0 S0 w' [E (List Int) s0.1 h6,E (List Int) s0.2 g0,Es (List (List Int)) basis_ basis_h]) (y3,([]:List Int)) h9 e r6_ (H.sel [1,0,2] rfl) ?_ ?_
 rintro T0 k0 ⟨s0_0,s0_1⟩ g0 w1 o0 hk (H:Cx w0 fp0 S0 w1 [E (List Int) s0_0 h6,E (List Int) s0_1 g0,Es (List (List Int)) basis_ basis_h]) f1
 refine jA (z:=true) (cB hk) ?_
 refine sq (sq ?_)
 obtain ⟨a0,e,f2⟩:=aA f1
 have HH:=H;obtain ⟨p0,m0,h0,c0,c1,c2,c3,H⟩:=HH.elL 2 rfl e
 refine dA c0 c1 c2 ?_
 refine bA c3 ?_
 obtain ⟨y2,i0,f3⟩:=aA f2
 refine callF0_ (CU_ i0) H ⟨Vw.sh 0 rfl,trivial⟩ ?_
 rintro _ _ w2 ⟨rfl,rfl⟩ H
 obtain ⟨a1,e,f4⟩:=aA f3
 obtain ⟨p1,m1,c4,c5,c6,c7⟩:=(H.ro (α:=List Int) 1 rfl).at1 e
 refine dA c4 c5 c6 ?_
 refine bA c7 ?_
 refine jE (α:=Int) gok rfl rfl rfl rfl H ?_;intro h1 w3 hx H
 obtain ⟨a2,e,f5⟩:=aA f4
 refine append_ (α:=Int) gok rfl rfl rfl rfl (H.sel [3,0,1,2,4] rfl) e ?_;intro h2 w4 H
 obtain ⟨a3,e,f6⟩:=aA f5
 refine arO e ?_
 obtain ⟨y4,i1,f7⟩:=aA f6
 replace H:=H.sel [2,0,1,3] rfl
 refine gC (jT i1) (Γi:=[E (List Int) s0_0 h6]) H ⟨Vw.sh 1 rfl,trivial⟩ ?_
 rintro _ _ w6 ⟨rfl,rfl⟩ H
 refine arK hk x0 ?_
 obtain rfl:=oi_ f7
 exact ⟨h2,r6_,H.sel [0,1,3] rfl⟩
 obtain ⟨s1_0,s1_1⟩:=r0
 rintro T1 g1 w7 H;try dsimp only at H
 refine jA (z:=false) dB ?_
 refine sq ?_
 obtain ⟨y5,i2,f8⟩:=aA f0
 refine callF0_ (GQ_ i2) H ⟨Vw.own 0 rfl,trivial⟩ ?_
 rintro _ _ w9 ⟨rfl,rfl⟩ H
 cases f8
 exact ⟨_,_,rfl,⟨g1,rfl,rfl⟩,(H.sel [1] rfl).close ⟨cloE,trivial⟩⟩
theorem Gp_ {p_ r__0 r__1:Int}{r__2:List (List Int)}{r__2h:Hd}{pair_:List Int}{pair_h:Hd}{y:Bool} (hF:sT p_ (r__0,r__1,r__2) pair_=some y) :
  kA Tryz.prog 53 #[(vi p_),(.agg #[(vi r__0),(vi r__1),(r__2h).v]),(pair_h).v] [Es (List (List Int)) r__2 r__2h,Es (List Int) pair_ pair_h] [] (fun v Γ'=>v=(.bool y)∧Γ'=[]):=by
 intro w0 S0 fp0 hI hS
 have H:=Cx.start hI hS;dsimp at H
 refine iA (args:=[_,_,_]) gok Tryz.func53 rfl _ rfl rfl rfl ?_
 refine xA H ?_;intro b4 w3 hx H
 refine fld gok rfl rfl rfl rfl (bA (H.bx 0 rfl (j:=2) rfl) ?_)
 obtain ⟨⟨y6_0,y6_1⟩,ey6,hF7⟩:=aA hF
 refine callF0_ (FJ_ ey6) H ⟨Vw.sh 1 rfl,Vw.sh 2 rfl,trivial⟩ ?_
 rintro _ _ w8 ⟨h9,rfl,rfl⟩ H
 cases hF7
 exact ⟨_,_,rfl,⟨rfl,rfl⟩,(H.sel [] rfl).close trivial⟩
theorem Cn_ {p_ a__0 a__1:Int}{a__2:List (List Int)}{a__2h:Hd}{b__0 b__1:Int}{b__2:List (List Int)}{b__2h:Hd}{y:List Int} (hF:pT p_ (a__0,a__1,a__2) (b__0,b__1,b__2)=some y) :
  bF Tryz.prog 34 #[(vi p_),(.agg #[(vi a__0),(vi a__1),(a__2h).v]),(.agg #[(vi b__0),(vi b__1),(b__2h).v])] [Es (List (List Int)) a__2 a__2h,Es (List (List Int)) b__2 b__2h] [] (fun v Γ'=>∃ z0:Hd,(v=(z0).v∧(y=[]→z0.a=none))∧Γ'=[Es (List Int) y z0]):=by
 intro w0 S0 fp0 hI hS
 have H:=Cx.start hI hS;dsimp at H
 refine iA (args:=[_,_,_]) gok Tryz.func34 rfl _ rfl rfl rfl ?_
 refine xA H ?_;intro b4 w3 hx H
 refine xA H ?_;intro b7 w6 hx H
 refine sq ?_
 refine fld gok rfl rfl rfl rfl (bA (H.bx 0 rfl (j:=2) rfl) ?_)
 refine nA (H.rs (α:=List (List Int)) 3 rfl).len ?_
 have x0:=(H.rs (α:=List (List Int)) 3 rfl).max
 obtain ⟨r0,e,f0⟩:=aA hF
 refine iE _ b__2.length (fun (k9:Nat) (_:Unit) (_:Unit)=>[(0,(vi p_)),(4,(vp b4)),(10,(b__2h).v),(11,(vi ((b__2.length:Nat):Int))),(12,(vi ((k9:Nat):Int)))]) (fun _ (_:Unit) (_:Unit) w'=>Cx w0 fp0 S0 w' [Bx b4 [(vi a__0),(vi a__1),(a__2h).v],Es (List (List Int)) a__2 a__2h,Es (List (List Int)) b__2 b__2h]) () () e r5_ (H.sel [1,2,3] rfl) ?_ ?_
 rintro T0 k9 _ _ w1 o0 hk (H:Cx w0 fp0 S0 w1 [Bx b4 [(vi a__0),(vi a__1),(a__2h).v],Es (List (List Int)) a__2 a__2h,Es (List (List Int)) b__2 b__2h]) hrt f1
 refine jA (z:=true) (cB hk) ?_
 refine sq (sq ?_)
 obtain ⟨a0,e,f2⟩:=aA f1
 have HH:=H;obtain ⟨p0,m0,h1,c0,c1,c2,c3,H⟩:=HH.elL 2 rfl e
 refine dA c0 c1 c2 ?_
 refine bA c3 ?_
 refine cA [(vi a__0),(vi a__1),(a__2h).v] rfl (H.bz_ 1 rfl) ?_
 obtain ⟨y0,i0,f3⟩:=aA f2
 refine callF0_ (Gp_ i0) H ⟨Vw.sh 2 rfl,Vw.sh 0 rfl,trivial⟩ ?_
 rintro _ _ w2 ⟨rfl,rfl⟩ H
 refine boolB_ f3 (fun f5=>?_) fun f6=>?_
 refine arK hk x0 ?_
 obtain rfl:=oi_ f5
 exact ⟨(),(),rfl,r5_,H.sel [1,2,3] rfl⟩
 obtain ⟨u0,n0,f7⟩:=aA f6
 obtain rfl:=oi_ f7
 have hr:=hrt _ rfl;subst hr
 have f8:some _=some _:=f0
 cases f8
 exact ⟨_,_,rfl,⟨h1,⟨rfl,(fun h0=>absurd h0 (IO_ n0))⟩,rfl⟩,(H.sel [0] rfl)⟩
 rintro T1 _ _ w4 hr H;try dsimp only at H
 subst hr
 refine jA (z:=false) dB ?_
 refine sq ?_
 replace H:=H.nil (α:=Int)
 replace H:=H.frz
 cases f0
 exact ⟨_,_,rfl,⟨nilH,⟨rfl,(fun _=>rfl)⟩,rfl⟩,(H.sel [0] rfl)⟩
theorem B5_ {p_:Int}{r__0:ByteArray}{r__1_0:List Ty4}{r__1_0h:Hd}{r__2_0:List Ty4}{r__2_0h:Hd}{y0 y1:List Int}{y2:Int}{y3:Bool} (hF:aT p_ (r__0,r__1_0,r__2_0)=some (y0,y1,y2,y3)) :
  kA Tryz.prog 27 #[(vi p_),(.agg #[(.string r__0),(r__1_0h).v,(r__2_0h).v])] [Es (List Ty4) r__1_0 r__1_0h,Es (List Ty4) r__2_0 r__2_0h,Gl 0 [.int .i64 2,.int .i64 3,.int .i64 5,.int .i64 7]] [] (fun v Γ'=>∃ z0 z1:Hd,v=(.tuple #[(z0).v,(z1).v,(vi y2),(.bool y3)])∧Γ'=[E (List Int) y0 z0,E (List Int) y1 z1]):=by
 intro w0 S0 fp0 hI hS
 have H:=Cx.start hI hS;dsimp at H
 refine iA (args:=[_,_]) gok Tryz.func27 rfl _ rfl rfl rfl ?_
 refine xA H ?_;intro b5 w4 hx H
 refine cA [(.string r__0),(r__1_0h).v,(r__2_0h).v] rfl (H.bz_ 0 rfl) ?_
 obtain ⟨y7,e,hF8⟩:=aA hF
 obtain ⟨⟨y7_0_0,y7_0_1,y7_0_2⟩,⟨y7_1_0,y7_1_1,y7_1_2⟩,y7_2⟩:=y7
 have ey7:=e
 refine qE (Gq_ ey7) (Γi:=[]) H [1,2,3] rfl (yA uA (yA uA (yA persG xB))) ?_
 rintro _ _ w9 ⟨h0,h1,rfl,rfl⟩ H
 refine sA gok rfl H ?_;intro b0 w1 hx H
 refine sA gok rfl H ?_;intro b1 w2 hx H
 refine stA gok [(vi y7_0_0),(vi y7_0_1),(h0).v] rfl (H.sel [1,0,2,3,4,5,6,7] rfl) rfl rfl rfl ?_;intro w3 H
 refine stA gok [(vi y7_1_0),(vi y7_1_1),(h1).v] rfl (H.sel [1,0,2,3,4,5,6,7] rfl) rfl rfl rfl ?_;intro w5 H
 refine sq ?_
 refine boolB_ hF8 (fun f1=>?_) fun f18=>?_
 refine sq ?_
 refine cA [(vi y7_1_0),(vi y7_1_1),(h1).v] rfl (H.bz_ 0 rfl) ?_
 refine cA [(vi y7_0_0),(vi y7_0_1),(h0).v] rfl (H.bz_ 1 rfl) ?_
 obtain ⟨y4,i0,f2⟩:=aA f1
 refine qE (Cn_ i0) (Γi:=[]) H [3,2] rfl (yA uA (yA uA xB)) ?_
 rintro _ _ w6 ⟨h2,⟨rfl,l0⟩,rfl⟩ H
 obtain ⟨a1,e,f3⟩:=aA f2
 refine Fs_ gok rfl (H.rs (α:=List Int) 0 rfl) l0 e ?_
 cases a1
 have f4:=fB f3
 refine sq ?_
 refine cA [(vi y7_0_0),(vi y7_0_1),(h0).v] rfl (H.bz_ 2 rfl) ?_
 refine cA [(vi y7_1_0),(vi y7_1_1),(h1).v] rfl (H.bz_ 1 rfl) ?_
 obtain ⟨y5,i1,f5⟩:=aA f4
 refine qE (Cn_ i1) (Γi:=[]) H [3,4] rfl (yA uA (yA uA xB)) ?_
 rintro _ _ w7 ⟨h3,⟨rfl,l1⟩,rfl⟩ H
 obtain ⟨a2,e,f6⟩:=aA f5
 refine Fs_ gok rfl (H.rs (α:=List Int) 0 rfl) l1 e ?_
 cases a2
 have f7:=fB f6
 replace H:=H.nil (α:=Int)
 replace H:=H.nil (α:=Int)
 cases f7
 exact ⟨_,_,rfl,⟨nilH,nilH,rfl,rfl⟩,(H.sel [1,0] rfl).close ⟨cloE,cloE,trivial⟩⟩
 have f8:=eB f6
 refine kB H [] (.fst 1 (.fst 5 (.fst 0 (.fst 4 (.act 2 (.act 3 (.act 6 (.act 7 (.fst 8 (.fst 9 (.fst 10 (.fst 11 .done)))))))))))) bB [] trivial (by kernel_rfl) ?_
 intro w8 H
 have hX:Ext w8 w8:=Upd.refl _ _
 refine sC [(vi y7_1_0),(vi y7_1_1),(h1).v] rfl (H.bz_ 2 rfl) ?_
 refine sC [(vi y7_1_0),(vi y7_1_1),(h1).v] rfl (H.bz_ 2 rfl) ?_
 obtain ⟨y6,i2,f9⟩:=aA f8
 refine xC (gN i2) H [5,0] rfl (yA uA (yA uA xB)) ?_
 rintro _ _ w10 ⟨h4,rfl,rfl⟩ hx H
 refine hold_ hX hx fun hX=>?_
 obtain ⟨y8,i3,f10⟩:=aA f9
 refine eA (kH i3) H ⟨Vw.sh 0 rfl,trivial⟩ ?_
 rintro _ _ w11 ⟨h5,rfl,rfl⟩ hx H
 refine hold_ hX hx fun hX=>?_
 obtain ⟨y9,i4,f11⟩:=aA f10
 refine xC (fN i4) H [7,2] rfl (yA uA (yA uA xB)) ?_
 rintro _ _ w12 ⟨h6,rfl,rfl⟩ hx H
 refine hold_ hX hx fun hX=>?_
 obtain ⟨y10,i5,f12⟩:=aA f11
 refine eA (kH i5) H ⟨Vw.sh 0 rfl,trivial⟩ ?_
 rintro _ _ w13 ⟨h7,rfl,rfl⟩ hx H
 refine hold_ hX hx fun hX=>?_
 cases f12
 exact ⟨_,_,rfl,⟨h5,h7,rfl,rfl⟩,(H.sel [2,0] rfl).close ⟨cloE,cloE,trivial⟩⟩
 have f13:=eB f3
 refine kB H [] (.fst 1 (.fst 5 (.fst 0 (.fst 4 (.act 2 (.act 3 (.act 6 (.act 7 (.fst 8 (.fst 9 (.fst 10 (.fst 11 .done)))))))))))) bB [] trivial (by kernel_rfl) ?_
 intro w15 H
 have hX:Ext w15 w15:=Upd.refl _ _
 refine sC [(vi y7_0_0),(vi y7_0_1),(h0).v] rfl (H.bz_ 2 rfl) ?_
 refine sC [(vi y7_0_0),(vi y7_0_1),(h0).v] rfl (H.bz_ 2 rfl) ?_
 obtain ⟨y11,i6,f14⟩:=aA f13
 refine xC (gN i6) H [3,0] rfl (yA uA (yA uA xB)) ?_
 rintro _ _ w16 ⟨h8,rfl,rfl⟩ hx H
 refine hold_ hX hx fun hX=>?_
 obtain ⟨y12,i7,f15⟩:=aA f14
 refine eA (kH i7) H ⟨Vw.sh 0 rfl,trivial⟩ ?_
 rintro _ _ w18 ⟨h9,rfl,rfl⟩ hx H
 refine hold_ hX hx fun hX=>?_
 obtain ⟨y13,i8,f16⟩:=aA f15
 refine xC (fN i8) H [5,2] rfl (yA uA (yA uA xB)) ?_
 rintro _ _ w19 ⟨h11,rfl,rfl⟩ hx H
 refine hold_ hX hx fun hX=>?_
 obtain ⟨y14,i9,f17⟩:=aA f16
 refine eA (kH i9) H ⟨Vw.sh 0 rfl,trivial⟩ ?_
 rintro _ _ w22 ⟨h13,rfl,rfl⟩ hx H
 refine hold_ hX hx fun hX=>?_
 cases f17
 exact ⟨_,_,rfl,⟨h9,h13,rfl,rfl⟩,(H.sel [2,0] rfl).close ⟨cloE,cloE,trivial⟩⟩
 replace H:=H.nil (α:=Int)
 replace H:=H.nil (α:=Int)
 cases f18
 exact ⟨_,_,rfl,⟨nilH,nilH,rfl,rfl⟩,(H.sel [1,0] rfl).close ⟨cloE,cloE,trivial⟩⟩
theorem pN {a_:List Int}{a_h:Hd}{b_:List Int}{b_h:Hd}{y:Bool} (hF:qJ a_ b_=some y) :
  kA Tryz.prog 17 #[(a_h).v,(b_h).v] [Es (List Int) a_ a_h,Es (List Int) b_ b_h] [] (fun v Γ'=>v=(.bool y)∧Γ'=[]):=by
 intro w0 S0 fp0 hI hS
 have H:=Cx.start hI hS;dsimp at H
 refine iA (args:=[_,_]) gok Tryz.func17 rfl _ rfl rfl rfl ?_
 refine sq ?_
 refine nA (H.rs (α:=List Int) 0 rfl).len ?_
 refine nA (H.rs (α:=List Int) 1 rfl).len ?_
 refine boolB_ hF (fun hF5=>?_) fun f15=>?_
 obtain ⟨r0,f0,f1⟩:=aA hF5
 refine cut (fun (q0:Unit)=>[]) (fun (q0:Unit) w'=>.inl ()=r0∧Cx w0 fp0 S0 w' []) ?_ ?_
 refine oE _ (fun (s0:Int) (_:Unit)=>[(0,(a_h).v),(1,(b_h).v),(5,(vi s0))]) (fun (s0:Int) (_:Unit) w'=>Cx w0 fp0 S0 w' [Es (List Int) a_ a_h,Es (List Int) b_ b_h]) 0 () f0 r3_ (H.sel [0,1] rfl) ?_
 rintro T0 s0 _ w1 o0 (H:Cx w0 fp0 S0 w1 [Es (List Int) a_ a_h,Es (List Int) b_ b_h]) hrt f2
 refine sq ?_
 refine nA (H.rs (α:=List Int) 0 rfl).len ?_
 refine boolB_ f2 (fun f4=>?_) fun f6=>?_
 obtain rfl:=oi_ f4
 have f5:some _=some _:=congrArg some (hrt _ rfl).symm
 exact ⟨(),trivial,oi_ f5,H.sel [] rfl⟩
 refine sq ?_
 refine kB H [] (.fst 0 (.fst 1 (.fst 2 (.fst 4 (.fst 5 (.fst 6 (.fst 3 (.fst 7 (.fst 8 .done))))))))) bB [] trivial (by kernel_rfl) ?_
 intro w2 H
 have hX:Ext w2 w2:=Upd.refl _ _
 obtain ⟨a1,e,f7⟩:=aA f6
 obtain ⟨p0,m0,c0,c1,c2,c3⟩:=(H.rs (α:=List Int) 0 rfl).at1 e
 refine dA c0 c1 c2 ?_
 obtain ⟨a2,e,f8⟩:=aA f7
 obtain ⟨p1,m1,c4,c5,c6,c7⟩:=(H.rs (α:=List Int) 1 rfl).at1 e
 refine dA c4 c5 c6 ?_
 refine gA c3 ?_
 refine gA c7 ?_
 refine boolB_ f8 (fun f10=>?_) fun f12=>?_
 obtain ⟨a5,e,f11⟩:=aA f10
 refine arO e ?_
 obtain rfl:=oi_ f11
 exact ⟨a5,(),rfl,r3_,H.sel [0,1] rfl⟩
 obtain rfl:=oi_ f12
 have f13:some _=some _:=congrArg some (hrt _ rfl).symm
 obtain rfl:=oi_ f13
 have f14:some _=some _:=f1
 cases f14
 exact ⟨_,_,rfl,⟨rfl,rfl⟩,(H.sel [] rfl).close trivial⟩
 rintro T1 _ w3 ⟨hr,H⟩;try dsimp only at H
 subst hr
 cases f1
 exact ⟨_,_,rfl,⟨rfl,rfl⟩,(H.sel [] rfl).close trivial⟩
 cases f15
 exact ⟨_,_,rfl,⟨rfl,rfl⟩,(H.sel [] rfl).close trivial⟩
theorem GM_ {a__0 a__1:Int}{a__2:ByteArray}{b__0 b__1:Int}{b__2:ByteArray}{y:Bool} (hF:Aa_ (a__0,a__1,a__2) (b__0,b__1,b__2)=some y) :
  kA Tryz.prog 54 #[(.agg #[(vi a__0),(vi a__1),(.string a__2)]),(.agg #[(vi b__0),(vi b__1),(.string b__2)])] [] [] (fun v Γ'=>v=(.bool y)∧Γ'=[]):=by
 intro w0 S0 fp0 hI hS
 have H:Cx w0 fp0 S0 w0 []:=Cx.start hI hS
 refine iA (args:=[_,_]) gok Tryz.func54 rfl _ rfl rfl rfl ?_
 refine xA H ?_;intro b2 w1 hx H
 refine xA H ?_;intro b5 w4 hx H
 refine sq ?_
 refine fld gok rfl rfl rfl rfl (bA (H.bx 1 rfl (j:=0) rfl) ?_)
 refine fld gok rfl rfl rfl rfl (bA (H.bx 0 rfl (j:=0) rfl) ?_)
 refine boolB_ hF (fun hF9=>?_) fun f6=>?_
 refine sq ?_
 refine fld gok rfl rfl rfl rfl (bA (H.bx 1 rfl (j:=1) rfl) ?_)
 refine fld gok rfl rfl rfl rfl (bA (H.bx 0 rfl (j:=1) rfl) ?_)
 refine boolB_ hF9 (fun f1=>?_) fun f5=>?_
 refine sq ?_
 refine fld gok rfl rfl rfl rfl (bA (H.bx 1 rfl (j:=2) rfl) ?_)
 refine fld gok rfl rfl rfl rfl (bA (H.bx 0 rfl (j:=2) rfl) ?_)
 obtain ⟨a1,e,f2⟩:=aA f1
 refine neqZ e ?_
 cases a1
 have f3:=fB f2
 cases f3
 exact ⟨_,_,rfl,⟨rfl,rfl⟩,(H.sel [] rfl).close trivial⟩
 have f4:=eB f2
 cases f4
 exact ⟨_,_,rfl,⟨rfl,rfl⟩,(H.sel [] rfl).close trivial⟩
 cases f5
 exact ⟨_,_,rfl,⟨rfl,rfl⟩,(H.sel [] rfl).close trivial⟩
 cases f6
 exact ⟨_,_,rfl,⟨rfl,rfl⟩,(H.sel [] rfl).close trivial⟩
theorem Gk_ {a_:List Ty4}{a_h:Hd}{b_:List Ty4}{b_h:Hd}{y:Bool} (hF:iZ a_ b_=some y) :
  kA Tryz.prog 35 #[(a_h).v,(b_h).v] [Es (List Ty4) a_ a_h,Es (List Ty4) b_ b_h] [] (fun v Γ'=>v=(.bool y)∧Γ'=[]):=by
 intro w0 S0 fp0 hI hS
 have H:=Cx.start hI hS;dsimp at H
 refine iA (args:=[_,_]) gok Tryz.func35 rfl _ rfl rfl rfl ?_
 refine sq ?_
 refine nA (H.rs (α:=List Ty4) 0 rfl).len ?_
 refine nA (H.rs (α:=List Ty4) 1 rfl).len ?_
 refine boolB_ hF (fun hF5=>?_) fun f16=>?_
 obtain ⟨r0,f0,f1⟩:=aA hF5
 refine cut (fun (q0:Unit)=>[]) (fun (q0:Unit) w'=>.inl ()=r0∧Cx w0 fp0 S0 w' []) ?_ ?_
 refine oE _ (fun (s0:Int) (_:Unit)=>[(0,(a_h).v),(1,(b_h).v),(5,(vi s0))]) (fun (s0:Int) (_:Unit) w'=>Cx w0 fp0 S0 w' [Es (List Ty4) a_ a_h,Es (List Ty4) b_ b_h]) 0 () f0 r3_ (H.sel [0,1] rfl) ?_
 rintro T0 s0 _ w1 o0 (H:Cx w0 fp0 S0 w1 [Es (List Ty4) a_ a_h,Es (List Ty4) b_ b_h]) hrt f2
 refine sq ?_
 refine nA (H.rs (α:=List Ty4) 0 rfl).len ?_
 refine boolB_ f2 (fun f4=>?_) fun f6=>?_
 obtain rfl:=oi_ f4
 have f5:some _=some _:=congrArg some (hrt _ rfl).symm
 exact ⟨(),trivial,oi_ f5,H.sel [] rfl⟩
 refine sq ?_
 refine kB H [] (.fst 0 (.fst 1 (.fst 2 (.fst 4 (.fst 5 (.fst 6 (.fst 3 (.fst 7 (.act 8 (.fst 9 .done)))))))))) bB [] trivial (by kernel_rfl) ?_
 intro w2 H
 have hX:Ext w2 w2:=Upd.refl _ _
 obtain ⟨a1,e,f7⟩:=aA f6
 have HH:=H;obtain ⟨p0,m0,g0,c0,c1,c2,c3,H⟩:=HH.el (α:=Ty4) 0 rfl e
 obtain ⟨a1_0,a1_1,a1_2⟩:=a1
 obtain ⟨_,_,_⟩:=g0
 replace H:=H.sel [1,2] rfl
 refine dA c0 c1 c2 ?_
 obtain ⟨a2,e,f8⟩:=aA f7
 have HH:=H;obtain ⟨p1,m1,g1,c4,c5,c6,c7,H⟩:=HH.el (α:=Ty4) 1 rfl e
 obtain ⟨a2_0,a2_1,a2_2⟩:=a2
 obtain ⟨_,_,_⟩:=g1
 replace H:=H.sel [1,2] rfl
 refine dA c4 c5 c6 ?_
 refine sC [(vi a1_0),(vi a1_1),(.string a1_2)] rfl c3 ?_
 refine sC [(vi a2_0),(vi a2_1),(.string a2_2)] rfl c7 ?_
 obtain ⟨y0,i0,f9⟩:=aA f8
 refine eA (GM_ i0) H trivial ?_
 rintro _ _ w3 ⟨rfl,rfl⟩ hx H
 refine hold_ hX hx fun hX=>?_
 refine boolB_ f9 (fun f11=>?_) fun f13=>?_
 obtain ⟨a5,e,f12⟩:=aA f11
 refine arO e ?_
 obtain rfl:=oi_ f12
 exact ⟨a5,(),rfl,r3_,H.sel [0,1] rfl⟩
 obtain rfl:=oi_ f13
 have f14:some _=some _:=congrArg some (hrt _ rfl).symm
 obtain rfl:=oi_ f14
 have f15:some _=some _:=f1
 cases f15
 exact ⟨_,_,rfl,⟨rfl,rfl⟩,(H.sel [] rfl).close trivial⟩
 rintro T1 _ w4 ⟨hr,H⟩;try dsimp only at H
 subst hr
 cases f1
 exact ⟨_,_,rfl,⟨rfl,rfl⟩,(H.sel [] rfl).close trivial⟩
 cases f16
 exact ⟨_,_,rfl,⟨rfl,rfl⟩,(H.sel [] rfl).close trivial⟩
theorem CD_ {a__0:List Ty4}{a__0h:Hd}{b__0:List Ty4}{b__0h:Hd}{y:Bool} (hF:dU a__0 b__0=some y) :
  kA Tryz.prog 12 #[(.agg #[(a__0h).v]),(.agg #[(b__0h).v])] [Es (List Ty4) a__0 a__0h,Es (List Ty4) b__0 b__0h] [] (fun v Γ'=>v=(.bool y)∧Γ'=[]):=by
 intro w0 S0 fp0 hI hS
 have H:=Cx.start hI hS;dsimp at H
 refine iA (args:=[_,_]) gok Tryz.func12 rfl _ rfl rfl rfl ?_
 refine xA H ?_;intro b4 w3 hx H
 refine xA H ?_;intro b7 w6 hx H
 refine sq ?_
 refine fld gok rfl rfl rfl rfl (bA (H.bx 1 rfl (j:=0) rfl) ?_)
 refine fld gok rfl rfl rfl rfl (bA (H.bx 0 rfl (j:=0) rfl) ?_)
 obtain ⟨y9,ey9,f0⟩:=aA hF
 refine callF0_ (Gk_ ey9) H ⟨Vw.sh 2 rfl,Vw.sh 3 rfl,trivial⟩ ?_
 rintro _ _ w1 ⟨rfl,rfl⟩ H
 refine boolB_ f0 (fun f2=>?_) fun f3=>?_
 cases f2
 exact ⟨_,_,rfl,⟨rfl,rfl⟩,(H.sel [] rfl).close trivial⟩
 cases f3
 exact ⟨_,_,rfl,⟨rfl,rfl⟩,(H.sel [] rfl).close trivial⟩
theorem GL_ {a__0:ByteArray}{a__1_0:List Ty4}{a__1_0h:Hd}{a__2_0:List Ty4}{a__2_0h:Hd}{b__0:ByteArray}{b__1_0:List Ty4}{b__1_0h:Hd}{b__2_0:List Ty4}{b__2_0h:Hd}{y:Bool} (hF:zZ (a__0,a__1_0,a__2_0) (b__0,b__1_0,b__2_0)=some y) :
  kA Tryz.prog 25 #[(.agg #[(.string a__0),(a__1_0h).v,(a__2_0h).v]),(.agg #[(.string b__0),(b__1_0h).v,(b__2_0h).v])] [Es (List Ty4) a__1_0 a__1_0h,Es (List Ty4) a__2_0 a__2_0h,Es (List Ty4) b__1_0 b__1_0h,Es (List Ty4) b__2_0 b__2_0h] [] (fun v Γ'=>v=(.bool y)∧Γ'=[]):=by
 intro w0 S0 fp0 hI hS
 have H:=Cx.start hI hS;dsimp at H
 refine iA (args:=[_,_]) gok Tryz.func25 rfl _ rfl rfl rfl ?_
 refine xA H ?_;intro b6 w5 hx H
 refine xA H ?_;intro b9 w8 hx H
 refine sq ?_
 refine fld gok rfl rfl rfl rfl (bA (H.bx 1 rfl (j:=0) rfl) ?_)
 refine fld gok rfl rfl rfl rfl (bA (H.bx 0 rfl (j:=0) rfl) ?_)
 obtain ⟨a0,e,f0⟩:=aA hF
 refine neqZ e ?_
 cases a0
 have f1:=fB f0
 refine sq ?_
 refine fld gok rfl rfl rfl rfl ?_
 refine cA [(a__1_0h).v] rfl (H.bxs 1 rfl 1 rfl) ?_
 refine fld gok rfl rfl rfl rfl ?_
 refine cA [(b__1_0h).v] rfl (H.bxs 0 rfl 1 rfl) ?_
 obtain ⟨y0,i0,f2⟩:=aA f1
 refine callF0_ (CD_ i0) H ⟨Vw.sh 2 rfl,Vw.sh 4 rfl,trivial⟩ ?_
 rintro _ _ w1 ⟨rfl,rfl⟩ H
 refine boolB_ f2 (fun f4=>?_) fun f9=>?_
 refine sq ?_
 refine fld gok rfl rfl rfl rfl ?_
 refine cA [(a__2_0h).v] rfl (H.bxs 1 rfl 2 rfl) ?_
 refine fld gok rfl rfl rfl rfl ?_
 refine cA [(b__2_0h).v] rfl (H.bxs 0 rfl 2 rfl) ?_
 obtain ⟨y1,i1,f5⟩:=aA f4
 refine callF0_ (CD_ i1) H ⟨Vw.sh 3 rfl,Vw.sh 5 rfl,trivial⟩ ?_
 rintro _ _ w2 ⟨rfl,rfl⟩ H
 refine boolB_ f5 (fun f7=>?_) fun f8=>?_
 cases f7
 exact ⟨_,_,rfl,⟨rfl,rfl⟩,(H.sel [] rfl).close trivial⟩
 cases f8
 exact ⟨_,_,rfl,⟨rfl,rfl⟩,(H.sel [] rfl).close trivial⟩
 cases f9
 exact ⟨_,_,rfl,⟨rfl,rfl⟩,(H.sel [] rfl).close trivial⟩
 have f10:=eB f0
 cases f10
 exact ⟨_,_,rfl,⟨rfl,rfl⟩,(H.sel [] rfl).close trivial⟩
theorem F3_ {k_:Int}{y:ByteArray} (hF:wY k_=some y) :
  kA Tryz.prog 57 #[(vi k_)] [] [] (fun v Γ'=>v=(.string y)∧Γ'=[]):=by
 intro w0 S0 fp0 hI hS
 have H:Cx w0 fp0 S0 w0 []:=Cx.start hI hS
 refine iA (args:=[_]) gok Tryz.func57 rfl _ rfl rfl rfl ?_
 refine sq ?_
 refine boolB_ hF (fun hF3=>?_) fun f14=>?_
 obtain ⟨r0,f0,f1⟩:=aA hF3
 refine cut (fun (q0:ByteArray)=>[(3,(.string q0))]) (fun (q0:ByteArray) w'=>q0=r0∧Cx w0 fp0 S0 w' []) ?_ ?_
 refine oE _ (fun (s0:Int×ByteArray) (_:Unit)=>[(0,(vi s0.1)),(3,(.string s0.2))]) (fun (s0:Int×ByteArray) (_:Unit) w'=>Cx w0 fp0 S0 w' []) (k_,.empty) () f0 ⟨rfl,rfl,trivial⟩ (H.sel [] rfl) ?_
 rintro T0 ⟨s0_0,s0_1⟩ _ w1 o0 (H:Cx w0 fp0 S0 w1 []) hrt f2
 refine sq ?_
 refine boolB_ f2 (fun f4=>?_) fun f6=>?_
 obtain rfl:=oi_ f4
 have f5:some _=some _:=congrArg some (hrt _ rfl).symm
 exact ⟨s0_1,⟨rfl,trivial⟩,oi_ f5,H.sel [] rfl⟩
 obtain ⟨a2,e,f7⟩:=aA f6
 refine aG e ?_
 obtain ⟨a3,e,f8⟩:=aA f7
 refine arO e ?_
 obtain ⟨a4,e,f9⟩:=aA f8
 refine convIY gok rfl rfl e ?_
 refine jE (α:=By) gok rfl rfl rfl rfl H ?_;intro h0 w2 hx H
 obtain ⟨a5,e,f10⟩:=aA f9
 refine convBZ (xs:=([a4]:List By)) gok rfl rfl rfl (H.ro (α:=List By) 0 rfl) e ?_
 obtain ⟨a6,e,f11⟩:=aA f10
 refine catZ e ?_
 obtain ⟨a7,e,f12⟩:=aA f11
 refine quoO_ e ?_
 obtain rfl:=oi_ f12
 exact ⟨(a7,a6),(),rfl,⟨rfl,rfl,trivial⟩,H.sel [] rfl⟩
 rintro T1 s1 w3 ⟨hr,H⟩;try dsimp only at H
 subst hr
 obtain ⟨a8,e,f13⟩:=aA f1
 refine catZ e ?_
 cases f13
 exact ⟨_,_,rfl,⟨rfl,rfl⟩,(H.sel [] rfl).close trivial⟩
 cases f14
 exact ⟨_,_,rfl,⟨rfl,rfl⟩,(H.sel [] rfl).close trivial⟩
theorem FS_ {a_:List Ty4}{a_h:Hd}{k_:Int}{y0:List Ty4}{y1:Int} (hF:pY a_ k_=some (y0,y1)) :
  kA Tryz.prog 42 #[(a_h).v,(vi k_)] [] [E (List Ty4) a_ a_h] (fun v Γ'=>v=(vi y1)∧Γ'=[E (List Ty4) y0 a_h]):=by
 intro w0 S0 fp0 hI hS
 have H:=Cx.start hI hS;dsimp at H
 refine iA (args:=[_,_]) gok Tryz.func42 rfl _ rfl rfl rfl ?_
 obtain ⟨r0,f0,f1⟩:=aA hF
 refine cut (fun (q0:(List Ty4)×Int)=>[(1,(vi q0.2))]) (fun (q0:(List Ty4)×Int) w'=>(q0.1,q0.2)=r0∧Cx w0 fp0 S0 w' [E (List Ty4) q0.1 a_h]) ?_ ?_
 refine oE _ (fun (s0:(List Ty4)×Int×Int) (_:Unit)=>[(0,(a_h).v),(1,(vi s0.2.1)),(5,(vi s0.2.2))]) (fun (s0:(List Ty4)×Int×Int) (_:Unit) w'=>Cx w0 fp0 S0 w' [E (List Ty4) s0.1 a_h]) (a_,k_,0) () f0 r3_ (H.sel [0] rfl) ?_
 rintro T0 ⟨s0_0,s0_1,s0_2⟩ _ w1 o0 (H:Cx w0 fp0 S0 w1 [E (List Ty4) s0_0 a_h]) hrt f2
 refine sq ?_
 refine nA (H.ro (α:=List Ty4) 0 rfl).len ?_
 refine boolB_ f2 (fun f4=>?_) fun f6=>?_
 obtain rfl:=oi_ f4
 have f5:some _=some _:=congrArg some (hrt _ rfl).symm
 exact ⟨(s0_0,s0_1),⟨rfl,trivial⟩,oi_ f5,H.sel [0] rfl⟩
 refine sq ?_
 obtain ⟨a1,e,f7⟩:=aA f6
 replace H:=H.toEH (α:=Ty4)
 have HH:=H;obtain ⟨p0,m0,g0,c0,c1,c2,c3,H⟩:=HH.peek e
 obtain ⟨a1_0,a1_1,a1_2⟩:=a1
 obtain ⟨_,_,_⟩:=g0
 refine dA c0 c1 c2 ?_
 refine fld gok rfl rfl rfl rfl ?_
 replace H:=H.takeK 0 rfl
 replace H:=H.sel [1,0] rfl
 refine stX (α:=Ty4) (j:=0) H c0 rfl rfl ?_;intro w2 H
 replace H:=H.sel [1,0] rfl
 replace H:=H.split
 replace H:=H.sel [1,2] rfl
 replace H:=H.split
 replace H:=H.sel [1,2] rfl
 replace H:=H.sel [1] rfl
 replace H:=H.sc (α:=ByteArray) a1_2
 replace H:=H.sc (α:=Int) a1_1
 replace H:=H.join (α:=Int) (β:=ByteArray)
 replace H:=H.sc (α:=Int) s0_1
 replace H:=H.join (α:=Int) (β:=Int×ByteArray)
 obtain ⟨a2,e,f8⟩:=aA f7
 replace H:=H.put c1 e
 obtain ⟨a3,e,f9⟩:=aA f8
 refine arO e ?_
 obtain ⟨a4,e,f10⟩:=aA f9
 replace H:=H.toEH (α:=Ty4)
 have HH:=H;obtain ⟨p1,m1,g1,c4,c5,c6,c7,H⟩:=HH.peek e
 obtain ⟨a4_0,a4_1,a4_2⟩:=a4
 obtain ⟨_,_,_⟩:=g1
 refine dA c4 c5 c6 ?_
 refine fld gok rfl rfl rfl rfl ?_
 replace H:=H.takeK 0 rfl
 replace H:=H.sel [1,0] rfl
 refine stX (α:=Ty4) (j:=1) H c4 rfl rfl ?_;intro w3 H
 replace H:=H.sel [1,0] rfl
 replace H:=H.split
 replace H:=H.sel [1,2] rfl
 replace H:=H.split
 replace H:=H.sel [1,2] rfl
 replace H:=H.sel [1] rfl
 replace H:=H.sc (α:=ByteArray) a4_2
 replace H:=H.sc (α:=Int) a3
 replace H:=H.join (α:=Int) (β:=ByteArray)
 replace H:=H.sc (α:=Int) a4_0
 replace H:=H.join (α:=Int) (β:=Int×ByteArray)
 obtain ⟨a5,e,f11⟩:=aA f10
 replace H:=H.put c5 e
 obtain ⟨a6,e,f12⟩:=aA f11
 refine arO e ?_
 obtain ⟨y2,i0,f13⟩:=aA f12
 refine callF0_ (F3_ i0) H trivial ?_
 rintro _ _ w4 ⟨rfl,rfl⟩ H
 obtain ⟨a7,e,f14⟩:=aA f13
 replace H:=H.toEH (α:=Ty4)
 have HH:=H;obtain ⟨p2,m2,g2,c8,c9,c10,c11,H⟩:=HH.peek e
 obtain ⟨a7_0,a7_1,a7_2⟩:=a7
 obtain ⟨_,_,_⟩:=g2
 refine dA c8 c9 c10 ?_
 refine fld gok rfl rfl rfl rfl ?_
 replace H:=H.takeK 0 rfl
 replace H:=H.sel [1,0] rfl
 refine stX (α:=Ty4) (j:=2) H c8 rfl rfl ?_;intro w5 H
 replace H:=H.sel [1,0] rfl
 replace H:=H.split
 replace H:=H.sel [1,2] rfl
 replace H:=H.split
 replace H:=H.sel [1,2] rfl
 replace H:=H.sel [1] rfl
 replace H:=H.sc (α:=ByteArray) y2
 replace H:=H.sc (α:=Int) a7_1
 replace H:=H.join (α:=Int) (β:=ByteArray)
 replace H:=H.sc (α:=Int) a7_0
 replace H:=H.join (α:=Int) (β:=Int×ByteArray)
 obtain ⟨a8,e,f15⟩:=aA f14
 replace H:=H.put c9 e
 obtain ⟨a9,e,f16⟩:=aA f15
 refine arO e ?_
 obtain ⟨a10,e,f17⟩:=aA f16
 refine arO e ?_
 obtain rfl:=oi_ f17
 exact ⟨(a8,a9,a10),(),rfl,r3_,H.sel [0] rfl⟩
 rintro T1 ⟨s1_0,s1_1⟩ w6 ⟨hr,H⟩;try dsimp only at H
 subst hr
 cases f1
 exact ⟨_,_,rfl,⟨rfl,rfl⟩,(H.sel [0] rfl).close ⟨cloE,trivial⟩⟩
theorem Cg_ {a__0:List Ty4}{a__0h:Hd}{k_:Int}{y0_0:List Ty4}{y1:Int} (hF:mT a__0 k_=some (y0_0,y1)) :
  kA Tryz.prog 18 #[(.agg #[(a__0h).v]),(vi k_)] [] [E (List Ty4) a__0 a__0h] (fun v Γ'=>v=(vi y1)∧Γ'=[E (List Ty4) y0_0 a__0h]):=by
 intro w0 S0 fp0 hI hS
 have H:=Cx.start hI hS;dsimp at H
 refine iA (args:=[_,_]) gok Tryz.func18 rfl _ rfl rfl rfl ?_
 refine xA H ?_;intro b3 w2 hx H
 refine fld gok rfl rfl rfl rfl (bA (H.bx 0 rfl (j:=0) rfl) ?_)
 obtain ⟨⟨y5_0,y5_1⟩,ey5,hF6⟩:=aA hF
 replace H:=H.sel [1,0] rfl
 refine gC (FS_ ey5) (Γi:=[E (List Ty4) a__0 a__0h]) H trivial ?_
 rintro _ _ w7 ⟨rfl,rfl⟩ H
 cases hF6
 exact ⟨_,_,rfl,⟨rfl,rfl⟩,(H.sel [0] rfl).close ⟨cloE,trivial⟩⟩
theorem F4_ {a__0:ByteArray}{a__1_0:List Ty4}{a__1_0h:Hd}{a__2_0:List Ty4}{a__2_0h:Hd}{k_:Int}{y0_0:ByteArray}{y0_1_0 y0_2_0:List Ty4}{y1:Int} (hF:xY (a__0,a__1_0,a__2_0) k_=some ((y0_0,y0_1_0,y0_2_0),y1)) :
  kA Tryz.prog 28 #[(.agg #[(.string a__0),(a__1_0h).v,(a__2_0h).v]),(vi k_)] [] [E (List Ty4) a__1_0 a__1_0h,E (List Ty4) a__2_0 a__2_0h] (fun v Γ'=>v=(vi y1)∧Γ'=[E (List Ty4) y0_1_0 a__1_0h,E (List Ty4) y0_2_0 a__2_0h]):=by
 intro w0 S0 fp0 hI hS
 have H:=Cx.start hI hS;dsimp at H
 refine iA (args:=[_,_]) gok Tryz.func28 rfl _ rfl rfl rfl ?_
 refine xA H ?_;intro b4 w3 hx H
 refine fld gok rfl rfl rfl rfl ?_
 refine cA [(a__1_0h).v] rfl (H.bxs 0 rfl 1 rfl) ?_
 obtain ⟨⟨y6_0_0,y6_1⟩,ey6,hF7⟩:=aA hF
 replace H:=H.sel [1,0,2] rfl
 refine gC (Cg_ ey6) (Γi:=[E (List Ty4) a__1_0 a__1_0h]) H trivial ?_
 rintro _ _ w8 ⟨rfl,rfl⟩ H
 refine fld gok rfl rfl rfl rfl ?_
 refine cA [(a__2_0h).v] rfl (H.bxs 1 rfl 2 rfl) ?_
 obtain ⟨⟨y9_0_0,y9_1⟩,ey9,f0⟩:=aA hF7
 replace H:=H.sel [2,0,1] rfl
 refine gC (Cg_ ey9) (Γi:=[E (List Ty4) a__2_0 a__2_0h]) H trivial ?_
 rintro _ _ w1 ⟨rfl,rfl⟩ H
 cases f0
 exact ⟨_,_,rfl,⟨rfl,rfl⟩,(H.sel [1,0] rfl).close ⟨cloE,cloE,trivial⟩⟩
theorem Ch_ {a_:List Int}{a_h:Hd}{k_:Int}{y0:List Int}{y1:Int} (hF:kN a_ k_=some (y0,y1)) :
  kA Tryz.prog 19 #[(a_h).v,(vi k_)] [] [E (List Int) a_ a_h] (fun v Γ'=>v=(vi y1)∧Γ'=[E (List Int) y0 a_h]):=by
 intro w0 S0 fp0 hI hS
 have H:Cx w0 fp0 S0 w0 [E (List Int) a_ a_h]:=Cx.start hI hS
 refine iA (args:=[_,_]) gok Tryz.func19 rfl _ rfl rfl rfl ?_
 obtain ⟨r0,f0,f1⟩:=aA hF
 refine cut (fun (q0:List Int×Int)=>[(1,(vi q0.2))]) (fun (q0:List Int×Int) w'=>(q0.1,q0.2)=r0∧Cx w0 fp0 S0 w' [E (List Int) q0.1 a_h]) ?_ ?_
 refine oE _ (fun (s0:List Int×Int×Int) (_:Unit)=>[(0,(a_h).v),(1,(vi s0.2.1)),(5,(vi s0.2.2))]) (fun (s0:List Int×Int×Int) (_:Unit) w'=>Cx w0 fp0 S0 w' [E (List Int) s0.1 a_h]) (a_,k_,0) () f0 r3_ (H.sel [0] rfl) ?_
 rintro T0 ⟨s0_0,s0_1,s0_2⟩ _ w1 o0 (H:Cx w0 fp0 S0 w1 [E (List Int) s0_0 a_h]) hrt f2
 refine sq ?_
 refine nA (H.ro (α:=List Int) 0 rfl).len ?_
 refine boolB_ f2 (fun f4=>?_) fun f6=>?_
 obtain rfl:=oi_ f4
 have f5:some _=some _:=congrArg some (hrt _ rfl).symm
 exact ⟨(s0_0,s0_1),⟨rfl,trivial⟩,oi_ f5,H.sel [0] rfl⟩
 refine sq ?_
 obtain ⟨a1,i0,f7⟩:=aA f6
 obtain ⟨p0,m0,c0,c1,c2⟩:=(H.ro (α:=List Int) 0 rfl).setp i0
 refine dA c0 c1 c2 ?_
 refine wC (α:=Int) H c0 c1 i0 ?_;intro w2 H
 obtain ⟨a2,e,f8⟩:=aA f7
 refine arO e ?_
 obtain ⟨a3,e,f9⟩:=aA f8
 refine arO e ?_
 obtain rfl:=oi_ f9
 exact ⟨(a1,a2,a3),(),rfl,r3_,H.sel [0] rfl⟩
 rintro T1 ⟨s1_0,s1_1⟩ w3 ⟨hr,H⟩;try dsimp only at H
 subst hr
 cases f1
 exact ⟨_,_,rfl,⟨rfl,rfl⟩,(H.sel [0] rfl).close ⟨cloE,trivial⟩⟩
theorem iT {a_:List Int}{a_h:Hd}{k_ y:Int} (hF:cM a_ k_=some y) :
  kA Tryz.prog 20 #[(a_h).v,(vi k_)] [Es (List Int) a_ a_h] [] (fun v Γ'=>v=(vi y)∧Γ'=[]):=by
 intro w0 S0 fp0 hI hS
 have H:Cx w0 fp0 S0 w0 [Es (List Int) a_ a_h]:=Cx.start hI hS
 refine iA (args:=[_,_]) gok Tryz.func20 rfl _ rfl rfl rfl ?_
 obtain ⟨r0,f0,f1⟩:=aA hF
 refine cut (fun (q0:Int)=>[(1,(vi q0))]) (fun (q0:Int) w'=>.inl q0=r0∧Cx w0 fp0 S0 w' []) ?_ ?_
 refine oE _ (fun (s0:Int×Int) (_:Unit)=>[(0,(a_h).v),(1,(vi s0.1)),(5,(vi s0.2))]) (fun (s0:Int×Int) (_:Unit) w'=>Cx w0 fp0 S0 w' [Es (List Int) a_ a_h]) (k_,0) () f0 r3_ (H.sel [0] rfl) ?_
 rintro T0 ⟨s0_0,s0_1⟩ _ w1 o0 (H:Cx w0 fp0 S0 w1 [Es (List Int) a_ a_h]) hrt f2
 refine sq ?_
 refine nA (H.rs (α:=List Int) 0 rfl).len ?_
 refine boolB_ f2 (fun f4=>?_) fun f6=>?_
 obtain rfl:=oi_ f4
 have f5:some _=some _:=congrArg some (hrt _ rfl).symm
 exact ⟨s0_0,⟨rfl,trivial⟩,oi_ f5,H.sel [] rfl⟩
 refine sq (sq ?_)
 obtain ⟨a1,e,f7⟩:=aA f6
 obtain ⟨p0,m0,c0,c1,c2,c3⟩:=(H.rs (α:=List Int) 0 rfl).at1 e
 refine dA c0 c1 c2 ?_
 refine bA c3 ?_
 refine boolB_ f7 (fun f9=>?_) fun f12=>?_
 obtain ⟨a3,e,f10⟩:=aA f9
 refine arO e ?_
 obtain ⟨a4,e,f11⟩:=aA f10
 refine arO e ?_
 obtain rfl:=oi_ f11
 exact ⟨(a3,a4),(),rfl,r3_,H.sel [0] rfl⟩
 obtain rfl:=oi_ f12
 have f13:some _=some _:=congrArg some (hrt _ rfl).symm
 obtain rfl:=oi_ f13
 have f14:some _=some _:=f1
 cases f14
 exact ⟨_,_,rfl,⟨rfl,rfl⟩,(H.sel [] rfl).close trivial⟩
 rintro T1 s1 w2 ⟨hr,H⟩;try dsimp only at H
 subst hr
 cases f1
 exact ⟨_,_,rfl,⟨rfl,rfl⟩,(H.sel [] rfl).close trivial⟩
end Go.Proofs.YtlggnmkelgplnaaGreatDoor
