/-
 Contracts, printed by a program (wip/y/gen.py): each function of Go computes its partial function. Condition of each: its partial function yields a value.
-/
import Derived.Test.YtlggnmkelgplnaaGreatDoorZCall6
namespace Go.Proofs.YtlggnmkelgplnaaGreatDoor
open Go Go.Proofs.YtlggnmkelgplnaaGreatDoor.RW
set_option maxRecDepth 100000
set_option maxHeartbeats 2000000
set_option linter.unusedVariables false
theorem FB_ (aP_:Int) (aR__0:ByteArray) (aR__1_0:List Ty4) (aR__1_0h:Hd) (aR__2_0:List Ty4) (aR__2_0h:Hd) (y:Bool) (hF:BY_ aP_ (aR__0,aR__1_0,aR__2_0)=some y) :
  kA Tryz.prog 7 #[(vi aP_),(.agg #[(.string aR__0),(aR__1_0h).v,(aR__2_0h).v])] [Es (List Ty4) aR__1_0 aR__1_0h,Es (List Ty4) aR__2_0 aR__2_0h,Gl 0 [.int .i64 2,.int .i64 3,.int .i64 5,.int .i64 7]] [] (fun v Γ'=>v=(.bool y)∧Γ'=[]):=by
 intro w0 S0 fp0 hI hS
 have H:=Cx.start hI hS;dsimp at H
 refine iA (args:=[_,_]) gok Tryz.func7 rfl _ rfl rfl rfl ?_
 refine xA H ?_;intro b5 w4 hx H
 refine cA [(.string aR__0),(aR__1_0h).v,(aR__2_0h).v] rfl (H.bz_ 0 rfl) ?_
 obtain ⟨y7,ey7,hF8⟩:=aA hF
 refine callF0_ (GJ_ ey7) H ⟨Vw.sh 1 rfl,Vw.sh 2 rfl,trivial⟩ ?_
 rintro _ _ w9 ⟨rfl,rfl⟩ H
 refine sq ?_
 refine boolB_ hF8 (fun f1=>?_) fun f89=>?_
 refine cA [(.string aR__0),(aR__1_0h).v,(aR__2_0h).v] rfl (H.bz_ 0 rfl) ?_
 obtain ⟨⟨y0_0,y0_1_0,y0_2_0⟩,i0,f2⟩:=aA f1
 refine callF0_ (tT i0) H ⟨Vw.sh 1 rfl,Vw.sh 2 rfl,trivial⟩ ?_
 rintro _ _ w1 ⟨h0,h1,rfl,rfl⟩ H
 obtain ⟨⟨y1_0,y1_1,y1_2,y1_3⟩,i1,f3⟩:=aA f2
 refine callF0_ (FI_ i1) H ⟨Vw.own 0 rfl,Vw.own 1 rfl,trivial⟩ ?_
 rintro _ _ w2 ⟨h2,h3,rfl,rfl⟩ H
 refine cA [(.string aR__0),(aR__1_0h).v,(aR__2_0h).v] rfl (H.bz_ 4 rfl) ?_
 obtain ⟨⟨y2_0,y2_1_0,y2_2_0⟩,i2,f4⟩:=aA f3
 refine callF0_ (tT i2) H ⟨Vw.sh 5 rfl,Vw.sh 6 rfl,trivial⟩ ?_
 rintro _ _ w3 ⟨h4,h5,rfl,rfl⟩ H
 refine sA gok rfl H ?_;intro b0 w5 hx H
 refine stA gok [(.string y2_0),(h4).v,(h5).v] rfl H rfl rfl rfl ?_;intro w6 H
 refine cA [(.string y2_0),(h4).v,(h5).v] rfl (H.bz_ 0 rfl) ?_
 obtain ⟨⟨y3_0,y3_1,y3_2,y3_3⟩,i3,f5⟩:=aA f4
 refine callF0_ (B5_ i3) H ⟨Vw.own 1 rfl,Vw.own 2 rfl,Vw.gl 10 rfl,trivial⟩ ?_
 rintro _ _ w7 ⟨h6,h7,rfl,rfl⟩ H
 refine sq ?_
 obtain ⟨r0,f6,f7⟩:=aA f5
 refine cut (fun (q0:Bool)=>[(0,(vi aP_)),(3,(vp b5)),(6,(h2).v),(7,(h3).v),(8,(vi y1_2)),(9,(.bool y1_3)),(10,(vp b0)),(11,(h6).v),(12,(h7).v),(13,(vi y3_2)),(14,(.bool y3_3)),(65,(.bool q0))]) (fun (q0:Bool) w'=>q0=r0∧Cx w0 fp0 S0 w' [Bx b5 [(.string aR__0),(aR__1_0h).v,(aR__2_0h).v],Es (List Ty4) aR__1_0 aR__1_0h,Es (List Ty4) aR__2_0 aR__2_0h,E (List Int) y1_0 h2,E (List Int) y1_1 h3,Bx b0 [(.string y2_0),(h4).v,(h5).v],E (List Ty4) y2_1_0 h4,E (List Ty4) y2_2_0 h5,E (List Int) y3_0 h6,E (List Int) y3_1 h7,Gl 0 [.int .i64 2,.int .i64 3,.int .i64 5,.int .i64 7]]) ?_ ?_
 obtain ⟨y4,i4,f8⟩:=aA f6
 refine callF0_ (pN i4) H ⟨Vw.own 0 rfl,Vw.own 5 rfl,trivial⟩ ?_
 rintro _ _ w8 ⟨rfl,rfl⟩ H
 refine boolB_ f8 (fun f10=>?_) fun f19=>?_
 obtain ⟨y5,i5,f11⟩:=aA f10
 refine callF0_ (pN i5) H ⟨Vw.own 1 rfl,Vw.own 6 rfl,trivial⟩ ?_
 rintro _ _ w10 ⟨rfl,rfl⟩ H
 refine boolB_ f11 (fun f13=>?_) fun f18=>?_
 refine boolB_ f13 (fun f15=>?_) fun f17=>?_
 obtain ⟨a4,e,f16⟩:=aA f15
 refine tB e ?_
 exact ⟨a4,r12_,oi_ f16,H.sel [9,10,11,5,6,2,3,4,0,1,12] rfl⟩
 exact ⟨true,r12_,oi_ f17,H.sel [9,10,11,5,6,2,3,4,0,1,12] rfl⟩
 exact ⟨true,r12_,oi_ f18,H.sel [9,10,11,5,6,2,3,4,0,1,12] rfl⟩
 exact ⟨true,r12_,oi_ f19,H.sel [9,10,11,5,6,2,3,4,0,1,12] rfl⟩
 rintro T0 s0 w11 ⟨hr,H⟩;try dsimp only at H
 subst hr
 cases s0
 have f20:=fB f7
 refine sq ?_
 refine kB H [] (.fst 0 (.fst 1 (.act 2 (.act 3 (.fst 4 .done))))) bB [] trivial (by kernel_rfl) ?_
 intro w12 H
 have hX:Ext w12 w12:=Upd.refl _ _
 refine sC [(.string y2_0),(h4).v,(h5).v] rfl (H.bz_ 5 rfl) ?_
 refine sC [(.string aR__0),(aR__1_0h).v,(aR__2_0h).v] rfl (H.bz_ 0 rfl) ?_
 obtain ⟨⟨y6_0,y6_1_0,y6_2_0⟩,i6,f21⟩:=aA f20
 refine eA (tT i6) H ⟨Vw.sh 1 rfl,Vw.sh 2 rfl,trivial⟩ ?_
 rintro _ _ w13 ⟨h8,h9,rfl,rfl⟩ hx H
 refine hold_ hX hx fun hX=>?_
 obtain ⟨y8,i7,f22⟩:=aA f21
 refine eA (GL_ i7) H ⟨Vw.own 8 rfl,Vw.own 9 rfl,Vw.own 0 rfl,Vw.own 1 rfl,trivial⟩ ?_
 rintro _ _ w14 ⟨rfl,rfl⟩ hx H
 refine hold_ hX hx fun hX=>?_
 refine boolB_ f22 (fun f24=>?_) fun f87=>?_
 refine cA [(.string y2_0),(h4).v,(h5).v] rfl (H.bz_ 7 rfl) ?_
 obtain ⟨y9,e,f25⟩:=aA f24
 obtain ⟨⟨y9_0_0,y9_0_1_0,y9_0_2_0⟩,y9_1⟩:=y9
 have i8:=e
 replace H:=H.sel [8,9,0,1,2,3,4,5,6,7,10,11,12] rfl
 refine gC (F4_ i8) (Γi:=[E (List Ty4) y2_1_0 h4,E (List Ty4) y2_2_0 h5]) H trivial ?_
 rintro _ _ w16 ⟨rfl,rfl⟩ H
 refine sq ?_
 obtain ⟨r1,f26,f27⟩:=aA f25
 refine cut (fun (q1:Bool)=>[(0,(vi aP_)),(3,(vp b5)),(6,(h2).v),(7,(h3).v),(8,(vi y1_2)),(9,(.bool y1_3)),(11,(h6).v),(12,(h7).v),(97,(.bool q1))]) (fun (q1:Bool) w'=>q1=r1∧Cx w0 fp0 S0 w' [Bx b5 [(.string aR__0),(aR__1_0h).v,(aR__2_0h).v],Es (List Ty4) aR__1_0 aR__1_0h,Es (List Ty4) aR__2_0 aR__2_0h,E (List Int) y1_0 h2,E (List Int) y1_1 h3,E (List Int) y3_0 h6,E (List Int) y3_1 h7,Gl 0 [.int .i64 2,.int .i64 3,.int .i64 5,.int .i64 7]]) ?_ ?_
 refine boolB_ f26 (fun f29=>?_) fun f42=>?_
 obtain ⟨y10,i9,f30⟩:=aA f29
 refine callF0_ (pN i9) H ⟨Vw.own 10 rfl,Vw.own 7 rfl,trivial⟩ ?_
 rintro _ _ w17 ⟨rfl,rfl⟩ H
 refine boolB_ f30 (fun f32=>?_) fun f41=>?_
 obtain ⟨y11,i10,f33⟩:=aA f32
 refine callF0_ (pN i10) H ⟨Vw.own 11 rfl,Vw.own 8 rfl,trivial⟩ ?_
 rintro _ _ w18 ⟨rfl,rfl⟩ H
 refine boolB_ f33 (fun f35=>?_) fun f40=>?_
 refine boolB_ f35 (fun f37=>?_) fun f39=>?_
 obtain ⟨a11,e,f38⟩:=aA f37
 refine tB e ?_
 exact ⟨a11,r9_,oi_ f38,H.sel [4,5,6,7,8,10,11,12] rfl⟩
 exact ⟨true,r9_,oi_ f39,H.sel [4,5,6,7,8,10,11,12] rfl⟩
 exact ⟨true,r9_,oi_ f40,H.sel [4,5,6,7,8,10,11,12] rfl⟩
 exact ⟨true,r9_,oi_ f41,H.sel [4,5,6,7,8,10,11,12] rfl⟩
 exact ⟨true,r9_,oi_ f42,H.sel [4,5,6,7,8,10,11,12] rfl⟩
 rintro T1 s1 w19 ⟨hr,H⟩;try dsimp only at H
 subst hr
 cases s1
 have f43:=fB f27
 obtain ⟨⟨y12_0,y12_1⟩,i11,f44⟩:=aA f43
 replace H:=H.sel [5,0,1,2,3,4,6,7] rfl
 refine gC (Ch_ i11) (Γi:=[E (List Int) y3_0 h6]) H trivial ?_
 rintro _ _ w20 ⟨rfl,rfl⟩ H
 obtain ⟨⟨y14_0,y14_1⟩,i12,f45⟩:=aA f44
 replace H:=H.sel [6,0,1,2,3,4,5,7] rfl
 refine gC (Ch_ i12) (Γi:=[E (List Int) y3_1 h7]) H trivial ?_
 rintro _ _ w21 ⟨rfl,rfl⟩ H
 obtain ⟨y15,i13,f46⟩:=aA f45
 refine callF0_ (iT i13) H ⟨Vw.own 1 rfl,trivial⟩ ?_
 rintro _ _ w23 ⟨rfl,rfl⟩ H
 refine sq ?_
 refine boolB_ f46 (fun f48=>?_) fun f85=>?_
 obtain ⟨y16,i14,f49⟩:=aA f48
 refine callF0_ (iT i14) H ⟨Vw.own 0 rfl,trivial⟩ ?_
 rintro _ _ w24 ⟨rfl,rfl⟩ H
 refine sq ?_
 refine boolB_ f49 (fun f51=>?_) fun f84=>?_
 refine sq ?_
 refine boolB_ f51 (fun f53=>?_) fun f83=>?_
 refine cA [(.string aR__0),(aR__1_0h).v,(aR__2_0h).v] rfl (H.bz_ 2 rfl) ?_
 obtain ⟨⟨y17_0,y17_1_0,y17_2_0⟩,i15,f54⟩:=aA f53
 refine callF0_ (tT i15) H ⟨Vw.sh 3 rfl,Vw.sh 4 rfl,trivial⟩ ?_
 rintro _ _ w25 ⟨h10,h11,rfl,rfl⟩ H
 obtain ⟨⟨y18_0,y18_1,y18_2,y18_3⟩,i16,f55⟩:=aA f54
 refine callF0_ (B5_ i16) H ⟨Vw.own 0 rfl,Vw.own 1 rfl,Vw.gl 9 rfl,trivial⟩ ?_
 rintro _ _ w26 ⟨h12,h13,rfl,rfl⟩ H
 refine sq ?_
 obtain ⟨r2,f56,f57⟩:=aA f55
 refine cut (fun (q2:Bool)=>[(11,(h6).v),(12,(h7).v),(16,(vi y14_1)),(145,(.bool q2))]) (fun (q2:Bool) w'=>q2=r2∧Cx w0 fp0 S0 w' [E (List Int) y12_0 h6,E (List Int) y14_0 h7,Gl 0 [.int .i64 2,.int .i64 3,.int .i64 5,.int .i64 7]]) ?_ ?_
 obtain ⟨y19,i17,f58⟩:=aA f56
 refine callF0_ (pN i17) H ⟨Vw.own 0 rfl,Vw.own 9 rfl,trivial⟩ ?_
 rintro _ _ w27 ⟨rfl,rfl⟩ H
 refine boolB_ f58 (fun f60=>?_) fun f69=>?_
 obtain ⟨y21,i18,f61⟩:=aA f60
 refine callF0_ (pN i18) H ⟨Vw.own 1 rfl,Vw.own 10 rfl,trivial⟩ ?_
 rintro _ _ w28 ⟨rfl,rfl⟩ H
 refine boolB_ f61 (fun f63=>?_) fun f68=>?_
 refine boolB_ f63 (fun f65=>?_) fun f67=>?_
 obtain ⟨a18,e,f66⟩:=aA f65
 refine tB e ?_
 exact ⟨a18,r4_,oi_ f66,H.sel [5,4,11] rfl⟩
 exact ⟨true,r4_,oi_ f67,H.sel [5,4,11] rfl⟩
 exact ⟨true,r4_,oi_ f68,H.sel [5,4,11] rfl⟩
 exact ⟨true,r4_,oi_ f69,H.sel [5,4,11] rfl⟩
 rintro T2 s2 w30 ⟨hr,H⟩;try dsimp only at H
 subst hr
 cases s2
 have f70:=fB f57
 obtain ⟨y22,i19,f71⟩:=aA f70
 refine callF0_ (iT i19) H ⟨Vw.own 0 rfl,trivial⟩ ?_
 rintro _ _ w31 ⟨rfl,rfl⟩ H
 refine sq ?_
 refine boolB_ f71 (fun f73=>?_) fun f81=>?_
 obtain ⟨y23,i20,f74⟩:=aA f73
 refine callF0_ (iT i20) H ⟨Vw.own 1 rfl,trivial⟩ ?_
 rintro _ _ w32 ⟨rfl,rfl⟩ H
 refine sq ?_
 refine boolB_ f74 (fun f76=>?_) fun f80=>?_
 refine sq ?_
 refine boolB_ f76 (fun f78=>?_) fun f79=>?_
 cases f78
 exact ⟨_,_,rfl,⟨rfl,rfl⟩,(H.sel [] rfl).close trivial⟩
 cases f79
 exact ⟨_,_,rfl,⟨rfl,rfl⟩,(H.sel [] rfl).close trivial⟩
 cases f80
 exact ⟨_,_,rfl,⟨rfl,rfl⟩,(H.sel [] rfl).close trivial⟩
 cases f81
 exact ⟨_,_,rfl,⟨rfl,rfl⟩,(H.sel [] rfl).close trivial⟩
 have f82:=eB f57
 cases f82
 exact ⟨_,_,rfl,⟨rfl,rfl⟩,(H.sel [] rfl).close trivial⟩
 cases f83
 exact ⟨_,_,rfl,⟨rfl,rfl⟩,(H.sel [] rfl).close trivial⟩
 cases f84
 exact ⟨_,_,rfl,⟨rfl,rfl⟩,(H.sel [] rfl).close trivial⟩
 cases f85
 exact ⟨_,_,rfl,⟨rfl,rfl⟩,(H.sel [] rfl).close trivial⟩
 have f86:=eB f27
 cases f86
 exact ⟨_,_,rfl,⟨rfl,rfl⟩,(H.sel [] rfl).close trivial⟩
 cases f87
 exact ⟨_,_,rfl,⟨rfl,rfl⟩,(H.sel [] rfl).close trivial⟩
 have f88:=eB f7
 cases f88
 exact ⟨_,_,rfl,⟨rfl,rfl⟩,(H.sel [] rfl).close trivial⟩
 cases f89
 exact ⟨_,_,rfl,⟨rfl,rfl⟩,(H.sel [] rfl).close trivial⟩
end Go.Proofs.YtlggnmkelgplnaaGreatDoor
