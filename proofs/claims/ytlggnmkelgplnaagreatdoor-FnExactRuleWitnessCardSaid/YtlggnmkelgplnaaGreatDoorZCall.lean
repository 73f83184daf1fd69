/-
 Contracts, printed by a program (wip/y/gen.py): each function of Go computes its partial function. Condition of each: its partial function yields a value.
-/
import Derived.Test.YtlggnmkelgplnaaGreatDoorZEng
import Derived.Test.YtlggnmkelgplnaaGreatDoorZFn
namespace Go.Proofs.YtlggnmkelgplnaaGreatDoor
open Go Go.Proofs.YtlggnmkelgplnaaGreatDoor.RW
set_option maxRecDepth 100000
set_option maxHeartbeats 2000000
set_option linter.unusedVariables false
abbrev Ty4:=Int×Int×ByteArray
abbrev Ty3:=Int×Int×List (List Int)
abbrev Ty2:=Int×Int×List Int×List Int
abbrev Ty1:=ByteArray×Int×Int×(List Ty4)
abbrev Ty0:=Int×(List Ty2)×List Int×List Int
abbrev vi (x:Int):Value:=.int .i64 x
abbrev vn:Value:=.slice none 0 0
abbrev vp (b:Nat):Value:=.pointer (some ⟨b,0,none⟩)
theorem oi_ {α:Type _}{a b:α} (h:some a=some b):a=b:=Option.some.inj h
theorem RW.Cx.bz_ {w0 w:World}{F:List Nat}{S0:Nat→Prop}{Γ:List Ent} (H:Cx w0 F S0 w Γ){b:Nat}{cs:List Value} (i:Nat) (hi:entAt Γ i=Bx b cs):∀ j u,cs[j]?=some u→w.cell? ((⟨b,0,none⟩:Addr).add j)=some u:=fun j u hj=>H.bx i hi hj
theorem RW.hold_ {w1 w w2:World}{f:List Nat}{K:Prop} (hX:Upd f w1 w) (hx:Ext w w2) (k:Upd f w1 w2→K):EHold (Upd f w1) w2 K:=hold (hX.trans0 hx) (k (hX.trans0 hx))
theorem RW.boolB_ {α:Type}{b:Bool}{A B:Bool→Option α}{y:α}{K:Value→Prop} (hF:(some b).bind (fun a=>cond a (A a) (B a))=some y) (h0:B false=some y→K (.bool false)) (h1:A true=some y→K (.bool true)):EBool b K:=by
 obtain ⟨z,e,f⟩:=aA hF
 refine tB e ?_
 cases z
 exact h0 f
 exact h1 f
theorem RW.callF0_ {P:Program}{w w0:World}{F:List Nat}{S0:Nat→Prop}{Γ:List Ent}{f:Nat}{vs:Array Value}{Γs:List Ent}{R:Value→List Ent→Prop}{K:Value→World→Prop} (hc:kA P f vs Γs [] R) (H:Cx w0 F S0 w Γ) (hv:Vws w Γ Γs) (hK:∀ v Γ' w',R v Γ'→Cx w0 F S0 w' (Γ'++Γ)→K v w'):ECall P f vs w K:=gC (Γi:=[]) hc H hv hK
theorem r3_ {Ta0 Ta1 Ta2:Sort _}{a0:Ta0}{a1:Ta1}{a2:Ta2}:a0=a0∧a1=a1∧a2=a2∧True:=⟨rfl,rfl,rfl,trivial⟩
theorem r4_ {Ta0 Ta1 Ta2 Ta3:Sort _}{a0:Ta0}{a1:Ta1}{a2:Ta2}{a3:Ta3}:a0=a0∧a1=a1∧a2=a2∧a3=a3∧True:=⟨rfl,rfl,rfl,rfl,trivial⟩
theorem r5_ {Ta0 Ta1 Ta2 Ta3 Ta4:Sort _}{a0:Ta0}{a1:Ta1}{a2:Ta2}{a3:Ta3}{a4:Ta4}:a0=a0∧a1=a1∧a2=a2∧a3=a3∧a4=a4∧True:=⟨rfl,rfl,rfl,rfl,rfl,trivial⟩
theorem r6_ {Ta0 Ta1 Ta2 Ta3 Ta4 Ta5:Sort _}{a0:Ta0}{a1:Ta1}{a2:Ta2}{a3:Ta3}{a4:Ta4}{a5:Ta5}:a0=a0∧a1=a1∧a2=a2∧a3=a3∧a4=a4∧a5=a5∧True:=⟨rfl,rfl,rfl,rfl,rfl,rfl,trivial⟩
theorem r7_ {Ta0 Ta1 Ta2 Ta3 Ta4 Ta5 Ta6:Sort _}{a0:Ta0}{a1:Ta1}{a2:Ta2}{a3:Ta3}{a4:Ta4}{a5:Ta5}{a6:Ta6}:a0=a0∧a1=a1∧a2=a2∧a3=a3∧a4=a4∧a5=a5∧a6=a6∧True:=⟨rfl,rfl,rfl,rfl,rfl,rfl,rfl,trivial⟩
theorem r8_ {Ta0 Ta1 Ta2 Ta3 Ta4 Ta5 Ta6 Ta7:Sort _}{a0:Ta0}{a1:Ta1}{a2:Ta2}{a3:Ta3}{a4:Ta4}{a5:Ta5}{a6:Ta6}{a7:Ta7}:a0=a0∧a1=a1∧a2=a2∧a3=a3∧a4=a4∧a5=a5∧a6=a6∧a7=a7∧True:=⟨rfl,rfl,rfl,rfl,rfl,rfl,rfl,rfl,trivial⟩
theorem r9_ {Ta0 Ta1 Ta2 Ta3 Ta4 Ta5 Ta6 Ta7 Ta8:Sort _}{a0:Ta0}{a1:Ta1}{a2:Ta2}{a3:Ta3}{a4:Ta4}{a5:Ta5}{a6:Ta6}{a7:Ta7}{a8:Ta8}:a0=a0∧a1=a1∧a2=a2∧a3=a3∧a4=a4∧a5=a5∧a6=a6∧a7=a7∧a8=a8∧True:=⟨rfl,rfl,rfl,rfl,rfl,rfl,rfl,rfl,rfl,trivial⟩
theorem r10_ {Ta0 Ta1 Ta2 Ta3 Ta4 Ta5 Ta6 Ta7 Ta8 Ta9:Sort _}{a0:Ta0}{a1:Ta1}{a2:Ta2}{a3:Ta3}{a4:Ta4}{a5:Ta5}{a6:Ta6}{a7:Ta7}{a8:Ta8}{a9:Ta9}:a0=a0∧a1=a1∧a2=a2∧a3=a3∧a4=a4∧a5=a5∧a6=a6∧a7=a7∧a8=a8∧a9=a9∧True:=⟨rfl,rfl,rfl,rfl,rfl,rfl,rfl,rfl,rfl,rfl,trivial⟩
theorem r11_ {Ta0 Ta1 Ta2 Ta3 Ta4 Ta5 Ta6 Ta7 Ta8 Ta9 Ta10:Sort _}{a0:Ta0}{a1:Ta1}{a2:Ta2}{a3:Ta3}{a4:Ta4}{a5:Ta5}{a6:Ta6}{a7:Ta7}{a8:Ta8}{a9:Ta9}{a10:Ta10}:a0=a0∧a1=a1∧a2=a2∧a3=a3∧a4=a4∧a5=a5∧a6=a6∧a7=a7∧a8=a8∧a9=a9∧a10=a10∧True:=⟨rfl,rfl,rfl,rfl,rfl,rfl,rfl,rfl,rfl,rfl,rfl,trivial⟩
theorem r12_ {Ta0 Ta1 Ta2 Ta3 Ta4 Ta5 Ta6 Ta7 Ta8 Ta9 Ta10 Ta11:Sort _}{a0:Ta0}{a1:Ta1}{a2:Ta2}{a3:Ta3}{a4:Ta4}{a5:Ta5}{a6:Ta6}{a7:Ta7}{a8:Ta8}{a9:Ta9}{a10:Ta10}{a11:Ta11}:a0=a0∧a1=a1∧a2=a2∧a3=a3∧a4=a4∧a5=a5∧a6=a6∧a7=a7∧a8=a8∧a9=a9∧a10=a10∧a11=a11∧True:=⟨rfl,rfl,rfl,rfl,rfl,rfl,rfl,rfl,rfl,rfl,rfl,rfl,trivial⟩
theorem r14_ {Ta0 Ta1 Ta2 Ta3 Ta4 Ta5 Ta6 Ta7 Ta8 Ta9 Ta10 Ta11 Ta12 Ta13:Sort _}{a0:Ta0}{a1:Ta1}{a2:Ta2}{a3:Ta3}{a4:Ta4}{a5:Ta5}{a6:Ta6}{a7:Ta7}{a8:Ta8}{a9:Ta9}{a10:Ta10}{a11:Ta11}{a12:Ta12}{a13:Ta13}:a0=a0∧a1=a1∧a2=a2∧a3=a3∧a4=a4∧a5=a5∧a6=a6∧a7=a7∧a8=a8∧a9=a9∧a10=a10∧a11=a11∧a12=a12∧a13=a13∧True:=⟨rfl,rfl,rfl,rfl,rfl,rfl,rfl,rfl,rfl,rfl,rfl,rfl,rfl,rfl,trivial⟩
theorem r15_ {Ta0 Ta1 Ta2 Ta3 Ta4 Ta5 Ta6 Ta7 Ta8 Ta9 Ta10 Ta11 Ta12 Ta13 Ta14:Sort _}{a0:Ta0}{a1:Ta1}{a2:Ta2}{a3:Ta3}{a4:Ta4}{a5:Ta5}{a6:Ta6}{a7:Ta7}{a8:Ta8}{a9:Ta9}{a10:Ta10}{a11:Ta11}{a12:Ta12}{a13:Ta13}{a14:Ta14}:a0=a0∧a1=a1∧a2=a2∧a3=a3∧a4=a4∧a5=a5∧a6=a6∧a7=a7∧a8=a8∧a9=a9∧a10=a10∧a11=a11∧a12=a12∧a13=a13∧a14=a14∧True:=⟨rfl,rfl,rfl,rfl,rfl,rfl,rfl,rfl,rfl,rfl,rfl,rfl,rfl,rfl,rfl,trivial⟩
theorem GK_ {a__0 a__1:Int}{a__2:ByteArray}{left_ y:Int} (hF:yZ (a__0,a__1,a__2) left_=some y) :
  kA Tryz.prog 47 #[(.agg #[(vi a__0),(vi a__1),(.string a__2)]),(vi left_)] [] [] (fun v Γ'=>v=(vi y)∧Γ'=[]):=by
 intro w0 S0 fp0 hI hS
 have H:Cx w0 fp0 S0 w0 []:=Cx.start hI hS
 refine iA (args:=[_,_]) gok Tryz.func47 rfl _ rfl rfl rfl ?_
 refine xA H ?_;intro b2 w1 hx H
 refine fld gok rfl rfl rfl rfl (bA (H.bx 0 rfl (j:=2) rfl) ?_)
 refine nA (m:=a__2.size) rfl ?_
 obtain ⟨a4,e,hF5⟩:=aA hF
 refine arO e ?_
 refine sq ?_
 refine boolB_ hF5 (fun hF8=>?_) fun hF9=>?_
 cases hF8
 exact ⟨_,_,rfl,⟨rfl,rfl⟩,(H.sel [] rfl).close trivial⟩
 cases hF9
 exact ⟨_,_,rfl,⟨rfl,rfl⟩,(H.sel [] rfl).close trivial⟩
theorem Gj_ {a_:List Ty4}{a_h:Hd}{left_ y:Int} (hF:hZ a_ left_=some y) :
  kA Tryz.prog 29 #[(a_h).v,(vi left_)] [Es (List Ty4) a_ a_h] [] (fun v Γ'=>v=(vi y)∧Γ'=[]):=by
 intro w0 S0 fp0 hI hS
 have H:=Cx.start hI hS;dsimp at H
 refine iA (args:=[_,_]) gok Tryz.func29 rfl _ rfl rfl rfl ?_
 refine nA (H.rs (α:=List Ty4) 0 rfl).len ?_
 obtain ⟨a2,e,hF3⟩:=aA hF
 refine arO e ?_
 refine sq ?_
 refine boolB_ hF3 (fun hF6=>?_) fun f15=>?_
 obtain ⟨r0,f0,f1⟩:=aA hF6
 refine cut (fun (q0:Int)=>[(1,(vi q0))]) (fun (q0:Int) w'=>.inl q0=r0∧Cx w0 fp0 S0 w' []) ?_ ?_
 refine oE _ (fun (s0:Int×Int) (_:Unit)=>[(0,(a_h).v),(1,(vi s0.1)),(5,(vi s0.2))]) (fun (s0:Int×Int) (_:Unit) w'=>Cx w0 fp0 S0 w' [Es (List Ty4) a_ a_h]) (a2,0) () f0 r3_ (H.sel [0] rfl) ?_
 rintro T0 ⟨s0_0,s0_1⟩ _ w1 o0 (H:Cx w0 fp0 S0 w1 [Es (List Ty4) a_ a_h]) hrt f2
 refine sq ?_
 refine nA (H.rs (α:=List Ty4) 0 rfl).len ?_
 refine boolB_ f2 (fun f4=>?_) fun f6=>?_
 obtain rfl:=oi_ f4
 have f5:some _=some _:=congrArg some (hrt _ rfl).symm
 exact ⟨s0_0,⟨rfl,trivial⟩,oi_ f5,H.sel [] rfl⟩
 refine sq ?_
 obtain ⟨a1,e,f7⟩:=aA f6
 have HH:=H;obtain ⟨p0,m0,g0,c0,c1,c2,c3,H⟩:=HH.el (α:=Ty4) 0 rfl e
 obtain ⟨a1_0,a1_1,a1_2⟩:=a1
 obtain ⟨_,_,_⟩:=g0
 replace H:=H.sel [1] rfl
 refine dA c0 c1 c2 ?_
 refine cA [(vi a1_0),(vi a1_1),(.string a1_2)] rfl c3 ?_
 obtain ⟨y0,i0,f8⟩:=aA f7
 refine callF0_ (GK_ i0) H trivial ?_
 rintro _ _ w2 ⟨rfl,rfl⟩ H
 refine boolB_ f8 (fun f10=>?_) fun f12=>?_
 obtain ⟨a5,e,f11⟩:=aA f10
 refine arO e ?_
 obtain rfl:=oi_ f11
 exact ⟨(y0,a5),(),rfl,r3_,H.sel [0] rfl⟩
 obtain rfl:=oi_ f12
 have f13:some _=some _:=congrArg some (hrt _ rfl).symm
 obtain rfl:=oi_ f13
 have f14:some _=some _:=f1
 cases f14
 exact ⟨_,_,rfl,⟨rfl,rfl⟩,(H.sel [] rfl).close trivial⟩
 rintro T1 s1 w3 ⟨hr,H⟩;try dsimp only at H
 subst hr
 cases f1
 exact ⟨_,_,rfl,⟨rfl,rfl⟩,(H.sel [] rfl).close trivial⟩
 cases f15
 exact ⟨_,_,rfl,⟨rfl,rfl⟩,(H.sel [] rfl).close trivial⟩
theorem CC_ {a__0:List Ty4}{a__0h:Hd}{left_ y:Int} (hF:cU a__0 left_=some y) :
  kA Tryz.prog 8 #[(.agg #[(a__0h).v]),(vi left_)] [Es (List Ty4) a__0 a__0h] [] (fun v Γ'=>v=(vi y)∧Γ'=[]):=by
 intro w0 S0 fp0 hI hS
 have H:=Cx.start hI hS;dsimp at H
 refine iA (args:=[_,_]) gok Tryz.func8 rfl _ rfl rfl rfl ?_
 refine xA H ?_;intro b3 w2 hx H
 refine fld gok rfl rfl rfl rfl (bA (H.bx 0 rfl (j:=0) rfl) ?_)
 obtain ⟨y5,ey5,hF6⟩:=aA hF
 refine callF0_ (Gj_ ey5) H ⟨Vw.sh 1 rfl,trivial⟩ ?_
 rintro _ _ w7 ⟨rfl,rfl⟩ H
 refine sq ?_
 refine boolB_ hF6 (fun f0=>?_) fun f1=>?_
 cases f0
 exact ⟨_,_,rfl,⟨rfl,rfl⟩,(H.sel [] rfl).close trivial⟩
 cases f1
 exact ⟨_,_,rfl,⟨rfl,rfl⟩,(H.sel [] rfl).close trivial⟩
theorem GJ_ {a__0:ByteArray}{a__1_0:List Ty4}{a__1_0h:Hd}{a__2_0:List Ty4}{a__2_0h:Hd}{left_ y:Int} (hF:xZ (a__0,a__1_0,a__2_0) left_=some y) :
  kA Tryz.prog 21 #[(.agg #[(.string a__0),(a__1_0h).v,(a__2_0h).v]),(vi left_)] [Es (List Ty4) a__1_0 a__1_0h,Es (List Ty4) a__2_0 a__2_0h] [] (fun v Γ'=>v=(vi y)∧Γ'=[]):=by
 intro w0 S0 fp0 hI hS
 have H:=Cx.start hI hS;dsimp at H
 refine iA (args:=[_,_]) gok Tryz.func21 rfl _ rfl rfl rfl ?_
 refine xA H ?_;intro b4 w3 hx H
 refine fld gok rfl rfl rfl rfl (bA (H.bx 0 rfl (j:=0) rfl) ?_)
 refine nA (m:=a__0.size) rfl ?_
 obtain ⟨a6,e,hF7⟩:=aA hF
 refine arO e ?_
 refine sq ?_
 refine boolB_ hF7 (fun f0=>?_) fun f9=>?_
 refine fld gok rfl rfl rfl rfl ?_
 refine cA [(a__1_0h).v] rfl (H.bxs 0 rfl 1 rfl) ?_
 obtain ⟨y0,i0,f1⟩:=aA f0
 refine callF0_ (CC_ i0) H ⟨Vw.sh 1 rfl,trivial⟩ ?_
 rintro _ _ w1 ⟨rfl,rfl⟩ H
 refine sq ?_
 refine boolB_ f1 (fun f3=>?_) fun f8=>?_
 refine fld gok rfl rfl rfl rfl ?_
 refine cA [(a__2_0h).v] rfl (H.bxs 0 rfl 2 rfl) ?_
 obtain ⟨y1,i1,f4⟩:=aA f3
 refine callF0_ (CC_ i1) H ⟨Vw.sh 2 rfl,trivial⟩ ?_
 rintro _ _ w2 ⟨rfl,rfl⟩ H
 refine sq ?_
 refine boolB_ f4 (fun f6=>?_) fun f7=>?_
 cases f6
 exact ⟨_,_,rfl,⟨rfl,rfl⟩,(H.sel [] rfl).close trivial⟩
 cases f7
 exact ⟨_,_,rfl,⟨rfl,rfl⟩,(H.sel [] rfl).close trivial⟩
 cases f8
 exact ⟨_,_,rfl,⟨rfl,rfl⟩,(H.sel [] rfl).close trivial⟩
 cases f9
 exact ⟨_,_,rfl,⟨rfl,rfl⟩,(H.sel [] rfl).close trivial⟩
theorem GI_ {a__0 a__1:Int}{a__2:ByteArray}{y_0 y_1:Int}{y_2:ByteArray} (hF:wZ (a__0,a__1,a__2)=some (y_0,y_1,y_2)) :
  kA Tryz.prog 50 #[(.agg #[(vi a__0),(vi a__1),(.string a__2)])] [] [] (fun v Γ'=>v=(.agg #[(vi y_0),(vi y_1),(.string y_2)])∧Γ'=[]):=by
 intro w0 S0 fp0 hI hS
 have H:Cx w0 fp0 S0 w0 []:=Cx.start hI hS
 refine iA (args:=[_]) gok Tryz.func50 rfl _ rfl rfl rfl ?_
 refine xA H ?_;intro b2 w1 hx H
 refine sA gok rfl H ?_;intro b5 w4 hx H
 refine sA gok rfl H ?_;intro b8 w7 hx H
 refine fld gok rfl rfl rfl rfl (bA (H.bx 2 rfl (j:=0) rfl) ?_)
 refine fld gok rfl rfl rfl rfl ?_
 refine stB (j:=0) H rfl rfl ?_;intro w2 H
 refine fld gok rfl rfl rfl rfl (bA (H.bx 2 rfl (j:=1) rfl) ?_)
 refine fld gok rfl rfl rfl rfl ?_
 refine stB (j:=1) H rfl rfl ?_;intro w3 H
 refine fld gok rfl rfl rfl rfl (bA (H.bx 2 rfl (j:=2) rfl) ?_)
 refine fld gok rfl rfl rfl rfl ?_
 refine stB (j:=2) H rfl rfl ?_;intro w5 H
 refine cA [(vi a__0),(vi a__1),(.string a__2)] rfl (H.bz_ 0 rfl) ?_
 refine stA gok [(vi a__0),(vi a__1),(.string a__2)] rfl (H.sel [1,0,2] rfl) rfl rfl rfl ?_;intro w6 H
 refine cA [(vi a__0),(vi a__1),(.string a__2)] rfl (H.bz_ 0 rfl) ?_
 cases hF
 exact ⟨_,_,rfl,⟨rfl,rfl⟩,(H.sel [] rfl).close trivial⟩
theorem Gi_ {a_:List Ty4}{a_h:Hd}{y:List Ty4} (hF:gZ a_=some y) :
  kA Tryz.prog 32 #[(a_h).v] [Es (List Ty4) a_ a_h] [] (fun v Γ'=>∃ z0:Hd,v=(z0).v∧Γ'=[E (List Ty4) y z0]):=by
 intro w0 S0 fp0 hI hS
 have H:=Cx.start hI hS;dsimp at H
 refine iA (args:=[_]) gok Tryz.func32 rfl _ rfl rfl rfl ?_
 refine nA (H.rs (α:=List Ty4) 0 rfl).len ?_
 obtain ⟨a2,e,hF3⟩:=aA hF
 refine nE (α:=Ty4) gok rfl rfl rfl rfl (xE e) H ?_;intro h5 w4 hx H
 obtain ⟨r0,f0,f1⟩:=aA hF3
 refine cut (fun (q0:List Ty4)=>[(3,(h5).v)]) (fun (q0:List Ty4) w'=>q0=r0∧Cx w0 fp0 S0 w' [E (List Ty4) q0 h5]) ?_ ?_
 refine oE _ (fun (s0:(List Ty4)×Int) (_:Unit)=>[(0,(a_h).v),(3,(h5).v),(4,(vi s0.2))]) (fun (s0:(List Ty4)×Int) (_:Unit) w'=>Cx w0 fp0 S0 w' [Es (List Ty4) a_ a_h,E (List Ty4) s0.1 h5]) (a2,0) () f0 r3_ (H.sel [1,0] rfl) ?_
 rintro T0 ⟨s0_0,s0_1⟩ _ w1 o0 (H:Cx w0 fp0 S0 w1 [Es (List Ty4) a_ a_h,E (List Ty4) s0_0 h5]) hrt f2
 refine sq ?_
 refine nA (H.rs (α:=List Ty4) 0 rfl).len ?_
 refine boolB_ f2 (fun f4=>?_) fun f6=>?_
 obtain rfl:=oi_ f4
 have f5:some _=some _:=congrArg some (hrt _ rfl).symm
 exact ⟨s0_0,⟨rfl,trivial⟩,oi_ f5,H.sel [1] rfl⟩
 refine sq ?_
 obtain ⟨a1,e,f7⟩:=aA f6
 have HH:=H;obtain ⟨p0,m0,g0,c0,c1,c2,c3,H⟩:=HH.el (α:=Ty4) 0 rfl e
 obtain ⟨a1_0,a1_1,a1_2⟩:=a1
 obtain ⟨_,_,_⟩:=g0
 replace H:=H.sel [1,2] rfl
 refine dA c0 c1 c2 ?_
 refine cA [(vi a1_0),(vi a1_1),(.string a1_2)] rfl c3 ?_
 obtain ⟨⟨y0_0,y0_1,y0_2⟩,i0,f8⟩:=aA f7
 refine callF0_ (GI_ i0) H trivial ?_
 rintro _ _ w2 ⟨rfl,rfl⟩ H
 replace H:=H.sc (α:=ByteArray) y0_2
 replace H:=H.sc (α:=Int) y0_1
 replace H:=H.join (α:=Int) (β:=ByteArray)
 replace H:=H.sc (α:=Int) y0_0
 replace H:=H.join (α:=Int) (β:=Int×ByteArray)
 obtain ⟨a3,i1,f9⟩:=aA f8
 replace H:=H.sel [2,0,1] rfl
 have HH:=H;obtain ⟨p1,m1,c4,c5,c6,c7,H⟩:=HH.hole (α:=Ty4) i1
 refine dA c5 c6 c7 ?_
 refine stXA (α:=Ty4) gok [(vi y0_0),(vi y0_1),(.string y0_2)] rfl rfl H c5 rfl rfl ?_;intro w3 H
 replace H:=H.sel [1,0,2] rfl
 replace H:=H.put c6 i1
 obtain ⟨a4,e,f10⟩:=aA f9
 refine arO e ?_
 obtain rfl:=oi_ f10
 exact ⟨(a3,a4),(),rfl,r3_,H.sel [1,0] rfl⟩
 rintro T1 s1 w5 ⟨hr,H⟩;try dsimp only at H
 subst hr
 cases f1
 exact ⟨_,_,rfl,⟨h5,rfl,rfl⟩,(H.sel [0] rfl).close ⟨cloE,trivial⟩⟩
theorem CB_ {a__0:List Ty4}{a__0h:Hd}{y_0:List Ty4} (hF:bU a__0=some y_0) :
  kA Tryz.prog 10 #[(.agg #[(a__0h).v])] [Es (List Ty4) a__0 a__0h] [] (fun v Γ'=>∃ z0:Hd,v=(.agg #[(z0).v])∧Γ'=[E (List Ty4) y_0 z0]):=by
 intro w0 S0 fp0 hI hS
 have H:=Cx.start hI hS;dsimp at H
 refine iA (args:=[_]) gok Tryz.func10 rfl _ rfl rfl rfl ?_
 refine xA H ?_;intro b3 w2 hx H
 refine sA gok rfl H ?_;intro b6 w5 hx H
 refine sA gok rfl H ?_;intro b9 w8 hx H
 refine fld gok rfl rfl rfl rfl (bA (H.bx 2 rfl (j:=0) rfl) ?_)
 obtain ⟨y0,i0,f0⟩:=aA hF
 refine callF0_ (Gi_ i0) H ⟨Vw.sh 3 rfl,trivial⟩ ?_
 rintro _ _ w1 ⟨h0,rfl,rfl⟩ H
 refine fld gok rfl rfl rfl rfl ?_
 replace H:=H.sel [1,0,2,3,4] rfl
 refine stB (j:=0) H rfl rfl ?_;intro w3 H
 refine cA [(h0).v] rfl (H.bz_ 0 rfl) ?_
 refine stA gok [(h0).v] rfl (H.sel [2,0,1,3,4] rfl) rfl rfl rfl ?_;intro w4 H
 refine cA [(h0).v] rfl (H.bz_ 0 rfl) ?_
 cases f0
 exact ⟨_,_,rfl,⟨h0,rfl,rfl⟩,(H.sel [2] rfl).close ⟨cloE,trivial⟩⟩
theorem tT {a__0:ByteArray}{a__1_0:List Ty4}{a__1_0h:Hd}{a__2_0:List Ty4}{a__2_0h:Hd}{y_0:ByteArray}{y_1_0 y_2_0:List Ty4} (hF:sN (a__0,a__1_0,a__2_0)=some (y_0,y_1_0,y_2_0)) :
  kA Tryz.prog 23 #[(.agg #[(.string a__0),(a__1_0h).v,(a__2_0h).v])] [Es (List Ty4) a__1_0 a__1_0h,Es (List Ty4) a__2_0 a__2_0h] [] (fun v Γ'=>∃ z0 z1:Hd,v=(.agg #[(.string y_0),(z0).v,(z1).v])∧Γ'=[E (List Ty4) y_1_0 z0,E (List Ty4) y_2_0 z1]):=by
 intro w0 S0 fp0 hI hS
 have H:=Cx.start hI hS;dsimp at H
 refine iA (args:=[_]) gok Tryz.func23 rfl _ rfl rfl rfl ?_
 refine xA H ?_;intro b4 w3 hx H
 refine sA gok rfl H ?_;intro b7 w6 hx H
 refine sA gok rfl H ?_;intro b0 w9 hx H
 refine fld gok rfl rfl rfl rfl (bA (H.bx 2 rfl (j:=0) rfl) ?_)
 refine fld gok rfl rfl rfl rfl ?_
 refine stB (j:=0) H rfl rfl ?_;intro w1 H
 refine fld gok rfl rfl rfl rfl ?_
 refine cA [(a__1_0h).v] rfl (H.bxs 2 rfl 1 rfl) ?_
 obtain ⟨y0,e,f0⟩:=aA hF
 obtain ⟨y0_0,rfl⟩:∃ z,z=y0:=⟨_,rfl⟩
 have i0:=e
 refine callF0_ (CB_ i0) H ⟨Vw.sh 3 rfl,trivial⟩ ?_
 rintro _ _ w2 ⟨h0,rfl,rfl⟩ H
 refine fld gok rfl rfl rfl rfl ?_
 replace H:=H.sel [1,0,2,3,4,5] rfl
 refine stAp gok 1 [(h0).v] rfl H rfl rfl rfl ?_;intro w4 H
 refine fld gok rfl rfl rfl rfl ?_
 refine cA [(a__2_0h).v] rfl (H.bxs 3 rfl 2 rfl) ?_
 obtain ⟨y1,e,f1⟩:=aA f0
 obtain ⟨y1_0,rfl⟩:∃ z,z=y1:=⟨_,rfl⟩
 have i1:=e
 refine callF0_ (CB_ i1) H ⟨Vw.sh 5 rfl,trivial⟩ ?_
 rintro _ _ w5 ⟨h1,rfl,rfl⟩ H
 refine fld gok rfl rfl rfl rfl ?_
 replace H:=H.sel [1,0,2,3,4,5,6] rfl
 refine stAp gok 2 [(h1).v] rfl H rfl rfl rfl ?_;intro w7 H
 refine cA [(.string a__0),(h0).v,(h1).v] rfl (H.bz_ 0 rfl) ?_
 refine stA gok [(.string a__0),(h0).v,(h1).v] rfl (H.sel [3,0,1,2,4,5,6] rfl) rfl rfl rfl ?_;intro w8 H
 refine cA [(.string a__0),(h0).v,(h1).v] rfl (H.bz_ 0 rfl) ?_
 cases f1
 exact ⟨_,_,rfl,⟨h0,h1,rfl,rfl⟩,(H.sel [3,2] rfl).close ⟨cloE,cloE,trivial⟩⟩
theorem tJ {n_ lo_ hi_:Int}{y:Bool} (hF:lH n_ lo_ hi_=some y) :
  kA Tryz.prog 107 #[(vi n_),(vi lo_),(vi hi_)] [] [] (fun v Γ'=>v=(.bool y)∧Γ'=[]):=by
 intro w0 S0 fp0 hI hS
 have H:Cx w0 fp0 S0 w0 []:=Cx.start hI hS
 refine iA (args:=[_,_,_]) gok Tryz.func107 rfl _ rfl rfl rfl ?_
 obtain ⟨r9,f0,f1⟩:=aA hF
 refine cut (fun (q0:Bool)=>[(6,(.bool q0))]) (fun (q0:Bool) w'=>q0=r9∧Cx w0 fp0 S0 w' []) ?_ ?_
 refine boolB_ f0 (fun f3=>?_) fun f4=>?_
 exact ⟨false,⟨rfl,trivial⟩,oi_ f3,H.sel [] rfl⟩
 obtain ⟨a1,e,f5⟩:=aA f4
 refine tB e ?_
 exact ⟨a1,⟨rfl,trivial⟩,oi_ f5,H.sel [] rfl⟩
 rintro T0 s7 w1 ⟨hr,H⟩;try dsimp only at H
 subst hr
 cases f1
 exact ⟨_,_,rfl,⟨rfl,rfl⟩,(H.sel [] rfl).close trivial⟩
theorem Cu_ {n__0 n__1:Int}{n__2:ByteArray}{y:Bool} (hF:iH (n__0,n__1,n__2)=some y) :
  kA Tryz.prog 134 #[(.agg #[(vi n__0),(vi n__1),(.string n__2)])] [] [] (fun v Γ'=>v=(.bool y)∧Γ'=[]):=by
 intro w0 S0 fp0 hI hS
 have H:Cx w0 fp0 S0 w0 []:=Cx.start hI hS
 refine iA (args:=[_]) gok Tryz.func134 rfl _ rfl rfl rfl ?_
 refine xA H ?_;intro b2 w1 hx H
 refine sq ?_
 obtain ⟨r0,f0,f1⟩:=aA hF
 refine cut (fun (q0:Bool)=>[(1,(vp b2)),(11,(.bool q0))]) (fun (q0:Bool) w'=>q0=r0∧Cx w0 fp0 S0 w' [Bx b2 [(vi n__0),(vi n__1),(.string n__2)]]) ?_ ?_
 refine fld gok rfl rfl rfl rfl (bA (H.bx 0 rfl (j:=2) rfl) ?_)
 obtain ⟨a0,e,f2⟩:=aA f0
 refine neqZ e ?_
 cases a0
 have f3:=fB f2
 refine fld gok rfl rfl rfl rfl (bA (H.bx 0 rfl (j:=0) rfl) ?_)
 obtain ⟨y0,i0,f4⟩:=aA f3
 refine callF0_ (tJ i0) H trivial ?_
 rintro _ _ w2 ⟨rfl,rfl⟩ H
 obtain ⟨a1,e,f5⟩:=aA f4
 refine tB e ?_
 exact ⟨a1,⟨rfl,rfl,trivial⟩,oi_ f5,H.sel [0] rfl⟩
 have f6:=eB f2
 exact ⟨true,⟨rfl,rfl,trivial⟩,oi_ f6,H.sel [0] rfl⟩
 rintro T0 s0 w3 ⟨hr,H⟩;try dsimp only at H
 subst hr
 cases s0
 have f7:=fB f1
 refine sq ?_
 refine fld gok rfl rfl rfl rfl (bA (H.bx 0 rfl (j:=0) rfl) ?_)
 refine boolB_ f7 (fun f9=>?_) fun f20=>?_
 obtain ⟨r1,f10,f11⟩:=aA f9
 refine cut (fun (q1:Bool)=>[(1,(vp b2)),(19,(.bool q1))]) (fun (q1:Bool) w'=>q1=r1∧Cx w0 fp0 S0 w' [Bx b2 [(vi n__0),(vi n__1),(.string n__2)]]) ?_ ?_
 refine boolB_ f10 (fun f13=>?_) fun f15=>?_
 obtain ⟨a4,e,f14⟩:=aA f13
 refine tB e ?_
 exact ⟨a4,⟨rfl,rfl,trivial⟩,oi_ f14,H.sel [0] rfl⟩
 exact ⟨true,⟨rfl,rfl,trivial⟩,oi_ f15,H.sel [0] rfl⟩
 rintro T1 s1 w4 ⟨hr,H⟩;try dsimp only at H
 subst hr
 cases s1
 have f16:=fB f11
 refine fld gok rfl rfl rfl rfl (bA (H.bx 0 rfl (j:=1) rfl) ?_)
 obtain ⟨a5,e,f17⟩:=aA f16
 refine tB e ?_
 cases f17
 exact ⟨_,_,rfl,⟨rfl,rfl⟩,(H.sel [] rfl).close trivial⟩
 have f18:=eB f11
 refine fld gok rfl rfl rfl rfl (bA (H.bx 0 rfl (j:=1) rfl) ?_)
 obtain ⟨y1,i1,f19⟩:=aA f18
 refine callF0_ (tJ i1) H trivial ?_
 rintro _ _ w5 ⟨rfl,rfl⟩ H
 cases f19
 exact ⟨_,_,rfl,⟨rfl,rfl⟩,(H.sel [] rfl).close trivial⟩
 refine fld gok rfl rfl rfl rfl (bA (H.bx 0 rfl (j:=1) rfl) ?_)
 obtain ⟨y2,i2,f21⟩:=aA f20
 refine callF0_ (tJ i2) H trivial ?_
 rintro _ _ w6 ⟨rfl,rfl⟩ H
 cases f21
 exact ⟨_,_,rfl,⟨rfl,rfl⟩,(H.sel [] rfl).close trivial⟩
 have f22:=eB f1
 cases f22
 exact ⟨_,_,rfl,⟨rfl,rfl⟩,(H.sel [] rfl).close trivial⟩
theorem mZ {kind_ y0 y1:Int} (hF:rN kind_=some (y0,y1)) :
  kA Tryz.prog 112 #[(vi kind_)] [] [] (fun v Γ'=>v=(.tuple #[(vi y0),(vi y1)])∧Γ'=[]):=by
 intro w0 S0 fp0 hI hS
 have H:Cx w0 fp0 S0 w0 []:=Cx.start hI hS
 refine iA (args:=[_]) gok Tryz.func112 rfl _ rfl rfl rfl ?_
 refine sq ?_
 refine boolB_ hF (fun hF3=>?_) fun f32=>?_
 obtain ⟨r0,f0,f1⟩:=aA hF3
 refine cut (fun (q0:Bool)=>[(4,(vi kind_)),(7,(.bool q0))]) (fun (q0:Bool) w'=>q0=r0∧Cx w0 fp0 S0 w' []) ?_ ?_
 refine boolB_ f0 (fun f3=>?_) fun f5=>?_
 obtain ⟨a2,e,f4⟩:=aA f3
 refine tB e ?_
 exact ⟨a2,⟨rfl,rfl,trivial⟩,oi_ f4,H.sel [] rfl⟩
 exact ⟨true,⟨rfl,rfl,trivial⟩,oi_ f5,H.sel [] rfl⟩
 rintro T0 s0 w1 ⟨hr,H⟩;try dsimp only at H
 subst hr
 cases s0
 have f6:=fB f1
 obtain ⟨r1,f7,f8⟩:=aA f6
 refine cut (fun (q1:Bool)=>[(4,(vi kind_)),(10,(.bool q1))]) (fun (q1:Bool) w'=>q1=r1∧Cx w0 fp0 S0 w' []) ?_ ?_
 refine boolB_ f7 (fun f10=>?_) fun f12=>?_
 obtain ⟨a4,e,f11⟩:=aA f10
 refine tB e ?_
 exact ⟨a4,⟨rfl,rfl,trivial⟩,oi_ f11,H.sel [] rfl⟩
 exact ⟨true,⟨rfl,rfl,trivial⟩,oi_ f12,H.sel [] rfl⟩
 rintro T1 s1 w2 ⟨hr,H⟩;try dsimp only at H
 subst hr
 cases s1
 have f13:=fB f8
 obtain ⟨r2,f14,f15⟩:=aA f13
 refine cut (fun (q2:Bool)=>[(4,(vi kind_)),(13,(.bool q2))]) (fun (q2:Bool) w'=>q2=r2∧Cx w0 fp0 S0 w' []) ?_ ?_
 refine boolB_ f14 (fun f17=>?_) fun f19=>?_
 obtain ⟨a6,e,f18⟩:=aA f17
 refine tB e ?_
 exact ⟨a6,⟨rfl,rfl,trivial⟩,oi_ f18,H.sel [] rfl⟩
 exact ⟨true,⟨rfl,rfl,trivial⟩,oi_ f19,H.sel [] rfl⟩
 rintro T2 s2 w3 ⟨hr,H⟩;try dsimp only at H
 subst hr
 cases s2
 have f20:=fB f15
 obtain ⟨r3,f21,f22⟩:=aA f20
 refine cut (fun (q3:Bool)=>[(16,(.bool q3))]) (fun (q3:Bool) w'=>q3=r3∧Cx w0 fp0 S0 w' []) ?_ ?_
 refine boolB_ f21 (fun f24=>?_) fun f26=>?_
 obtain ⟨a8,e,f25⟩:=aA f24
 refine tB e ?_
 exact ⟨a8,⟨rfl,trivial⟩,oi_ f25,H.sel [] rfl⟩
 exact ⟨true,⟨rfl,trivial⟩,oi_ f26,H.sel [] rfl⟩
 rintro T3 s3 w4 ⟨hr,H⟩;try dsimp only at H
 subst hr
 cases s3
 have f27:=fB f22
 cases f27
 exact ⟨_,_,rfl,⟨rfl,rfl⟩,(H.sel [] rfl).close trivial⟩
 have f28:=eB f22
 cases f28
 exact ⟨_,_,rfl,⟨rfl,rfl⟩,(H.sel [] rfl).close trivial⟩
 have f29:=eB f15
 cases f29
 exact ⟨_,_,rfl,⟨rfl,rfl⟩,(H.sel [] rfl).close trivial⟩
 have f30:=eB f8
 cases f30
 exact ⟨_,_,rfl,⟨rfl,rfl⟩,(H.sel [] rfl).close trivial⟩
 have f31:=eB f1
 cases f31
 exact ⟨_,_,rfl,⟨rfl,rfl⟩,(H.sel [] rfl).close trivial⟩
 cases f32
 exact ⟨_,_,rfl,⟨rfl,rfl⟩,(H.sel [] rfl).close trivial⟩
theorem Gb_ {n__0 n__1:Int}{n__2:ByteArray}{y0 y1:Int} (hF:uP (n__0,n__1,n__2)=some (y0,y1)) :
  kA Tryz.prog 135 #[(.agg #[(vi n__0),(vi n__1),(.string n__2)])] [] [] (fun v Γ'=>v=(.tuple #[(vi y0),(vi y1)])∧Γ'=[]):=by
 intro w0 S0 fp0 hI hS
 have H:Cx w0 fp0 S0 w0 []:=Cx.start hI hS
 refine iA (args:=[_]) gok Tryz.func135 rfl _ rfl rfl rfl ?_
 refine xA H ?_;intro b2 w1 hx H
 refine sq ?_
 refine fld gok rfl rfl rfl rfl (bA (H.bx 0 rfl (j:=0) rfl) ?_)
 refine boolB_ hF (fun hF6=>?_) fun f0=>?_
 refine fld gok rfl rfl rfl rfl (bA (H.bx 0 rfl (j:=0) rfl) ?_)
 obtain ⟨⟨y7_0,y7_1⟩,ey7,hF8⟩:=aA hF6
 refine callF0_ (mZ ey7) H trivial ?_
 rintro _ _ w9 ⟨rfl,rfl⟩ H
 cases hF8
 exact ⟨_,_,rfl,⟨rfl,rfl⟩,(H.sel [] rfl).close trivial⟩
 refine kB H [] (.fst 0 (.fst 2 (.fst 1 (.fst 4 (.fst 3 (.fst 5 .done)))))) bB [] trivial (by kernel_rfl) ?_
 intro w2 H
 have hX:Ext w2 w2:=Upd.refl _ _
 refine oA (fun _=>fld gok rfl rfl rfl rfl ⟨rfl,rfl⟩) ?_
 refine oA (fun _=>fld gok rfl rfl rfl rfl ⟨rfl,rfl⟩) ?_
 refine gA (H.bx 0 rfl (j:=1) rfl) ?_
 refine gA (H.bx 0 rfl (j:=1) rfl) ?_
 cases f0
 exact ⟨_,_,rfl,⟨rfl,rfl⟩,(H.sel [] rfl).close trivial⟩
theorem Gv_ {lib_:List Ty1}{lib_h:Hd}{name_:ByteArray}{y:Int} (hF:xT lib_ name_=some y) :
  kA Tryz.prog 136 #[(lib_h).v,(.string name_)] [Es (List Ty1) lib_ lib_h] [] (fun v Γ'=>v=(vi y)∧Γ'=[]):=by
 intro w0 S0 fp0 hI hS
 have H:=Cx.start hI hS;dsimp at H
 refine iA (args:=[_,_]) gok Tryz.func136 rfl _ rfl rfl rfl ?_
 refine sq ?_
 refine nA (H.rs (α:=List Ty1) 0 rfl).len ?_
 have x0:=(H.rs (α:=List Ty1) 0 rfl).max
 obtain ⟨r0,e,f0⟩:=aA hF
 refine iE _ lib_.length (fun (k2:Nat) (_:Unit) (_:Unit)=>[(1,(.string name_)),(7,(lib_h).v),(8,(vi ((lib_.length:Nat):Int))),(9,(vi ((k2:Nat):Int)))]) (fun _ (_:Unit) (_:Unit) w'=>Cx w0 fp0 S0 w' [Es (List Ty1) lib_ lib_h]) () () e r4_ (H.sel [0] rfl) ?_ ?_
 rintro T0 k2 _ _ w1 o0 hk (H:Cx w0 fp0 S0 w1 [Es (List Ty1) lib_ lib_h]) hrt f1
 refine jA (z:=true) (cB hk) ?_
 refine sq (sq ?_)
 obtain ⟨a0,e,f2⟩:=aA f1
 have HH:=H;obtain ⟨p0,m0,g0,c0,c1,c2,c3,H⟩:=HH.el (α:=Ty1) 0 rfl e
 obtain ⟨a0_0,a0_1,a0_2,a0_3_0⟩:=a0
 obtain ⟨_,_,_,h0⟩:=g0
 replace H:=H.part (β:=List Ty4) a0_3_0 (h0:Hd) 0 rfl (fun S h=>(And.right (And.right (And.right h))))
 replace H:=H.sel [0,2] rfl
 refine dA c0 c1 c2 ?_
 refine cA [(.string a0_0),(vi a0_1),(vi a0_2),(h0).v] rfl c3 ?_
 refine sA gok rfl H ?_;intro b0 w2 hx H
 refine stA gok [(.string a0_0),(vi a0_1),(vi a0_2),(h0).v] rfl H rfl rfl rfl ?_;intro w3 H
 refine fld gok rfl rfl rfl rfl (bA (H.bx 0 rfl (j:=0) rfl) ?_)
 obtain ⟨a1,e,f3⟩:=aA f2
 refine eqZ e ?_
 cases a1
 have f4:=fB f3
 refine arK hk x0 ?_
 obtain rfl:=oi_ f4
 exact ⟨(),(),rfl,r4_,H.sel [2] rfl⟩
 have f5:=eB f3
 obtain rfl:=oi_ f5
 have hr:=hrt _ rfl;subst hr
 have f6:some _=some _:=f0
 cases f6
 exact ⟨_,_,rfl,⟨rfl,rfl⟩,(H.sel [] rfl).close trivial⟩
 rintro T1 _ _ w4 hr H;try dsimp only at H
 subst hr
 refine jA (z:=false) dB ?_
 refine sq ?_
 cases f0
 exact ⟨_,_,rfl,⟨rfl,rfl⟩,(H.sel [] rfl).close trivial⟩
theorem Gt_ {lib_:List Ty1}{lib_h:Hd}{t__0:List Ty4}{t__0h:Hd}{y0_0 y0_1 y0_2:List Int}{y1:Bool} (hF:wT lib_ t__0=some ((y0_0,y0_1,y0_2),y1)) :
  kA Tryz.prog 106 #[(lib_h).v,(.agg #[(t__0h).v])] [Es (List Ty1) lib_ lib_h,Es (List Ty4) t__0 t__0h] [] (fun v Γ'=>∃ z0 z1 z2:Hd,v=(.tuple #[(.agg #[(z0).v,(z1).v,(z2).v]),(.bool y1)])∧Γ'=[E (List Int) y0_0 z0,E (List Int) y0_1 z1,E (List Int) y0_2 z2]):=by
 intro w0 S0 fp0 hI hS
 have H:=Cx.start hI hS;dsimp at H
 refine iA (args:=[_,_]) gok Tryz.func106 rfl _ rfl rfl rfl ?_
 refine xA H ?_;intro b4 w3 hx H
 refine sA gok rfl H ?_;intro b7 w6 hx H
 refine sA gok rfl H ?_;intro b0 w9 hx H
 refine sq ?_
 refine fld gok rfl rfl rfl rfl (bA (H.bx 2 rfl (j:=0) rfl) ?_)
 refine nA (H.rs (α:=List Ty4) 4 rfl).len ?_
 obtain ⟨y0,i0,f0⟩:=aA hF
 refine gC (@tJ ((t__0.length:Nat):Int) 1 400 y0 i0) (Γi:=[]) H trivial ?_
 rintro _ _ w1 ⟨rfl,rfl⟩ H
 refine boolB_ f0 (fun f2=>?_) fun f119=>?_
 refine sq ?_
 refine fld gok rfl rfl rfl rfl (bA (H.bx 2 rfl (j:=0) rfl) ?_)
 refine nA (H.rs (α:=List Ty4) 4 rfl).len ?_
 have x0:=(H.rs (α:=List Ty4) 4 rfl).max
 obtain ⟨r0,e,f3⟩:=aA f2
 replace H:=H.nil (α:=Int)
 replace H:=H.nil (α:=Int)
 replace H:=H.nil (α:=Int)
 refine iE _ t__0.length (fun (k0:Nat) (s0:List Int×List Int×List Int) (g0:Hd×Hd×Hd)=>[(0,(lib_h).v),(3,(vp b4)),(4,(vp b7)),(6,(vp b0)),(23,(t__0h).v),(24,(vi ((t__0.length:Nat):Int))),(25,(vi ((k0:Nat):Int)))]) (fun _ (s0:List Int×List Int×List Int) (g0:Hd×Hd×Hd) w'=>Cx w0 fp0 S0 w' [Es (List Ty1) lib_ lib_h,Bx b4 [(t__0h).v],Es (List Ty4) t__0 t__0h,Bx b7 [vn,vn,vn],Bx b0 [(g0.1).v,(g0.2.1).v,(g0.2.2).v],E (List Int) s0.1 g0.1,E (List Int) s0.2.1 g0.2.1,E (List Int) s0.2.2 g0.2.2]) ([],[],[]) (nilH,nilH,nilH) e r7_ (H.sel [6,5,7,4,3,2,1,0] rfl) ?_ ?_
 rintro T0 k0 ⟨s0_0,s0_1,s0_2⟩ ⟨g0_0,g0_1,g0_2⟩ w2 o0 hk (H:Cx w0 fp0 S0 w2 [Es (List Ty1) lib_ lib_h,Bx b4 [(t__0h).v],Es (List Ty4) t__0 t__0h,Bx b7 [vn,vn,vn],Bx b0 [(g0_0).v,(g0_1).v,(g0_2).v],E (List Int) s0_0 g0_0,E (List Int) s0_1 g0_1,E (List Int) s0_2 g0_2]) hrt f4
 refine jA (z:=true) (cB hk) ?_
 refine sq ?_
 obtain ⟨r1,f5,f6⟩:=aA f4
 refine cut (fun (q0:(List Int×List Int×List Int)×(Hd×Hd×Hd))=>[(0,(lib_h).v),(3,(vp b4)),(4,(vp b7)),(6,(vp b0)),(23,(t__0h).v),(24,(vi ((t__0.length:Nat):Int))),(25,(vi ((k0:Nat):Int)))]) (fun (q0:(List Int×List Int×List Int)×(Hd×Hd×Hd)) w'=>.inl (q0.1.1,q0.1.2.1,q0.1.2.2)=r1∧Cx w0 fp0 S0 w' [Es (List Ty1) lib_ lib_h,Bx b4 [(t__0h).v],Es (List Ty4) t__0 t__0h,Bx b7 [vn,vn,vn],Bx b0 [(q0.2.1).v,(q0.2.2.1).v,(q0.2.2.2).v],E (List Int) q0.1.1 q0.2.1,E (List Int) q0.1.2.1 q0.2.2.1,E (List Int) q0.1.2.2 q0.2.2.2]) ?_ ?_
 obtain ⟨a1,e,f7⟩:=aA f5
 have HH:=H;obtain ⟨p0,m0,g1,c0,c1,c2,c3,H⟩:=HH.el (α:=Ty4) 2 rfl e
 obtain ⟨a1_0,a1_1,a1_2⟩:=a1
 obtain ⟨_,_,_⟩:=g1
 replace H:=H.sel [1,2,3,4,5,6,7,8] rfl
 refine dA c0 c1 c2 ?_
 refine cA [(vi a1_0),(vi a1_1),(.string a1_2)] rfl c3 ?_
 refine sA gok rfl H ?_;intro b1 w4 hx H
 refine stA gok [(vi a1_0),(vi a1_1),(.string a1_2)] rfl H rfl rfl rfl ?_;intro w5 H
 refine sq ?_
 obtain ⟨r2,f8,f9⟩:=aA f7
 refine cut (fun (q1:Bool)=>[(0,(lib_h).v),(3,(vp b4)),(4,(vp b7)),(6,(vp b0)),(7,(vi ((k0:Nat):Int))),(8,(vp b1)),(23,(t__0h).v),(24,(vi ((t__0.length:Nat):Int))),(25,(vi ((k0:Nat):Int))),(36,(.bool q1))]) (fun (q1:Bool) w'=>q1=r2∧Cx w0 fp0 S0 w' [Es (List Ty1) lib_ lib_h,Bx b4 [(t__0h).v],Es (List Ty4) t__0 t__0h,Bx b7 [vn,vn,vn],Bx b0 [(g0_0).v,(g0_1).v,(g0_2).v],E (List Int) s0_0 g0_0,E (List Int) s0_1 g0_1,E (List Int) s0_2 g0_2,Bx b1 [(vi a1_0),(vi a1_1),(.string a1_2)]]) ?_ ?_
 refine cA [(vi a1_0),(vi a1_1),(.string a1_2)] rfl (H.bz_ 0 rfl) ?_
 obtain ⟨y2,i1,f10⟩:=aA f8
 refine callF0_ (Cu_ i1) H trivial ?_
 rintro _ _ w7 ⟨rfl,rfl⟩ H
 cases y2
 have f11:=fB f10
 refine fld gok rfl rfl rfl rfl (bA (H.bx 0 rfl (j:=0) rfl) ?_)
 obtain ⟨a2,e,f12⟩:=aA f11
 refine tB e ?_
 exact ⟨a2,r10_,oi_ f12,H.sel [1,2,3,4,5,6,7,8,0] rfl⟩
 have f13:=eB f10
 exact ⟨true,r10_,oi_ f13,H.sel [1,2,3,4,5,6,7,8,0] rfl⟩
 rintro T1 s1 w8 ⟨hr,H⟩;try dsimp only at H
 subst hr
 cases s1
 have f14:=fB f9
 refine sq ?_
 obtain ⟨r3,f15,f16⟩:=aA f14
 refine cut (fun (q2:Bool)=>[(0,(lib_h).v),(3,(vp b4)),(4,(vp b7)),(6,(vp b0)),(7,(vi ((k0:Nat):Int))),(8,(vp b1)),(23,(t__0h).v),(24,(vi ((t__0.length:Nat):Int))),(25,(vi ((k0:Nat):Int))),(115,(.bool q2))]) (fun (q2:Bool) w'=>q2=r3∧Cx w0 fp0 S0 w' [Es (List Ty1) lib_ lib_h,Bx b4 [(t__0h).v],Es (List Ty4) t__0 t__0h,Bx b7 [vn,vn,vn],Bx b0 [(g0_0).v,(g0_1).v,(g0_2).v],E (List Int) s0_0 g0_0,E (List Int) s0_1 g0_1,E (List Int) s0_2 g0_2,Bx b1 [(vi a1_0),(vi a1_1),(.string a1_2)]]) ?_ ?_
 refine fld gok rfl rfl rfl rfl (bA (H.bx 8 rfl (j:=0) rfl) ?_)
 refine boolB_ f15 (fun f18=>?_) fun f31=>?_
 refine fld gok rfl rfl rfl rfl (bA (H.bx 8 rfl (j:=2) rfl) ?_)
 obtain ⟨a4,e,f19⟩:=aA f18
 refine neqZ e ?_
 cases a4
 have f20:=fB f19
 refine fld gok rfl rfl rfl rfl (bA (H.bx 8 rfl (j:=1) rfl) ?_)
 refine boolB_ f20 (fun f22=>?_) fun f29=>?_
 refine boolB_ f22 (fun f24=>?_) fun f28=>?_
 refine fld gok rfl rfl rfl rfl (bA (H.bx 4 rfl (j:=0) rfl) ?_)
 obtain ⟨a7,e,f25⟩:=aA f24
 refine arO e ?_
 obtain ⟨a8,e,f26⟩:=aA f25
 obtain ⟨p1,m1,c4,c5,c6,c7⟩:=(H.ro (α:=List Int) 5 rfl).at1 e
 refine dA c4 c5 c6 ?_
 refine bA c7 ?_
 obtain ⟨a9,e,f27⟩:=aA f26
 refine tB e ?_
 exact ⟨a9,r10_,oi_ f27,H.sel [0,1,2,3,4,5,6,7,8] rfl⟩
 exact ⟨true,r10_,oi_ f28,H.sel [0,1,2,3,4,5,6,7,8] rfl⟩
 exact ⟨true,r10_,oi_ f29,H.sel [0,1,2,3,4,5,6,7,8] rfl⟩
 have f30:=eB f19
 exact ⟨true,r10_,oi_ f30,H.sel [0,1,2,3,4,5,6,7,8] rfl⟩
 refine fld gok rfl rfl rfl rfl (bA (H.bx 8 rfl (j:=0) rfl) ?_)
 refine boolB_ f31 (fun f33=>?_) fun f46=>?_
 refine fld gok rfl rfl rfl rfl (bA (H.bx 8 rfl (j:=2) rfl) ?_)
 obtain ⟨a11,e,f34⟩:=aA f33
 refine neqZ e ?_
 cases a11
 have f35:=fB f34
 refine fld gok rfl rfl rfl rfl (bA (H.bx 8 rfl (j:=1) rfl) ?_)
 refine boolB_ f35 (fun f37=>?_) fun f44=>?_
 refine boolB_ f37 (fun f39=>?_) fun f43=>?_
 refine fld gok rfl rfl rfl rfl (bA (H.bx 4 rfl (j:=0) rfl) ?_)
 obtain ⟨a14,e,f40⟩:=aA f39
 refine arO e ?_
 obtain ⟨a16,e,f41⟩:=aA f40
 obtain ⟨p2,m2,c8,c9,c10,c11⟩:=(H.ro (α:=List Int) 5 rfl).at1 e
 refine dA c8 c9 c10 ?_
 refine bA c11 ?_
 obtain ⟨a17,e,f42⟩:=aA f41
 refine tB e ?_
 exact ⟨a17,r10_,oi_ f42,H.sel [0,1,2,3,4,5,6,7,8] rfl⟩
 exact ⟨true,r10_,oi_ f43,H.sel [0,1,2,3,4,5,6,7,8] rfl⟩
 exact ⟨true,r10_,oi_ f44,H.sel [0,1,2,3,4,5,6,7,8] rfl⟩
 have f45:=eB f34
 exact ⟨true,r10_,oi_ f45,H.sel [0,1,2,3,4,5,6,7,8] rfl⟩
 exact ⟨true,r10_,oi_ f46,H.sel [0,1,2,3,4,5,6,7,8] rfl⟩
 rintro T2 s2 w10 ⟨hr,H⟩;try dsimp only at H
 subst hr
 cases s2
 have f47:=fB f16
 obtain ⟨a18,e,f48⟩:=aA f47
 refine arO e ?_
 refine fld gok rfl rfl rfl rfl (bA (H.bx 4 rfl (j:=0) rfl) ?_)
 obtain ⟨a19,e,f49⟩:=aA f48
 obtain ⟨p3,m3,c12,c13,c14,c15⟩:=(H.ro (α:=List Int) 5 rfl).at1 e
 refine dA c12 c13 c14 ?_
 refine bA c15 ?_
 obtain ⟨a20,e,f50⟩:=aA f49
 refine arO e ?_
 refine kB H [] (.fst 0 (.fst 2 (.fst 5 (.fst 7 (.fst 11 (.fst 13 (.fst 16 (.fst 18 (.fst 1 (.fst 3 (.fst 4 (.fst 6 (.fst 8 (.fst 9 (.fst 10 (.fst 22 (.fst 12 (.fst 14 (.fst 15 (.fst 17 (.fst 19 (.fst 20 (.fst 21 (.fst 23 .done)))))))))))))))))))))))) bB [] trivial (by kernel_rfl) ?_
 intro w11 H
 have hX:Ext w11 w11:=Upd.refl _ _
 refine oA (fun _=>fld gok rfl rfl rfl rfl ⟨rfl,rfl⟩) ?_
 refine oA (fun _=>fld gok rfl rfl rfl rfl ⟨rfl,rfl⟩) ?_
 refine oA (fun _=>fld gok rfl rfl rfl rfl ⟨rfl,rfl⟩) ?_
 refine oA (fun _=>fld gok rfl rfl rfl rfl ⟨rfl,rfl⟩) ?_
 refine gA (H.bx 4 rfl (j:=1) rfl) ?_
 obtain ⟨a21,e,f51⟩:=aA f50
 obtain ⟨p4,m4,c16,c17,c18,c19⟩:=(H.ro (α:=List Int) 6 rfl).at1 e
 refine dA c16 c17 c18 ?_
 refine gA c19 ?_
 refine gA (H.bx 4 rfl (j:=1) rfl) ?_
 obtain ⟨a22,e,f52⟩:=aA f51
 obtain ⟨p5,m5,c20,c21,c22,c23⟩:=(H.ro (α:=List Int) 6 rfl).at1 e
 refine dA c20 c21 c22 ?_
 refine gA c23 ?_
 obtain ⟨a23,e,f53⟩:=aA f52
 refine arO e ?_
 refine gA (H.bx 4 rfl (j:=2) rfl) ?_
 obtain ⟨a24,e,f54⟩:=aA f53
 obtain ⟨p6,m6,c24,c25,c26,c27⟩:=(H.ro (α:=List Int) 7 rfl).at1 e
 refine dA c24 c25 c26 ?_
 refine gA c27 ?_
 refine gA (H.bx 4 rfl (j:=2) rfl) ?_
 obtain ⟨a25,e,f55⟩:=aA f54
 obtain ⟨p7,m7,c28,c29,c30,c31⟩:=(H.ro (α:=List Int) 7 rfl).at1 e
 refine dA c28 c29 c30 ?_
 refine gA c31 ?_
 obtain ⟨a26,e,f56⟩:=aA f55
 refine arO e ?_
 obtain ⟨r4,f57,f58⟩:=aA f56
 refine cut (fun (q3:Int×Int)=>[(0,(lib_h).v),(3,(vp b4)),(4,(vp b7)),(6,(vp b0)),(13,(vi a20)),(14,(vi q3.1)),(15,(vi q3.2)),(23,(t__0h).v),(24,(vi ((t__0.length:Nat):Int))),(25,(vi ((k0:Nat):Int)))]) (fun (q3:Int×Int) w'=>.inl (q3.1,q3.2)=r4∧Cx w0 fp0 S0 w' [Es (List Ty1) lib_ lib_h,Bx b4 [(t__0h).v],Es (List Ty4) t__0 t__0h,Bx b7 [vn,vn,vn],Bx b0 [(g0_0).v,(g0_1).v,(g0_2).v],E (List Int) s0_0 g0_0,E (List Int) s0_1 g0_1,E (List Int) s0_2 g0_2]) ?_ ?_
 refine fld gok rfl rfl rfl rfl (bA (H.bx 8 rfl (j:=0) rfl) ?_)
 refine boolB_ f57 (fun f60=>?_) fun f61=>?_
 exact ⟨(a23,a26),r10_,oi_ f60,H.sel [0,1,2,3,4,5,6,7] rfl⟩
 refine sq ?_
 refine kB H [] (.fst 0 (.fst 2 (.fst 5 (.fst 7 (.fst 1 (.fst 3 (.fst 4 (.fst 6 (.fst 8 (.fst 9 (.fst 10 .done))))))))))) bB [] trivial (by kernel_rfl) ?_
 intro w12 H
 have hX:Ext w12 w12:=Upd.refl _ _
 refine oA (fun _=>fld gok rfl rfl rfl rfl ⟨rfl,rfl⟩) ?_
 refine oA (fun _=>fld gok rfl rfl rfl rfl ⟨rfl,rfl⟩) ?_
 refine gA (H.bx 4 rfl (j:=2) rfl) ?_
 obtain ⟨a28,e,f62⟩:=aA f61
 obtain ⟨p8,m8,c32,c33,c34,c35⟩:=(H.ro (α:=List Int) 7 rfl).at1 e
 refine dA c32 c33 c34 ?_
 refine gA c35 ?_
 refine gA (H.bx 4 rfl (j:=1) rfl) ?_
 obtain ⟨a29,e,f63⟩:=aA f62
 obtain ⟨p9,m9,c36,c37,c38,c39⟩:=(H.ro (α:=List Int) 6 rfl).at1 e
 refine dA c36 c37 c38 ?_
 refine gA c39 ?_
 refine boolB_ f63 (fun f65=>?_) fun f68=>?_
 refine kB H [] (.fst 0 (.fst 2 (.fst 5 (.fst 7 (.fst 1 (.fst 3 (.fst 4 (.fst 10 (.fst 6 (.fst 8 (.fst 9 (.fst 11 .done)))))))))))) bB [] trivial (by kernel_rfl) ?_
 intro w13 H
 have hX:Ext w13 w13:=Upd.refl _ _
 refine oA (fun _=>fld gok rfl rfl rfl rfl ⟨rfl,rfl⟩) ?_
 refine oA (fun _=>fld gok rfl rfl rfl rfl ⟨rfl,rfl⟩) ?_
 refine gA (H.bx 4 rfl (j:=1) rfl) ?_
 obtain ⟨a31,e,f66⟩:=aA f65
 obtain ⟨p10,m10,c40,c41,c42,c43⟩:=(H.ro (α:=List Int) 6 rfl).at1 e
 refine dA c40 c41 c42 ?_
 refine gA c43 ?_
 refine gA (H.bx 4 rfl (j:=2) rfl) ?_
 obtain ⟨a32,e,f67⟩:=aA f66
 obtain ⟨p11,m11,c44,c45,c46,c47⟩:=(H.ro (α:=List Int) 7 rfl).at1 e
 refine dA c44 c45 c46 ?_
 refine gA c47 ?_
 exact ⟨(a31,a32),r10_,oi_ f67,H.sel [0,1,2,3,4,5,6,7] rfl⟩
 refine cA [(g0_0).v,(g0_1).v,(g0_2).v] rfl (H.bz_ 4 rfl) ?_
 refine stA gok [(g0_0).v,(g0_1).v,(g0_2).v] rfl (H.sel [3,0,1,2,4,5,6,7,8] rfl) rfl rfl rfl ?_;intro w15 H
 obtain rfl:=oi_ f68
 have f69:some _=some _:=f58
 obtain rfl:=oi_ f69
 have f70:some _=some _:=f6
 obtain rfl:=oi_ f70
 have hr:=hrt _ rfl;subst hr
 have f71:some _=some _:=f3
 refine cA [(g0_0).v,(g0_1).v,(g0_2).v] rfl (H.bz_ 0 rfl) ?_
 cases f71
 exact ⟨_,_,rfl,⟨g0_0,g0_1,g0_2,rfl,rfl⟩,(H.sel [5,6,7] rfl).close ⟨cloE,cloE,cloE,trivial⟩⟩
 rintro T3 ⟨s3_0,s3_1⟩ w16 ⟨hr,H⟩;try dsimp only at H
 subst hr
 refine sq ?_
 obtain ⟨r5,f72,f73⟩:=aA f58
 refine cut (fun (q4:Bool)=>[(0,(lib_h).v),(3,(vp b4)),(4,(vp b7)),(6,(vp b0)),(13,(vi a20)),(14,(vi s3_0)),(15,(vi s3_1)),(23,(t__0h).v),(24,(vi ((t__0.length:Nat):Int))),(25,(vi ((k0:Nat):Int))),(177,(.bool q4))]) (fun (q4:Bool) w'=>q4=r5∧Cx w0 fp0 S0 w' [Es (List Ty1) lib_ lib_h,Bx b4 [(t__0h).v],Es (List Ty4) t__0 t__0h,Bx b7 [vn,vn,vn],Bx b0 [(g0_0).v,(g0_1).v,(g0_2).v],E (List Int) s0_0 g0_0,E (List Int) s0_1 g0_1,E (List Int) s0_2 g0_2]) ?_ ?_
 refine boolB_ f72 (fun f75=>?_) fun f77=>?_
 obtain ⟨a34,e,f76⟩:=aA f75
 refine tB e ?_
 exact ⟨a34,r11_,oi_ f76,H.sel [0,1,2,3,4,5,6,7] rfl⟩
 exact ⟨true,r11_,oi_ f77,H.sel [0,1,2,3,4,5,6,7] rfl⟩
 rintro T4 s4 w17 ⟨hr,H⟩;try dsimp only at H
 subst hr
 cases s4
 have f78:=fB f73
 refine kB H [8,10,9] (.fst 0 (.fst 2 (.fst 4 (.fst 1 (.fst 3 (.fst 5 (.fst 6 (.act 7 (.act 8 (.act 9 (.act 10 .done))))))))))) bB [] trivial (by kernel_rfl) ?_
 intro w18 H
 have hX:Ext w18 w18:=Upd.refl _ _
 refine oA (fun _=>fld gok rfl rfl rfl rfl ⟨rfl,rfl⟩) ?_
 refine oA (fun _=>fld gok rfl rfl rfl rfl ⟨rfl,rfl⟩) ?_
 refine gA (H.bx 4 rfl (j:=0) rfl) ?_
 refine gA (H.bx 4 rfl (j:=0) rfl) ?_
 obtain ⟨a35,e,f79⟩:=aA f78
 obtain ⟨p12,m12,c48,c49,c50,c51⟩:=(H.ro (α:=List Int) 5 rfl).at1 e
 refine dA c48 c49 c50 ?_
 refine gA c51 ?_
 refine jE (α:=Int) gok rfl rfl rfl rfl H ?_;intro h0 w19 hx H
 refine hold_ hX hx fun hX=>?_
 obtain ⟨a36,e,f80⟩:=aA f79
 refine append_ (α:=Int) gok rfl rfl rfl rfl (H.sel [6,0,1,2,3,4,5,7,8] rfl) e ?_;intro h1 w20 H
 refine hold trivial ?_
 refine fld gok rfl rfl rfl rfl ?_
 refine hold trivial ?_
 replace H:=H.sel [5,0,1,2,3,4,6,7] rfl
 refine stB (j:=0) H rfl rfl ?_;intro w21 H
 refine hold trivial ?_
 refine fld gok rfl rfl rfl rfl (bA (H.bx 0 rfl (j:=1) rfl) ?_)
 refine jE (α:=Int) gok rfl rfl rfl rfl H ?_;intro h2 w22 hx H
 obtain ⟨a37,e,f81⟩:=aA f80
 refine append_ (α:=Int) gok rfl rfl rfl rfl (H.sel [7,0,1,2,3,4,5,6,8] rfl) e ?_;intro h3 w23 H
 refine fld gok rfl rfl rfl rfl ?_
 replace H:=H.sel [1,0,2,3,4,5,6,7] rfl
 refine stB (j:=1) H rfl rfl ?_;intro w24 H
 refine fld gok rfl rfl rfl rfl (bA (H.bx 0 rfl (j:=2) rfl) ?_)
 refine jE (α:=Int) gok rfl rfl rfl rfl H ?_;intro h4 w25 hx H
 obtain ⟨a38,e,f82⟩:=aA f81
 refine append_ (α:=Int) gok rfl rfl rfl rfl (H.sel [8,0,1,2,3,4,5,6,7] rfl) e ?_;intro h5 w26 H
 refine fld gok rfl rfl rfl rfl ?_
 replace H:=H.sel [1,0,2,3,4,5,6,7] rfl
 refine stB (j:=2) H rfl rfl ?_;intro w27 H
 exact ⟨((a36,a37,a38),(h1,h3,h5)),r7_,oi_ f82,H.sel [4,5,6,7,0,3,2,1] rfl⟩
 have f83:=eB f73
 refine cA [(g0_0).v,(g0_1).v,(g0_2).v] rfl (H.bz_ 4 rfl) ?_
 refine stA gok [(g0_0).v,(g0_1).v,(g0_2).v] rfl (H.sel [3,0,1,2,4,5,6,7] rfl) rfl rfl rfl ?_;intro w28 H
 obtain rfl:=oi_ f83
 have f84:some _=some _:=f6
 obtain rfl:=oi_ f84
 have hr:=hrt _ rfl;subst hr
 have f85:some _=some _:=f3
 refine cA [(g0_0).v,(g0_1).v,(g0_2).v] rfl (H.bz_ 0 rfl) ?_
 cases f85
 exact ⟨_,_,rfl,⟨g0_0,g0_1,g0_2,rfl,rfl⟩,(H.sel [5,6,7] rfl).close ⟨cloE,cloE,cloE,trivial⟩⟩
 have f86:=eB f16
 refine cA [(g0_0).v,(g0_1).v,(g0_2).v] rfl (H.bz_ 4 rfl) ?_
 refine stA gok [(g0_0).v,(g0_1).v,(g0_2).v] rfl (H.sel [3,0,1,2,4,5,6,7,8] rfl) rfl rfl rfl ?_;intro w29 H
 obtain rfl:=oi_ f86
 have f87:some _=some _:=f6
 obtain rfl:=oi_ f87
 have hr:=hrt _ rfl;subst hr
 have f88:some _=some _:=f3
 refine cA [(g0_0).v,(g0_1).v,(g0_2).v] rfl (H.bz_ 0 rfl) ?_
 cases f88
 exact ⟨_,_,rfl,⟨g0_0,g0_1,g0_2,rfl,rfl⟩,(H.sel [5,6,7] rfl).close ⟨cloE,cloE,cloE,trivial⟩⟩
 have f89:=eB f9
 refine cA [(vi a1_0),(vi a1_1),(.string a1_2)] rfl (H.bz_ 8 rfl) ?_
 obtain ⟨⟨y3_0,y3_1⟩,i2,f90⟩:=aA f89
 refine callF0_ (Gb_ i2) H trivial ?_
 rintro _ _ w30 ⟨rfl,rfl⟩ H
 obtain ⟨r6,f91,f92⟩:=aA f90
 refine cut (fun (q5:Int×Int)=>[(0,(lib_h).v),(3,(vp b4)),(4,(vp b7)),(6,(vp b0)),(7,(vi ((k0:Nat):Int))),(9,(vi q5.2)),(10,(vi q5.1)),(23,(t__0h).v),(24,(vi ((t__0.length:Nat):Int))),(25,(vi ((k0:Nat):Int)))]) (fun (q5:Int×Int) w'=>.inl (q5.1,q5.2)=r6∧Cx w0 fp0 S0 w' [Es (List Ty1) lib_ lib_h,Bx b4 [(t__0h).v],Es (List Ty4) t__0 t__0h,Bx b7 [vn,vn,vn],Bx b0 [(g0_0).v,(g0_1).v,(g0_2).v],E (List Int) s0_0 g0_0,E (List Int) s0_1 g0_1,E (List Int) s0_2 g0_2]) ?_ ?_
 refine fld gok rfl rfl rfl rfl (bA (H.bx 8 rfl (j:=0) rfl) ?_)
 refine boolB_ f91 (fun f94=>?_) fun f95=>?_
 exact ⟨(y3_1,y3_0),r10_,oi_ f94,H.sel [0,1,2,3,4,5,6,7] rfl⟩
 refine fld gok rfl rfl rfl rfl (bA (H.bx 8 rfl (j:=2) rfl) ?_)
 obtain ⟨y4,i3,f96⟩:=aA f95
 refine callF0_ (Gv_ i3) H ⟨Vw.sh 0 rfl,trivial⟩ ?_
 rintro _ _ w31 ⟨rfl,rfl⟩ H
 refine sq ?_
 obtain ⟨r7,f97,f98⟩:=aA f96
 refine cut (fun (q6:Bool)=>[(0,(lib_h).v),(3,(vp b4)),(4,(vp b7)),(6,(vp b0)),(7,(vi ((k0:Nat):Int))),(11,(vi y4)),(23,(t__0h).v),(24,(vi ((t__0.length:Nat):Int))),(25,(vi ((k0:Nat):Int))),(55,(.bool q6))]) (fun (q6:Bool) w'=>q6=r7∧Cx w0 fp0 S0 w' [Es (List Ty1) lib_ lib_h,Bx b4 [(t__0h).v],Es (List Ty4) t__0 t__0h,Bx b7 [vn,vn,vn],Bx b0 [(g0_0).v,(g0_1).v,(g0_2).v],E (List Int) s0_0 g0_0,E (List Int) s0_1 g0_1,E (List Int) s0_2 g0_2]) ?_ ?_
 refine boolB_ f97 (fun f100=>?_) fun f102=>?_
 refine fld gok rfl rfl rfl rfl (bA (H.bx 8 rfl (j:=1) rfl) ?_)
 obtain ⟨a41,e,f101⟩:=aA f100
 refine tB e ?_
 exact ⟨a41,r10_,oi_ f101,H.sel [0,1,2,3,4,5,6,7] rfl⟩
 exact ⟨true,r10_,oi_ f102,H.sel [0,1,2,3,4,5,6,7] rfl⟩
 rintro T5 s5 w32 ⟨hr,H⟩;try dsimp only at H
 subst hr
 cases s5
 have f103:=fB f98
 refine kB H [] (.fst 0 (.fst 1 (.fst 2 (.fst 3 (.fst 5 (.fst 6 (.fst 7 (.fst 8 (.fst 4 (.fst 10 (.fst 9 (.fst 11 .done)))))))))))) bB [] trivial (by kernel_rfl) ?_
 intro w33 H
 have hX:Ext w33 w33:=Upd.refl _ _
 obtain ⟨a42,e,f104⟩:=aA f103
 have HH:=H;obtain ⟨p13,m13,g2,c52,c53,c54,c55,H⟩:=HH.el (α:=Ty1) 0 rfl e
 obtain ⟨a42_0,a42_1,a42_2,a42_3_0⟩:=a42
 obtain ⟨_,_,_,h6⟩:=g2
 replace H:=H.part (β:=List Ty4) a42_3_0 (h6:Hd) 0 rfl (fun S h=>(And.right (And.right (And.right h))))
 replace H:=H.sel [0,2,3,4,5,6,7,8,9] rfl
 refine dA c52 c53 c54 ?_
 refine oA (fun _=>fld gok rfl rfl rfl rfl ⟨rfl,rfl⟩) ?_
 obtain ⟨a43,e,f105⟩:=aA f104
 have HH:=H;obtain ⟨p14,m14,g3,c56,c57,c58,c59,H⟩:=HH.el (α:=Ty1) 1 rfl e
 obtain ⟨a43_0,a43_1,a43_2,a43_3_0⟩:=a43
 obtain ⟨_,_,_,h7⟩:=g3
 replace H:=H.part (β:=List Ty4) a43_3_0 (h7:Hd) 0 rfl (fun S h=>(And.right (And.right (And.right h))))
 replace H:=H.sel [0,2,3,4,5,6,7,8,9,10] rfl
 refine dA c56 c57 c58 ?_
 refine oA (fun _=>fld gok rfl rfl rfl rfl ⟨rfl,rfl⟩) ?_
 refine gA (c55 1 _ rfl) ?_
 refine gA (c59 2 _ rfl) ?_
 exact ⟨(a43_2,a42_1),r10_,oi_ f105,H.sel [2,3,4,5,6,7,8,9] rfl⟩
 have f106:=eB f98
 refine cA [(g0_0).v,(g0_1).v,(g0_2).v] rfl (H.bz_ 4 rfl) ?_
 refine stA gok [(g0_0).v,(g0_1).v,(g0_2).v] rfl (H.sel [3,0,1,2,4,5,6,7] rfl) rfl rfl rfl ?_;intro w34 H
 obtain rfl:=oi_ f106
 have f107:some _=some _:=f92
 obtain rfl:=oi_ f107
 have f108:some _=some _:=f6
 obtain rfl:=oi_ f108
 have hr:=hrt _ rfl;subst hr
 have f109:some _=some _:=f3
 refine cA [(g0_0).v,(g0_1).v,(g0_2).v] rfl (H.bz_ 0 rfl) ?_
 cases f109
 exact ⟨_,_,rfl,⟨g0_0,g0_1,g0_2,rfl,rfl⟩,(H.sel [5,6,7] rfl).close ⟨cloE,cloE,cloE,trivial⟩⟩
 rintro T6 ⟨s6_0,s6_1⟩ w35 ⟨hr,H⟩;try dsimp only at H
 subst hr
 refine fld gok rfl rfl rfl rfl (bA (H.bx 4 rfl (j:=0) rfl) ?_)
 refine jE (α:=Int) gok rfl rfl rfl rfl H ?_;intro h8 w36 hx H
 obtain ⟨a44,e,f110⟩:=aA f92
 refine append_ (α:=Int) gok rfl rfl rfl rfl (H.sel [6,0,1,2,3,4,5,7,8] rfl) e ?_;intro h9 w37 H
 refine fld gok rfl rfl rfl rfl ?_
 replace H:=H.sel [5,0,1,2,3,4,6,7] rfl
 refine stB (j:=0) H rfl rfl ?_;intro w38 H
 refine fld gok rfl rfl rfl rfl (bA (H.bx 0 rfl (j:=1) rfl) ?_)
 refine jE (α:=Int) gok rfl rfl rfl rfl H ?_;intro h10 w39 hx H
 obtain ⟨a45,e,f111⟩:=aA f110
 refine append_ (α:=Int) gok rfl rfl rfl rfl (H.sel [7,0,1,2,3,4,5,6,8] rfl) e ?_;intro h11 w40 H
 refine fld gok rfl rfl rfl rfl ?_
 replace H:=H.sel [1,0,2,3,4,5,6,7] rfl
 refine stB (j:=1) H rfl rfl ?_;intro w41 H
 refine fld gok rfl rfl rfl rfl (bA (H.bx 0 rfl (j:=2) rfl) ?_)
 refine jE (α:=Int) gok rfl rfl rfl rfl H ?_;intro h12 w42 hx H
 obtain ⟨a46,e,f112⟩:=aA f111
 refine append_ (α:=Int) gok rfl rfl rfl rfl (H.sel [8,0,1,2,3,4,5,6,7] rfl) e ?_;intro h13 w43 H
 refine fld gok rfl rfl rfl rfl ?_
 replace H:=H.sel [1,0,2,3,4,5,6,7] rfl
 refine stB (j:=2) H rfl rfl ?_;intro w44 H
 exact ⟨((a44,a45,a46),(h9,h11,h13)),r7_,oi_ f112,H.sel [4,5,6,7,0,3,2,1] rfl⟩
 rintro T7 ⟨⟨s7_0,s7_1,s7_2⟩,⟨g4_0,g4_1,g4_2⟩⟩ w45 ⟨hr,H⟩;try dsimp only at H
 subst hr
 refine arK hk x0 ?_
 obtain rfl:=oi_ f6
 exact ⟨(s7_0,s7_1,s7_2),(g4_0,g4_1,g4_2),rfl,r7_,H.sel [0,1,2,3,4,5,6,7] rfl⟩
 rintro T8 ⟨s8_0,s8_1,s8_2⟩ ⟨g5_0,g5_1,g5_2⟩ w46 hr H;try dsimp only at H
 subst hr
 refine jA (z:=false) dB ?_
 refine sq ?_
 refine kB H [10,11,8,9,7,0,1,2,3,4,5,6] (.pure 0 (.pure 1 (.pure 2 (.pure 3 (.pure 4 (.pure 5 (.pure 6 (.alts (.alt 7 (.alts (.alt 8 (.pure 9 (.act 10 (.act 11 .done))) (.alt 10 (.act 8 (.act 9 (.act 11 .done))) .no))) (.alt 10 (.act 7 (.act 8 (.act 9 (.act 11 .done)))) .no)))))))))) bB [((Addr.add ⟨b0,0,none⟩ 0),(g5_0).v),((Addr.add ⟨b0,0,none⟩ 1),(g5_1).v),((Addr.add ⟨b0,0,none⟩ 2),(g5_2).v),((Addr.add ⟨b0,0,none⟩ 0),(g5_0).v),((Addr.add ⟨b4,0,none⟩ 0),(t__0h).v)] ⟨H.bx 4 rfl (j:=0) rfl,H.bx 4 rfl (j:=1) rfl,H.bx 4 rfl (j:=2) rfl,H.bx 4 rfl (j:=0) rfl,H.bx 1 rfl (j:=0) rfl,trivial⟩ (by kernel_rfl) ?_
 intro w47 H
 have hX:Ext w47 w47:=Upd.refl _ _
 refine aN 0 [(g5_0).v,(g5_1).v,(g5_2).v] rfl r3_ ?_
 refine oA (fun _=>fld gok rfl rfl rfl rfl ⟨rfl,rfl⟩) ?_
 refine gI 3 rfl ?_
 refine oA (fun _=>fld gok rfl rfl rfl rfl ⟨rfl,rfl⟩) ?_
 refine gI 4 rfl ?_
 refine nA (H.rs (α:=List Ty4) 2 rfl).len ?_
 obtain ⟨a47,e,f113⟩:=aA f3
 refine arO e ?_
 refine both ?_ ?_
 obtain ⟨a48,d0,f114⟩:=aA f113
 obtain ⟨p15,m15,c60,c61,c62,c63⟩:=(H.ro (α:=List Int) 5 rfl).at1 d0
 refine dA c60 c61 c62 ?_
 refine hold ⟨H.bx 4 rfl (j:=0) rfl,H.bx 4 rfl (j:=1) rfl,H.bx 4 rfl (j:=2) rfl,H.bx 4 rfl (j:=0) rfl,H.bx 1 rfl (j:=0) rfl,trivial⟩ ?_
 refine both ?_ ?_
 refine bA ((H.ro (α:=List Int) 5 rfl).at1' c60 c61 d0) ?_
 refine hold ⟨H.bx 4 rfl (j:=0) rfl,H.bx 4 rfl (j:=1) rfl,H.bx 4 rfl (j:=2) rfl,H.bx 4 rfl (j:=0) rfl,H.bx 1 rfl (j:=0) rfl,trivial⟩ ?_
 obtain ⟨a49,e,f115⟩:=aA f114
 refine tB e ?_
 refine stA gok [(g5_0).v,(g5_1).v,(g5_2).v] rfl (H.sel [3,0,1,2,4,5,6,7] rfl) rfl rfl rfl ?_;intro w48 H
 refine hold ⟨H.bx 4 rfl (j:=0) rfl,H.bx 4 rfl (j:=1) rfl,H.bx 4 rfl (j:=2) rfl,H.bx 4 rfl (j:=0) rfl,H.bx 2 rfl (j:=0) rfl,trivial⟩ ?_
 refine hold ⟨H.bx 4 rfl (j:=0) rfl,H.bx 4 rfl (j:=1) rfl,H.bx 4 rfl (j:=2) rfl,H.bx 4 rfl (j:=0) rfl,H.bx 2 rfl (j:=0) rfl,trivial⟩ ?_
 refine cA [(g5_0).v,(g5_1).v,(g5_2).v] rfl (H.bz_ 0 rfl) ?_
 cases f115
 exact ⟨_,_,rfl,⟨g5_0,g5_1,g5_2,rfl,rfl⟩,(H.sel [5,6,7] rfl).close ⟨cloE,cloE,cloE,trivial⟩⟩
 refine both ?_ ?_
 obtain ⟨a50,o1,f116⟩:=aA f114
 refine stA gok [(g5_0).v,(g5_1).v,(g5_2).v] rfl (H.sel [3,0,1,2,4,5,6,7] rfl) rfl rfl rfl ?_;intro w49 H
 refine hold ⟨H.bx 4 rfl (j:=0) rfl,H.bx 4 rfl (j:=1) rfl,H.bx 4 rfl (j:=2) rfl,H.bx 4 rfl (j:=0) rfl,H.bx 2 rfl (j:=0) rfl,trivial⟩ ?_
 refine bA ((H.ro (α:=List Int) 5 rfl).at1' c60 c61 d0) ?_
 refine hold ⟨H.bx 4 rfl (j:=0) rfl,H.bx 4 rfl (j:=1) rfl,H.bx 4 rfl (j:=2) rfl,H.bx 4 rfl (j:=0) rfl,H.bx 2 rfl (j:=0) rfl,trivial⟩ ?_
 have e:=o1
 refine tB e ?_
 refine hold ⟨H.bx 4 rfl (j:=0) rfl,H.bx 4 rfl (j:=1) rfl,H.bx 4 rfl (j:=2) rfl,H.bx 4 rfl (j:=0) rfl,H.bx 2 rfl (j:=0) rfl,trivial⟩ ?_
 refine hold ⟨H.bx 4 rfl (j:=0) rfl,H.bx 4 rfl (j:=1) rfl,H.bx 4 rfl (j:=2) rfl,H.bx 4 rfl (j:=0) rfl,H.bx 2 rfl (j:=0) rfl,trivial⟩ ?_
 refine cA [(g5_0).v,(g5_1).v,(g5_2).v] rfl (H.bz_ 0 rfl) ?_
 cases f116
 exact ⟨_,_,rfl,⟨g5_0,g5_1,g5_2,rfl,rfl⟩,(H.sel [5,6,7] rfl).close ⟨cloE,cloE,cloE,trivial⟩⟩
 exact trivial
 refine both ?_ ?_
 obtain ⟨a51,o2,f117⟩:=aA f113
 obtain ⟨a52,o3,f118⟩:=aA f117
 refine stA gok [(g5_0).v,(g5_1).v,(g5_2).v] rfl (H.sel [3,0,1,2,4,5,6,7] rfl) rfl rfl rfl ?_;intro w50 H
 refine hold ⟨H.bx 4 rfl (j:=0) rfl,H.bx 4 rfl (j:=1) rfl,H.bx 4 rfl (j:=2) rfl,H.bx 4 rfl (j:=0) rfl,H.bx 2 rfl (j:=0) rfl,trivial⟩ ?_
 have d1:=o2
 obtain ⟨p16,m16,c64,c65,c66,c67⟩:=(H.ro (α:=List Int) 5 rfl).at1 d1
 refine dA c64 c65 c66 ?_
 refine hold ⟨H.bx 4 rfl (j:=0) rfl,H.bx 4 rfl (j:=1) rfl,H.bx 4 rfl (j:=2) rfl,H.bx 4 rfl (j:=0) rfl,H.bx 2 rfl (j:=0) rfl,trivial⟩ ?_
 refine bA ((H.ro (α:=List Int) 5 rfl).at1' c64 c65 d1) ?_
 refine hold ⟨H.bx 4 rfl (j:=0) rfl,H.bx 4 rfl (j:=1) rfl,H.bx 4 rfl (j:=2) rfl,H.bx 4 rfl (j:=0) rfl,H.bx 2 rfl (j:=0) rfl,trivial⟩ ?_
 have e:=o3
 refine tB e ?_
 refine hold ⟨H.bx 4 rfl (j:=0) rfl,H.bx 4 rfl (j:=1) rfl,H.bx 4 rfl (j:=2) rfl,H.bx 4 rfl (j:=0) rfl,H.bx 2 rfl (j:=0) rfl,trivial⟩ ?_
 refine hold ⟨H.bx 4 rfl (j:=0) rfl,H.bx 4 rfl (j:=1) rfl,H.bx 4 rfl (j:=2) rfl,H.bx 4 rfl (j:=0) rfl,H.bx 2 rfl (j:=0) rfl,trivial⟩ ?_
 refine cA [(g5_0).v,(g5_1).v,(g5_2).v] rfl (H.bz_ 0 rfl) ?_
 cases f118
 exact ⟨_,_,rfl,⟨g5_0,g5_1,g5_2,rfl,rfl⟩,(H.sel [5,6,7] rfl).close ⟨cloE,cloE,cloE,trivial⟩⟩
 exact trivial
 refine cA [vn,vn,vn] rfl (H.bz_ 0 rfl) ?_
 refine stA gok [vn,vn,vn] rfl (H.sel [1,0,2,3,4] rfl) rfl rfl rfl ?_;intro w51 H
 refine cA [vn,vn,vn] rfl (H.bz_ 0 rfl) ?_
 replace H:=H.nil (α:=Int)
 replace H:=H.nil (α:=Int)
 replace H:=H.nil (α:=Int)
 cases f119
 exact ⟨_,_,rfl,⟨nilH,nilH,nilH,rfl,rfl⟩,(H.sel [2,1,0] rfl).close ⟨cloE,cloE,cloE,trivial⟩⟩
theorem lZ {t__0:List Ty4}{t__0h:Hd}{y0_0 y0_1 y0_2:List Int}{y1:Bool} (hF:yP t__0=some ((y0_0,y0_1,y0_2),y1)) :
  kA Tryz.prog 76 #[(.agg #[(t__0h).v])] [Es (List Ty4) t__0 t__0h] [] (fun v Γ'=>∃ z0 z1 z2:Hd,v=(.tuple #[(.agg #[(z0).v,(z1).v,(z2).v]),(.bool y1)])∧Γ'=[E (List Int) y0_0 z0,E (List Int) y0_1 z1,E (List Int) y0_2 z2]):=by
 intro w0 S0 fp0 hI hS
 have H:=Cx.start hI hS;dsimp at H
 refine iA (args:=[_]) gok Tryz.func76 rfl _ rfl rfl rfl ?_
 refine xA H ?_;intro b3 w2 hx H
 refine sA gok rfl H ?_;intro b6 w5 hx H
 refine cA [(t__0h).v] rfl (H.bz_ 1 rfl) ?_
 replace H:=H.nil (α:=Ty1)
 obtain ⟨y9,e,f0⟩:=aA hF
 obtain ⟨⟨y9_0_0,y9_0_1,y9_0_2⟩,y9_1⟩:=y9
 have ey9:=e
 refine callF0_ (@Gt_ [] nilH t__0 t__0h y9_0_0 y9_0_1 y9_0_2 y9_1 ey9) H ⟨Vw.own 0 rfl,Vw.sh 3 rfl,trivial⟩ ?_
 rintro _ _ w1 ⟨h0,h1,h2,rfl,rfl⟩ H
 refine stA gok [(h0).v,(h1).v,(h2).v] rfl (H.sel [4,0,1,2,3,5,6] rfl) rfl rfl rfl ?_;intro w3 H
 refine cA [(h0).v,(h1).v,(h2).v] rfl (H.bz_ 0 rfl) ?_
 cases f0
 exact ⟨_,_,rfl,⟨h0,h1,h2,rfl,rfl⟩,(H.sel [1,2,3] rfl).close ⟨cloE,cloE,cloE,trivial⟩⟩
theorem Ct_ {t__0:List Ty4}{t__0h:Hd}{y0 y1:Int}{y2:Bool} (hF:uT t__0=some (y0,y1,y2)) :
  kA Tryz.prog 122 #[(.agg #[(t__0h).v])] [Es (List Ty4) t__0 t__0h] [] (fun v Γ'=>v=(.tuple #[(vi y0),(vi y1),(.bool y2)])∧Γ'=[]):=by
 intro w0 S0 fp0 hI hS
 have H:=Cx.start hI hS;dsimp at H
 refine iA (args:=[_]) gok Tryz.func122 rfl _ rfl rfl rfl ?_
 refine xA H ?_;intro b3 w2 hx H
 refine cA [(t__0h).v] rfl (H.bz_ 0 rfl) ?_
 obtain ⟨y5,e,hF6⟩:=aA hF
 obtain ⟨⟨y5_0_0,y5_0_1,y5_0_2⟩,y5_1⟩:=y5
 have ey5:=e
 refine callF0_ (lZ ey5) H ⟨Vw.sh 1 rfl,trivial⟩ ?_
 rintro _ _ w7 ⟨h8,h0,h1,rfl,rfl⟩ H
 refine sA gok rfl H ?_;intro b0 w1 hx H
 refine stA gok [(h8).v,(h0).v,(h1).v] rfl H rfl rfl rfl ?_;intro w3 H
 refine sq ?_
 refine boolB_ hF6 (fun f1=>?_) fun f5=>?_
 refine fld gok rfl rfl rfl rfl (bA (H.bx 4 rfl (j:=0) rfl) ?_)
 refine nA (H.rs (α:=List Ty4) 5 rfl).len ?_
 obtain ⟨a1,e,f2⟩:=aA f1
 refine arO e ?_
 refine kB H [] (.fst 0 (.fst 2 (.fst 5 (.fst 7 (.fst 1 (.fst 3 (.fst 4 (.fst 10 (.fst 6 (.fst 8 (.fst 9 (.fst 11 (.fst 12 .done))))))))))))) bB [] trivial (by kernel_rfl) ?_
 intro w4 H
 have hX:Ext w4 w4:=Upd.refl _ _
 refine oA (fun _=>fld gok rfl rfl rfl rfl ⟨rfl,rfl⟩) ?_
 refine oA (fun _=>fld gok rfl rfl rfl rfl ⟨rfl,rfl⟩) ?_
 refine gA (H.bx 0 rfl (j:=1) rfl) ?_
 obtain ⟨a2,e,f3⟩:=aA f2
 obtain ⟨p0,m0,c0,c1,c2,c3⟩:=(H.ro (α:=List Int) 2 rfl).at1 e
 refine dA c0 c1 c2 ?_
 refine gA c3 ?_
 refine gA (H.bx 0 rfl (j:=2) rfl) ?_
 obtain ⟨a3,e,f4⟩:=aA f3
 obtain ⟨p1,m1,c4,c5,c6,c7⟩:=(H.ro (α:=List Int) 3 rfl).at1 e
 refine dA c4 c5 c6 ?_
 refine gA c7 ?_
 cases f4
 exact ⟨_,_,rfl,⟨rfl,rfl⟩,(H.sel [] rfl).close trivial⟩
 cases f5
 exact ⟨_,_,rfl,⟨rfl,rfl⟩,(H.sel [] rfl).close trivial⟩
theorem Gs_ {s_:ByteArray}{y:Bool} (hF:qZ s_=some y) :
  kA Tryz.prog 144 #[(.string s_)] [] [] (fun v Γ'=>v=(.bool y)∧Γ'=[]):=by
 intro w0 S0 fp0 hI hS
 have H:Cx w0 fp0 S0 w0 []:=Cx.start hI hS
 refine iA (args:=[_]) gok Tryz.func144 rfl _ rfl rfl rfl ?_
 refine sq ?_
 obtain ⟨r0,f0,f1⟩:=aA hF
 refine cut (fun (q0:Bool)=>[(0,(.string s_)),(17,(.bool q0))]) (fun (q0:Bool) w'=>q0=r0∧Cx w0 fp0 S0 w' []) ?_ ?_
 refine nA (m:=s_.size) rfl ?_
 obtain ⟨y0,i0,f2⟩:=aA f0
 refine gC (@tJ ((s_.size:Nat):Int) 1 8 y0 i0) (Γi:=[]) H trivial ?_
 rintro _ _ w1 ⟨rfl,rfl⟩ H
 refine boolB_ f2 (fun f4=>?_) fun f11=>?_
 obtain ⟨a1,e,f5⟩:=aA f4
 refine iI gok rfl e ?_
 obtain ⟨a2,e,f6⟩:=aA f5
 refine lssY e ?_
 cases a2
 have f7:=fB f6
 obtain ⟨a3,e,f8⟩:=aA f7
 refine iI gok rfl e ?_
 obtain ⟨a4,e,f9⟩:=aA f8
 refine gtrY e ?_
 exact ⟨a4,⟨rfl,rfl,trivial⟩,oi_ f9,H.sel [] rfl⟩
 have f10:=eB f6
 exact ⟨true,⟨rfl,rfl,trivial⟩,oi_ f10,H.sel [] rfl⟩
 exact ⟨true,⟨rfl,rfl,trivial⟩,oi_ f11,H.sel [] rfl⟩
 rintro T0 s0 w2 ⟨hr,H⟩;try dsimp only at H
 subst hr
 cases s0
 have f12:=fB f1
 obtain ⟨r1,f13,f14⟩:=aA f12
 refine cut (fun (q1:Unit)=>[]) (fun (q1:Unit) w'=>.inl ()=r1∧Cx w0 fp0 S0 w' []) ?_ ?_
 refine oE _ (fun (s1:Int) (_:Unit)=>[(0,(.string s_)),(3,(vi s1))]) (fun (s1:Int) (_:Unit) w'=>Cx w0 fp0 S0 w' []) 1 () f13 ⟨rfl,rfl,trivial⟩ (H.sel [] rfl) ?_
 rintro T1 s1 _ w3 o0 (H:Cx w0 fp0 S0 w3 []) hrt f15
 refine sq ?_
 refine nA (m:=s_.size) rfl ?_
 refine boolB_ f15 (fun f17=>?_) fun f19=>?_
 obtain rfl:=oi_ f17
 have f18:some _=some _:=congrArg some (hrt _ rfl).symm
 exact ⟨(),trivial,oi_ f18,H.sel [] rfl⟩
 refine sq ?_
 obtain ⟨r2,f20,f21⟩:=aA f19
 refine cut (fun (q2:Bool)=>[(0,(.string s_)),(3,(vi s1)),(45,(.bool q2))]) (fun (q2:Bool) w'=>q2=r2∧Cx w0 fp0 S0 w' []) ?_ ?_
 obtain ⟨a6,e,f22⟩:=aA f20
 refine iI gok rfl e ?_
 obtain ⟨a7,e,f23⟩:=aA f22
 refine lssY e ?_
 cases a7
 have f24:=fB f23
 obtain ⟨a8,e,f25⟩:=aA f24
 refine iI gok rfl e ?_
 obtain ⟨a9,e,f26⟩:=aA f25
 refine gtrY e ?_
 cases a9
 have f27:=fB f26
 exact ⟨false,r3_,oi_ f27,H.sel [] rfl⟩
 have f28:=eB f26
 obtain ⟨a10,e,f29⟩:=aA f28
 refine iI gok rfl e ?_
 obtain ⟨a11,e,f30⟩:=aA f29
 refine lssY e ?_
 cases a11
 have f31:=fB f30
 obtain ⟨a12,e,f32⟩:=aA f31
 refine iI gok rfl e ?_
 obtain ⟨a13,e,f33⟩:=aA f32
 refine gtrY e ?_
 exact ⟨a13,r3_,oi_ f33,H.sel [] rfl⟩
 have f34:=eB f30
 exact ⟨true,r3_,oi_ f34,H.sel [] rfl⟩
 have f35:=eB f23
 obtain ⟨a14,e,f36⟩:=aA f35
 refine iI gok rfl e ?_
 obtain ⟨a15,e,f37⟩:=aA f36
 refine lssY e ?_
 cases a15
 have f38:=fB f37
 obtain ⟨a16,e,f39⟩:=aA f38
 refine iI gok rfl e ?_
 obtain ⟨a17,e,f40⟩:=aA f39
 refine gtrY e ?_
 exact ⟨a17,r3_,oi_ f40,H.sel [] rfl⟩
 have f41:=eB f37
 exact ⟨true,r3_,oi_ f41,H.sel [] rfl⟩
 rintro T2 s2 w4 ⟨hr,H⟩;try dsimp only at H
 subst hr
 cases s2
 have f42:=fB f21
 obtain ⟨a18,e,f43⟩:=aA f42
 refine arO e ?_
 obtain rfl:=oi_ f43
 exact ⟨a18,(),rfl,⟨rfl,rfl,trivial⟩,H.sel [] rfl⟩
 have f44:=eB f21
 obtain rfl:=oi_ f44
 have f45:some _=some _:=congrArg some (hrt _ rfl).symm
 obtain rfl:=oi_ f45
 have f46:some _=some _:=f14
 cases f46
 exact ⟨_,_,rfl,⟨rfl,rfl⟩,(H.sel [] rfl).close trivial⟩
 rintro T3 _ w5 ⟨hr,H⟩;try dsimp only at H
 subst hr
 cases f14
 exact ⟨_,_,rfl,⟨rfl,rfl⟩,(H.sel [] rfl).close trivial⟩
 have f47:=eB f1
 cases f47
 exact ⟨_,_,rfl,⟨rfl,rfl⟩,(H.sel [] rfl).close trivial⟩
theorem FN_  {y:List ByteArray} (hF:B8_=some y) :
  kA Tryz.prog 146 #[] [] [] (fun v Γ'=>∃ z0:Hd,v=(z0).v∧Γ'=[E (List ByteArray) y z0]):=by
 intro w0 S0 fp0 hI hS
 have H:Cx w0 fp0 S0 w0 []:=Cx.start hI hS
 refine iA (args:=[]) gok Tryz.func146 rfl _ rfl rfl rfl ?_
 replace H:=H.sc (α:=ByteArray) ⟨#[99,111,100,101,108,97,121]⟩
 replace H:=H.sc (α:=ByteArray) ⟨#[99,111,115,99,97,108,101]⟩
 replace H:=H.sc (α:=ByteArray) ⟨#[99,111,122,101,114,111]⟩
 replace H:=H.sc (α:=ByteArray) ⟨#[99,111,97,100,100]⟩
 replace H:=H.sc (α:=ByteArray) ⟨#[99,111,100,105,115,99,97,114,100]⟩
 replace H:=H.sc (α:=ByteArray) ⟨#[99,111,99,111,112,121]⟩
 replace H:=H.sc (α:=ByteArray) ⟨#[100,101,108,97,121]⟩
 replace H:=H.sc (α:=ByteArray) ⟨#[115,99,97,108,101]⟩
 replace H:=H.sc (α:=ByteArray) ⟨#[122,101,114,111]⟩
 replace H:=H.sc (α:=ByteArray) ⟨#[97,100,100]⟩
 replace H:=H.sc (α:=ByteArray) ⟨#[100,105,115,99,97,114,100]⟩
 replace H:=H.sc (α:=ByteArray) ⟨#[99,111,112,121]⟩
 replace H:=H.sc (α:=ByteArray) ⟨#[115,119,97,112]⟩
 replace H:=H.sc (α:=ByteArray) ⟨#[105,100]⟩
 refine mA (α:=ByteArray) (us:=[(.string ⟨#[105,100]⟩),(.string ⟨#[115,119,97,112]⟩),(.string ⟨#[99,111,112,121]⟩),(.string ⟨#[100,105,115,99,97,114,100]⟩),(.string ⟨#[97,100,100]⟩),(.string ⟨#[122,101,114,111]⟩),(.string ⟨#[115,99,97,108,101]⟩),(.string ⟨#[100,101,108,97,121]⟩),(.string ⟨#[99,111,99,111,112,121]⟩),(.string ⟨#[99,111,100,105,115,99,97,114,100]⟩),(.string ⟨#[99,111,97,100,100]⟩),(.string ⟨#[99,111,122,101,114,111]⟩),(.string ⟨#[99,111,115,99,97,108,101]⟩),(.string ⟨#[99,111,100,101,108,97,121]⟩)]) (xs:=[⟨#[105,100]⟩,⟨#[115,119,97,112]⟩,⟨#[99,111,112,121]⟩,⟨#[100,105,115,99,97,114,100]⟩,⟨#[97,100,100]⟩,⟨#[122,101,114,111]⟩,⟨#[115,99,97,108,101]⟩,⟨#[100,101,108,97,121]⟩,⟨#[99,111,99,111,112,121]⟩,⟨#[99,111,100,105,115,99,97,114,100]⟩,⟨#[99,111,97,100,100]⟩,⟨#[99,111,122,101,114,111]⟩,⟨#[99,111,115,99,97,108,101]⟩,⟨#[99,111,100,101,108,97,121]⟩]) (gs:=[(),(),(),(),(),(),(),(),(),(),(),(),(),()]) gok rfl rfl rfl r14_ rfl rfl H ?_;intro h2 w1 hx H
 cases hF
 exact ⟨_,_,rfl,⟨h2,rfl,rfl⟩,(H.sel [0] rfl).close ⟨cloE,trivial⟩⟩
theorem Gy_ {l_:List ByteArray}{l_h:Hd}{s_:ByteArray}{y:Bool} (hF:tZ l_ s_=some y) :
  kA Tryz.prog 145 #[(l_h).v,(.string s_)] [Es (List ByteArray) l_ l_h] [] (fun v Γ'=>v=(.bool y)∧Γ'=[]):=by
 intro w0 S0 fp0 hI hS
 have H:=Cx.start hI hS;dsimp at H
 refine iA (args:=[_,_]) gok Tryz.func145 rfl _ rfl rfl rfl ?_
 refine sq ?_
 refine nA (H.rs (α:=List ByteArray) 0 rfl).len ?_
 have x0:=(H.rs (α:=List ByteArray) 0 rfl).max
 obtain ⟨r0,e,f0⟩:=aA hF
 refine iE _ l_.length (fun (k2:Nat) (_:Unit) (_:Unit)=>[(1,(.string s_)),(7,(l_h).v),(8,(vi ((l_.length:Nat):Int))),(9,(vi ((k2:Nat):Int)))]) (fun _ (_:Unit) (_:Unit) w'=>Cx w0 fp0 S0 w' [Es (List ByteArray) l_ l_h]) () () e r4_ (H.sel [0] rfl) ?_ ?_
 rintro T0 k2 _ _ w1 o0 hk (H:Cx w0 fp0 S0 w1 [Es (List ByteArray) l_ l_h]) hrt f1
 refine jA (z:=true) (cB hk) ?_
 refine sq (sq ?_)
 obtain ⟨a0,e,f2⟩:=aA f1
 obtain ⟨p0,m0,c0,c1,c2,c3⟩:=(H.rs (α:=List ByteArray) 0 rfl).at1 e
 refine dA c0 c1 c2 ?_
 refine bA c3 ?_
 obtain ⟨a1,e,f3⟩:=aA f2
 refine eqZ e ?_
 cases a1
 have f4:=fB f3
 refine arK hk x0 ?_
 obtain rfl:=oi_ f4
 exact ⟨(),(),rfl,r4_,H.sel [0] rfl⟩
 have f5:=eB f3
 obtain rfl:=oi_ f5
 have hr:=hrt _ rfl;subst hr
 have f6:some _=some _:=f0
 cases f6
 exact ⟨_,_,rfl,⟨rfl,rfl⟩,(H.sel [] rfl).close trivial⟩
 rintro T1 _ _ w2 hr H;try dsimp only at H
 subst hr
 refine jA (z:=false) dB ?_
 refine sq ?_
 cases f0
 exact ⟨_,_,rfl,⟨rfl,rfl⟩,(H.sel [] rfl).close trivial⟩
theorem Gu_ {s_:ByteArray}{y:Bool} (hF:rZ s_=some y) :
  kA Tryz.prog 123 #[(.string s_)] [] [] (fun v Γ'=>v=(.bool y)∧Γ'=[]):=by
 intro w0 S0 fp0 hI hS
 have H:Cx w0 fp0 S0 w0 []:=Cx.start hI hS
 refine iA (args:=[_]) gok Tryz.func123 rfl _ rfl rfl rfl ?_
 obtain ⟨r0,f0,f1⟩:=aA hF
 refine cut (fun (q0:Bool)=>[(2,(.bool q0))]) (fun (q0:Bool) w'=>q0=r0∧Cx w0 fp0 S0 w' []) ?_ ?_
 obtain ⟨y0,i0,f2⟩:=aA f0
 refine callF0_ (Gs_ i0) H trivial ?_
 rintro _ _ w1 ⟨rfl,rfl⟩ H
 cases y0
 have f3:=fB f2
 exact ⟨false,⟨rfl,trivial⟩,oi_ f3,H.sel [] rfl⟩
 have f4:=eB f2
 obtain ⟨y1,i1,f5⟩:=aA f4
 refine callF0_ (FN_ i1) H trivial ?_
 rintro _ _ w2 ⟨h0,rfl,rfl⟩ H
 obtain ⟨y2,i2,f6⟩:=aA f5
 refine callF0_ (Gy_ i2) H ⟨Vw.own 0 rfl,trivial⟩ ?_
 rintro _ _ w3 ⟨rfl,rfl⟩ H
 obtain ⟨a0,e,f7⟩:=aA f6
 refine tB e ?_
 exact ⟨a0,⟨rfl,trivial⟩,oi_ f7,H.sel [] rfl⟩
 rintro T0 s0 w4 ⟨hr,H⟩;try dsimp only at H
 subst hr
 cases f1
 exact ⟨_,_,rfl,⟨rfl,rfl⟩,(H.sel [] rfl).close trivial⟩
theorem GY_ {t__0:List Ty4}{t__0h:Hd}{y:Int} (hF:lU t__0=some y) :
  kA Tryz.prog 147 #[(.agg #[(t__0h).v])] [Es (List Ty4) t__0 t__0h] [] (fun v Γ'=>v=(vi y)∧Γ'=[]):=by
 intro w0 S0 fp0 hI hS
 have H:=Cx.start hI hS;dsimp at H
 refine iA (args:=[_]) gok Tryz.func147 rfl _ rfl rfl rfl ?_
 refine xA H ?_;intro b3 w2 hx H
 refine fld gok rfl rfl rfl rfl (bA (H.bx 0 rfl (j:=0) rfl) ?_)
 refine fld gok rfl rfl rfl rfl (bA (H.bx 0 rfl (j:=0) rfl) ?_)
 refine nA (H.rs (α:=List Ty4) 1 rfl).len ?_
 obtain ⟨a5,e,hF6⟩:=aA hF
 refine arO e ?_
 obtain ⟨a0,e,f0⟩:=aA hF6
 have HH:=H;obtain ⟨p0,m0,g0,c7,c8,c9,c0,H⟩:=HH.el (α:=Ty4) 1 rfl e
 obtain ⟨a0_0,a0_1,a0_2⟩:=a0
 obtain ⟨_,_,_⟩:=g0
 replace H:=H.sel [1,2] rfl
 refine dA c7 c8 c9 ?_
 refine fld gok rfl rfl rfl rfl (bA (c0 0 _ rfl) ?_)
 cases f0
 exact ⟨_,_,rfl,⟨rfl,rfl⟩,(H.sel [] rfl).close trivial⟩
theorem Hi_ {n_ y_0:Int}{y_1:List Ty2}{y_2 y_3:List Int} (hF:At_ n_=some (y_0,y_1,y_2,y_3)) :
  kA Tryz.prog 111 #[(vi n_)] [] [] (fun v Γ'=>∃ z0 z1 z2:Hd,v=(.agg #[(vi y_0),(z0).v,(z1).v,(z2).v])∧Γ'=[E (List Ty2) y_1 z0,E (List Int) y_2 z1,E (List Int) y_3 z2]):=by
 intro w0 S0 fp0 hI hS
 have H:Cx w0 fp0 S0 w0 []:=Cx.start hI hS
 refine iA (args:=[_]) gok Tryz.func111 rfl _ rfl rfl rfl ?_
 refine sA gok rfl H ?_;intro b2 w1 hx H
 refine pB (cs:=#[(vi n_),vn,vn,vn]) gok rfl rfl rfl ?_
 refine sA gok rfl H ?_;intro b5 w4 hx H
 refine stA gok [(vi n_),vn,vn,vn] rfl H rfl rfl rfl ?_;intro w7 H
 obtain ⟨r0,f0,f1⟩:=aA hF
 refine cut (fun (q0:(List Int×List Int)×(Hd×Hd))=>[(2,(vp b2)),(3,(vp b5))]) (fun (q0:(List Int×List Int)×(Hd×Hd)) w'=>(q0.1.1,q0.1.2)=r0∧Cx w0 fp0 S0 w' [Bx b2 [(vi 0),vn,vn,vn],Bx b5 [(vi n_),vn,(q0.2.1).v,(q0.2.2).v],E (List Int) q0.1.1 q0.2.1,E (List Int) q0.1.2 q0.2.2]) ?_ ?_
 replace H:=H.nil (α:=Int)
 replace H:=H.nil (α:=Int)
 refine oE _ (fun (s0:List Int×List Int×Int) (g0:Hd×Hd)=>[(0,(vi n_)),(2,(vp b2)),(3,(vp b5)),(4,(vi s0.2.2))]) (fun (s0:List Int×List Int×Int) (g0:Hd×Hd) w'=>Cx w0 fp0 S0 w' [Bx b2 [(vi 0),vn,vn,vn],Bx b5 [(vi n_),vn,(g0.1).v,(g0.2).v],E (List Int) s0.1 g0.1,E (List Int) s0.2.1 g0.2]) ([],[],0) (nilH,nilH) f0 r4_ (H.sel [3,2,1,0] rfl) ?_
 rintro T0 ⟨s0_0,s0_1,s0_2⟩ ⟨g0_0,g0_1⟩ w2 o0 (H:Cx w0 fp0 S0 w2 [Bx b2 [(vi 0),vn,vn,vn],Bx b5 [(vi n_),vn,(g0_0).v,(g0_1).v],E (List Int) s0_0 g0_0,E (List Int) s0_1 g0_1]) hrt f2
 refine sq ?_
 refine boolB_ f2 (fun f4=>?_) fun f6=>?_
 obtain rfl:=oi_ f4
 have f5:some _=some _:=congrArg some (hrt _ rfl).symm
 exact ⟨((s0_0,s0_1),(g0_0,g0_1)),⟨rfl,rfl,trivial⟩,oi_ f5,H.sel [0,1,2,3] rfl⟩
 refine sq ?_
 refine fld gok rfl rfl rfl rfl (bA (H.bx 1 rfl (j:=2) rfl) ?_)
 refine jE (α:=Int) gok rfl rfl rfl rfl H ?_;intro h0 w3 hx H
 obtain ⟨a1,e,f7⟩:=aA f6
 refine append_ (α:=Int) gok rfl rfl rfl rfl (H.sel [3,0,1,2,4] rfl) e ?_;intro h1 w5 H
 refine fld gok rfl rfl rfl rfl ?_
 replace H:=H.sel [2,0,1,3] rfl
 refine stB (j:=2) H rfl rfl ?_;intro w6 H
 refine fld gok rfl rfl rfl rfl (bA (H.bx 0 rfl (j:=3) rfl) ?_)
 refine jE (α:=Int) gok rfl rfl rfl rfl H ?_;intro h2 w8 hx H
 obtain ⟨a2,e,f8⟩:=aA f7
 refine append_ (α:=Int) gok rfl rfl rfl rfl (H.sel [4,0,1,2,3] rfl) e ?_;intro h3 w9 H
 refine fld gok rfl rfl rfl rfl ?_
 replace H:=H.sel [1,0,2,3] rfl
 refine stB (j:=3) H rfl rfl ?_;intro w10 H
 obtain ⟨a3,e,f9⟩:=aA f8
 refine arO e ?_
 obtain rfl:=oi_ f9
 exact ⟨(a1,a2,a3),(h1,h3),rfl,r4_,H.sel [3,0,2,1] rfl⟩
 rintro T1 ⟨⟨s1_0,s1_1⟩,⟨g1_0,g1_1⟩⟩ w11 ⟨hr,H⟩;try dsimp only at H
 subst hr
 refine cA [(vi n_),vn,(g1_0).v,(g1_1).v] rfl (H.bz_ 1 rfl) ?_
 refine stA gok [(vi n_),vn,(g1_0).v,(g1_1).v] rfl H rfl rfl rfl ?_;intro w12 H
 refine cA [(vi n_),vn,(g1_0).v,(g1_1).v] rfl (H.bz_ 0 rfl) ?_
 replace H:=H.nil (α:=Ty2)
 cases f1
 exact ⟨_,_,rfl,⟨nilH,g1_0,g1_1,rfl,rfl⟩,(H.sel [0,3,4] rfl).close ⟨cloE,cloE,cloE,trivial⟩⟩
theorem Cx_ {x__0 x__1:Int}{x__2:ByteArray}{y_0:Int}{y_1:List Ty2}{y_2 y_3:List Int} (hF:cQ (x__0,x__1,x__2)=some (y_0,y_1,y_2,y_3)) :
  kA Tryz.prog 79 #[(.agg #[(vi x__0),(vi x__1),(.string x__2)])] [] [] (fun v Γ'=>∃ z0 z1 z2:Hd,v=(.agg #[(vi y_0),(z0).v,(z1).v,(z2).v])∧Γ'=[E (List Ty2) y_1 z0,E (List Int) y_2 z1,E (List Int) y_3 z2]):=by
 intro w0 S0 fp0 hI hS
 have H:Cx w0 fp0 S0 w0 []:=Cx.start hI hS
 refine iA (args:=[_]) gok Tryz.func79 rfl _ rfl rfl rfl ?_
 refine xA H ?_;intro b2 w1 hx H
 refine sA gok rfl H ?_;intro b5 w4 hx H
 refine sq ?_
 refine fld gok rfl rfl rfl rfl (bA (H.bx 1 rfl (j:=0) rfl) ?_)
 refine boolB_ hF (fun hF9=>?_) fun f22=>?_
 refine boolB_ hF9 (fun f1=>?_) fun f21=>?_
 refine fld gok rfl rfl rfl rfl (bA (H.bx 1 rfl (j:=0) rfl) ?_)
 obtain ⟨⟨y0_0,y0_1⟩,i0,f2⟩:=aA f1
 refine callF0_ (mZ i0) H trivial ?_
 rintro _ _ w2 ⟨rfl,rfl⟩ H
 obtain ⟨a1,e,f3⟩:=aA f2
 refine arO e ?_
 refine pB (cs:=#[(vi a1),vn,vn,vn]) gok rfl rfl rfl ?_
 refine sA gok rfl H ?_;intro b0 w3 hx H
 refine stA gok [(vi a1),vn,vn,vn] rfl H rfl rfl rfl ?_;intro w5 H
 refine fld gok rfl rfl rfl rfl (bA (H.bx 2 rfl (j:=0) rfl) ?_)
 refine fld gok rfl rfl rfl rfl (bA (H.bx 2 rfl (j:=1) rfl) ?_)
 refine pB (cs:=#[(vi x__0),(vi x__1),vn,vn]) gok rfl rfl rfl ?_
 refine sA gok rfl H ?_;intro b1 w6 hx H
 refine stA gok [(vi x__0),(vi x__1),vn,vn] rfl H rfl rfl rfl ?_;intro w7 H
 obtain ⟨r0,f4,f5⟩:=aA f3
 refine cut (fun (q0:(List Int×List Int×List Int×List Int)×(Hd×Hd×Hd×Hd))=>[(2,(vp b5)),(5,(vp b0)),(6,(vp b1))]) (fun (q0:(List Int×List Int×List Int×List Int)×(Hd×Hd×Hd×Hd)) w'=>(q0.1.1,q0.1.2.1,q0.1.2.2.1,q0.1.2.2.2)=r0∧Cx w0 fp0 S0 w' [Bx b5 [(vi 0),vn,vn,vn],Bx b0 [(vi a1),vn,(q0.2.1).v,(q0.2.2.1).v],E (List Int) q0.1.1 q0.2.1,E (List Int) q0.1.2.1 q0.2.2.1,Bx b1 [(vi x__0),(vi x__1),(q0.2.2.2.1).v,(q0.2.2.2.2).v],E (List Int) q0.1.2.2.1 q0.2.2.2.1,E (List Int) q0.1.2.2.2 q0.2.2.2.2]) ?_ ?_
 replace H:=H.nil (α:=Int)
 replace H:=H.nil (α:=Int)
 replace H:=H.nil (α:=Int)
 replace H:=H.nil (α:=Int)
 refine oE _ (fun (s0:List Int×List Int×List Int×List Int×Int) (g0:Hd×Hd×Hd×Hd)=>[(2,(vp b5)),(3,(vi y0_0)),(4,(vi y0_1)),(5,(vp b0)),(6,(vp b1)),(7,(vi s0.2.2.2.2))]) (fun (s0:List Int×List Int×List Int×List Int×Int) (g0:Hd×Hd×Hd×Hd) w'=>Cx w0 fp0 S0 w' [Bx b5 [(vi 0),vn,vn,vn],Bx b0 [(vi a1),vn,(g0.1).v,(g0.2.1).v],E (List Int) s0.1 g0.1,E (List Int) s0.2.1 g0.2.1,Bx b1 [(vi x__0),(vi x__1),(g0.2.2.1).v,(g0.2.2.2).v],E (List Int) s0.2.2.1 g0.2.2.1,E (List Int) s0.2.2.2.1 g0.2.2.2]) ([],[],[],[],0) (nilH,nilH,nilH,nilH) f4 r6_ (H.sel [6,5,3,2,4,1,0] rfl) ?_
 rintro T0 ⟨s0_0,s0_1,s0_2,s0_3,s0_4⟩ ⟨g0_0,g0_1,g0_2,g0_3⟩ w8 o0 (H:Cx w0 fp0 S0 w8 [Bx b5 [(vi 0),vn,vn,vn],Bx b0 [(vi a1),vn,(g0_0).v,(g0_1).v],E (List Int) s0_0 g0_0,E (List Int) s0_1 g0_1,Bx b1 [(vi x__0),(vi x__1),(g0_2).v,(g0_3).v],E (List Int) s0_2 g0_2,E (List Int) s0_3 g0_3]) hrt f6
 refine sq ?_
 obtain ⟨a2,e,f7⟩:=aA f6
 refine arO e ?_
 refine boolB_ f7 (fun f9=>?_) fun f11=>?_
 obtain rfl:=oi_ f9
 have f10:some _=some _:=congrArg some (hrt _ rfl).symm
 exact ⟨((s0_0,s0_1,s0_2,s0_3),(g0_0,g0_1,g0_2,g0_3)),r3_,oi_ f10,H.sel [0,1,2,3,4,5,6] rfl⟩
 refine sq ?_
 refine boolB_ f11 (fun f13=>?_) fun f17=>?_
 refine fld gok rfl rfl rfl rfl (bA (H.bx 1 rfl (j:=3) rfl) ?_)
 refine jE (α:=Int) gok rfl rfl rfl rfl H ?_;intro h0 w9 hx H
 obtain ⟨a5,e,f14⟩:=aA f13
 refine append_ (α:=Int) gok rfl rfl rfl rfl (H.sel [4,0,1,2,3,5,6,7] rfl) e ?_;intro h1 w10 H
 refine fld gok rfl rfl rfl rfl ?_
 replace H:=H.sel [2,0,1,3,4,5,6] rfl
 refine stB (j:=3) H rfl rfl ?_;intro w11 H
 refine fld gok rfl rfl rfl rfl (bA (H.bx 4 rfl (j:=3) rfl) ?_)
 refine jE (α:=Int) gok rfl rfl rfl rfl H ?_;intro h2 w12 hx H
 obtain ⟨a6,e,f15⟩:=aA f14
 refine append_ (α:=Int) gok rfl rfl rfl rfl (H.sel [7,0,1,2,3,4,5,6] rfl) e ?_;intro h3 w13 H
 refine fld gok rfl rfl rfl rfl ?_
 replace H:=H.sel [5,0,1,2,3,4,6] rfl
 refine stB (j:=3) H rfl rfl ?_;intro w14 H
 obtain ⟨a8,e,f16⟩:=aA f15
 refine arO e ?_
 obtain rfl:=oi_ f16
 exact ⟨(s0_0,a5,s0_2,a6,a8),(g0_0,h1,g0_2,h3),rfl,r6_,H.sel [4,2,5,3,0,6,1] rfl⟩
 refine fld gok rfl rfl rfl rfl (bA (H.bx 1 rfl (j:=2) rfl) ?_)
 refine jE (α:=Int) gok rfl rfl rfl rfl H ?_;intro h4 w16 hx H
 obtain ⟨a9,e,f18⟩:=aA f17
 refine append_ (α:=Int) gok rfl rfl rfl rfl (H.sel [3,0,1,2,4,5,6,7] rfl) e ?_;intro h5 w17 H
 refine fld gok rfl rfl rfl rfl ?_
 replace H:=H.sel [2,0,1,3,4,5,6] rfl
 refine stB (j:=2) H rfl rfl ?_;intro w19 H
 refine fld gok rfl rfl rfl rfl (bA (H.bx 4 rfl (j:=2) rfl) ?_)
 refine jE (α:=Int) gok rfl rfl rfl rfl H ?_;intro h6 w20 hx H
 obtain ⟨a11,e,f19⟩:=aA f18
 refine append_ (α:=Int) gok rfl rfl rfl rfl (H.sel [6,0,1,2,3,4,5,7] rfl) e ?_;intro h7 w23 H
 refine fld gok rfl rfl rfl rfl ?_
 replace H:=H.sel [5,0,1,2,3,4,6] rfl
 refine stB (j:=2) H rfl rfl ?_;intro w24 H
 obtain ⟨a12,e,f20⟩:=aA f19
 refine arO e ?_
 obtain rfl:=oi_ f20
 exact ⟨(a9,s0_1,a11,s0_3,a12),(h5,g0_1,h7,g0_3),rfl,r6_,H.sel [4,2,3,5,0,1,6] rfl⟩
 rintro T1 ⟨⟨s1_0,s1_1,s1_2,s1_3⟩,⟨g1_0,g1_1,g1_2,g1_3⟩⟩ w26 ⟨hr,H⟩;try dsimp only at H
 subst hr
 refine cA [(vi x__0),(vi x__1),(g1_2).v,(g1_3).v] rfl (H.bz_ 4 rfl) ?_
 replace H:=H.sel [5,6,0,1,2,3,4] rfl
 replace H:=H.join (α:=List Int) (β:=List Int)
 replace H:=H.sc (α:=Int) x__1
 replace H:=H.join (α:=Int) (β:=List Int×List Int)
 replace H:=H.sc (α:=Int) x__0
 replace H:=H.join (α:=Int) (β:=Int×List Int×List Int)
 refine pC (α:=Ty2) (g:=((),(),g1_2,g1_3)) gok rfl rfl rfl rfl rfl H ?_;intro h8 w27 hx H
 refine fld gok rfl rfl rfl rfl ?_
 replace H:=H.sel [2,0,1,3,4,5] rfl
 refine stB (j:=1) H rfl rfl ?_;intro w28 H
 refine cA [(vi a1),(h8).v,(g1_0).v,(g1_1).v] rfl (H.bz_ 0 rfl) ?_
 refine stA gok [(vi a1),(h8).v,(g1_0).v,(g1_1).v] rfl (H.sel [2,0,1,3,4,5] rfl) rfl rfl rfl ?_;intro w29 H
 refine cA [(vi a1),(h8).v,(g1_0).v,(g1_1).v] rfl (H.bz_ 0 rfl) ?_
 cases f5
 exact ⟨_,_,rfl,⟨h8,g1_0,g1_1,rfl,rfl⟩,(H.sel [2,3,4] rfl).close ⟨cloE,cloE,cloE,trivial⟩⟩
 replace H:=H.sc (α:=Int) 1
 replace H:=H.sc (α:=Int) 0
 refine mA (α:=Int) (us:=[(vi 0),(vi 1)]) (xs:=[0,1]) (gs:=[(),()]) gok rfl rfl rfl ⟨rfl,rfl,trivial⟩ rfl rfl H ?_;intro h9 w30 hx H
 replace H:=H.sc (α:=Int) 0
 replace H:=H.sc (α:=Int) 1
 refine mA (α:=Int) (us:=[(vi 1),(vi 0)]) (xs:=[1,0]) (gs:=[(),()]) gok rfl rfl rfl ⟨rfl,rfl,trivial⟩ rfl rfl H ?_;intro h10 w31 hx H
 refine pB (cs:=#[(vi 2),vn,(h9).v,(h10).v]) gok rfl rfl rfl ?_
 refine stA gok [(vi 2),vn,(h9).v,(h10).v] rfl (H.sel [2,0,1,3] rfl) rfl rfl rfl ?_;intro w32 H
 refine cA [(vi 2),vn,(h9).v,(h10).v] rfl (H.bz_ 0 rfl) ?_
 replace H:=H.nil (α:=Ty2)
 cases f21
 exact ⟨_,_,rfl,⟨nilH,h9,h10,rfl,rfl⟩,(H.sel [0,3,2] rfl).close ⟨cloE,cloE,cloE,trivial⟩⟩
 refine fld gok rfl rfl rfl rfl (bA (H.bx 1 rfl (j:=1) rfl) ?_)
 obtain ⟨⟨y1_0,y1_1,y1_2,y1_3⟩,i1,f23⟩:=aA f22
 refine callF0_ (Hi_ i1) H trivial ?_
 rintro _ _ w33 ⟨h11,h12,h13,rfl,rfl⟩ H
 refine stA gok [(vi y1_0),(h11).v,(h12).v,(h13).v] rfl (H.sel [3,0,1,2,4] rfl) rfl rfl rfl ?_;intro w34 H
 refine cA [(vi y1_0),(h11).v,(h12).v,(h13).v] rfl (H.bz_ 0 rfl) ?_
 cases f23
 exact ⟨_,_,rfl,⟨h11,h12,h13,rfl,rfl⟩,(H.sel [1,2,3] rfl).close ⟨cloE,cloE,cloE,trivial⟩⟩
theorem CI_ {nodes_:List Ty4}{nodes_h:Hd}{y_0:List Ty4} (hF:mU nodes_=some y_0) :
  bF Tryz.prog 168 #[(nodes_h).v] [Es (List Ty4) nodes_ nodes_h] [] (fun v Γ'=>∃ z0:Hd,v=(.agg #[(z0).v])∧Γ'=[Es (List Ty4) y_0 z0]):=by
 intro w0 S0 fp0 hI hS
 have H:=Cx.start hI hS;dsimp at H
 refine iA (args:=[_]) gok Tryz.func168 rfl _ rfl rfl rfl ?_
 refine sA gok rfl H ?_;intro b3 w2 hx H
 refine wF (α:=Ty4) gok rfl rfl H ?_;intro h6 w5 hx H
 obtain ⟨a8,e,hF9⟩:=aA hF
 replace H:=H.frzE (α:=Ty4)
 refine I9_ (α:=Ty4) gok rfl rfl rfl rfl rfl H 1 rfl e ?_;intro h0 w1 H
 refine pB (cs:=#[(h0).v]) gok rfl rfl rfl ?_
 refine stA gok [(h0).v] rfl (H.sel [1,0,2] rfl) rfl rfl rfl ?_;intro w3 H
 refine cA [(h0).v] rfl (H.bz_ 0 rfl) ?_
 replace H:=H.sel [1,0,2] rfl
 replace H:=Cx.reS (e':=Es (List Ty4) a8 h0) rfl H.frz
 cases hF9
 exact ⟨_,_,rfl,⟨h0,rfl,rfl⟩,(H.sel [0] rfl)⟩
theorem Ga_ {t__0:List Ty4}{t__0h:Hd}{y0_0 y1_0:List Ty4} (hF:bZ t__0=some (y0_0,y1_0)) :
  bF Tryz.prog 148 #[(.agg #[(t__0h).v])] [Es (List Ty4) t__0 t__0h] [] (fun v Γ'=>∃ z0 z1:Hd,v=(.tuple #[(.agg #[(z0).v]),(.agg #[(z1).v])])∧Γ'=[Es (List Ty4) y0_0 z0,Es (List Ty4) y1_0 z1]):=by
 intro w0 S0 fp0 hI hS
 have H:=Cx.start hI hS;dsimp at H
 refine iA (args:=[_]) gok Tryz.func148 rfl _ rfl rfl rfl ?_
 refine xA H ?_;intro b3 w2 hx H
 refine sA gok rfl H ?_;intro b6 w5 hx H
 refine sA gok rfl H ?_;intro b9 w8 hx H
 refine cA [(t__0h).v] rfl (H.bz_ 2 rfl) ?_
 obtain ⟨y0,e,f0⟩:=aA hF
 obtain ⟨⟨y0_0_0,y0_0_1,y0_0_2⟩,y0_1⟩:=y0
 have i0:=e
 refine callF0_ (lZ i0) H ⟨Vw.sh 3 rfl,trivial⟩ ?_
 rintro _ _ w1 ⟨h0,h1,h2,rfl,rfl⟩ H
 refine sA gok rfl H ?_;intro b0 w3 hx H
 refine stA gok [(h0).v,(h1).v,(h2).v] rfl H rfl rfl rfl ?_;intro w4 H
 refine fld gok rfl rfl rfl rfl (bA (H.bx 6 rfl (j:=0) rfl) ?_)
 refine nA (H.rs (α:=List Ty4) 7 rfl).len ?_
 obtain ⟨a0,e,f1⟩:=aA f0
 refine arO e ?_
 refine fld gok rfl rfl rfl rfl (bA (H.bx 0 rfl (j:=0) rfl) ?_)
 obtain ⟨a1,e,f2⟩:=aA f1
 refine arO e ?_
 obtain ⟨a2,e,f3⟩:=aA f2
 obtain ⟨p0,m0,c0,c1,c2,c3⟩:=(H.ro (α:=List Int) 1 rfl).at1 e
 refine dA c0 c1 c2 ?_
 refine bA c3 ?_
 refine kB H [11,12] (.fst 0 (.fst 2 (.fst 5 (.fst 7 (.fst 8 (.fst 1 (.fst 3 (.fst 6 (.fst 9 (.act 4 (.act 10 (.act 11 (.act 12 .done))))))))))))) bB [] trivial (by kernel_rfl) ?_
 intro w6 H
 have hX:Ext w6 w6:=Upd.refl _ _
 refine oA (fun _=>fld gok rfl rfl rfl rfl ⟨rfl,rfl⟩) ?_
 refine oA (fun _=>fld gok rfl rfl rfl rfl ⟨rfl,rfl⟩) ?_
 refine gA (H.bx 6 rfl (j:=0) rfl) ?_
 obtain ⟨a3,e,f4⟩:=aA f3
 refine tH (α:=Ty4) gok rfl rfl H 7 rfl e rfl rfl ?_;intro h3 HH;have H:=HH
 refine gA (H.bx 7 rfl (j:=0) rfl) ?_
 obtain ⟨a4,e,f5⟩:=aA f4
 refine tH (α:=Ty4) gok rfl rfl H 8 rfl e rfl rfl ?_;intro h4 HH;have H:=HH
 obtain ⟨y1,e,f6⟩:=aA f5
 obtain ⟨y1_0,rfl⟩:∃ z,z=y1:=⟨_,rfl⟩
 have i1:=e
 refine xC (CI_ i1) H [1] rfl (yA uA xB) ?_
 rintro _ _ w7 ⟨h5,rfl,rfl⟩ hx H
 refine hold_ hX hx fun hX=>?_
 obtain ⟨y2,e,f7⟩:=aA f6
 obtain ⟨y2_0,rfl⟩:∃ z,z=y2:=⟨_,rfl⟩
 have i2:=e
 refine xC (CI_ i2) H [1] rfl (yA uA xB) ?_
 rintro _ _ w9 ⟨h6,rfl,rfl⟩ hx H
 refine hold_ hX hx fun hX=>?_
 refine stA gok [(h5).v] rfl (H.sel [9,0,1,2,3,4,5,6,7,8,10,11] rfl) rfl rfl rfl ?_;intro w10 H
 refine hold trivial ?_
 refine stA gok [(h6).v] rfl (H.sel [9,0,1,2,3,4,5,6,7,8,10,11] rfl) rfl rfl rfl ?_;intro w11 H
 refine hold trivial ?_
 refine cA [(h5).v] rfl (H.bz_ 1 rfl) ?_
 refine cA [(h6).v] rfl (H.bz_ 0 rfl) ?_
 cases f7
 exact ⟨_,_,rfl,⟨h5,h6,rfl,rfl⟩,(H.sel [3,2] rfl)⟩
theorem wK {l_:List Int}{l_h:Hd}{to_:List Int}{to_h:Hd}{y:List Int} (hF:pJ l_ to_=some y) :
  kA Tryz.prog 110 #[(l_h).v,(to_h).v] [Es (List Int) l_ l_h,Es (List Int) to_ to_h] [] (fun v Γ'=>∃ z0:Hd,v=(z0).v∧Γ'=[E (List Int) y z0]):=by
 intro w0 S0 fp0 hI hS
 have H:=Cx.start hI hS;dsimp at H
 refine iA (args:=[_,_]) gok Tryz.func110 rfl _ rfl rfl rfl ?_
 refine sq ?_
 refine nA (H.rs (α:=List Int) 0 rfl).len ?_
 have x0:=(H.rs (α:=List Int) 0 rfl).max
 obtain ⟨r0,e,f0⟩:=aA hF
 replace H:=H.nil (α:=Int)
 refine nB _ l_.length (fun (k3:Nat) (s0:List Int) (g0:Hd)=>[(1,(to_h).v),(5,(g0).v),(8,(l_h).v),(9,(vi ((l_.length:Nat):Int))),(10,(vi ((k3:Nat):Int)))]) (fun _ (s0:List Int) (g0:Hd) w'=>Cx w0 fp0 S0 w' [Es (List Int) to_ to_h,E (List Int) s0 g0,Es (List Int) l_ l_h]) [] nilH e r5_ (H.sel [2,0,1] rfl) ?_ ?_
 rintro T0 k3 s0 g0 w1 o0 hk (H:Cx w0 fp0 S0 w1 [Es (List Int) to_ to_h,E (List Int) s0 g0,Es (List Int) l_ l_h]) f1
 refine jA (z:=true) (cB hk) ?_
 refine sq (sq ?_)
 obtain ⟨a0,e,f2⟩:=aA f1
 obtain ⟨p0,m0,c0,c1,c2,c3⟩:=(H.rs (α:=List Int) 2 rfl).at1 e
 refine dA c0 c1 c2 ?_
 refine bA c3 ?_
 obtain ⟨a1,e,f3⟩:=aA f2
 obtain ⟨p1,m1,c4,c5,c6,c7⟩:=(H.rs (α:=List Int) 0 rfl).at1 e
 refine dA c4 c5 c6 ?_
 refine bA c7 ?_
 refine jE (α:=Int) gok rfl rfl rfl rfl H ?_;intro h0 w2 hx H
 obtain ⟨a2,e,f4⟩:=aA f3
 refine append_ (α:=Int) gok rfl rfl rfl rfl (H.sel [2,0,1,3] rfl) e ?_;intro h1 w3 H
 refine arK hk x0 ?_
 obtain rfl:=oi_ f4
 exact ⟨h1,r5_,H.sel [1,0,2] rfl⟩
 rintro T1 g1 w4 H;try dsimp only at H
 refine jA (z:=false) dB ?_
 refine sq ?_
 cases f0
 exact ⟨_,_,rfl,⟨g1,rfl,rfl⟩,(H.sel [1] rfl).close ⟨cloE,trivial⟩⟩
theorem Ah_ {g__0:Int}{g__1:List Ty2}{g__1h:Hd}{g__2:List Int}{g__2h:Hd}{g__3:List Int}{g__3h:Hd}{to_:List Int}{to_h:Hd}{wires_ y_0:Int}{y_1:List Ty2}{y_2 y_3:List Int} (hF:jQ (g__0,g__1,g__2,g__3) to_ wires_=some (y_0,y_1,y_2,y_3)) :
  kA Tryz.prog 184 #[(.agg #[(vi g__0),(g__1h).v,(g__2h).v,(g__3h).v]),(to_h).v,(vi wires_)] [Es (List Ty2) g__1 g__1h,Es (List Int) g__2 g__2h,Es (List Int) g__3 g__3h,Es (List Int) to_ to_h] [] (fun v Γ'=>∃ z0 z1 z2:Hd,v=(.agg #[(vi y_0),(z0).v,(z1).v,(z2).v])∧Γ'=[E (List Ty2) y_1 z0,E (List Int) y_2 z1,E (List Int) y_3 z2]):=by
 intro w0 S0 fp0 hI hS
 have H:=Cx.start hI hS;dsimp at H
 refine iA (args:=[_,_,_]) gok Tryz.func184 rfl _ rfl rfl rfl ?_
 refine xA H ?_;intro b6 w5 hx H
 refine sA gok rfl H ?_;intro b9 w8 hx H
 obtain ⟨r0,f0,f1⟩:=aA hF
 refine sH H [] (.fst 0 (.fst 1 (.fst 3 (.fst 5 (.fst 7 (.fst 2 (.fst 6 (.alts (.alt 4 (.alts (.alt 8 (.fst 9 (.act 10 (.act 11 .done))) (.alt 10 (.act 8 (.fst 9 (.act 11 .done))) .no))) (.alt 10 (.act 4 (.act 8 (.fst 9 (.act 11 .done)))) .no)))))))))) bB [] trivial (by kernel_rfl) (fun (q0:(Int×List Int×List Int)×(Hd×Hd×Nat))=>[(1,(to_h).v),(3,(vp b6)),(6,(vp b9)),(7,(vp q0.2.2.2))]) (fun (q0:(Int×List Int×List Int)×(Hd×Hd×Nat)) w'=>(q0.1.1,q0.1.2.1,q0.1.2.2)=r0∧Cx w0 fp0 S0 w' [Es (List Int) to_ to_h,Bx b6 [(vi g__0),(g__1h).v,(g__2h).v,(g__3h).v],Es (List Ty2) g__1 g__1h,Es (List Int) g__2 g__2h,Es (List Int) g__3 g__3h,Bx b9 [(vi 0),vn,vn,vn],Bx q0.2.2.2 [(vi q0.1.1),vn,(q0.2.1).v,(q0.2.2.1).v],E (List Int) q0.1.2.1 q0.2.1,E (List Int) q0.1.2.2 q0.2.2.1]) ?_ ?_
 intro w1 H
 have hX:Ext w1 w1:=Upd.refl _ _
 refine oA (fun _=>fld gok rfl rfl rfl rfl ⟨rfl,rfl⟩) ?_
 refine oA (fun _=>fld gok rfl rfl rfl rfl ⟨rfl,rfl⟩) ?_
 refine gA (H.bx 1 rfl (j:=2) rfl) ?_
 refine gA (H.bx 1 rfl (j:=3) rfl) ?_
 refine both ?_ ?_
 obtain ⟨y0,i0,f2⟩:=aA f0
 refine eA (wK i0) H ⟨Vw.sh 3 rfl,Vw.sh 5 rfl,trivial⟩ ?_
 rintro _ _ w2 ⟨h0,rfl,rfl⟩ hx H
 refine hold_ hX hx fun hX=>?_
 refine both ?_ ?_
 obtain ⟨y1,i1,f3⟩:=aA f2
 refine eA (wK i1) H ⟨Vw.sh 5 rfl,Vw.sh 6 rfl,trivial⟩ ?_
 rintro _ _ w3 ⟨h1,rfl,rfl⟩ hx H
 refine hold_ hX hx fun hX=>?_
 refine oA (fun _=>pB (cs:=#[(vi wires_),vn,(h0).v,(h1).v]) gok rfl rfl rfl ⟨rfl,rfl⟩) ?_
 refine vC gok rfl H ?_;intro b0 w4 hx v0 H;replace v0:=Nat.le_trans hX.size v0
 refine hold_ hX hx fun hX=>?_
 refine oC gok [(vi wires_),vn,(h0).v,(h1).v] rfl H rfl rfl rfl ?_;intro w6 hu H
 replace hX:=hX.fresh hu v0
 refine hold hX ?_
 exact ⟨((wires_,y0,y1),(h0,h1,b0)),r4_,oi_ f3,H.sel [8,4,5,6,7,3,0,2,1] rfl⟩
 refine both ?_ ?_
 obtain ⟨a0,o0,f4⟩:=aA f2
 refine vC gok rfl H ?_;intro b1 w7 hx v1 H;replace v1:=Nat.le_trans hX.size v1
 refine hold_ hX hx fun hX=>?_
 have i2:=o0
 refine eA (wK i2) H ⟨Vw.sh 6 rfl,Vw.sh 7 rfl,trivial⟩ ?_
 rintro _ _ w9 ⟨h2,rfl,rfl⟩ hx H
 refine hold_ hX hx fun hX=>?_
 refine oA (fun _=>pB (cs:=#[(vi wires_),vn,(h0).v,(h2).v]) gok rfl rfl rfl ⟨rfl,rfl⟩) ?_
 refine oC gok [(vi wires_),vn,(h0).v,(h2).v] rfl (H.sel [1,0,2,3,4,5,6,7,8] rfl) rfl rfl rfl ?_;intro w10 hu H
 replace hX:=hX.fresh hu v1
 refine hold hX ?_
 exact ⟨((wires_,y0,a0),(h0,h2,b1)),r4_,oi_ f4,H.sel [8,4,5,6,7,3,0,2,1] rfl⟩
 exact trivial
 refine both ?_ ?_
 obtain ⟨a1,o1,f5⟩:=aA f0
 obtain ⟨a2,o2,f6⟩:=aA f5
 refine vC gok rfl H ?_;intro b2 w11 hx v2 H;replace v2:=Nat.le_trans hX.size v2
 refine hold_ hX hx fun hX=>?_
 have i3:=o1
 refine eA (wK i3) H ⟨Vw.sh 4 rfl,Vw.sh 6 rfl,trivial⟩ ?_
 rintro _ _ w12 ⟨h3,rfl,rfl⟩ hx H
 refine hold_ hX hx fun hX=>?_
 have i4:=o2
 refine eA (wK i4) H ⟨Vw.sh 6 rfl,Vw.sh 7 rfl,trivial⟩ ?_
 rintro _ _ w13 ⟨h4,rfl,rfl⟩ hx H
 refine hold_ hX hx fun hX=>?_
 refine oA (fun _=>pB (cs:=#[(vi wires_),vn,(h3).v,(h4).v]) gok rfl rfl rfl ⟨rfl,rfl⟩) ?_
 refine oC gok [(vi wires_),vn,(h3).v,(h4).v] rfl (H.sel [2,0,1,3,4,5,6,7,8] rfl) rfl rfl rfl ?_;intro w14 hu H
 replace hX:=hX.fresh hu v2
 refine hold hX ?_
 exact ⟨((wires_,a1,a2),(h3,h4,b2)),r4_,oi_ f6,H.sel [8,4,5,6,7,3,0,2,1] rfl⟩
 exact trivial
 rintro T0 ⟨⟨s0_0,s0_1,s0_2⟩,⟨g0_0,g0_1,g0_2⟩⟩ w15 ⟨hr,H⟩;try dsimp only at H
 subst hr
 refine sq ?_
 refine fld gok rfl rfl rfl rfl (bA (H.bx 1 rfl (j:=1) rfl) ?_)
 refine nA (H.rs (α:=List Ty2) 2 rfl).len ?_
 have x0:=(H.rs (α:=List Ty2) 2 rfl).max
 obtain ⟨r1,e,f7⟩:=aA f1
 replace H:=H.nil (α:=Ty2)
 refine nB _ g__1.length (fun (k0:Nat) (s1:List Ty2) (g1:Hd)=>[(1,(to_h).v),(6,(vp b9)),(7,(vp g0_2)),(21,(g__1h).v),(22,(vi ((g__1.length:Nat):Int))),(23,(vi ((k0:Nat):Int)))]) (fun _ (s1:List Ty2) (g1:Hd) w'=>Cx w0 fp0 S0 w' [Es (List Int) to_ to_h,Bx b9 [(vi 0),vn,vn,vn],Bx g0_2 [(vi s0_0),(g1).v,(g0_0).v,(g0_1).v],E (List Ty2) s1 g1,E (List Int) s0_1 g0_0,E (List Int) s0_2 g0_1,Es (List Ty2) g__1 g__1h]) [] nilH e r6_ (H.sel [1,6,7,0,8,9,3] rfl) ?_ ?_
 rintro T1 k0 s1 g1 w16 o3 hk (H:Cx w0 fp0 S0 w16 [Es (List Int) to_ to_h,Bx b9 [(vi 0),vn,vn,vn],Bx g0_2 [(vi s0_0),(g1).v,(g0_0).v,(g0_1).v],E (List Ty2) s1 g1,E (List Int) s0_1 g0_0,E (List Int) s0_2 g0_1,Es (List Ty2) g__1 g__1h]) f8
 refine jA (z:=true) (cB hk) ?_
 refine sq (sq ?_)
 obtain ⟨a3,e,f9⟩:=aA f8
 have HH:=H;obtain ⟨p0,m0,g2,c0,c1,c2,c3,H⟩:=HH.el (α:=Ty2) 6 rfl e
 obtain ⟨a3_0,a3_1,a3_2,a3_3⟩:=a3
 obtain ⟨_,_,h5,h6⟩:=g2
 replace H:=H.part (β:=List Int) a3_2 (h5:Hd) 0 rfl (fun S h=>(And.left (And.right (And.right h))))
 replace H:=H.part (β:=List Int) a3_3 (h6:Hd) 1 rfl (fun S h=>(And.right (And.right (And.right h))))
 replace H:=H.sel [0,1,3,4,5,6,7,8,9] rfl
 refine dA c0 c1 c2 ?_
 refine cA [(vi a3_0),(vi a3_1),(h5).v,(h6).v] rfl c3 ?_
 refine sA gok rfl H ?_;intro b3 w17 hx H
 refine stA gok [(vi a3_0),(vi a3_1),(h5).v,(h6).v] rfl H rfl rfl rfl ?_;intro w18 H
 refine kB H [16,18,17] (.fst 0 (.fst 2 (.fst 4 (.fst 6 (.fst 8 (.fst 10 (.fst 12 (.fst 1 (.fst 3 (.fst 5 (.fst 7 (.fst 11 (.act 9 (.act 13 (.fst 14 (.act 15 (.act 16 (.act 17 (.act 18 .done))))))))))))))))))) bB [] trivial (by kernel_rfl) ?_
 intro w19 H
 have hX:Ext w19 w19:=Upd.refl _ _
 refine oA (fun _=>fld gok rfl rfl rfl rfl ⟨rfl,rfl⟩) ?_
 refine oA (fun _=>fld gok rfl rfl rfl rfl ⟨rfl,rfl⟩) ?_
 refine oA (fun _=>fld gok rfl rfl rfl rfl ⟨rfl,rfl⟩) ?_
 refine oA (fun _=>fld gok rfl rfl rfl rfl ⟨rfl,rfl⟩) ?_
 refine oA (fun _=>fld gok rfl rfl rfl rfl ⟨rfl,rfl⟩) ?_
 refine gA (H.bx 5 rfl (j:=1) rfl) ?_
 refine gA (H.bx 0 rfl (j:=0) rfl) ?_
 refine gA (H.bx 0 rfl (j:=1) rfl) ?_
 refine gA (H.bx 0 rfl (j:=2) rfl) ?_
 refine gA (H.bx 0 rfl (j:=3) rfl) ?_
 obtain ⟨y2,i5,f10⟩:=aA f9
 refine eA (wK i5) H ⟨Vw.sh 2 rfl,Vw.sh 3 rfl,trivial⟩ ?_
 rintro _ _ w20 ⟨h7,rfl,rfl⟩ hx H
 refine hold_ hX hx fun hX=>?_
 obtain ⟨y3,i6,f11⟩:=aA f10
 refine eA (wK i6) H ⟨Vw.sh 2 rfl,Vw.sh 4 rfl,trivial⟩ ?_
 rintro _ _ w21 ⟨h8,rfl,rfl⟩ hx H
 refine hold_ hX hx fun hX=>?_
 refine oA (fun _=>pB (cs:=#[(vi a3_0),(vi a3_1),(h7).v,(h8).v]) gok rfl rfl rfl ⟨rfl,rfl⟩) ?_
 replace H:=H.sel [1,0,2,3,4,5,6,7,8,9,10,11] rfl
 replace H:=H.join (α:=List Int) (β:=List Int)
 replace H:=H.sc (α:=Int) a3_1
 replace H:=H.join (α:=Int) (β:=List Int×List Int)
 replace H:=H.sc (α:=Int) a3_0
 replace H:=H.join (α:=Int) (β:=Int×List Int×List Int)
 refine pC (α:=Ty2) (g:=((),(),h7,h8)) gok rfl rfl rfl rfl rfl H ?_;intro h9 w22 hx H
 refine hold_ hX hx fun hX=>?_
 obtain ⟨a4,e,f12⟩:=aA f11
 refine append_ (α:=Ty2) gok rfl rfl rfl rfl (H.sel [7,0,1,2,3,4,5,6,8,9,10] rfl) e ?_;intro h10 w23 H
 refine hold trivial ?_
 refine fld gok rfl rfl rfl rfl ?_
 refine hold trivial ?_
 replace H:=H.sel [6,0,1,2,3,4,5,7,8,9] rfl
 refine stB (j:=1) H rfl rfl ?_;intro w24 H
 refine hold trivial ?_
 refine arK hk x0 ?_
 obtain rfl:=oi_ f12
 exact ⟨h10,r6_,H.sel [5,6,0,1,7,8,9] rfl⟩
 rintro T2 g3 w25 H;try dsimp only at H
 refine jA (z:=false) dB ?_
 refine sq ?_
 refine cA [(vi s0_0),(g3).v,(g0_0).v,(g0_1).v] rfl (H.bz_ 2 rfl) ?_
 refine stA gok [(vi s0_0),(g3).v,(g0_0).v,(g0_1).v] rfl (H.sel [1,0,2,3,4,5,6] rfl) rfl rfl rfl ?_;intro w26 H
 refine cA [(vi s0_0),(g3).v,(g0_0).v,(g0_1).v] rfl (H.bz_ 0 rfl) ?_
 cases f7
 exact ⟨_,_,rfl,⟨g3,g0_0,g0_1,rfl,rfl⟩,(H.sel [3,4,5] rfl).close ⟨cloE,cloE,cloE,trivial⟩⟩
theorem G2_ {g__0:Int}{g__1:List Ty2}{g__1h:Hd}{g__2:List Int}{g__2h:Hd}{g__3:List Int}{g__3h:Hd}{y_0:Int}{y_1:List Ty2}{y_2 y_3:List Int} (hF:pU (g__0,g__1,g__2,g__3)=some (y_0,y_1,y_2,y_3)) :
  kA Tryz.prog 183 #[(.agg #[(vi g__0),(g__1h).v,(g__2h).v,(g__3h).v])] [Es (List Ty2) g__1 g__1h,Es (List Int) g__2 g__2h,Es (List Int) g__3 g__3h] [] (fun v Γ'=>∃ z0 z1 z2:Hd,v=(.agg #[(vi y_0),(z0).v,(z1).v,(z2).v])∧Γ'=[E (List Ty2) y_1 z0,E (List Int) y_2 z1,E (List Int) y_3 z2]):=by
 intro w0 S0 fp0 hI hS
 have H:=Cx.start hI hS;dsimp at H
 refine iA (args:=[_]) gok Tryz.func183 rfl _ rfl rfl rfl ?_
 refine xA H ?_;intro b5 w4 hx H
 refine sA gok rfl H ?_;intro b8 w7 hx H
 refine fld gok rfl rfl rfl rfl (bA (H.bx 1 rfl (j:=0) rfl) ?_)
 obtain ⟨a0,e,f0⟩:=aA hF
 refine nE (α:=Int) gok rfl rfl rfl rfl (xE e) H ?_;intro h0 w1 hx H
 refine sq ?_
 refine nA (H.ro (α:=List Int) 0 rfl).len ?_
 have x0:=(H.ro (α:=List Int) 0 rfl).max
 obtain ⟨r0,e,f1⟩:=aA f0
 refine nB _ a0.length (fun (k0:Nat) (s0:List Int) (_:Unit)=>[(1,(vp b5)),(2,(vp b8)),(3,(h0).v),(9,(vi ((a0.length:Nat):Int))),(10,(vi ((k0:Nat):Int)))]) (fun _ (s0:List Int) (_:Unit) w'=>Cx w0 fp0 S0 w' [Bx b5 [(vi g__0),(g__1h).v,(g__2h).v,(g__3h).v],Es (List Ty2) g__1 g__1h,Es (List Int) g__2 g__2h,Es (List Int) g__3 g__3h,Bx b8 [(vi 0),vn,vn,vn],E (List Int) s0 h0]) a0 () e r5_ (H.sel [2,3,4,5,1,0] rfl) ?_ ?_
 rintro T0 k0 s0 _ w2 o0 hk (H:Cx w0 fp0 S0 w2 [Bx b5 [(vi g__0),(g__1h).v,(g__2h).v,(g__3h).v],Es (List Ty2) g__1 g__1h,Es (List Int) g__2 g__2h,Es (List Int) g__3 g__3h,Bx b8 [(vi 0),vn,vn,vn],E (List Int) s0 h0]) f2
 refine jA (z:=true) (cB hk) ?_
 refine sq (sq ?_)
 obtain ⟨a1,i0,f3⟩:=aA f2
 obtain ⟨p0,m0,c0,c1,c2⟩:=(H.ro (α:=List Int) 5 rfl).setp i0
 refine dA c0 c1 c2 ?_
 replace H:=H.sel [5,0,1,2,3,4] rfl
 refine wC (α:=Int) H c0 c1 i0 ?_;intro w3 H
 refine arK hk x0 ?_
 obtain rfl:=oi_ f3
 exact ⟨(),r5_,H.sel [1,2,3,4,5,0] rfl⟩
 rintro T1 _ w5 H;try dsimp only at H
 refine jA (z:=false) dB ?_
 refine sq ?_
 refine cA [(vi g__0),(g__1h).v,(g__2h).v,(g__3h).v] rfl (H.bz_ 0 rfl) ?_
 refine fld gok rfl rfl rfl rfl (bA (H.bx 0 rfl (j:=0) rfl) ?_)
 obtain ⟨⟨y0_0,y0_1,y0_2,y0_3⟩,i1,f4⟩:=aA f1
 refine callF0_ (Ah_ i1) H ⟨Vw.sh 1 rfl,Vw.sh 2 rfl,Vw.sh 3 rfl,Vw.own 5 rfl,trivial⟩ ?_
 rintro _ _ w6 ⟨h1,h2,h3,rfl,rfl⟩ H
 refine stA gok [(vi y0_0),(h1).v,(h2).v,(h3).v] rfl (H.sel [7,0,1,2,3,4,5,6,8] rfl) rfl rfl rfl ?_;intro w8 H
 refine cA [(vi y0_0),(h1).v,(h2).v,(h3).v] rfl (H.bz_ 0 rfl) ?_
 cases f4
 exact ⟨_,_,rfl,⟨h1,h2,h3,rfl,rfl⟩,(H.sel [1,2,3] rfl).close ⟨cloE,cloE,cloE,trivial⟩⟩
theorem Ce_ {a__0:Int}{a__1:List Ty2}{a__1h:Hd}{a__2:List Int}{a__2h:Hd}{a__3:List Int}{a__3h:Hd}{b__0:Int}{b__1:List Ty2}{b__1h:Hd}{b__2:List Int}{b__2h:Hd}{b__3:List Int}{b__3h:Hd}{y_0:Int}{y_1:List Ty2}{y_2 y_3:List Int} (hF:lT (a__0,a__1,a__2,a__3) (b__0,b__1,b__2,b__3)=some (y_0,y_1,y_2,y_3)) :
  kA Tryz.prog 169 #[(.agg #[(vi a__0),(a__1h).v,(a__2h).v,(a__3h).v]),(.agg #[(vi b__0),(b__1h).v,(b__2h).v,(b__3h).v])] [Es (List Ty2) a__1 a__1h,Es (List Int) a__2 a__2h,Es (List Int) a__3 a__3h,Es (List Ty2) b__1 b__1h,Es (List Int) b__2 b__2h,Es (List Int) b__3 b__3h] [] (fun v Γ'=>∃ z0 z1 z2:Hd,v=(.agg #[(vi y_0),(z0).v,(z1).v,(z2).v])∧Γ'=[E (List Ty2) y_1 z0,E (List Int) y_2 z1,E (List Int) y_3 z2]):=by
 intro w0 S0 fp0 hI hS
 have H:=Cx.start hI hS;dsimp at H
 refine iA (args:=[_,_]) gok Tryz.func169 rfl _ rfl rfl rfl ?_
 refine xA H ?_;intro b8 w7 hx H
 refine xA H ?_;intro b0 w1 hx H
 refine sA gok rfl H ?_;intro b1 w2 hx H
 refine fld gok rfl rfl rfl rfl (bA (H.bx 1 rfl (j:=0) rfl) ?_)
 obtain ⟨a0,e,f0⟩:=aA hF
 refine nE (α:=Int) gok rfl rfl rfl rfl (xE e) H ?_;intro h0 w3 hx H
 refine sq ?_
 refine nA (H.ro (α:=List Int) 0 rfl).len ?_
 have x0:=(H.ro (α:=List Int) 0 rfl).max
 obtain ⟨r0,e,f1⟩:=aA f0
 refine nB _ a0.length (fun (k0:Nat) (s0:List Int) (_:Unit)=>[(2,(vp b8)),(3,(vp b0)),(4,(vp b1)),(5,(h0).v),(13,(vi ((a0.length:Nat):Int))),(14,(vi ((k0:Nat):Int)))]) (fun _ (s0:List Int) (_:Unit) w'=>Cx w0 fp0 S0 w' [Bx b8 [(vi a__0),(a__1h).v,(a__2h).v,(a__3h).v],Es (List Ty2) a__1 a__1h,Es (List Int) a__2 a__2h,Es (List Int) a__3 a__3h,Bx b0 [(vi b__0),(b__1h).v,(b__2h).v,(b__3h).v],Es (List Ty2) b__1 b__1h,Es (List Int) b__2 b__2h,Es (List Int) b__3 b__3h,Bx b1 [(vi 0),vn,vn,vn],E (List Int) s0 h0]) a0 () e r6_ (H.sel [3,4,5,6,2,7,8,9,1,0] rfl) ?_ ?_
 rintro T0 k0 s0 _ w4 o0 hk (H:Cx w0 fp0 S0 w4 [Bx b8 [(vi a__0),(a__1h).v,(a__2h).v,(a__3h).v],Es (List Ty2) a__1 a__1h,Es (List Int) a__2 a__2h,Es (List Int) a__3 a__3h,Bx b0 [(vi b__0),(b__1h).v,(b__2h).v,(b__3h).v],Es (List Ty2) b__1 b__1h,Es (List Int) b__2 b__2h,Es (List Int) b__3 b__3h,Bx b1 [(vi 0),vn,vn,vn],E (List Int) s0 h0]) f2
 refine jA (z:=true) (cB hk) ?_
 refine sq (sq ?_)
 refine fld gok rfl rfl rfl rfl (bA (H.bx 0 rfl (j:=0) rfl) ?_)
 obtain ⟨a1,e,f3⟩:=aA f2
 refine arO e ?_
 obtain ⟨a2,i0,f4⟩:=aA f3
 obtain ⟨p0,m0,c0,c1,c2⟩:=(H.ro (α:=List Int) 9 rfl).setp i0
 refine dA c0 c1 c2 ?_
 replace H:=H.sel [9,0,1,2,3,4,5,6,7,8] rfl
 refine wC (α:=Int) H c0 c1 i0 ?_;intro w5 H
 refine arK hk x0 ?_
 obtain rfl:=oi_ f4
 exact ⟨(),r6_,H.sel [1,2,3,4,5,6,7,8,9,0] rfl⟩
 rintro T1 _ w6 H;try dsimp only at H
 refine jA (z:=false) dB ?_
 refine sq ?_
 refine cA [(vi a__0),(a__1h).v,(a__2h).v,(a__3h).v] rfl (H.bz_ 0 rfl) ?_
 obtain ⟨⟨y0_0,y0_1,y0_2,y0_3⟩,i1,f5⟩:=aA f1
 refine callF0_ (G2_ i1) H ⟨Vw.sh 1 rfl,Vw.sh 2 rfl,Vw.sh 3 rfl,trivial⟩ ?_
 rintro _ _ w8 ⟨h1,h2,h3,rfl,rfl⟩ H
 refine sA gok rfl H ?_;intro b2 w9 hx H
 refine stA gok [(vi y0_0),(h1).v,(h2).v,(h3).v] rfl H rfl rfl rfl ?_;intro w11 H
 refine cA [(vi b__0),(b__1h).v,(b__2h).v,(b__3h).v] rfl (H.bz_ 8 rfl) ?_
 refine fld gok rfl rfl rfl rfl (bA (H.bx 8 rfl (j:=0) rfl) ?_)
 obtain ⟨⟨y1_0,y1_1,y1_2,y1_3⟩,i2,f6⟩:=aA f5
 refine callF0_ (Ah_ i2) H ⟨Vw.sh 9 rfl,Vw.sh 10 rfl,Vw.sh 11 rfl,Vw.own 13 rfl,trivial⟩ ?_
 rintro _ _ w12 ⟨h4,h5,h6,rfl,rfl⟩ H
 refine sA gok rfl H ?_;intro b3 w14 hx H
 refine stA gok [(vi y1_0),(h4).v,(h5).v,(h6).v] rfl H rfl rfl rfl ?_;intro w15 H
 refine fld gok rfl rfl rfl rfl (bA (H.bx 4 rfl (j:=0) rfl) ?_)
 refine fld gok rfl rfl rfl rfl (bA (H.bx 12 rfl (j:=0) rfl) ?_)
 obtain ⟨a3,e,f7⟩:=aA f6
 refine arO e ?_
 refine fld gok rfl rfl rfl rfl ?_
 replace H:=H.sel [4,0,1,2,3,5,6,7,8,9,10,11,12,13,14,15,16,17] rfl
 refine stB (j:=0) H rfl rfl ?_;intro w16 H
 refine fld gok rfl rfl rfl rfl (bA (H.bx 0 rfl (j:=2) rfl) ?_)
 refine fld gok rfl rfl rfl rfl (bA (H.bx 1 rfl (j:=2) rfl) ?_)
 obtain ⟨a4,e,f8⟩:=aA f7
 replace H:=H.sel [6,0,1,2,3,4,5,7,8,9,10,11,12,13,14,15,16,17] rfl
 refine xM (α:=Int) gok rfl rfl rfl rfl H (Vw.own 3 rfl) e ?_;intro h7 w17 H
 refine fld gok rfl rfl rfl rfl ?_
 replace H:=H.sel [1,0,2,3,4,5,6,7,8,9,10,11,12,13,14,15,16,17] rfl
 refine stB (j:=2) H rfl rfl ?_;intro w19 H
 refine fld gok rfl rfl rfl rfl (bA (H.bx 0 rfl (j:=3) rfl) ?_)
 refine fld gok rfl rfl rfl rfl (bA (H.bx 2 rfl (j:=3) rfl) ?_)
 obtain ⟨a5,e,f9⟩:=aA f8
 replace H:=H.sel [7,0,1,2,3,4,5,6,8,9,10,11,12,13,14,15,16,17] rfl
 refine xM (α:=Int) gok rfl rfl rfl rfl H (Vw.own 5 rfl) e ?_;intro h8 w20 H
 refine fld gok rfl rfl rfl rfl ?_
 replace H:=H.sel [1,0,2,3,4,5,6,7,8,9,10,11,12,13,14,15,16,17] rfl
 refine stB (j:=3) H rfl rfl ?_;intro w21 H
 refine fld gok rfl rfl rfl rfl (bA (H.bx 0 rfl (j:=1) rfl) ?_)
 refine fld gok rfl rfl rfl rfl (bA (H.bx 3 rfl (j:=1) rfl) ?_)
 obtain ⟨a6,e,f10⟩:=aA f9
 refine append_ (α:=Ty2) gok rfl rfl rfl rfl (H.sel [7,4,0,1,2,3,5,6,8,9,10,11,12,13,14,15,16,17] rfl) e ?_;intro h9 w22 H
 refine fld gok rfl rfl rfl rfl ?_
 replace H:=H.sel [1,0,2,3,4,5,6,7,8,9,10,11,12,13,14,15,16] rfl
 refine stB (j:=1) H rfl rfl ?_;intro w23 H
 refine cA [(vi a3),(h9).v,(h7).v,(h8).v] rfl (H.bz_ 0 rfl) ?_
 refine stA gok [(vi a3),(h9).v,(h7).v,(h8).v] rfl (H.sel [15,0,1,2,3,4,5,6,7,8,9,10,11,12,13,14,16] rfl) rfl rfl rfl ?_;intro w24 H
 refine cA [(vi a3),(h9).v,(h7).v,(h8).v] rfl (H.bz_ 0 rfl) ?_
 cases f10
 exact ⟨_,_,rfl,⟨h9,h7,h8,rfl,rfl⟩,(H.sel [2,4,3] rfl).close ⟨cloE,cloE,cloE,trivial⟩⟩
theorem gM {l_:List Int}{l_h:Hd}{y:List Int} (hF:vG l_=some y) :
  kA Tryz.prog 38 #[(l_h).v] [Es (List Int) l_ l_h] [] (fun v Γ'=>∃ z0:Hd,v=(z0).v∧Γ'=[E (List Int) y z0]):=by
 intro w0 S0 fp0 hI hS
 have H:Cx w0 fp0 S0 w0 [Es (List Int) l_ l_h]:=Cx.start hI hS
 refine iA (args:=[_]) gok Tryz.func38 rfl _ rfl rfl rfl ?_
 refine wF (α:=Int) gok rfl rfl H ?_;intro h3 w2 hx H
 obtain ⟨a5,e,hF6⟩:=aA hF
 refine xM (α:=Int) gok rfl rfl rfl rfl H (Vw.sh 0 rfl) e ?_;intro h8 w7 H
 cases hF6
 exact ⟨_,_,rfl,⟨h8,rfl,rfl⟩,(H.sel [0] rfl).close ⟨cloE,trivial⟩⟩
theorem Gx_ {a_ b_ y:Int} (hF:bQ a_ b_=some y) :
  kA Tryz.prog 186 #[(vi a_),(vi b_)] [] [] (fun v Γ'=>v=(vi y)∧Γ'=[]):=by
 intro w0 S0 fp0 hI hS
 have H:Cx w0 fp0 S0 w0 []:=Cx.start hI hS
 refine iA (args:=[_,_]) gok Tryz.func186 rfl _ rfl rfl rfl ?_
 refine sq ?_
 refine boolB_ hF (fun hF3=>?_) fun hF4=>?_
 cases hF3
 exact ⟨_,_,rfl,⟨rfl,rfl⟩,(H.sel [] rfl).close trivial⟩
 cases hF4
 exact ⟨_,_,rfl,⟨rfl,rfl⟩,(H.sel [] rfl).close trivial⟩
theorem Gd_ {a_ b_ y:Int} (hF:vP a_ b_=some y) :
  kA Tryz.prog 187 #[(vi a_),(vi b_)] [] [] (fun v Γ'=>v=(vi y)∧Γ'=[]):=by
 intro w0 S0 fp0 hI hS
 have H:Cx w0 fp0 S0 w0 []:=Cx.start hI hS
 refine iA (args:=[_,_]) gok Tryz.func187 rfl _ rfl rfl rfl ?_
 refine sq ?_
 refine boolB_ hF (fun hF3=>?_) fun hF4=>?_
 cases hF3
 exact ⟨_,_,rfl,⟨rfl,rfl⟩,(H.sel [] rfl).close trivial⟩
 cases hF4
 exact ⟨_,_,rfl,⟨rfl,rfl⟩,(H.sel [] rfl).close trivial⟩
theorem Cd_ {g__0:Int}{g__1:List Ty2}{g__1h:Hd}{g__2:List Int}{g__2h:Hd}{g__3:List Int}{g__3h:Hd}{y0 y1:List Int} (hF:kT (g__0,g__1,g__2,g__3)=some (y0,y1)) :
  kA Tryz.prog 179 #[(.agg #[(vi g__0),(g__1h).v,(g__2h).v,(g__3h).v])] [Es (List Ty2) g__1 g__1h,Es (List Int) g__2 g__2h,Es (List Int) g__3 g__3h] [] (fun v Γ'=>∃ z0 z1:Hd,v=(.tuple #[(z0).v,(z1).v])∧Γ'=[E (List Int) y0 z0,E (List Int) y1 z1]):=by
 intro w0 S0 fp0 hI hS
 have H:=Cx.start hI hS;dsimp at H
 refine iA (args:=[_]) gok Tryz.func179 rfl _ rfl rfl rfl ?_
 refine xA H ?_;intro b5 w4 hx H
 refine fld gok rfl rfl rfl rfl (bA (H.bx 0 rfl (j:=0) rfl) ?_)
 obtain ⟨a7,e,hF8⟩:=aA hF
 refine nE (α:=Int) gok rfl rfl rfl rfl (xE e) H ?_;intro h0 w9 hx H
 refine fld gok rfl rfl rfl rfl (bA (H.bx 1 rfl (j:=0) rfl) ?_)
 obtain ⟨a0,e,f0⟩:=aA hF8
 refine nE (α:=Int) gok rfl rfl rfl rfl (xE e) H ?_;intro h1 w1 hx H
 refine sq ?_
 refine fld gok rfl rfl rfl rfl (bA (H.bx 2 rfl (j:=2) rfl) ?_)
 refine nA (H.rs (α:=List Int) 4 rfl).len ?_
 have x0:=(H.rs (α:=List Int) 4 rfl).max
 obtain ⟨r0,e,f1⟩:=aA f0
 refine nB _ g__2.length (fun (k0:Nat) (s0:List Int) (_:Unit)=>[(1,(vp b5)),(4,(h0).v),(5,(h1).v),(23,(g__2h).v),(24,(vi ((g__2.length:Nat):Int))),(25,(vi ((k0:Nat):Int)))]) (fun _ (s0:List Int) (_:Unit) w'=>Cx w0 fp0 S0 w' [Bx b5 [(vi g__0),(g__1h).v,(g__2h).v,(g__3h).v],Es (List Ty2) g__1 g__1h,Es (List Int) g__2 g__2h,Es (List Int) g__3 g__3h,E (List Int) s0 h0,E (List Int) a0 h1]) a7 () e r6_ (H.sel [2,3,4,5,1,0] rfl) ?_ ?_
 rintro T0 k0 s0 _ w2 o0 hk (H:Cx w0 fp0 S0 w2 [Bx b5 [(vi g__0),(g__1h).v,(g__2h).v,(g__3h).v],Es (List Ty2) g__1 g__1h,Es (List Int) g__2 g__2h,Es (List Int) g__3 g__3h,E (List Int) s0 h0,E (List Int) a0 h1]) f2
 refine jA (z:=true) (cB hk) ?_
 refine sq (sq ?_)
 obtain ⟨a1,e,f3⟩:=aA f2
 obtain ⟨p0,m0,c0,c1,c2,c3⟩:=(H.rs (α:=List Int) 2 rfl).at1 e
 refine dA c0 c1 c2 ?_
 refine bA c3 ?_
 obtain ⟨a2,e,f4⟩:=aA f3
 obtain ⟨p1,m1,c4,c5,c6,c7⟩:=(H.ro (α:=List Int) 4 rfl).at1 e
 refine dA c4 c5 c6 ?_
 refine bA c7 ?_
 obtain ⟨a3,e,f5⟩:=aA f4
 refine arO e ?_
 obtain ⟨a4,i0,f6⟩:=aA f5
 obtain ⟨p2,m2,c8,c9,c10⟩:=(H.ro (α:=List Int) 4 rfl).setp i0
 refine dA c8 c9 c10 ?_
 replace H:=H.sel [4,0,1,2,3,5] rfl
 refine wC (α:=Int) H c8 c9 i0 ?_;intro w3 H
 refine arK hk x0 ?_
 obtain rfl:=oi_ f6
 exact ⟨(),r6_,H.sel [1,2,3,4,0,5] rfl⟩
 rintro T1 _ w5 H;try dsimp only at H
 refine jA (z:=false) dB ?_
 refine sq (sq ?_)
 refine fld gok rfl rfl rfl rfl (bA (H.bx 0 rfl (j:=3) rfl) ?_)
 refine nA (H.rs (α:=List Int) 3 rfl).len ?_
 have x1:=(H.rs (α:=List Int) 3 rfl).max
 obtain ⟨r1,e,f7⟩:=aA f1
 refine nB _ g__3.length (fun (k1:Nat) (s1:List Int) (_:Unit)=>[(1,(vp b5)),(4,(h0).v),(5,(h1).v),(37,(g__3h).v),(38,(vi ((g__3.length:Nat):Int))),(39,(vi ((k1:Nat):Int)))]) (fun _ (s1:List Int) (_:Unit) w'=>Cx w0 fp0 S0 w' [Bx b5 [(vi g__0),(g__1h).v,(g__2h).v,(g__3h).v],Es (List Ty2) g__1 g__1h,Es (List Int) g__2 g__2h,Es (List Int) g__3 g__3h,E (List Int) r0 h0,E (List Int) s1 h1]) a0 () e r6_ (H.sel [0,1,2,3,4,5] rfl) ?_ ?_
 rintro T2 k1 s1 _ w6 o1 hk (H:Cx w0 fp0 S0 w6 [Bx b5 [(vi g__0),(g__1h).v,(g__2h).v,(g__3h).v],Es (List Ty2) g__1 g__1h,Es (List Int) g__2 g__2h,Es (List Int) g__3 g__3h,E (List Int) r0 h0,E (List Int) s1 h1]) f8
 refine jA (z:=true) (cB hk) ?_
 refine sq (sq ?_)
 obtain ⟨a5,e,f9⟩:=aA f8
 obtain ⟨p3,m3,c11,c12,c13,c14⟩:=(H.rs (α:=List Int) 3 rfl).at1 e
 refine dA c11 c12 c13 ?_
 refine bA c14 ?_
 obtain ⟨a6,e,f10⟩:=aA f9
 obtain ⟨p4,m4,c15,c16,c17,c18⟩:=(H.ro (α:=List Int) 5 rfl).at1 e
 refine dA c15 c16 c17 ?_
 refine bA c18 ?_
 obtain ⟨a8,e,f11⟩:=aA f10
 refine arO e ?_
 obtain ⟨a9,i1,f12⟩:=aA f11
 obtain ⟨p5,m5,c19,c20,c21⟩:=(H.ro (α:=List Int) 5 rfl).setp i1
 refine dA c19 c20 c21 ?_
 replace H:=H.sel [5,0,1,2,3,4] rfl
 refine wC (α:=Int) H c19 c20 i1 ?_;intro w7 H
 refine arK hk x1 ?_
 obtain rfl:=oi_ f12
 exact ⟨(),r6_,H.sel [1,2,3,4,5,0] rfl⟩
 rintro T3 _ w8 H;try dsimp only at H
 refine jA (z:=false) dB ?_
 refine sq (sq ?_)
 refine fld gok rfl rfl rfl rfl (bA (H.bx 0 rfl (j:=1) rfl) ?_)
 refine nA (H.rs (α:=List Ty2) 1 rfl).len ?_
 have x2:=(H.rs (α:=List Ty2) 1 rfl).max
 obtain ⟨r2,e,f13⟩:=aA f7
 refine nB _ g__1.length (fun (k2:Nat) (s2:List Int×List Int) (_:Unit)=>[(4,(h0).v),(5,(h1).v),(51,(g__1h).v),(52,(vi ((g__1.length:Nat):Int))),(53,(vi ((k2:Nat):Int)))]) (fun _ (s2:List Int×List Int) (_:Unit) w'=>Cx w0 fp0 S0 w' [E (List Int) s2.1 h0,E (List Int) s2.2 h1,Es (List Ty2) g__1 g__1h]) (r0,r1) () e r5_ (H.sel [4,5,1] rfl) ?_ ?_
 rintro T4 k2 ⟨s2_0,s2_1⟩ _ w10 o2 hk (H:Cx w0 fp0 S0 w10 [E (List Int) s2_0 h0,E (List Int) s2_1 h1,Es (List Ty2) g__1 g__1h]) f14
 refine jA (z:=true) (cB hk) ?_
 refine sq (sq ?_)
 obtain ⟨a10,e,f15⟩:=aA f14
 have HH:=H;obtain ⟨p6,m6,g0,c22,c23,c24,c25,H⟩:=HH.el (α:=Ty2) 2 rfl e
 obtain ⟨a10_0,a10_1,a10_2,a10_3⟩:=a10
 obtain ⟨_,_,h2,h3⟩:=g0
 replace H:=H.part (β:=List Int) a10_2 (h2:Hd) 0 rfl (fun S h=>(And.left (And.right (And.right h))))
 replace H:=H.part (β:=List Int) a10_3 (h3:Hd) 1 rfl (fun S h=>(And.right (And.right (And.right h))))
 replace H:=H.sel [0,1,3,4,5] rfl
 refine dA c22 c23 c24 ?_
 refine cA [(vi a10_0),(vi a10_1),(h2).v,(h3).v] rfl c25 ?_
 refine sA gok rfl H ?_;intro b0 w11 hx H
 refine stA gok [(vi a10_0),(vi a10_1),(h2).v,(h3).v] rfl H rfl rfl rfl ?_;intro w12 H
 refine sq ?_
 refine fld gok rfl rfl rfl rfl (bA (H.bx 0 rfl (j:=3) rfl) ?_)
 refine nA (H.rs (α:=List Int) 1 rfl).len ?_
 have x3:=(H.rs (α:=List Int) 1 rfl).max
 obtain ⟨r3,e,f16⟩:=aA f15
 refine nB _ a10_3.length (fun (k3:Nat) (s3:List Int) (_:Unit)=>[(4,(h0).v),(5,(h1).v),(11,(vp b0)),(51,(g__1h).v),(52,(vi ((g__1.length:Nat):Int))),(53,(vi ((k2:Nat):Int))),(58,(h3).v),(59,(vi ((a10_3.length:Nat):Int))),(60,(vi ((k3:Nat):Int)))]) (fun _ (s3:List Int) (_:Unit) w'=>Cx w0 fp0 S0 w' [E (List Int) s3 h0,E (List Int) s2_1 h1,Bx b0 [(vi a10_0),(vi a10_1),(h2).v,(h3).v],Es (List Int) a10_2 h2,Es (List Int) a10_3 h3,Es (List Ty2) g__1 g__1h]) s2_0 () e r9_ (H.sel [3,4,0,2,1,5] rfl) ?_ ?_
 rintro T5 k3 s3 _ w13 o3 hk (H:Cx w0 fp0 S0 w13 [E (List Int) s3 h0,E (List Int) s2_1 h1,Bx b0 [(vi a10_0),(vi a10_1),(h2).v,(h3).v],Es (List Int) a10_2 h2,Es (List Int) a10_3 h3,Es (List Ty2) g__1 g__1h]) f17
 refine jA (z:=true) (cB hk) ?_
 refine sq (sq ?_)
 obtain ⟨a11,e,f18⟩:=aA f17
 obtain ⟨p7,m7,c26,c27,c28,c29⟩:=(H.rs (α:=List Int) 4 rfl).at1 e
 refine dA c26 c27 c28 ?_
 refine bA c29 ?_
 obtain ⟨a13,e,f19⟩:=aA f18
 obtain ⟨p8,m8,c30,c31,c32,c33⟩:=(H.ro (α:=List Int) 0 rfl).at1 e
 refine dA c30 c31 c32 ?_
 refine bA c33 ?_
 obtain ⟨a14,e,f20⟩:=aA f19
 refine arO e ?_
 obtain ⟨a15,i2,f21⟩:=aA f20
 obtain ⟨p9,m9,c34,c35,c36⟩:=(H.ro (α:=List Int) 0 rfl).setp i2
 refine dA c34 c35 c36 ?_
 refine wC (α:=Int) H c34 c35 i2 ?_;intro w15 H
 refine arK hk x3 ?_
 obtain rfl:=oi_ f21
 exact ⟨(),r9_,H.sel [0,1,2,3,4,5] rfl⟩
 rintro T6 _ w16 H;try dsimp only at H
 refine jA (z:=false) dB ?_
 refine sq ?_
 refine fld gok rfl rfl rfl rfl (bA (H.bx 2 rfl (j:=2) rfl) ?_)
 refine nA (H.rs (α:=List Int) 3 rfl).len ?_
 have x4:=(H.rs (α:=List Int) 3 rfl).max
 obtain ⟨r4,e,f22⟩:=aA f16
 refine nB _ a10_2.length (fun (k4:Nat) (s4:List Int) (_:Unit)=>[(4,(h0).v),(5,(h1).v),(51,(g__1h).v),(52,(vi ((g__1.length:Nat):Int))),(53,(vi ((k2:Nat):Int))),(72,(h2).v),(73,(vi ((a10_2.length:Nat):Int))),(74,(vi ((k4:Nat):Int)))]) (fun _ (s4:List Int) (_:Unit) w'=>Cx w0 fp0 S0 w' [E (List Int) r3 h0,E (List Int) s4 h1,Es (List Ty2) g__1 g__1h,Es (List Int) a10_2 h2]) s2_1 () e r8_ (H.sel [0,1,5,3] rfl) ?_ ?_
 rintro T7 k4 s4 _ w17 o4 hk (H:Cx w0 fp0 S0 w17 [E (List Int) r3 h0,E (List Int) s4 h1,Es (List Ty2) g__1 g__1h,Es (List Int) a10_2 h2]) f23
 refine jA (z:=true) (cB hk) ?_
 refine sq (sq ?_)
 obtain ⟨a16,e,f24⟩:=aA f23
 obtain ⟨p10,m10,c37,c38,c39,c40⟩:=(H.rs (α:=List Int) 3 rfl).at1 e
 refine dA c37 c38 c39 ?_
 refine bA c40 ?_
 obtain ⟨a17,e,f25⟩:=aA f24
 obtain ⟨p11,m11,c41,c42,c43,c44⟩:=(H.ro (α:=List Int) 1 rfl).at1 e
 refine dA c41 c42 c43 ?_
 refine bA c44 ?_
 obtain ⟨a18,e,f26⟩:=aA f25
 refine arO e ?_
 obtain ⟨a19,i3,f27⟩:=aA f26
 obtain ⟨p12,m12,c45,c46,c47⟩:=(H.ro (α:=List Int) 1 rfl).setp i3
 refine dA c45 c46 c47 ?_
 replace H:=H.sel [1,0,2,3] rfl
 refine wC (α:=Int) H c45 c46 i3 ?_;intro w18 H
 refine arK hk x4 ?_
 obtain rfl:=oi_ f27
 exact ⟨(),r8_,H.sel [1,0,2,3] rfl⟩
 rintro T8 _ w19 H;try dsimp only at H
 refine jA (z:=false) dB ?_
 refine sq ?_
 refine arK hk x2 ?_
 obtain rfl:=oi_ f22
 exact ⟨(),r5_,H.sel [0,1,2] rfl⟩
 obtain ⟨s5_0,s5_1⟩:=r2
 rintro T9 _ w20 H;try dsimp only at H
 refine jA (z:=false) dB ?_
 refine sq ?_
 cases f13
 exact ⟨_,_,rfl,⟨h0,h1,rfl,rfl⟩,(H.sel [0,1] rfl).close ⟨cloE,cloE,trivial⟩⟩
theorem Gf_ {g__0:Int}{g__1:List Ty2}{g__1h:Hd}{g__2:List Int}{g__2h:Hd}{g__3:List Int}{g__3h:Hd}{a_:List Int}{a_h:Hd}{b_:List Int}{b_h:Hd}{y0_0:Int}{y0_1:List Ty2}{y0_2 y0_3 y1:List Int} (hF:dZ (g__0,g__1,g__2,g__3) a_ b_=some ((y0_0,y0_1,y0_2,y0_3),y1)) :
  kA Tryz.prog 185 #[(.agg #[(vi g__0),(g__1h).v,(g__2h).v,(g__3h).v]),(a_h).v,(b_h).v] [Es (List Ty2) g__1 g__1h,Es (List Int) g__2 g__2h,Es (List Int) g__3 g__3h,Es (List Int) a_ a_h,Es (List Int) b_ b_h] [] (fun v Γ'=>∃ z0 z1 z2 z3:Hd,v=(.tuple #[(.agg #[(vi y0_0),(z0).v,(z1).v,(z2).v]),(z3).v])∧Γ'=[E (List Ty2) y0_1 z0,E (List Int) y0_2 z1,E (List Int) y0_3 z2,E (List Int) y1 z3]):=by
 intro w0 S0 fp0 hI hS
 have H:=Cx.start hI hS;dsimp at H
 refine iA (args:=[_,_,_]) gok Tryz.func185 rfl _ rfl rfl rfl ?_
 refine xA H ?_;intro b7 w6 hx H
 refine sA gok rfl H ?_;intro b0 w9 hx H
 refine fld gok rfl rfl rfl rfl (bA (H.bx 1 rfl (j:=0) rfl) ?_)
 obtain ⟨a0,e,f0⟩:=aA hF
 refine nE (α:=Int) gok rfl rfl rfl rfl (xE e) H ?_;intro h0 w1 hx H
 refine sq ?_
 refine nA (H.ro (α:=List Int) 0 rfl).len ?_
 have x0:=(H.ro (α:=List Int) 0 rfl).max
 obtain ⟨r0,e,f1⟩:=aA f0
 refine nB _ a0.length (fun (k0:Nat) (s0:List Int) (_:Unit)=>[(1,(a_h).v),(2,(b_h).v),(3,(vp b7)),(6,(vp b0)),(8,(h0).v),(27,(vi ((a0.length:Nat):Int))),(28,(vi ((k0:Nat):Int)))]) (fun _ (s0:List Int) (_:Unit) w'=>Cx w0 fp0 S0 w' [Es (List Int) a_ a_h,Es (List Int) b_ b_h,Bx b7 [(vi g__0),(g__1h).v,(g__2h).v,(g__3h).v],Es (List Ty2) g__1 g__1h,Es (List Int) g__2 g__2h,Es (List Int) g__3 g__3h,Bx b0 [(vi 0),vn,vn,vn],E (List Int) s0 h0]) a0 () e r7_ (H.sel [6,7,2,3,4,5,1,0] rfl) ?_ ?_
 rintro T0 k0 s0 _ w2 o0 hk (H:Cx w0 fp0 S0 w2 [Es (List Int) a_ a_h,Es (List Int) b_ b_h,Bx b7 [(vi g__0),(g__1h).v,(g__2h).v,(g__3h).v],Es (List Ty2) g__1 g__1h,Es (List Int) g__2 g__2h,Es (List Int) g__3 g__3h,Bx b0 [(vi 0),vn,vn,vn],E (List Int) s0 h0]) f2
 refine jA (z:=true) (cB hk) ?_
 refine sq (sq ?_)
 obtain ⟨a1,i0,f3⟩:=aA f2
 obtain ⟨p0,m0,c0,c1,c2⟩:=(H.ro (α:=List Int) 7 rfl).setp i0
 refine dA c0 c1 c2 ?_
 replace H:=H.sel [7,0,1,2,3,4,5,6] rfl
 refine wC (α:=Int) H c0 c1 i0 ?_;intro w3 H
 refine arK hk x0 ?_
 obtain rfl:=oi_ f3
 exact ⟨(),r7_,H.sel [1,2,3,4,5,6,7,0] rfl⟩
 rintro T1 _ w4 H;try dsimp only at H
 refine jA (z:=false) dB ?_
 refine sq (sq ?_)
 refine nA (H.rs (α:=List Int) 0 rfl).len ?_
 have x1:=(H.rs (α:=List Int) 0 rfl).max
 obtain ⟨r1,e,f4⟩:=aA f1
 refine nB _ a_.length (fun (k1:Nat) (s1:List Int) (_:Unit)=>[(1,(a_h).v),(2,(b_h).v),(3,(vp b7)),(6,(vp b0)),(8,(h0).v),(37,(vi ((a_.length:Nat):Int))),(38,(vi ((k1:Nat):Int)))]) (fun _ (s1:List Int) (_:Unit) w'=>Cx w0 fp0 S0 w' [Es (List Int) a_ a_h,Es (List Int) b_ b_h,Bx b7 [(vi g__0),(g__1h).v,(g__2h).v,(g__3h).v],Es (List Ty2) g__1 g__1h,Es (List Int) g__2 g__2h,Es (List Int) g__3 g__3h,Bx b0 [(vi 0),vn,vn,vn],E (List Int) s1 h0]) r0 () e r7_ (H.sel [0,1,2,3,4,5,6,7] rfl) ?_ ?_
 rintro T2 k1 s1 _ w5 o1 hk (H:Cx w0 fp0 S0 w5 [Es (List Int) a_ a_h,Es (List Int) b_ b_h,Bx b7 [(vi g__0),(g__1h).v,(g__2h).v,(g__3h).v],Es (List Ty2) g__1 g__1h,Es (List Int) g__2 g__2h,Es (List Int) g__3 g__3h,Bx b0 [(vi 0),vn,vn,vn],E (List Int) s1 h0]) f5
 refine jA (z:=true) (cB hk) ?_
 refine sq (sq ?_)
 refine kB H [] (.fst 0 (.fst 1 (.fst 2 (.fst 3 (.fst 7 (.fst 8 (.fst 9 (.fst 10 (.fst 4 (.fst 5 (.fst 6 (.fst 14 (.fst 11 (.fst 12 (.fst 13 (.fst 15 .done)))))))))))))))) bB [] trivial (by kernel_rfl) ?_
 intro w7 H
 have hX:Ext w7 w7:=Upd.refl _ _
 obtain ⟨a2,e,f6⟩:=aA f5
 obtain ⟨p1,m1,c3,c4,c5,c6⟩:=(H.rs (α:=List Int) 0 rfl).at1 e
 refine dA c3 c4 c5 ?_
 obtain ⟨a3,e,f7⟩:=aA f6
 obtain ⟨p2,m2,c7,c8,c9,c10⟩:=(H.rs (α:=List Int) 1 rfl).at1 e
 refine dA c7 c8 c9 ?_
 refine gA c6 ?_
 obtain ⟨a4,e,f8⟩:=aA f7
 obtain ⟨p3,m3,c11,c12,c13,c14⟩:=(H.ro (α:=List Int) 7 rfl).at1 e
 refine dA c11 c12 c13 ?_
 refine gA c14 ?_
 refine gA c10 ?_
 obtain ⟨a5,e,f9⟩:=aA f8
 obtain ⟨p4,m4,c15,c16,c17,c18⟩:=(H.ro (α:=List Int) 7 rfl).at1 e
 refine dA c15 c16 c17 ?_
 refine gA c18 ?_
 refine nA (H.ro (α:=List Int) 7 rfl).len ?_
 have x2:=(H.ro (α:=List Int) 7 rfl).max
 obtain ⟨r2,e,f10⟩:=aA f9
 refine nB _ s1.length (fun (k2:Nat) (s2:List Int) (_:Unit)=>[(1,(a_h).v),(2,(b_h).v),(3,(vp b7)),(6,(vp b0)),(8,(h0).v),(11,(vi a4)),(12,(vi a5)),(37,(vi ((a_.length:Nat):Int))),(38,(vi ((k1:Nat):Int))),(56,(vi ((s1.length:Nat):Int))),(57,(vi ((k2:Nat):Int)))]) (fun _ (s2:List Int) (_:Unit) w'=>Cx w0 fp0 S0 w' [Es (List Int) a_ a_h,Es (List Int) b_ b_h,Bx b7 [(vi g__0),(g__1h).v,(g__2h).v,(g__3h).v],Es (List Ty2) g__1 g__1h,Es (List Int) g__2 g__2h,Es (List Int) g__3 g__3h,Bx b0 [(vi 0),vn,vn,vn],E (List Int) s2 h0]) s1 () e r11_ (H.sel [0,1,2,3,4,5,6,7] rfl) ?_ ?_
 rintro T3 k2 s2 _ w8 o2 hk (H:Cx w0 fp0 S0 w8 [Es (List Int) a_ a_h,Es (List Int) b_ b_h,Bx b7 [(vi g__0),(g__1h).v,(g__2h).v,(g__3h).v],Es (List Ty2) g__1 g__1h,Es (List Int) g__2 g__2h,Es (List Int) g__3 g__3h,Bx b0 [(vi 0),vn,vn,vn],E (List Int) s2 h0]) f11
 refine jA (z:=true) (cB hk) ?_
 refine sq (sq ?_)
 refine kB H [] (.fst 0 (.fst 1 (.fst 2 (.fst 4 (.fst 5 (.fst 3 (.act 6 (.fst 7 .done)))))))) bB [] trivial (by kernel_rfl) ?_
 intro w10 H
 have hX:Ext w10 w10:=Upd.refl _ _
 obtain ⟨a6,e,f12⟩:=aA f11
 obtain ⟨p5,m5,c19,c20,c21,c22⟩:=(H.ro (α:=List Int) 7 rfl).at1 e
 refine dA c19 c20 c21 ?_
 refine gA c22 ?_
 obtain ⟨y0,i1,f13⟩:=aA f12
 refine eA (Gx_ i1) H trivial ?_
 rintro _ _ w11 ⟨rfl,rfl⟩ hx H
 refine hold_ hX hx fun hX=>?_
 refine boolB_ f13 (fun f15=>?_) fun f16=>?_
 refine arK hk x2 ?_
 obtain rfl:=oi_ f15
 exact ⟨(),r11_,H.sel [0,1,2,3,4,5,6,7] rfl⟩
 obtain ⟨y2,i2,f17⟩:=aA f16
 refine callF0_ (Gd_ i2) H trivial ?_
 rintro _ _ w12 ⟨rfl,rfl⟩ H
 obtain ⟨a8,i3,f18⟩:=aA f17
 obtain ⟨p6,m6,c23,c24,c25⟩:=(H.ro (α:=List Int) 7 rfl).setp i3
 refine dA c23 c24 c25 ?_
 replace H:=H.sel [7,0,1,2,3,4,5,6] rfl
 refine wC (α:=Int) H c23 c24 i3 ?_;intro w13 H
 refine arK hk x2 ?_
 obtain rfl:=oi_ f18
 exact ⟨(),r11_,H.sel [1,2,3,4,5,6,7,0] rfl⟩
 rintro T4 _ w15 H;try dsimp only at H
 refine jA (z:=false) dB ?_
 refine sq ?_
 refine arK hk x1 ?_
 obtain rfl:=oi_ f10
 exact ⟨(),r7_,H.sel [0,1,2,3,4,5,6,7] rfl⟩
 rintro T5 _ w16 H;try dsimp only at H
 refine jA (z:=false) dB ?_
 refine sq ?_
 refine cA [(vi g__0),(g__1h).v,(g__2h).v,(g__3h).v] rfl (H.bz_ 2 rfl) ?_
 obtain ⟨⟨y3_0,y3_1⟩,i4,f19⟩:=aA f4
 refine callF0_ (Cd_ i4) H ⟨Vw.sh 3 rfl,Vw.sh 4 rfl,Vw.sh 5 rfl,trivial⟩ ?_
 rintro _ _ w17 ⟨h1,h2,rfl,rfl⟩ H
 refine fld gok rfl rfl rfl rfl (bA (H.bx 4 rfl (j:=0) rfl) ?_)
 obtain ⟨a9,e,f20⟩:=aA f19
 refine nE (α:=Bool) gok rfl rfl rfl rfl (xE e) H ?_;intro h3 w18 hx H
 refine sq ?_
 refine nA (H.ro (α:=List Int) 10 rfl).len ?_
 have x3:=(H.ro (α:=List Int) 10 rfl).max
 obtain ⟨r3,e,f21⟩:=aA f20
 refine nB _ r1.length (fun (k3:Nat) (s3:List Bool) (_:Unit)=>[(3,(vp b7)),(6,(vp b0)),(8,(h0).v),(14,(h1).v),(15,(h2).v),(16,(h3).v),(84,(h0).v),(85,(vi ((r1.length:Nat):Int))),(86,(vi ((k3:Nat):Int)))]) (fun _ (s3:List Bool) (_:Unit) w'=>Cx w0 fp0 S0 w' [Bx b7 [(vi g__0),(g__1h).v,(g__2h).v,(g__3h).v],Es (List Ty2) g__1 g__1h,Es (List Int) g__2 g__2h,Es (List Int) g__3 g__3h,Bx b0 [(vi 0),vn,vn,vn],E (List Int) r1 h0,E (List Int) y3_0 h1,E (List Int) y3_1 h2,E (List Bool) s3 h3]) a9 () e r9_ (H.sel [5,6,7,8,9,10,1,2,0] rfl) ?_ ?_
 rintro T6 k3 s3 _ w19 o3 hk (H:Cx w0 fp0 S0 w19 [Bx b7 [(vi g__0),(g__1h).v,(g__2h).v,(g__3h).v],Es (List Ty2) g__1 g__1h,Es (List Int) g__2 g__2h,Es (List Int) g__3 g__3h,Bx b0 [(vi 0),vn,vn,vn],E (List Int) r1 h0,E (List Int) y3_0 h1,E (List Int) y3_1 h2,E (List Bool) s3 h3]) f22
 refine jA (z:=true) (cB hk) ?_
 refine sq (sq ?_)
 obtain ⟨a10,e,f23⟩:=aA f22
 obtain ⟨p7,m7,c26,c27,c28,c29⟩:=(H.ro (α:=List Int) 5 rfl).at1 e
 refine dA c26 c27 c28 ?_
 refine bA c29 ?_
 refine kB H [] (.fst 0 (.fst 1 (.fst 2 (.fst 4 (.fst 5 (.fst 6 (.fst 3 (.fst 7 (.fst 8 (.fst 9 .done)))))))))) bB [] trivial (by kernel_rfl) ?_
 intro w20 H
 have hX:Ext w20 w20:=Upd.refl _ _
 obtain ⟨a11,e,f24⟩:=aA f23
 obtain ⟨p8,m8,c30,c31,c32,c33⟩:=(H.ro (α:=List Int) 6 rfl).at1 e
 refine dA c30 c31 c32 ?_
 obtain ⟨a13,e,f25⟩:=aA f24
 obtain ⟨p9,m9,c34,c35,c36,c37⟩:=(H.ro (α:=List Int) 7 rfl).at1 e
 refine dA c34 c35 c36 ?_
 refine gA c33 ?_
 refine gA c37 ?_
 obtain ⟨a14,e,f26⟩:=aA f25
 refine arO e ?_
 refine boolB_ f26 (fun f28=>?_) fun f29=>?_
 refine arK hk x3 ?_
 obtain rfl:=oi_ f28
 exact ⟨(),r9_,H.sel [0,1,2,3,4,5,6,7,8] rfl⟩
 obtain ⟨a16,i5,f30⟩:=aA f29
 obtain ⟨p10,m10,c38,c39,c40⟩:=(H.ro (α:=List Bool) 8 rfl).setp i5
 refine dA c38 c39 c40 ?_
 replace H:=H.sel [8,0,1,2,3,4,5,6,7] rfl
 refine wC (α:=Bool) H c38 c39 i5 ?_;intro w21 H
 refine arK hk x3 ?_
 obtain rfl:=oi_ f30
 exact ⟨(),r9_,H.sel [1,2,3,4,5,6,7,8,0] rfl⟩
 rintro T7 _ w22 H;try dsimp only at H
 refine jA (z:=false) dB ?_
 refine sq ?_
 refine fld gok rfl rfl rfl rfl (bA (H.bx 0 rfl (j:=0) rfl) ?_)
 obtain ⟨a17,e,f31⟩:=aA f21
 refine nE (α:=Int) gok rfl rfl rfl rfl (xE e) H ?_;intro h4 w23 hx H
 refine sq ?_
 refine nA (H.ro (α:=List Int) 0 rfl).len ?_
 have x4:=(H.ro (α:=List Int) 0 rfl).max
 obtain ⟨r4,e,f32⟩:=aA f31
 refine nB _ a17.length (fun (k4:Nat) (s4:List Int×Int) (_:Unit)=>[(3,(vp b7)),(6,(vp b0)),(8,(h0).v),(16,(h3).v),(19,(h4).v),(20,(vi s4.2)),(109,(vi ((a17.length:Nat):Int))),(110,(vi ((k4:Nat):Int)))]) (fun _ (s4:List Int×Int) (_:Unit) w'=>Cx w0 fp0 S0 w' [Bx b7 [(vi g__0),(g__1h).v,(g__2h).v,(g__3h).v],Es (List Ty2) g__1 g__1h,Es (List Int) g__2 g__2h,Es (List Int) g__3 g__3h,Bx b0 [(vi 0),vn,vn,vn],E (List Int) r1 h0,E (List Bool) r3 h3,E (List Int) s4.1 h4]) (a17,0) () e r8_ (H.sel [1,2,3,4,5,6,9,0] rfl) ?_ ?_
 rintro T8 k4 ⟨s4_0,s4_1⟩ _ w24 o4 hk (H:Cx w0 fp0 S0 w24 [Bx b7 [(vi g__0),(g__1h).v,(g__2h).v,(g__3h).v],Es (List Ty2) g__1 g__1h,Es (List Int) g__2 g__2h,Es (List Int) g__3 g__3h,Bx b0 [(vi 0),vn,vn,vn],E (List Int) r1 h0,E (List Bool) r3 h3,E (List Int) s4_0 h4]) f33
 refine jA (z:=true) (cB hk) ?_
 refine sq (sq ?_)
 obtain ⟨r5,f34,f35⟩:=aA f33
 refine cut (fun (q0:Bool)=>[(3,(vp b7)),(6,(vp b0)),(8,(h0).v),(16,(h3).v),(19,(h4).v),(20,(vi s4_1)),(21,(vi ((k4:Nat):Int))),(109,(vi ((a17.length:Nat):Int))),(110,(vi ((k4:Nat):Int))),(124,(.bool q0))]) (fun (q0:Bool) w'=>q0=r5∧Cx w0 fp0 S0 w' [Bx b7 [(vi g__0),(g__1h).v,(g__2h).v,(g__3h).v],Es (List Ty2) g__1 g__1h,Es (List Int) g__2 g__2h,Es (List Int) g__3 g__3h,Bx b0 [(vi 0),vn,vn,vn],E (List Int) r1 h0,E (List Bool) r3 h3,E (List Int) s4_0 h4]) ?_ ?_
 obtain ⟨a18,e,f36⟩:=aA f34
 obtain ⟨p11,m11,c41,c42,c43,c44⟩:=(H.ro (α:=List Int) 5 rfl).at1 e
 refine dA c41 c42 c43 ?_
 refine bA c44 ?_
 refine boolB_ f36 (fun f38=>?_) fun f39=>?_
 exact ⟨false,r10_,oi_ f38,H.sel [0,1,2,3,4,5,6,7] rfl⟩
 obtain ⟨a20,e,f40⟩:=aA f39
 obtain ⟨p12,m12,c45,c46,c47,c48⟩:=(H.ro (α:=List Bool) 6 rfl).at1 e
 refine dA c45 c46 c47 ?_
 refine bA c48 ?_
 exact ⟨a20,r10_,oi_ f40,H.sel [0,1,2,3,4,5,6,7] rfl⟩
 rintro T9 s5 w25 ⟨hr,H⟩;try dsimp only at H
 subst hr
 cases s5
 have f41:=fB f35
 refine arK hk x4 ?_
 obtain rfl:=oi_ f41
 exact ⟨(),r8_,H.sel [0,1,2,3,4,5,6,7] rfl⟩
 have f42:=eB f35
 obtain ⟨a21,i6,f43⟩:=aA f42
 obtain ⟨p13,m13,c52,c53,c54⟩:=(H.ro (α:=List Int) 7 rfl).setp i6
 refine dA c52 c53 c54 ?_
 replace H:=H.sel [7,0,1,2,3,4,5,6] rfl
 refine wC (α:=Int) H c52 c53 i6 ?_;intro w26 H
 obtain ⟨a22,e,f44⟩:=aA f43
 refine arO e ?_
 refine arK hk x4 ?_
 obtain rfl:=oi_ f44
 exact ⟨(),r8_,H.sel [1,2,3,4,5,6,7,0] rfl⟩
 obtain ⟨s6_0,s6_1⟩:=r4
 rintro T10 _ w27 H;try dsimp only at H
 refine jA (z:=false) dB ?_
 refine sq (sq ?_)
 refine nA (H.ro (α:=List Int) 7 rfl).len ?_
 have x5:=(H.ro (α:=List Int) 7 rfl).max
 obtain ⟨r6,e,f45⟩:=aA f32
 refine nB _ s6_0.length (fun (k5:Nat) (s7:List Int) (_:Unit)=>[(3,(vp b7)),(6,(vp b0)),(8,(h0).v),(16,(h3).v),(19,(h4).v),(20,(vi s6_1)),(133,(vi ((s6_0.length:Nat):Int))),(134,(vi ((k5:Nat):Int)))]) (fun _ (s7:List Int) (_:Unit) w'=>Cx w0 fp0 S0 w' [Bx b7 [(vi g__0),(g__1h).v,(g__2h).v,(g__3h).v],Es (List Ty2) g__1 g__1h,Es (List Int) g__2 g__2h,Es (List Int) g__3 g__3h,Bx b0 [(vi 0),vn,vn,vn],E (List Int) r1 h0,E (List Bool) r3 h3,E (List Int) s7 h4]) s6_0 () e r8_ (H.sel [0,1,2,3,4,5,6,7] rfl) ?_ ?_
 rintro T11 k5 s7 _ w28 o5 hk (H:Cx w0 fp0 S0 w28 [Bx b7 [(vi g__0),(g__1h).v,(g__2h).v,(g__3h).v],Es (List Ty2) g__1 g__1h,Es (List Int) g__2 g__2h,Es (List Int) g__3 g__3h,Bx b0 [(vi 0),vn,vn,vn],E (List Int) r1 h0,E (List Bool) r3 h3,E (List Int) s7 h4]) f46
 refine jA (z:=true) (cB hk) ?_
 refine sq (sq ?_)
 obtain ⟨a23,e,f47⟩:=aA f46
 obtain ⟨p14,m14,c55,c56,c57,c58⟩:=(H.ro (α:=List Int) 5 rfl).at1 e
 refine dA c55 c56 c57 ?_
 refine bA c58 ?_
 obtain ⟨a24,e,f48⟩:=aA f47
 obtain ⟨p15,m15,c59,c60,c61,c62⟩:=(H.ro (α:=List Int) 7 rfl).at1 e
 refine dA c59 c60 c61 ?_
 refine bA c62 ?_
 obtain ⟨a25,i7,f49⟩:=aA f48
 obtain ⟨p16,m16,c63,c64,c65⟩:=(H.ro (α:=List Int) 7 rfl).setp i7
 refine dA c63 c64 c65 ?_
 replace H:=H.sel [7,0,1,2,3,4,5,6] rfl
 refine wC (α:=Int) H c63 c64 i7 ?_;intro w29 H
 obtain ⟨a26,e,f50⟩:=aA f49
 obtain ⟨p17,m17,c66,c67,c68,c69⟩:=(H.ro (α:=List Int) 6 rfl).at1 e
 refine dA c66 c67 c68 ?_
 refine bA c69 ?_
 obtain ⟨a27,e,f51⟩:=aA f50
 obtain ⟨p18,m18,c70,c71,c72,c73⟩:=(H.ro (α:=List Bool) 7 rfl).at1 e
 refine dA c70 c71 c72 ?_
 refine bA c73 ?_
 refine boolB_ f51 (fun f53=>?_) fun f54=>?_
 refine arK hk x5 ?_
 obtain rfl:=oi_ f53
 exact ⟨(),r8_,H.sel [1,2,3,4,5,6,7,0] rfl⟩
 obtain ⟨a29,i8,f55⟩:=aA f54
 obtain ⟨p19,m19,c74,c75,c76⟩:=(H.ro (α:=List Int) 0 rfl).setp i8
 refine dA c74 c75 c76 ?_
 refine wC (α:=Int) H c74 c75 i8 ?_;intro w30 H
 refine arK hk x5 ?_
 obtain rfl:=oi_ f55
 exact ⟨(),r8_,H.sel [1,2,3,4,5,6,7,0] rfl⟩
 rintro T12 _ w31 H;try dsimp only at H
 refine jA (z:=false) dB ?_
 refine sq ?_
 refine cA [(vi g__0),(g__1h).v,(g__2h).v,(g__3h).v] rfl (H.bz_ 0 rfl) ?_
 obtain ⟨⟨y4_0,y4_1,y4_2,y4_3⟩,i9,f56⟩:=aA f45
 refine callF0_ (Ah_ i9) H ⟨Vw.sh 1 rfl,Vw.sh 2 rfl,Vw.sh 3 rfl,Vw.own 7 rfl,trivial⟩ ?_
 rintro _ _ w32 ⟨h5,h6,h7,rfl,rfl⟩ H
 refine stA gok [(vi y4_0),(h5).v,(h6).v,(h7).v] rfl (H.sel [7,0,1,2,3,4,5,6,8,9,10] rfl) rfl rfl rfl ?_;intro w33 H
 refine cA [(vi y4_0),(h5).v,(h6).v,(h7).v] rfl (H.bz_ 0 rfl) ?_
 cases f56
 exact ⟨_,_,rfl,⟨h5,h6,h7,h4,rfl,rfl⟩,(H.sel [1,2,3,10] rfl).close ⟨cloE,cloE,cloE,cloE,trivial⟩⟩
end Go.Proofs.YtlggnmkelgplnaaGreatDoor
