/-
 Contracts, printed by a program (wip/y/gen.py): each function of Go computes its partial function. Condition of each: its partial function yields a value.
-/
import Derived.Test.YtodfjigndedehaaGreatDoorZCall4
namespace Go.Proofs.YtodfjigndedehaaGreatDoor
open Go Go.Proofs.YtodfjigndedehaaGreatDoor.RW
set_option maxRecDepth 100000
set_option maxHeartbeats 1000000
set_option linter.unusedVariables false
theorem HA_ {p_ c d:Int}{h:List X}{a:Hd}{f g:Int}{k:List X}{b:Hd}{l m:Int}{n:List X} (hF:eQ p_ (c,d,h) (f,g,k)=some (l,m,n)) :
  cA Tryz.prog 52 #[(vi p_),(.agg #[(vi c),(vi d),(a).v]),(.agg #[(vi f),(vi g),(b).v])] [Es (List X) h a,Es (List X) k b] [] (fun v Γ'=>∃ z0:Hd,v=(.agg #[(vi l),(vi m),(z0).v])∧Γ'=[E (List X) n z0]):=by
 refine Ze (args:=[_,_,_]) gok Tryz.func52 Q _ Q Q Q fun w0 S0 fp0 H=>xA H fun b4 w3 hx H=>xA H fun b7 w6 hx H=>yA gok Q H fun b0 w9 hx H=>Zn (H.bz_ 2 Q) Q (bO hF fun y0 i0 f0=>have H:=H.s [2,1,0,3,4];Zd1 (F0_ i0) (Γi:=[Bx b4 [(vi c),(vi d),(a).v],Bx b7 [(vi f),(vi g),(b).v]]) H ⟨Vw.sh 1 Q,Vw.sh 1 Q,Vw.sh 2 Q,U⟩ fun h0 w1 H=>Zn (H.bz_ 1 Q) Q (Zc1 f0 FZ_ (Γi:=[Bx b4 [(vi c),(vi d),(a).v],Bx b7 [(vi f),(vi g),(b).v]]) H ⟨Vw.sh 3 Q,Vw.sh 2 Q,Vw.sh 3 Q,U⟩ fun y1 f1 h1 w2 H=>bO f1 fun a0 e f2=>append_ (α:=X) gok Q Q Q Q (H.s [3,2,0,1,4,5,6]) e fun h2 w4 H=>fld gok Q Q Q Q (aA (H.b 1 0 Q Q) ?_)));refine fld gok Q Q Q Q (aA (H.b 2 0 Q Q) (bO f2 fun a1 e f3=>arO e (fld gok Q Q Q Q (aA (H.b 1 1 Q Q) (fld gok Q Q Q Q (aA (H.b 2 1 Q Q) (bO f3 fun a2 e f4=>arO e (bO f4 fun ⟨o,p,q⟩ i2 f5=>gH (rN i2) H ⟨Vw.own 0 Q,U⟩ fun h3 w5 H=>stA gok _ Q (H.s [4,0,1,2,3,5,6]) Q Q Q fun w7 H=>Zn (H.bz_ 0 Q) Q ?_))))))));cases f5;exact ⟨_,_,Q,⟨h3,Q,Q⟩,(H.s [1]).close ⟨cloE,U⟩⟩
theorem F7_ {n_ a b:Int}{c:List X} (hF:BY_ n_=some (a,b,c)) :
  cA Tryz.prog 87 #[(vi n_)] [] [] (fun v Γ'=>∃ z0:Hd,v=(.agg #[(vi a),(vi b),(z0).v])∧Γ'=[E (List X) c z0]):=by
 refine Ze (args:=[_]) gok Tryz.func87 Q _ Q Q Q fun w0 S0 fp0 H=>yA gok Q H fun b2 w1 hx H=>kB (cs:=#[(vi n_),(vi n_),vn]) gok Q Q Q (yA gok Q H fun b5 w4 hx H=>stA gok _ Q H Q Q Q fun w7 H=>sq (bO hF fun a0 hn74 f0=>bO f0 fun r0 e f1=>have H:=H.nil (α:=X);cB _ n_.toNat (fun (k8:Nat) (s0:List X) (g0:Hd)=>[(0,(vi n_)),(2,(vp b2)),(3,(vp b5)),(8,(vi n_)),(9,(vi ((k8:Nat):Int)))]) (fun _ (s0:List X) (g0:Hd) w'=>Cx w0 fp0 S0 w' [Bx b2 [(vi 0),(vi 0),vn],Bx b5 [(vi n_),(vi n_),(g0).v],E (List X) s0 g0]) [] nilH e r5_ (H.s [2,1,0]) ?_ ?_));rintro T0 k8 s0 g0 w2 o0 hk H f2;refine bA (z:=true) (lX hk) (sq (sq ?_))
 refine mB H [11,13,12] (.fst 0 (.fst 2 (.fst 3 (.fst 5 (.fst 6 (.fst 1 (.act 4 (.act 7 (.act 8 (.act 9 (.act 10 (.act 11 (.act 12 (.act 13 .done)))))))))))))) eB [] U (by kernel_rfl) ?_;intro w3 H
 have hX:Ext w3 w3:=Upd.refl _ _;refine mA (fun _=>fld gok Q Q Q Q ⟨Q,Q⟩) (jA (H.b 1 2 Q Q) (bO f2 fun y0 i0 f3=>qA (@Ar_ n_ ((k8:Nat):Int) y0 i0) H U ?_));rintro _ _ w5 ⟨h0,rfl,rfl⟩ hx H;refine hold_ hX hx fun hX=>(bO f3 fun y1 i1 f4=>qA (@Ar_ n_ ((k8:Nat):Int) y1 i1) H U ?_);rintro _ _ w6 ⟨h1,rfl,rfl⟩ hx H;refine hold_ hX hx fun hX=>(gA (α:=X) (us:=[(h0).v,(h1).v]) (xs:=[y0,y1]) (gs:=([h0,h1]:List Hd)) gok Q Q Q ⟨Q,Q,U⟩ Q Q (H.s [1,0,2,3,4]) fun h2 w8 hx H=>hold_ hX hx fun hX=>(bO f4 fun y2 i2 f5=>qA (@nI [y0,y1] h2 y2 i2) H ⟨Vw.own 0 Q,U⟩ ?_));rintro _ _ w9 ⟨h3,rfl,rfl⟩ hx H;refine hold_ hX hx fun hX=>(jC (α:=X) (g:=h3) gok Q Q Q Q Q H fun h4 w10 hx H=>hold_ hX hx fun hX=>(bO f5 fun a1 e f6=>append_ (α:=X) gok Q Q Q Q (H.s [4,0,1,2,3]) e fun h5 w11 H=>hold U (fld gok Q Q Q Q (hold U (stB (j:=2) (H.s [3,0,1,2]) Q Q fun w12 H=>hold U (arK hk (maxI hn74) ?_))))));obtain rfl:=oi_ f6;exact ⟨h5,r5_,H.s [3,0,1]⟩;rintro T1 g1 w13 H;refine bA (z:=false) pX (sq (Zn (H.bz_ 1 Q) Q (stA gok _ Q H Q Q Q fun w14 H=>Zn (H.bz_ 0 Q) Q ?_)));cases f1;exact ⟨_,_,Q,⟨g1,Q,Q⟩,(H.s [2]).close ⟨cloE,U⟩⟩
theorem B8_ {a y:Int} (hF:yS a=some y) :
  cA Tryz.prog 89 #[(vi a)] [] [] (fun v Γ'=>v=(vi y)∧Γ'=[]):=by
 refine Ze (args:=[_]) gok Tryz.func89 Q _ Q Q Q fun w0 S0 fp0 H=>sq (Zc00 hF pJ H U fun y1 hF2 w3 H=>?_);cases y1;refine have hF4:=uB hF2;Zc00 hF4 pJ H U fun y5 hF6 w7 H=>?_;cases y5;have hF8:=uB hF6;cases hF8;exact ⟨_,_,Q,⟨Q,Q⟩,(H.s []).close U⟩;refine have hF9:=tB hF6;bO hF9 fun a0 e f0=>arO e (bO f0 fun a1 e f1=>arO e ?_);cases f1;exact ⟨_,_,Q,⟨Q,Q⟩,(H.s []).close U⟩;refine have f2:=tB hF2;bO f2 fun a2 e f3=>arO e (bO f3 fun a3 e f4=>arO e ?_);cases f4;exact ⟨_,_,Q,⟨Q,Q⟩,(H.s []).close U⟩
theorem BZ_ {b a:Int}{y:List X} (hF:sS b a=some y) :
  cA Tryz.prog 91 #[(vi b),(vi a)] [] [] (fun v Γ'=>∃ z0:Hd,v=(z0).v∧Γ'=[E (List X) y z0]):=by
 refine Ze (args:=[_,_]) gok Tryz.func91 Q _ Q Q Q fun w0 S0 fp0 H=>sq (boolB_ hF (fun hF3=>?_) fun f5=>?_);refine boolB_ hF3 (fun hF6=>?_) fun f4=>?_;refine boolB_ hF6 (fun hF9=>?_) fun f3=>?_;refine boolB_ hF9 (fun f1=>?_) fun f2=>?_;replace H:=H.nil (α:=X);cases f1;exact ⟨_,_,Q,⟨nilH,Q,Q⟩,(H.s [0]).close ⟨cloE,U⟩⟩;refine gA (α:=Int) (us:=[(vi 1),(vi a)]) (xs:=[1,a]) (gs:=[(),()]) gok Q Q Q ⟨Q,Q,U⟩ Q Q ((H.sc (α:=Int) a).sc (α:=Int) 1) fun h0 w1 hx H=>jC (α:=X) (g:=h0) gok Q Q Q Q Q H fun h1 w2 hx H=>?_;cases f2;exact ⟨_,_,Q,⟨h1,Q,Q⟩,(H.s [0]).close ⟨cloE,U⟩⟩;refine gA (α:=Int) (us:=[(vi 1),(vi 0),(vi 1)]) (xs:=[1,0,1]) (gs:=[(),(),()]) gok Q Q Q r3_ Q Q (((H.sc (α:=Int) 1).sc (α:=Int) 0).sc (α:=Int) 1) fun h2 w3 hx H=>gA (α:=Int) (us:=[(vi 0),(vi 1),(vi 1)]) (xs:=[0,1,1]) (gs:=[(),(),()]) gok Q Q Q r3_ Q Q (((H.sc (α:=Int) 1).sc (α:=Int) 1).sc (α:=Int) 0) fun h3 w4 hx H=>gA (α:=X) (us:=[(h2).v,(h3).v]) (xs:=[[1,0,1],[0,1,1]]) (gs:=([h2,h3]:List Hd)) gok Q Q Q ⟨Q,Q,U⟩ Q Q (H.s [1,0]) fun h4 w5 hx H=>?_;cases f3;exact ⟨_,_,Q,⟨h4,Q,Q⟩,(H.s [0]).close ⟨cloE,U⟩⟩;refine aB (α:=Int) gok Q Q Q Q H fun h5 w6 hx H=>jC (α:=X) (g:=h5) gok Q Q Q Q Q H fun h6 w7 hx H=>?_;cases f4;exact ⟨_,_,Q,⟨h6,Q,Q⟩,(H.s [0]).close ⟨cloE,U⟩⟩;refine gA (α:=Int) (us:=[(vi 1),(vi 1),(vi 1)]) (xs:=[1,1,1]) (gs:=[(),(),()]) gok Q Q Q r3_ Q Q (((H.sc (α:=Int) 1).sc (α:=Int) 1).sc (α:=Int) 1) fun h7 w8 hx H=>jC (α:=X) (g:=h7) gok Q Q Q Q Q H fun h8 w9 hx H=>?_;cases f5;exact ⟨_,_,Q,⟨h8,Q,Q⟩,(H.s [0]).close ⟨cloE,U⟩⟩
theorem GG_ {f:X}{d:Hd}{c0_b:Nat}{b c:Int}{e:List X}{a:Hd}{y:X} (hF:B9_ f (b,c,e)=some y) :
  cA Tryz.prog 119 #[(d).v,(vp c0_b)] [Es X f d,Gl c0_b [(vi b),(vi c),(a).v],Es (List X) e a] [] (fun v Γ'=>∃ z0:Hd,v=(z0).v∧Γ'=[E X y z0]):=by
 refine Ze (args:=[_,_]) gok Tryz.func119 Q _ Q Q Q ?_;intro w0 S0 fp0 H
 refine mB H [] (.fst 1 (.fst 4 (.fst 0 (.fst 3 (.act 2 (.act 5 (.act 6 (.act 7 (.fst 8 .done))))))))) eB [] U (by kernel_rfl) ?_;intro w4 H
 have hX:Ext w4 w4:=Upd.refl _ _;refine pF [(vi b),(vi c),(a).v] Q (fun j u hj=>H.glx 1 Q hj) (pF [(vi b),(vi c),(a).v] Q (fun j u hj=>H.glx 1 Q hj) (bO hF fun y5 ey5 hF6=>pH (nS ey5) H [2,0] Q (pA iA (pA iA zA)) ?_));rintro _ _ w7 ⟨h8,rfl,rfl⟩ hx H;refine hold_ hX hx fun hX=>(bO hF6 fun y0 i0 f0=>pH (rS i0) H [3,1] Q (pA iA (pA iA zA)) ?_);rintro _ _ w1 ⟨h0,rfl,rfl⟩ hx H;refine hold_ hX hx fun hX=>(gA (α:=Sh X) (us:=[(h8).v,(h0).v]) (xs:=[y5,y0]) (gs:=([h8,h0]:List Hd)) gok Q Q Q ⟨Q,Q,U⟩ Q Q ((H.dup 0 Q iA).dup 2 Q iA) fun h1 w2 hx H=>hold_ hX hx fun hX=>(bO f0 fun y1 i1 f1=>qA (@nI [y5,y0] h1 y1 i1) H ⟨Vw.part (β:=List X) (Vw.own (α:=List (Sh X)) 0 Q) [y5,y0] h1 (fun S h=>h),U⟩ ?_));rintro _ _ w3 ⟨h2,rfl,rfl⟩ hx H;refine hold_ hX hx fun hX=>?_;cases f1;exact ⟨_,_,Q,⟨h2,Q,Q⟩,(H.s [0]).close ⟨cloE,U⟩⟩
theorem FY_ {i k:Int}{c:List X}{b:Hd}{d0_b:Nat}{d f:Int}{h:List X}{a:Hd}{y:List X} (hF:sX (i,k,c) (d,f,h)=some y) :
  cA Tryz.prog 76 #[(.agg #[(vi i),(vi k),(b).v]),(.func (.func 119) #[] #[(vp d0_b)])] [Es (List X) c b,Gl d0_b [(vi d),(vi f),(a).v],Es (List X) h a] [] (fun v Γ'=>∃ z0:Hd,v=(z0).v∧Γ'=[E (List X) y z0]):=by
 refine Ze (args:=[_,_]) gok Tryz.func76 Q _ Q Q Q fun w0 S0 fp0 H=>xA H fun b5 w4 hx H=>tF (α:=X) gok Q Q H fun h8 w7 hx H=>sq (fld gok Q Q Q Q (aA (H.b 1 2 Q Q) (eA (H.rs (α:=List X) 2 Q).len (have x0:=(H.rs (α:=List X) 2 Q).max;bO hF fun r0 e f0=>cB _ c.length (fun (k0:Nat) (s0:List X) (g0:Hd)=>[(1,(.func (.func 119) #[] #[(vp d0_b)])),(5,(g0).v),(10,(b).v),(11,(vi ((c.length:Nat):Int))),(12,(vi ((k0:Nat):Int)))]) (fun _ (s0:List X) (g0:Hd) w'=>Cx w0 fp0 S0 w' [Gl d0_b [(vi d),(vi f),(a).v],Es (List X) h a,E (List X) s0 g0,Es (List X) c b]) ([]:List X) h8 e r5_ (H.s [3,4,0,2]) ?_ ?_))));rintro T0 k0 s0 g0 w1 o0 hk H f1;refine bA (z:=true) (uA hk) (sq (sq ?_));refine bO f1 fun a0 e f2=>Zz (H.elL 3 Q e) fun p0 m0 h0 c0 c1 c2 c3 H=>dA c0 c1 c2 (aA c3 (kD f2 GG_ H ⟨Vw.sh 0 Q,Vw.gl 1 Q,Vw.sh 2 Q,U⟩ fun y0 f3 h1 w2 H=>jC (α:=X) (g:=h1) gok Q Q Q Q Q H fun h2 w3 hx H=>bO f3 fun a1 e f4=>append_ (α:=X) gok Q Q Q Q (H.s [4,0,1,2,3,5]) e fun h3 w5 H=>arK hk x0 ?_));obtain rfl:=oi_ f4;exact ⟨h3,r5_,H.s [2,3,0,4]⟩;rintro T1 g1 w6 H;refine bA (z:=false) vA (sq ?_);cases f0;exact ⟨_,_,Q,⟨g1,Q,Q⟩,(H.s [2]).close ⟨cloE,U⟩⟩
theorem G1_ {p_ b c:Int}{d:List X}{a:Hd}{e f:Int}{g:List X} (hF:oZ p_ (b,c,d)=some (e,f,g)) :
  cA Tryz.prog 90 #[(vi p_),(.agg #[(vi b),(vi c),(a).v])] [Es (List X) d a] [] (fun v Γ'=>∃ z0:Hd,v=(.agg #[(vi e),(vi f),(z0).v])∧Γ'=[E (List X) g z0]):=by
 refine Ze (args:=[_,_]) gok Tryz.func90 Q _ Q Q Q fun w0 S0 fp0 H=>xA H fun b3 w2 hx H=>yA gok Q H fun b6 w5 hx H=>?_
 refine mB H [9] (.fst 0 (.fst 1 (.fst 3 (.fst 2 (.fst 4 (.fst 5 (.act 6 (.act 7 (.act 8 (.act 9 .done)))))))))) eB [] U (by kernel_rfl) ?_;intro w8 H
 have hX:Ext w8 w8:=Upd.refl _ _;refine mA (fun _=>fld gok Q Q Q Q ⟨Q,Q⟩) (mA (fun _=>fld gok Q Q Q Q ⟨Q,Q⟩) (jA (H.b 1 1 Q Q) (jA (H.b 1 0 Q Q) (Zo (H.bz_ 1 Q) Q (hold hX (Zp1 hF FY_ H ⟨Vw.sh 2 Q,Vw.bxg 1 Q,Vw.sh 2 Q,U⟩ fun y9 f0 h0 w1 hx H=>hold_ hX hx fun hX=>(bO f0 fun ⟨h,i,k⟩ i0 f1=>Zq1 (rN i0) H ⟨Vw.own 0 Q,U⟩ fun h1 w3 hx H=>hold_ hX hx fun hX=>(stA gok _ Q (H.s [2,0,1,3,4]) Q Q Q fun w4 H=>hold U (Zn (H.bz_ 0 Q) Q ?_)))))))));cases f1;exact ⟨_,_,Q,⟨h1,Q,Q⟩,(H.s [1]).close ⟨cloE,U⟩⟩
theorem Gn_ {p_ a b:Int}{c:ByteArray}{d e:Int}{f:List X} (hF:iM p_ (a,b,c)=some (d,e,f)) :
  cA Tryz.prog 53 #[(vi p_),(.agg #[(vi a),(vi b),(.string c)])] [] [] (fun v Γ'=>∃ z0:Hd,v=(.agg #[(vi d),(vi e),(z0).v])∧Γ'=[E (List X) f z0]):=by
 refine Ze (args:=[_,_]) gok Tryz.func53 Q _ Q Q Q fun w0 S0 fp0 H=>xA H fun b2 w1 hx H=>yA gok Q H fun b5 w4 hx H=>sq (fld gok Q Q Q Q (aA (H.b 1 0 Q Q) (boolB_ hF (fun hF9=>?_) fun f16=>?_)));refine fld gok Q Q Q Q (aA (H.b 1 0 Q Q) (boolB_ hF9 (fun f1=>?_) fun f14=>?_));refine fld gok Q Q Q Q (aA (H.b 1 0 Q Q) (boolB_ f1 (fun f3=>?_) fun f7=>?_));refine fld gok Q Q Q Q (aA (H.b 1 0 Q Q) (bO f3 fun ⟨n,o⟩ i0 f4=>jJ (qS i0) H U fun w2 H=>yA gok Q H fun b0 w3 hx H=>stA gok _ Q H Q Q Q fun w5 H=>?_))
 refine mB H [11] (.fst 0 (.fst 1 (.fst 3 (.fst 5 (.fst 7 (.fst 2 (.fst 4 (.fst 6 (.fst 8 (.act 9 (.act 10 (.act 11 .done)))))))))))) eB [] U (by kernel_rfl) ?_;intro w6 H
 have hX:Ext w6 w6:=Upd.refl _ _;refine mA (fun _=>fld gok Q Q Q Q ⟨Q,Q⟩) (mA (fun _=>fld gok Q Q Q Q ⟨Q,Q⟩) (mA (fun _=>fld gok Q Q Q Q ⟨Q,Q⟩) (mA (fun _=>fld gok Q Q Q Q ⟨Q,Q⟩) (jA (H.b 0 0 Q Q) (jA (H.b 0 1 Q Q) (jA (H.b 2 0 Q Q) (jA (H.b 2 1 Q Q) (Zp1 f4 BZ_ H U fun y1 f5 h0 w7 hx H=>hold_ hX hx fun hX=>(bO f5 fun ⟨p,q,r⟩ i2 f6=>Zq1 (rN i2) H ⟨Vw.own 0 Q,U⟩ fun h1 w8 hx H=>hold_ hX hx fun hX=>(stA gok _ Q (H.s [3,0,1,2,4]) Q Q Q fun w9 H=>?_))))))))));refine hold U (Zn (H.bz_ 0 Q) Q ?_);cases f6;exact ⟨_,_,Q,⟨h1,Q,Q⟩,(H.s [1]).close ⟨cloE,U⟩⟩;refine fld gok Q Q Q Q (aA (H.b 1 0 Q Q) (Zc00 f7 B8_ H U fun y3 f8 w10 H=>bO f8 fun ⟨s,t⟩ i4 f9=>jJ (qS i4) H U fun w11 H=>yA gok Q H fun b1 w12 hx H=>stA gok _ Q H Q Q Q fun w13 H=>?_))
 refine mB H [14] (.fst 0 (.fst 1 (.fst 2 (.fst 4 (.fst 6 (.fst 9 (.fst 3 (.fst 5 (.fst 7 (.fst 10 (.act 8 (.act 11 (.act 12 (.act 13 (.act 14 .done))))))))))))))) eB [] U (by kernel_rfl) ?_;intro w14 H
 have hX:Ext w14 w14:=Upd.refl _ _;refine mA (fun _=>fld gok Q Q Q Q ⟨Q,Q⟩) (mA (fun _=>fld gok Q Q Q Q ⟨Q,Q⟩) (mA (fun _=>fld gok Q Q Q Q ⟨Q,Q⟩) (mA (fun _=>fld gok Q Q Q Q ⟨Q,Q⟩) (jA (H.b 0 0 Q Q) (jA (H.b 0 1 Q Q) (jA (H.b 2 0 Q Q) (jA (H.b 2 1 Q Q) (Zp0 f9 B8_ H U fun y5 f10 w15 hx H=>hold_ hX hx fun hX=>(Zp1 f10 BZ_ H U fun y6 f11 h2 w16 hx H=>hold_ hX hx fun hX=>(bO f11 fun ⟨u,w,x⟩ i7 f12=>Zq1 (rN i7) H ⟨Vw.own 0 Q,U⟩ fun h3 w17 hx H=>?_))))))))));refine hold_ hX hx fun hX=>(bO f12 fun ⟨y,z,aa⟩ i8 f13=>Zq1 (G1_ i8) H ⟨Vw.own 0 Q,U⟩ fun h4 w20 hx H=>hold_ hX hx fun hX=>(stA gok _ Q (H.s [4,0,1,2,3,5]) Q Q Q fun w21 H=>hold U (Zn (H.bz_ 0 Q) Q ?_)));cases f13;exact ⟨_,_,Q,⟨h4,Q,Q⟩,(H.s [1]).close ⟨cloE,U⟩⟩;refine have H:=((H.sc (α:=Int) 1).sc (α:=Int) 0).sc (α:=Int) 0;gA (α:=Int) (us:=[(vi 1),(vi 0),(vi 0),(vi 1)]) (xs:=[1,0,0,1]) (gs:=[(),(),(),()]) gok Q Q Q r4_ Q Q (H.sc (α:=Int) 1) fun h5 w24 hx H=>have H:=((H.sc (α:=Int) 0).sc (α:=Int) 1).sc (α:=Int) 1;gA (α:=Int) (us:=[(vi 0),(vi 1),(vi 1),(vi 0)]) (xs:=[0,1,1,0]) (gs:=[(),(),(),()]) gok Q Q Q r4_ Q Q (H.sc (α:=Int) 0) fun h6 w25 hx H=>gA (α:=X) (us:=[(h5).v,(h6).v]) (xs:=[[1,0,0,1],[0,1,1,0]]) (gs:=([h5,h6]:List Hd)) gok Q Q Q ⟨Q,Q,U⟩ Q Q (H.s [1,0,2,3]) fun h7 w27 hx H=>bO f14 fun ⟨g,h,i⟩ i9 f15=>callF0_ (@rN p_ 2 2 [[1,0,0,1],[0,1,1,0]] h7 g h i i9) H ⟨Vw.own 0 Q,U⟩ ?_;rintro _ _ w28 ⟨h8,rfl,rfl⟩ H;refine stA gok _ Q (H.s [2,0,1,3]) Q Q Q fun w29 H=>Zn (H.bz_ 0 Q) Q ?_;cases f15;exact ⟨_,_,Q,⟨h8,Q,Q⟩,(H.s [1]).close ⟨cloE,U⟩⟩;refine fld gok Q Q Q Q (aA (H.b 1 1 Q Q) (bO f16 fun ⟨k,l,m⟩ i10 f17=>gH (F7_ i10) H U fun h9 w30 H=>stA gok _ Q (H.s [1,0,2]) Q Q Q fun w32 H=>Zn (H.bz_ 0 Q) Q ?_));cases f17;exact ⟨_,_,Q,⟨h9,Q,Q⟩,(H.s [1]).close ⟨cloE,U⟩⟩
theorem HC_ {p_:Int}{b:List Ty3}{a:Hd}{p q:Int}{r:List X} (hF:fQ p_ b=some (p,q,r)) :
  lD Tryz.prog 20 #[(vi p_),(.agg #[(a).v])] [Es (List Ty3) b a] [] (fun v Γ'=>∃ z0:Hd,v=(.agg #[(vi p),(vi q),(z0).v])∧Γ'=[Es (List X) r z0]):=by
 refine Zs (args:=[_,_]) gok Tryz.func20 Q _ Q Q Q fun w0 S0 fp0 H=>xA H fun b3 w2 hx H=>yA gok Q H fun b6 w5 hx H=>tF (α:=Ty2) gok Q Q H fun h9 w8 hx H=>sq (fld gok Q Q Q Q (aA (H.b 2 0 Q Q) (eA (H.rs (α:=List Ty3) 3 Q).len (have x0:=(H.rs (α:=List Ty3) 3 Q).max;bO hF fun r0 e f0=>have H:=H.frzE (α:=Ty2);cB _ b.length (fun (k0:Nat) (s0:List Ty2) (g0:Hd)=>[(0,(vi p_)),(4,(vp b6)),(5,(g0).v),(11,(a).v),(12,(vi ((b.length:Nat):Int))),(13,(vi ((k0:Nat):Int)))]) (fun _ (s0:List Ty2) (g0:Hd) w'=>Cx w0 fp0 S0 w' [Bx b6 [(vi 0),(vi 0),vn],E (List (Sh Ty2)) s0 g0,Es (List Ty3) b a]) ([]:List Ty2) h9 e r6_ (H.s [1,0,3]) ?_ ?_))));rintro T0 k0 s0 g0 w1 o0 hk H f1;refine bA (z:=true) (uA hk) (sq (sq ?_));refine bO f1 fun a0 e f2=>Zz (H.el (α:=Ty3) 2 Q e) fun p0 m0 g1 c0 c1 c2 c3 H=>?_;obtain ⟨s,t,u⟩:=a0;obtain ⟨_,_,_⟩:=g1;replace H:=H.s [1,2,3];refine dA c0 c1 c2 (oC [(vi s),(vi t),(.string u)] Q c3 (yA gok Q H fun b0 w3 hx H=>stA gok _ Q H Q Q Q fun w4 H=>eA (Rdb.len (α:=Sh Ty2) (H.ro (α:=List (Sh Ty2)) 2 Q)) (bO f2 fun a1 e f3=>arO e (fld gok Q Q Q Q (aA (H.b 0 0 Q Q) (boolB_ f3 (fun f5=>?_) fun f18=>?_))))));refine boolB_ f5 (fun f7=>?_) fun f10=>?_;refine Zn (H.bz_ 0 Q) Q (bO f7 fun ⟨w,x,aj⟩ i0 f8=>gH (Gn_ i0) H U fun h0 w6 H=>have H:=((H.sc (α:=Int) x).join (α:=Int) (β:=List X)).sc (α:=Int) w;jC (α:=Ty2) (g:=((),(),h0)) gok Q Q Q Q Q (H.join (α:=Int) (β:=Int×List X)) fun h1 w7 hx H=>bO f8 fun a4 e f9=>have H:=H.frzE (α:=Ty2);append_ (α:=Sh Ty2) gok Q Q Q Q (H.s [3,0,1,2,4]) e fun h2 w9 H=>arK hk x0 ?_);obtain rfl:=oi_ f9;exact ⟨h2,r6_,H.s [2,0,3]⟩
 refine mB H [16,17] (.fst 0 (.fst 1 (.fst 2 (.fst 4 (.fst 5 (.fst 6 (.fst 7 (.fst 8 (.fst 10 (.fst 11 (.fst 12 (.fst 9 (.fst 13 (.fst 3 (.act 14 (.act 15 (.act 16 (.act 17 .done)))))))))))))))))) eB [] U (by kernel_rfl) ?_;intro w10 H
 have hX:Ext w10 w10:=Upd.refl _ _;refine bO f10 fun a5 e f11=>arO e (bO f11 fun a6 e f12=>arO e (bO f12 fun a7 e f13=>Zz (H.ex (α:=Ty2) 2 Q e) fun p1 m1 g2 c4 c5 c6 c7 H=>?_));obtain ⟨y,aa,ab⟩:=a7;obtain ⟨_,_,h3⟩:=g2;refine have H:=(H.part (β:=List X) ab (h3:Hd) 0 Q (fun S h=>(And.right (And.right h)))).s [0,2,3,4,5];dA c4 c5 c6 (bO f13 fun a8 e f14=>Zz (H.ex (α:=Ty2) 3 Q e) fun p2 m2 g3 c8 c9 c10 c11 H=>?_);obtain ⟨ac,ad,ae⟩:=a8;obtain ⟨_,_,h4⟩:=g3;refine have H:=(H.part (β:=List X) ae (h4:Hd) 0 Q (fun S h=>(And.right (And.right h)))).s [0,2,3,4,5,6];dA c8 c9 c10 (pF [(vi y),(vi aa),(h3).v] Q c7 (pF [(vi ac),(vi ad),(h4).v] Q c11 (bO f14 fun a9 e f15=>?_)));replace H:=H.s [4,0,1,2,3,5];refine slOX (α:=Sh Ty2) gok Q Q H e Q Q ?_;intro h5 HH;have H:=HH;refine bO f15 fun ⟨af,ag,ak⟩ i1 f16=>Zq1 (HA_ i1) H ⟨Vw.sh 2 Q,Vw.sh 1 Q,U⟩ fun h6 w11 hx H=>hold_ hX hx fun hX=>(have H:=((H.sc (α:=Int) ag).join (α:=Int) (β:=List X)).sc (α:=Int) af;jC (α:=Ty2) (g:=((),(),h6)) gok Q Q Q Q Q (H.join (α:=Int) (β:=Int×List X)) fun h7 w12 hx H=>hold_ hX hx fun hX=>(bO f16 fun a10 e f17=>have H:=H.frzE (α:=Ty2);append_ (α:=Sh Ty2) gok Q Q Q Q (H.s [1,0,2,3,4,5,6]) e fun h8 w13 H=>hold U (hold U (arK hk x0 ?_))));obtain rfl:=oi_ f17;exact ⟨h8,r6_,H.s [4,0,5]⟩
 refine mB H [16,17] (.fst 0 (.fst 1 (.fst 2 (.fst 4 (.fst 5 (.fst 6 (.fst 7 (.fst 8 (.fst 10 (.fst 11 (.fst 12 (.fst 9 (.fst 13 (.fst 3 (.act 14 (.act 15 (.act 16 (.act 17 .done)))))))))))))))))) eB [] U (by kernel_rfl) ?_;intro w14 H
 have hX:Ext w14 w14:=Upd.refl _ _;refine bO f18 fun a11 e f19=>arO e (bO f19 fun a12 e f20=>arO e (bO f20 fun a13 e f21=>Zz (H.ex (α:=Ty2) 2 Q e) fun p3 m3 g4 c12 c13 c14 c15 H=>?_));obtain ⟨c,d,f⟩:=a13;obtain ⟨_,_,h10⟩:=g4;refine have H:=(H.part (β:=List X) f (h10:Hd) 0 Q (fun S h=>(And.right (And.right h)))).s [0,2,3,4,5];dA c12 c13 c14 (bO f21 fun a14 e f22=>Zz (H.ex (α:=Ty2) 3 Q e) fun p4 m4 g5 c16 c17 c18 c19 H=>?_);obtain ⟨i,k,l⟩:=a14;obtain ⟨_,_,h11⟩:=g5;refine have H:=(H.part (β:=List X) l (h11:Hd) 0 Q (fun S h=>(And.right (And.right h)))).s [0,2,3,4,5,6];dA c16 c17 c18 (pF [(vi c),(vi d),(h10).v] Q c15 (pF [(vi i),(vi k),(h11).v] Q c19 (bO f22 fun a15 e f23=>?_)));replace H:=H.s [4,0,1,2,3,5];refine slOX (α:=Sh Ty2) gok Q Q H e Q Q ?_;intro h12 HH;have H:=HH;refine bO f23 fun ⟨ah,ai,al⟩ i2 f24=>Zq1 (G2_ i2) H ⟨Vw.sh 2 Q,Vw.sh 1 Q,U⟩ fun h13 w15 hx H=>hold_ hX hx fun hX=>(have H:=((H.sc (α:=Int) ai).join (α:=Int) (β:=List X)).sc (α:=Int) ah;jC (α:=Ty2) (g:=((),(),h13)) gok Q Q Q Q Q (H.join (α:=Int) (β:=Int×List X)) fun h14 w16 hx H=>hold_ hX hx fun hX=>(bO f24 fun a16 e f25=>have H:=H.frzE (α:=Ty2);append_ (α:=Sh Ty2) gok Q Q Q Q (H.s [1,0,2,3,4,5,6]) e fun h15 w17 H=>hold U (hold U (arK hk x0 ?_))));obtain rfl:=oi_ f25;exact ⟨h15,r6_,H.s [4,0,5]⟩;rintro T1 g6 w18 H;refine bA (z:=false) vA (sq (bO f0 fun a17 e f26=>Zz (H.ex (α:=Ty2) 1 Q e) fun p5 m5 g7 c20 c21 c22 c23 H=>?_));obtain ⟨m,n,o⟩:=a17;obtain ⟨_,_,h16⟩:=g7;refine have H:=(H.part (β:=List X) o (h16:Hd) 0 Q (fun S h=>(And.right (And.right h)))).s [0,2,3,4];dA c20 c21 c22 (oC [(vi m),(vi n),(h16).v] Q c23 (stA gok _ Q (H.s [1,0,2,3]) Q Q Q fun w19 H=>Zn (H.bz_ 0 Q) Q ?_));cases f26;exact ⟨_,_,Q,⟨h16,Q,Q⟩,(H.s [1])⟩
theorem pP {d_b:Nat}{d:Int}{g:List Ty1}{a:Value}{h:X}{b:Value}{i:X}{c:Value}{f:Int}{k:List Ty1}{l m:X}{y1:Int} (hF:iH (d,g,h,i)=some ((f,k,l,m),y1)) :
  cA Tryz.prog 49 #[(vp d_b)] [] [Bx d_b [(vi d),a,b,c]] (fun v Γ'=>v=(vi y1)∧Γ'=[Bx d_b [(vi f),a,b,c]]):=by
 refine Ze (args:=[_]) gok Tryz.func49 Q _ Q Q Q fun w0 S0 fp0 H=>fld gok Q Q Q Q (fld gok Q Q Q Q (aA (H.b 0 0 Q Q) (bO hF fun a2 e hF3=>arO e (fld gok Q Q Q Q (fld gok Q Q Q Q (stB (j:=0) H Q Q fun w4 H=>fld gok Q Q Q Q (fld gok Q Q Q Q (aA (H.b 0 0 Q Q) (bO hF3 fun a5 e hF6=>arO e ?_)))))))));cases hF6;exact ⟨_,_,Q,⟨Q,Q⟩,(H.s [0]).close ⟨cloB,U⟩⟩
theorem B0_ {d_b:Nat}{d:Int}{g:List Ty1}{a:Value}{h:X}{b:Value}{j:X}{c:Value}{n_ f:Int}{k:List Ty1}{l m y1:X} (hF:oP (d,g,h,j) n_=some ((f,k,l,m),y1)) :
  cA Tryz.prog 45 #[(vp d_b),(vi n_)] [] [Bx d_b [(vi d),a,b,c]] (fun v Γ'=>∃ z0:Hd,v=(z0).v∧Γ'=[Bx d_b [(vi f),a,b,c],E X y1 z0]):=by
 refine Ze (args:=[_,_]) gok Tryz.func45 Q _ Q Q Q fun w0 S0 fp0 H=>tF (α:=Int) gok Q Q H fun h3 w2 hx H=>sq (bO hF fun a0 hn36 f0=>bO f0 fun r0 e f1=>cB _ n_.toNat (fun (k5:Nat) (s0:Int×X) (g0:Hd)=>[(0,(vp d_b)),(5,(g0).v),(7,(vi n_)),(8,(vi ((k5:Nat):Int)))]) (fun _ (s0:Int×X) (g0:Hd) w'=>Cx w0 fp0 S0 w' [Bx d_b [(vi s0.1),a,b,c],E X s0.2 g0]) (d,([]:X)) h3 e r4_ (H.s [1,0]) ?_ ?_);rintro T0 k5 ⟨n,s⟩ g0 w1 o0 hk H f2;(try dsimp only at H);refine bA (z:=true) (lX hk) (sq (sq ?_));obtain ⟨y0,e,f3⟩:=nB f2;obtain ⟨⟨o,p,q,r⟩,t⟩:=y0;refine have i0:=e;Zd0 (pP i0) (Γi:=[Bx d_b [(vi n),a,b,c]]) H U fun w3 H=>aB (α:=Int) gok Q Q Q Q H fun h0 w4 hx H=>bO f3 fun a1 e f4=>append_ (α:=Int) gok Q Q Q Q (H.s [2,0,1]) e fun h1 w5 H=>arK hk (maxI hn36) ?_;obtain rfl:=oi_ f4;exact ⟨h1,r4_,H.s [1,0]⟩;obtain ⟨u,w⟩:=r0;rintro T1 g1 w6 H;refine bA (z:=false) pX (sq ?_);cases f1;exact ⟨_,_,Q,⟨g1,Q,Q⟩,(H.s [0,1]).close ⟨cloB,cloE,U⟩⟩
theorem wD {d_b:Nat}{n:Int}{o:List Ty1}{d:Hd}{s:X}{f:Value}{t:X}{k:Value}{b a:Int}{u:X}{m:Hd}{p:X}{c:Hd}{q:Int}{r:List Ty1}{w y:X} (hF:iF (n,o,s,t) b a u p=some (q,r,w,y)) :
  lD Tryz.prog 46 #[(vp d_b),(vi b),(vi a),(m).v,(c).v] [Es X u m,Es X p c] [Bx d_b [(vi n),(d).v,f,k],E (List (Sh Ty1)) o d] (fun v Γ'=>∃ z0:Hd,v=(.tuple #[])∧Γ'=[Bx d_b [(vi q),(z0).v,f,k],E (List (Sh Ty1)) r z0]):=by
 refine Zs (args:=[_,_,_,_,_]) gok Tryz.func46 Q _ Q Q Q fun w0 S0 fp0 H=>fld gok Q Q Q Q (fld gok Q Q Q Q (aA (H.b 2 1 Q Q) (kB (cs:=#[(vi b),(vi a),(m).v,(c).v]) gok Q Q Q ?_)));replace H:=((H.dup 0 Q iA).dup 2 Q iA).s [1,0,2,3,4,5];replace H:=((H.join (α:=Sh X) (β:=Sh X)).sc (α:=Int) a).join (α:=Int) (β:=Sh X×Sh X)
 refine jC (α:=Int×Int×Sh X×Sh X) (x:=(b,a,u,p)) (g:=((),(),m,c)) gok Q Q Q Q (by rfl) ((H.sc (α:=Int) b).join (α:=Int) (β:=Int×Sh X×Sh X)) ?_;intro h6 w5 hx H
 obtain ⟨a0,e,f0⟩:=nB hF
 replace H:=H.frzP (α:=Int×Int×Sh X×Sh X) (β:=Ty1) inferInstance (fun x=>x) (fun x=>x) (fun x=>x) (fun l i=>(by simp:l[i]?=l[i]?.map fun x=>x)) Q (fun _ _ _ _ h=>h) (fun _ _=>Q)
 refine append_ (α:=Sh Ty1) gok Q Q Q Q (H.s [4,0,1,2,3]) e fun h0 w1 H=>fld gok Q Q Q Q (fld gok Q Q Q Q (stB (j:=1) (H.s [3,0,1,2]) Q Q fun w2 H=>?_));cases f0;exact ⟨_,_,Q,⟨h0,Q,Q⟩,(H.s [0,1])⟩
theorem Gl_ {b c:Int}{d:List X}{a:Hd}{y:Int} (hF:B1_ (b,c,d)=some y) :
  cA Tryz.prog 48 #[(.agg #[(vi b),(vi c),(a).v])] [Es (List X) d a] [] (fun v Γ'=>v=(vi y)∧Γ'=[]):=by
 refine Ze (args:=[_]) gok Tryz.func48 Q _ Q Q Q fun w0 S0 fp0 H=>xA H fun b3 w2 hx H=>fld gok Q Q Q Q (aA (H.b 0 0 Q Q) (fld gok Q Q Q Q (aA (H.b 0 1 Q Q) (bO hF fun a5 e hF6=>arO e ?_))));cases hF6;exact ⟨_,_,Q,⟨Q,Q⟩,(H.s []).close U⟩
theorem Ga_:∀ (ag d_b:Nat) (x:Int) (u:List Ty1) (r:Hd) (k:X) (a:Value) (l:X) (b:Value) (w_ n_ c:Int) (d:List Ty1) (aa ab y1:X) (hF:fN ag (x,u,k,l) w_ n_=some ((c,d,aa,ab),y1)),
  lD Tryz.prog 72 #[(vp d_b),(vi w_),(vi n_)] [] [Bx d_b [(vi x),(r).v,a,b],E (List (Sh Ty1)) u r] (fun v Γ'=>∃ z0 z1:Hd,v=(z1).v∧Γ'=[Bx d_b [(vi c),(z0).v,a,b],E (List (Sh Ty1)) d z0,Es X y1 z1]):=by
 intro ag
 induction ag with
 | zero=>intro d_b x u r k a l b w_ n_ c d aa ab y1 hF;cases hF
 | succ ag ih=>
  intro d_b x u r k a l b w_ n_ c d aa ab y1 hF
  refine Zs (args:=[_,_,_]) gok Tryz.func72 Q _ Q Q Q fun w0 S0 fp0 H=>sq (boolB_ hF (fun hF5=>?_) fun f20=>?_)
  refine boolB_ hF5 (fun hF8=>?_) fun f19=>?_
  obtain ⟨y9,e,f0⟩:=nB hF8
  obtain ⟨⟨ac,ah,ai,aj⟩,am⟩:=y9
  refine have ey9:=e;iC (@B0_ d_b x u ((r).v) k a l b 2 ac ah ai aj am ey9) (Γi:=[Bx d_b [(vi x),(r).v,a,b]]) H U ?_
  rintro _ _ w1 ⟨h0,rfl,rfl⟩ H
  refine aB (α:=Int) gok Q Q Q Q H fun h1 w2 hx H=>bO f0 fun ⟨c,d,aa,ab⟩ i0 f1=>have H:=((H.frz).s [2,0,1,3]).frz;have H:=H.s [2,3,0,1];fB (@wD d_b ac u r k a l b 3 0 [w_] h1 am h0 c d aa ab i0) (Γi:=[Bx d_b [(vi ac),(r).v,a,b],E (List (Sh Ty1)) u r]) H [1,0] Q (pA iA (pA iA zA)) ?_
  rintro _ _ w3 ⟨h2,rfl,rfl⟩ H
  obtain ⟨r0,f2,f3⟩:=nB f1
  refine fG H [10,11,12,3,7,2,1,6,0,4,5,8,9] (.pure 0 (.pure 4 (.pure 5 (.pure 8 (.pure 9 (.alts (.alt 1 (.alts (.alt 2 (.alts (.alt 3 (.act 6 (.act 7 (.act 10 (.act 11 (.act 12 .done))))) (.alt 6 (.alts (.alt 3 (.act 7 (.act 10 (.act 11 (.act 12 .done)))) (.alt 7 (.alts (.alt 3 (.act 10 (.act 11 (.act 12 .done))) (.alt 10 (.act 3 (.act 11 (.act 12 .done))) .no))) .no))) .no))) (.alt 6 (.alts (.alt 2 (.alts (.alt 3 (.act 7 (.act 10 (.act 11 (.act 12 .done)))) (.alt 7 (.alts (.alt 3 (.act 10 (.act 11 (.act 12 .done))) (.alt 10 (.act 3 (.act 11 (.act 12 .done))) .no))) .no))) (.alt 7 (.alts (.alt 2 (.alts (.alt 3 (.act 10 (.act 11 (.act 12 .done))) (.alt 10 (.act 3 (.act 11 (.act 12 .done))) .no))) (.alt 10 (.act 2 (.act 3 (.act 11 (.act 12 .done)))) .no))) .no))) .no))) (.alt 6 (.alts (.alt 1 (.alts (.alt 2 (.alts (.alt 3 (.act 7 (.act 10 (.act 11 (.act 12 .done)))) (.alt 7 (.alts (.alt 3 (.act 10 (.act 11 (.act 12 .done))) (.alt 10 (.act 3 (.act 11 (.act 12 .done))) .no))) .no))) (.alt 7 (.alts (.alt 2 (.alts (.alt 3 (.act 10 (.act 11 (.act 12 .done))) (.alt 10 (.act 3 (.act 11 (.act 12 .done))) .no))) (.alt 10 (.act 2 (.act 3 (.act 11 (.act 12 .done)))) .no))) .no))) (.alt 7 (.alts (.alt 1 (.alts (.alt 2 (.alts (.alt 3 (.act 10 (.act 11 (.act 12 .done))) (.alt 10 (.act 3 (.act 11 (.act 12 .done))) .no))) (.alt 10 (.act 2 (.act 3 (.act 11 (.act 12 .done)))) .no))) (.alt 10 (.act 1 (.act 2 (.act 3 (.act 11 (.act 12 .done))))) .no))) .no))) .no)))))))) eB [] U (by kernel_rfl) (fun (q0:(Int×(List Ty1)×X)×(Hd×Hd))=>[(6,(q0.2.2).v)]) (fun (q0:(Int×(List Ty1)×X)×(Hd×Hd)) w'=>(q0.1.1,q0.1.2.1,q0.1.2.2)=r0∧Cx w0 fp0 S0 w' [E X q0.1.2.2 q0.2.2,Bx d_b [(vi q0.1.1),(q0.2.1).v,a,b],E (List (Sh Ty1)) q0.1.2.1 q0.2.1]) ?_ ?_
  intro w4 H
  have hX:Ext w4 w4:=Upd.refl _ _
  refine bO f2 fun a0 e f4=>arO e (both ?_ ?_)
  refine bO f4 fun a1 d0 f5=>Zx ((H.rs (α:=X) 2 Q).at1 d0) fun p0 m0 c0 c1 c2 c3=>dA c0 c1 c2 (hold U (both ?_ ?_))
  refine aA ((H.rs (α:=X) 2 Q).at1' c0 c1 d0) (hold U (both ?_ ?_))
  refine aB (α:=Int) gok Q Q Q Q H fun h3 w5 hx H=>hold U (bO f5 fun a2 d1 f6=>Zx ((H.rs (α:=X) 3 Q).at1 d1) fun p1 m1 c4 c5 c6 c7=>dA c4 c5 c6 (hold U (aA ((H.rs (α:=X) 3 Q).at1' c4 c5 d1) (hold U (bO f6 fun y2 e f7=>?_)))))
  obtain ⟨⟨ad,ae,ak,al⟩,au⟩:=y2
  refine have i1:=e;have H:=H.s [1,2,0,3,4];fB (ih d_b c d h2 k a l b a2 a0 ad ae ak al au i1) (Γi:=[Bx d_b [(vi c),(h2).v,a,b],E (List (Sh Ty1)) d h2]) H [] Q zA ?_
  rintro _ _ w6 ⟨h4,h5,rfl,rfl⟩ H
  exact hold U (bO f7 fun a4 e f8=>gD (α:=Int) gok Q Q Q Q (H.s [3,0,1,2,4,5]) (Vw.sh 2 Q) e fun h6 w7 H=>hold U (hold U ⟨((ad,ae,a4),(h4,h6)),⟨Q,U⟩,oi_ f8,H.s [0,1,2]⟩))
  refine both ?_ ?_
  refine bO f5 fun a5 o0 f9=>bO f9 fun a7 o1 f10=>bO f10 fun a8 o2 f11=>Zx ((H.rs (α:=X) 2 Q).at1 o0) fun p2 m2 c8 c9 c10 c11=>dA c8 c9 c10 (hold U (both ?_ ?_))
  refine aB (α:=Int) gok Q Q Q Q H fun h7 w8 hx H=>hold U (aA ((H.rs (α:=X) 3 Q).at1' c8 c9 o0) (hold U ?_))
  obtain ⟨⟨s,t,y,z⟩,af⟩:=a7
  refine have H:=H.s [1,2,0,3,4];fB (ih d_b c d h2 k a l b a5 a0 s t y z af o1) (Γi:=[Bx d_b [(vi c),(h2).v,a,b],E (List (Sh Ty1)) d h2]) H [] Q zA ?_
  rintro _ _ w9 ⟨h8,h9,rfl,rfl⟩ H
  exact hold U (gD (α:=Int) gok Q Q Q Q (H.s [3,0,1,2,4,5]) (Vw.sh 2 Q) o2 fun h10 w10 H=>hold U (hold U ⟨((s,t,a8),(h8,h10)),⟨Q,U⟩,oi_ f11,H.s [0,1,2]⟩))
  refine both ?_ ?_
  refine aA ((H.rs (α:=X) 2 Q).at1' c8 c9 o0) (hold U (both ?_ ?_))
  refine aB (α:=Int) gok Q Q Q Q H fun h11 w12 hx H=>hold U ?_
  obtain ⟨⟨s,t,y,z⟩,af⟩:=a7
  refine have H:=H.s [1,2,0,3,4];fB (ih d_b c d h2 k a l b a5 a0 s t y z af o1) (Γi:=[Bx d_b [(vi c),(h2).v,a,b],E (List (Sh Ty1)) d h2]) H [] Q zA ?_
  rintro _ _ w13 ⟨h13,h14,rfl,rfl⟩ H
  exact hold U (gD (α:=Int) gok Q Q Q Q (H.s [3,0,1,2,4,5]) (Vw.sh 2 Q) o2 fun h16 w15 H=>hold U (hold U ⟨((s,t,a8),(h13,h16)),⟨Q,U⟩,oi_ f11,H.s [0,1,2]⟩))
  refine both ?_ ?_
  obtain ⟨⟨s,t,y,z⟩,af⟩:=a7
  refine fB (ih d_b c d h2 k a l b a5 a0 s t y z af o1) (Γi:=[Bx d_b [(vi c),(h2).v,a,b],E (List (Sh Ty1)) d h2]) H [] Q zA ?_
  rintro _ _ w16 ⟨h17,h18,rfl,rfl⟩ H
  exact hold U (aB (α:=Int) gok Q Q Q Q H fun h19 w17 hx H=>hold U (gD (α:=Int) gok Q Q Q Q H (Vw.sh 2 Q) o2 fun h21 w18 H=>hold U (hold U ⟨((s,t,a8),(h17,h21)),⟨Q,U⟩,oi_ f11,H.s [0,1,2]⟩)))
  exact U
  exact U
  exact U
  refine both ?_ ?_
  refine bO f5 fun a9 o3 f12=>bO f12 fun a10 o4 f13=>bO f13 fun a11 o5 f14=>Zx ((H.rs (α:=X) 2 Q).at1 o3) fun p3 m3 c12 c13 c14 c15=>dA c12 c13 c14 (hold U (both ?_ ?_))
  refine aA ((H.rs (α:=X) 2 Q).at1' c0 c1 d0) (hold U (both ?_ ?_))
  refine aB (α:=Int) gok Q Q Q Q H fun h22 w20 hx H=>hold U (aA ((H.rs (α:=X) 3 Q).at1' c12 c13 o3) (hold U ?_))
  obtain ⟨⟨m,n,o,p⟩,w⟩:=a10
  refine have H:=H.s [1,2,0,3,4];fB (ih d_b c d h2 k a l b a9 a0 m n o p w o4) (Γi:=[Bx d_b [(vi c),(h2).v,a,b],E (List (Sh Ty1)) d h2]) H [] Q zA ?_
  rintro _ _ w21 ⟨h23,h24,rfl,rfl⟩ H
  exact hold U (gD (α:=Int) gok Q Q Q Q (H.s [3,0,1,2,4,5]) (Vw.sh 2 Q) o5 fun h25 w22 H=>hold U (hold U ⟨((m,n,a11),(h23,h25)),⟨Q,U⟩,oi_ f14,H.s [0,1,2]⟩))
  refine both ?_ ?_
  refine aA ((H.rs (α:=X) 2 Q).at1' c12 c13 o3) (hold U (both ?_ ?_))
  refine aB (α:=Int) gok Q Q Q Q H fun h26 w23 hx H=>hold U ?_
  obtain ⟨⟨m,n,o,p⟩,w⟩:=a10
  refine have H:=H.s [1,2,0,3,4];fB (ih d_b c d h2 k a l b a9 a0 m n o p w o4) (Γi:=[Bx d_b [(vi c),(h2).v,a,b],E (List (Sh Ty1)) d h2]) H [] Q zA ?_
  rintro _ _ w24 ⟨h27,h28,rfl,rfl⟩ H
  exact hold U (gD (α:=Int) gok Q Q Q Q (H.s [3,0,1,2,4,5]) (Vw.sh 2 Q) o5 fun h29 w25 H=>hold U (hold U ⟨((m,n,a11),(h27,h29)),⟨Q,U⟩,oi_ f14,H.s [0,1,2]⟩))
  refine both ?_ ?_
  obtain ⟨⟨m,n,o,p⟩,w⟩:=a10
  refine fB (ih d_b c d h2 k a l b a9 a0 m n o p w o4) (Γi:=[Bx d_b [(vi c),(h2).v,a,b],E (List (Sh Ty1)) d h2]) H [] Q zA ?_
  rintro _ _ w26 ⟨h30,h31,rfl,rfl⟩ H
  exact hold U (aB (α:=Int) gok Q Q Q Q H fun h32 w27 hx H=>hold U (gD (α:=Int) gok Q Q Q Q H (Vw.sh 2 Q) o5 fun h33 w28 H=>hold U (hold U ⟨((m,n,a11),(h30,h33)),⟨Q,U⟩,oi_ f14,H.s [0,1,2]⟩)))
  exact U
  exact U
  refine both ?_ ?_
  refine aA ((H.rs (α:=X) 2 Q).at1' c12 c13 o3) (hold U (both ?_ ?_))
  refine aA ((H.rs (α:=X) 2 Q).at1' c0 c1 d0) (hold U (both ?_ ?_))
  refine aB (α:=Int) gok Q Q Q Q H fun h34 w29 hx H=>hold U ?_
  obtain ⟨⟨m,n,o,p⟩,w⟩:=a10
  refine have H:=H.s [1,2,0,3,4];fB (ih d_b c d h2 k a l b a9 a0 m n o p w o4) (Γi:=[Bx d_b [(vi c),(h2).v,a,b],E (List (Sh Ty1)) d h2]) H [] Q zA ?_
  rintro _ _ w30 ⟨h35,h36,rfl,rfl⟩ H
  exact hold U (gD (α:=Int) gok Q Q Q Q (H.s [3,0,1,2,4,5]) (Vw.sh 2 Q) o5 fun h37 w31 H=>hold U (hold U ⟨((m,n,a11),(h35,h37)),⟨Q,U⟩,oi_ f14,H.s [0,1,2]⟩))
  refine both ?_ ?_
  obtain ⟨⟨m,n,o,p⟩,w⟩:=a10
  refine fB (ih d_b c d h2 k a l b a9 a0 m n o p w o4) (Γi:=[Bx d_b [(vi c),(h2).v,a,b],E (List (Sh Ty1)) d h2]) H [] Q zA ?_
  rintro _ _ w32 ⟨h38,h39,rfl,rfl⟩ H
  exact hold U (aB (α:=Int) gok Q Q Q Q H fun h40 w33 hx H=>hold U (gD (α:=Int) gok Q Q Q Q H (Vw.sh 2 Q) o5 fun h41 w34 H=>hold U (hold U ⟨((m,n,a11),(h38,h41)),⟨Q,U⟩,oi_ f14,H.s [0,1,2]⟩)))
  exact U
  refine both ?_ ?_
  obtain ⟨⟨m,n,o,p⟩,w⟩:=a10
  refine fB (ih d_b c d h2 k a l b a9 a0 m n o p w o4) (Γi:=[Bx d_b [(vi c),(h2).v,a,b],E (List (Sh Ty1)) d h2]) H [] Q zA ?_
  rintro _ _ w35 ⟨h42,h43,rfl,rfl⟩ H
  exact hold U (aA ((H.rs (α:=X) 3 Q).at1' c0 c1 d0) (hold U (aB (α:=Int) gok Q Q Q Q H fun h44 w36 hx H=>hold U (gD (α:=Int) gok Q Q Q Q H (Vw.sh 2 Q) o5 fun h45 w37 H=>hold U (hold U ⟨((m,n,a11),(h42,h45)),⟨Q,U⟩,oi_ f14,H.s [0,1,2]⟩)))))
  exact U
  exact U
  exact U
  refine both ?_ ?_
  refine bO f4 fun a12 o6 f15=>bO f15 fun a13 o7 f16=>bO f16 fun a14 o8 f17=>bO f17 fun a15 o9 f18=>Zx ((H.rs (α:=X) 2 Q).at1 o7) fun p4 m4 c16 c17 c18 c19=>dA c16 c17 c18 (hold U (both ?_ ?_))
  refine Zx ((H.rs (α:=X) 2 Q).at1 o6) fun p5 m5 c20 c21 c22 c23=>dA c20 c21 c22 (hold U (both ?_ ?_))
  refine aA ((H.rs (α:=X) 2 Q).at1' c20 c21 o6) (hold U (both ?_ ?_))
  refine aB (α:=Int) gok Q Q Q Q H fun h46 w38 hx H=>hold U (aA ((H.rs (α:=X) 3 Q).at1' c16 c17 o7) (hold U ?_))
  obtain ⟨⟨f,g,h,j⟩,q⟩:=a14
  refine have H:=H.s [1,2,0,3,4];fB (ih d_b c d h2 k a l b a13 a0 f g h j q o8) (Γi:=[Bx d_b [(vi c),(h2).v,a,b],E (List (Sh Ty1)) d h2]) H [] Q zA ?_
  rintro _ _ w39 ⟨h47,h48,rfl,rfl⟩ H
  exact hold U (gD (α:=Int) gok Q Q Q Q (H.s [3,0,1,2,4,5]) (Vw.sh 2 Q) o9 fun h49 w40 H=>hold U (hold U ⟨((f,g,a15),(h47,h49)),⟨Q,U⟩,oi_ f18,H.s [0,1,2]⟩))
  refine both ?_ ?_
  refine aA ((H.rs (α:=X) 2 Q).at1' c16 c17 o7) (hold U (both ?_ ?_))
  refine aB (α:=Int) gok Q Q Q Q H fun h50 w41 hx H=>hold U ?_
  obtain ⟨⟨f,g,h,j⟩,q⟩:=a14
  refine have H:=H.s [1,2,0,3,4];fB (ih d_b c d h2 k a l b a13 a0 f g h j q o8) (Γi:=[Bx d_b [(vi c),(h2).v,a,b],E (List (Sh Ty1)) d h2]) H [] Q zA ?_
  rintro _ _ w42 ⟨h51,h52,rfl,rfl⟩ H
  exact hold U (gD (α:=Int) gok Q Q Q Q (H.s [3,0,1,2,4,5]) (Vw.sh 2 Q) o9 fun h53 w43 H=>hold U (hold U ⟨((f,g,a15),(h51,h53)),⟨Q,U⟩,oi_ f18,H.s [0,1,2]⟩))
  refine both ?_ ?_
  obtain ⟨⟨f,g,h,j⟩,q⟩:=a14
  refine fB (ih d_b c d h2 k a l b a13 a0 f g h j q o8) (Γi:=[Bx d_b [(vi c),(h2).v,a,b],E (List (Sh Ty1)) d h2]) H [] Q zA ?_
  rintro _ _ w44 ⟨h54,h55,rfl,rfl⟩ H
  exact hold U (aB (α:=Int) gok Q Q Q Q H fun h56 w45 hx H=>hold U (gD (α:=Int) gok Q Q Q Q H (Vw.sh 2 Q) o9 fun h57 w46 H=>hold U (hold U ⟨((f,g,a15),(h54,h57)),⟨Q,U⟩,oi_ f18,H.s [0,1,2]⟩)))
  exact U
  exact U
  refine both ?_ ?_
  refine aA ((H.rs (α:=X) 2 Q).at1' c16 c17 o7) (hold U (both ?_ ?_))
  refine aA ((H.rs (α:=X) 2 Q).at1' c20 c21 o6) (hold U (both ?_ ?_))
  refine aB (α:=Int) gok Q Q Q Q H fun h58 w47 hx H=>hold U ?_
  obtain ⟨⟨f,g,h,j⟩,q⟩:=a14
  refine have H:=H.s [1,2,0,3,4];fB (ih d_b c d h2 k a l b a13 a0 f g h j q o8) (Γi:=[Bx d_b [(vi c),(h2).v,a,b],E (List (Sh Ty1)) d h2]) H [] Q zA ?_
  rintro _ _ w48 ⟨h59,h60,rfl,rfl⟩ H
  exact hold U (gD (α:=Int) gok Q Q Q Q (H.s [3,0,1,2,4,5]) (Vw.sh 2 Q) o9 fun h61 w49 H=>hold U (hold U ⟨((f,g,a15),(h59,h61)),⟨Q,U⟩,oi_ f18,H.s [0,1,2]⟩))
  refine both ?_ ?_
  obtain ⟨⟨f,g,h,j⟩,q⟩:=a14
  refine fB (ih d_b c d h2 k a l b a13 a0 f g h j q o8) (Γi:=[Bx d_b [(vi c),(h2).v,a,b],E (List (Sh Ty1)) d h2]) H [] Q zA ?_
  rintro _ _ w50 ⟨h62,h63,rfl,rfl⟩ H
  exact hold U (aB (α:=Int) gok Q Q Q Q H fun h64 w51 hx H=>hold U (gD (α:=Int) gok Q Q Q Q H (Vw.sh 2 Q) o9 fun h65 w52 H=>hold U (hold U ⟨((f,g,a15),(h62,h65)),⟨Q,U⟩,oi_ f18,H.s [0,1,2]⟩)))
  exact U
  refine both ?_ ?_
  obtain ⟨⟨f,g,h,j⟩,q⟩:=a14
  refine fB (ih d_b c d h2 k a l b a13 a0 f g h j q o8) (Γi:=[Bx d_b [(vi c),(h2).v,a,b],E (List (Sh Ty1)) d h2]) H [] Q zA ?_
  rintro _ _ w53 ⟨h66,h67,rfl,rfl⟩ H
  exact hold U (aA ((H.rs (α:=X) 3 Q).at1' c20 c21 o6) (hold U (aB (α:=Int) gok Q Q Q Q H fun h68 w54 hx H=>hold U (gD (α:=Int) gok Q Q Q Q H (Vw.sh 2 Q) o9 fun h69 w55 H=>hold U (hold U ⟨((f,g,a15),(h66,h69)),⟨Q,U⟩,oi_ f18,H.s [0,1,2]⟩)))))
  exact U
  exact U
  refine both ?_ ?_
  refine aA ((H.rs (α:=X) 2 Q).at1' c16 c17 o7) (hold U (both ?_ ?_))
  refine Zx ((H.rs (α:=X) 2 Q).at1 o6) fun p6 m6 c24 c25 c26 c27=>dA c24 c25 c26 (hold U (both ?_ ?_))
  refine aA ((H.rs (α:=X) 2 Q).at1' c24 c25 o6) (hold U (both ?_ ?_))
  refine aB (α:=Int) gok Q Q Q Q H fun h70 w56 hx H=>hold U ?_
  obtain ⟨⟨f,g,h,j⟩,q⟩:=a14
  refine have H:=H.s [1,2,0,3,4];fB (ih d_b c d h2 k a l b a13 a0 f g h j q o8) (Γi:=[Bx d_b [(vi c),(h2).v,a,b],E (List (Sh Ty1)) d h2]) H [] Q zA ?_
  rintro _ _ w57 ⟨h71,h72,rfl,rfl⟩ H
  exact hold U (gD (α:=Int) gok Q Q Q Q (H.s [3,0,1,2,4,5]) (Vw.sh 2 Q) o9 fun h73 w58 H=>hold U (hold U ⟨((f,g,a15),(h71,h73)),⟨Q,U⟩,oi_ f18,H.s [0,1,2]⟩))
  refine both ?_ ?_
  obtain ⟨⟨f,g,h,j⟩,q⟩:=a14
  refine fB (ih d_b c d h2 k a l b a13 a0 f g h j q o8) (Γi:=[Bx d_b [(vi c),(h2).v,a,b],E (List (Sh Ty1)) d h2]) H [] Q zA ?_
  rintro _ _ w59 ⟨h74,h75,rfl,rfl⟩ H
  exact hold U (aB (α:=Int) gok Q Q Q Q H fun h76 w60 hx H=>hold U (gD (α:=Int) gok Q Q Q Q H (Vw.sh 2 Q) o9 fun h77 w61 H=>hold U (hold U ⟨((f,g,a15),(h74,h77)),⟨Q,U⟩,oi_ f18,H.s [0,1,2]⟩)))
  exact U
  refine both ?_ ?_
  obtain ⟨⟨f,g,h,j⟩,q⟩:=a14
  refine fB (ih d_b c d h2 k a l b a13 a0 f g h j q o8) (Γi:=[Bx d_b [(vi c),(h2).v,a,b],E (List (Sh Ty1)) d h2]) H [] Q zA ?_
  rintro _ _ w62 ⟨h78,h79,rfl,rfl⟩ H
  exact hold U (aA ((H.rs (α:=X) 3 Q).at1' c24 c25 o6) (hold U (aB (α:=Int) gok Q Q Q Q H fun h80 w63 hx H=>hold U (gD (α:=Int) gok Q Q Q Q H (Vw.sh 2 Q) o9 fun h81 w64 H=>hold U (hold U ⟨((f,g,a15),(h78,h81)),⟨Q,U⟩,oi_ f18,H.s [0,1,2]⟩)))))
  exact U
  refine both ?_ ?_
  obtain ⟨⟨f,g,h,j⟩,q⟩:=a14
  refine fB (ih d_b c d h2 k a l b a13 a0 f g h j q o8) (Γi:=[Bx d_b [(vi c),(h2).v,a,b],E (List (Sh Ty1)) d h2]) H [] Q zA ?_
  rintro _ _ w65 ⟨h82,h83,rfl,rfl⟩ H
  exact hold U (Zx ((H.rs (α:=X) 3 Q).at1 o6) fun p7 m7 c28 c29 c30 c31=>dA c28 c29 c30 (hold U (aA ((H.rs (α:=X) 3 Q).at1' c28 c29 o6) (hold U (aB (α:=Int) gok Q Q Q Q H fun h84 w66 hx H=>hold U (gD (α:=Int) gok Q Q Q Q H (Vw.sh 2 Q) o9 fun h85 w67 H=>hold U (hold U ⟨((f,g,a15),(h82,h85)),⟨Q,U⟩,oi_ f18,H.s [0,1,2]⟩)))))))
  exact U
  exact U
  exact U
  rintro T0 ⟨⟨ax,ay,az⟩,⟨av,aw⟩⟩ w68 ⟨hr,H⟩;(try dsimp only at H)
  subst hr
  replace H:=H.frz
  cases f3
  exact ⟨_,_,Q,⟨av,aw,Q,Q⟩,(H.s [1,2,0])⟩
  refine aB (α:=Int) gok Q Q Q Q H ?_;intro h86 w69 hx H
  replace H:=H.frz
  cases f19
  exact ⟨_,_,Q,⟨r,h86,Q,Q⟩,(H.s [1,2,0])⟩
  refine aB (α:=Int) gok Q Q Q Q H fun h87 w70 hx H=>have H:=H.nil (α:=Int);bO f20 fun ⟨an,ao,ap,aq⟩ i5 f21=>have H:=((H.s [1,0,2,3]).frz).s [1,0,2,3];have H:=(H.frz).s [2,3,0,1];fB (@wD d_b x u r k a l b 4 0 [w_] h87 [] nilH an ao ap aq i5) (Γi:=[Bx d_b [(vi x),(r).v,a,b],E (List (Sh Ty1)) u r]) H [1,0] Q (pA iA (pA iA zA)) ?_
  rintro _ _ w71 ⟨h88,rfl,rfl⟩ H
  replace H:=(H.nil (α:=Int)).frz
  cases f21
  exact ⟨_,_,Q,⟨h88,nilH,Q,Q⟩,(H.s [1,2,0])⟩
theorem Ge_ {d_b:Nat}{d:Int}{e:List Ty1}{a:Hd}{h:X}{b:Value}{i:X}{c:Value}{w_ n_ f:Int}{g:List Ty1}{j k y1:X} (hF:nP (d,e,h,i) w_ n_=some ((f,g,j,k),y1)) :
  lD Tryz.prog 72 #[(vp d_b),(vi w_),(vi n_)] [] [Bx d_b [(vi d),(a).v,b,c],E (List (Sh Ty1)) e a] (fun v Γ'=>∃ z0 z1:Hd,v=(z1).v∧Γ'=[Bx d_b [(vi f),(z0).v,b,c],E (List (Sh Ty1)) g z0,Es X y1 z1]):=Ga_ _ d_b d e a h b i c w_ n_ f g j k y1 hF
theorem Gp_:∀ (an d_b:Nat) (ae:Int) (n:List Ty1) (c:Hd) (g:X) (a:Value) (h:X) (b:Value) (ak:X) (ah:Hd) (ai:Int) (aj:List Ty1) (al am:X) (y1:Int) (hF:tS an (ae,n,g,h) ak=some ((ai,aj,al,am),y1)),
  lD Tryz.prog 73 #[(vp d_b),(ah).v] [Es X ak ah] [Bx d_b [(vi ae),(c).v,a,b],E (List (Sh Ty1)) n c] (fun v Γ'=>∃ z0:Hd,v=(vi y1)∧Γ'=[Bx d_b [(vi ai),(z0).v,a,b],E (List (Sh Ty1)) aj z0]):=by
 intro an
 induction an with
 | zero=>intro d_b ae n c g a h b ak ah ai aj al am y1 hF;cases hF
 | succ an ih=>
  intro d_b ae n c g a h b ak ah ai aj al am y1 hF
  refine Zs (args:=[_,_]) gok Tryz.func73 Q _ Q Q Q fun w0 S0 fp0 H=>eA (H.rs (α:=X) 0 Q).len (bO hF fun a4 e hF5=>arO e (sq (boolB_ hF5 (fun hF8=>?_) fun f21=>?_)))
  obtain ⟨y9,e,f0⟩:=nB hF8
  obtain ⟨⟨j,az,ba,bb⟩,y⟩:=y9
  refine have ey9:=e;have H:=H.s [1,0,2];iC (@pP d_b ae n ((c).v) g a h b j az ba bb y ey9) (Γi:=[Bx d_b [(vi ae),(c).v,a,b]]) H U ?_
  rintro _ _ w1 ⟨rfl,rfl⟩ H
  refine sq (boolB_ f0 (fun f2=>?_) fun f19=>?_)
  obtain ⟨r0,f3,f4⟩:=nB f2
  refine fG H [5,13,8,12,9,10,0,1,2,3,4,6,7,11] (.pure 0 (.pure 1 (.pure 2 (.pure 3 (.pure 4 (.pure 6 (.pure 7 (.pure 11 (.alts (.alt 5 (.alts (.alt 8 (.alts (.alt 9 (.alts (.alt 10 (.act 12 (.act 13 .done)) (.alt 12 (.act 10 (.act 13 .done)) .no))) (.alt 12 (.act 9 (.act 10 (.act 13 .done))) .no))) (.alt 12 (.act 8 (.act 9 (.act 10 (.act 13 .done)))) .no))) (.alt 8 (.alts (.alt 5 (.alts (.alt 9 (.alts (.alt 10 (.act 12 (.act 13 .done)) (.alt 12 (.act 10 (.act 13 .done)) .no))) (.alt 12 (.act 9 (.act 10 (.act 13 .done))) .no))) (.alt 9 (.alts (.alt 5 (.alts (.alt 10 (.act 12 (.act 13 .done)) (.alt 12 (.act 10 (.act 13 .done)) .no))) (.alt 12 (.act 5 (.act 10 (.act 13 .done))) .no))) (.alt 12 (.alts (.alt 5 (.act 9 (.act 10 (.act 13 .done))) (.alt 9 (.act 5 (.act 10 (.act 13 .done))) .no))) .no)))) (.alt 12 (.alts (.alt 5 (.act 8 (.act 9 (.act 10 (.act 13 .done)))) (.alt 8 (.alts (.alt 5 (.act 9 (.act 10 (.act 13 .done))) (.alt 9 (.act 5 (.act 10 (.act 13 .done))) .no))) .no))) .no)))))))))))) eB [] U (by kernel_rfl) (fun (q0:(Int×(List Ty1))×Hd)=>[(6,(vi y))]) (fun (q0:(Int×(List Ty1))×Hd) w'=>(q0.1.1,q0.1.2)=r0∧Cx w0 fp0 S0 w' [Bx d_b [(vi q0.1.1),(q0.2).v,a,b],E (List (Sh Ty1)) q0.1.2 q0.2]) ?_ ?_
  intro w2 H
  have hX:Ext w2 w2:=Upd.refl _ _
  obtain ⟨a1,e,f5⟩:=nB f3
  refine slSX (α:=Int) gok Q Q H 1 Q e Q Q ?_;intro h0 HH;have H:=HH
  refine both ?_ ?_
  obtain ⟨y0,e,f6⟩:=nB f5
  obtain ⟨⟨t,u,bc,bd⟩,z⟩:=y0
  refine have i0:=e;have H:=H.s [1,3,0,2];fB (ih d_b j n c g a h b a1 h0 t u bc bd z i0) (Γi:=[Bx d_b [(vi j),(c).v,a,b],E (List (Sh Ty1)) n c]) H [0] Q (pA iA zA) ?_
  rintro _ _ w3 ⟨h1,rfl,rfl⟩ H
  refine hold U (both ?_ ?_)
  refine bO f6 fun a2 d0 f7=>Zx ((H.rs (α:=X) 3 Q).at1 d0) fun p0 m0 c0 c1 c2 c3=>dA c0 c1 c2 (hold U (both ?_ ?_))
  refine aA ((H.rs (α:=X) 3 Q).at1' c0 c1 d0) (hold U (both ?_ ?_))
  refine gA (α:=Int) (us:=[(vi z),(vi a2)]) (xs:=[z,a2]) (gs:=[(),()]) gok Q Q Q ⟨Q,Q,U⟩ Q Q ((H.sc (α:=Int) a2).sc (α:=Int) z) fun h2 w4 hx H=>hold U (aB (α:=Int) gok Q Q Q Q H fun h3 w5 hx H=>hold U (bO f7 fun ⟨ao,ap,be,bf⟩ i1 f8=>have H:=((H.s [1,0,2,3,4,5]).frz).s [1,0,2,3,4,5];have H:=(H.frz).s [2,3,0,1,4,5];fB (@wD d_b t u h1 g a h b 5 0 [z,a2] h2 [y] h3 ao ap be bf i1) (Γi:=[Bx d_b [(vi t),(h1).v,a,b],E (List (Sh Ty1)) u h1]) H [1,0] Q (pA iA (pA iA zA)) ?_))
  rintro _ _ w6 ⟨h4,rfl,rfl⟩ H
  exact hold U ⟨((ao,ap),h4),⟨Q,U⟩,oi_ f8,H.s [0,1]⟩
  refine both ?_ ?_
  refine bO f7 fun a3 o0 f9=>aB (α:=Int) gok Q Q Q Q H fun h5 w7 hx H=>hold U (gA (α:=Int) (us:=[(vi z),(vi a2)]) (xs:=[z,a2]) (gs:=[(),()]) gok Q Q Q ⟨Q,Q,U⟩ Q Q ((H.sc (α:=Int) a2).sc (α:=Int) z) fun h6 w8 hx H=>hold U ?_)
  obtain ⟨aq,au,bg,bh⟩:=a3
  refine have H:=((H.frz).s [1,0,2,3,4,5]).frz;have H:=H.s [2,3,0,1,4,5];fB (@wD d_b t u h1 g a h b 5 0 [z,a2] h6 [y] h5 aq au bg bh o0) (Γi:=[Bx d_b [(vi t),(h1).v,a,b],E (List (Sh Ty1)) u h1]) H [1,0] Q (pA iA (pA iA zA)) ?_
  rintro _ _ w9 ⟨h7,rfl,rfl⟩ H
  exact hold U ⟨((aq,au),h7),⟨Q,U⟩,oi_ f9,H.s [0,1]⟩
  exact U
  refine both ?_ ?_
  refine bO f7 fun a5 o1 f10=>aB (α:=Int) gok Q Q Q Q H fun h8 w10 hx H=>hold U (aA ((H.rs (α:=X) 4 Q).at1' c0 c1 d0) (hold U (gA (α:=Int) (us:=[(vi z),(vi a2)]) (xs:=[z,a2]) (gs:=[(),()]) gok Q Q Q ⟨Q,Q,U⟩ Q Q ((H.sc (α:=Int) a2).sc (α:=Int) z) fun h9 w12 hx H=>hold U ?_)))
  obtain ⟨av,aw,bi,bj⟩:=a5
  refine have H:=((H.frz).s [1,0,2,3,4,5]).frz;have H:=H.s [2,3,0,1,4,5];fB (@wD d_b t u h1 g a h b 5 0 [z,a2] h9 [y] h8 av aw bi bj o1) (Γi:=[Bx d_b [(vi t),(h1).v,a,b],E (List (Sh Ty1)) u h1]) H [1,0] Q (pA iA (pA iA zA)) ?_
  rintro _ _ w13 ⟨h10,rfl,rfl⟩ H
  exact hold U ⟨((av,aw),h10),⟨Q,U⟩,oi_ f10,H.s [0,1]⟩
  exact U
  refine both ?_ ?_
  refine bO f6 fun a7 o2 f11=>bO f11 fun a8 o3 f12=>aB (α:=Int) gok Q Q Q Q H fun h11 w14 hx H=>hold U (Zx ((H.rs (α:=X) 4 Q).at1 o2) fun p1 m1 c4 c5 c6 c7=>dA c4 c5 c6 (hold U (aA ((H.rs (α:=X) 4 Q).at1' c4 c5 o2) (hold U (gA (α:=Int) (us:=[(vi z),(vi a7)]) (xs:=[z,a7]) (gs:=[(),()]) gok Q Q Q ⟨Q,Q,U⟩ Q Q ((H.sc (α:=Int) a7).sc (α:=Int) z) fun h12 w15 hx H=>hold U ?_)))))
  obtain ⟨ax,ay,bk,bl⟩:=a8
  refine have H:=((H.frz).s [1,0,2,3,4,5]).frz;have H:=H.s [2,3,0,1,4,5];fB (@wD d_b t u h1 g a h b 5 0 [z,a7] h12 [y] h11 ax ay bk bl o3) (Γi:=[Bx d_b [(vi t),(h1).v,a,b],E (List (Sh Ty1)) u h1]) H [1,0] Q (pA iA (pA iA zA)) ?_
  rintro _ _ w16 ⟨h13,rfl,rfl⟩ H
  exact hold U ⟨((ax,ay),h13),⟨Q,U⟩,oi_ f12,H.s [0,1]⟩
  exact U
  refine both ?_ ?_
  refine bO f5 fun a9 o4 f13=>bO f13 fun a10 o5 f14=>bO f14 fun a11 o6 f15=>Zx ((H.rs (α:=X) 2 Q).at1 o5) fun p2 m2 c8 c9 c10 c11=>dA c8 c9 c10 (hold U (both ?_ ?_))
  obtain ⟨⟨d,f,w,x⟩,k⟩:=a9
  refine have H:=H.s [1,3,0,2];fB (ih d_b j n c g a h b a1 h0 d f w x k o4) (Γi:=[Bx d_b [(vi j),(c).v,a,b],E (List (Sh Ty1)) n c]) H [0] Q (pA iA zA) ?_
  rintro _ _ w17 ⟨h14,rfl,rfl⟩ H
  refine hold U (both ?_ ?_)
  refine aA ((H.rs (α:=X) 3 Q).at1' c8 c9 o5) (hold U (both ?_ ?_))
  refine gA (α:=Int) (us:=[(vi k),(vi a10)]) (xs:=[k,a10]) (gs:=[(),()]) gok Q Q Q ⟨Q,Q,U⟩ Q Q ((H.sc (α:=Int) a10).sc (α:=Int) k) fun h15 w18 hx H=>hold U (aB (α:=Int) gok Q Q Q Q H fun h16 w19 hx H=>hold U ?_)
  obtain ⟨l,m,o,p⟩:=a11
  refine have H:=((H.s [1,0,2,3,4,5]).frz).s [1,0,2,3,4,5];have H:=(H.frz).s [2,3,0,1,4,5];fB (@wD d_b d f h14 g a h b 5 0 [k,a10] h15 [y] h16 l m o p o6) (Γi:=[Bx d_b [(vi d),(h14).v,a,b],E (List (Sh Ty1)) f h14]) H [1,0] Q (pA iA (pA iA zA)) ?_
  rintro _ _ w20 ⟨h17,rfl,rfl⟩ H
  exact hold U ⟨((l,m),h17),⟨Q,U⟩,oi_ f15,H.s [0,1]⟩
  refine both ?_ ?_
  refine aB (α:=Int) gok Q Q Q Q H fun h18 w21 hx H=>hold U (gA (α:=Int) (us:=[(vi k),(vi a10)]) (xs:=[k,a10]) (gs:=[(),()]) gok Q Q Q ⟨Q,Q,U⟩ Q Q ((H.sc (α:=Int) a10).sc (α:=Int) k) fun h19 w22 hx H=>hold U ?_)
  obtain ⟨l,m,o,p⟩:=a11
  refine have H:=((H.frz).s [1,0,2,3,4,5]).frz;have H:=H.s [2,3,0,1,4,5];fB (@wD d_b d f h14 g a h b 5 0 [k,a10] h19 [y] h18 l m o p o6) (Γi:=[Bx d_b [(vi d),(h14).v,a,b],E (List (Sh Ty1)) f h14]) H [1,0] Q (pA iA (pA iA zA)) ?_
  rintro _ _ w23 ⟨h20,rfl,rfl⟩ H
  exact hold U ⟨((l,m),h20),⟨Q,U⟩,oi_ f15,H.s [0,1]⟩
  exact U
  refine both ?_ ?_
  refine aB (α:=Int) gok Q Q Q Q H fun h21 w24 hx H=>hold U (aA ((H.rs (α:=X) 4 Q).at1' c8 c9 o5) (hold U (gA (α:=Int) (us:=[(vi k),(vi a10)]) (xs:=[k,a10]) (gs:=[(),()]) gok Q Q Q ⟨Q,Q,U⟩ Q Q ((H.sc (α:=Int) a10).sc (α:=Int) k) fun h22 w25 hx H=>hold U ?_)))
  obtain ⟨l,m,o,p⟩:=a11
  refine have H:=((H.frz).s [1,0,2,3,4,5]).frz;have H:=H.s [2,3,0,1,4,5];fB (@wD d_b d f h14 g a h b 5 0 [k,a10] h22 [y] h21 l m o p o6) (Γi:=[Bx d_b [(vi d),(h14).v,a,b],E (List (Sh Ty1)) f h14]) H [1,0] Q (pA iA (pA iA zA)) ?_
  rintro _ _ w26 ⟨h23,rfl,rfl⟩ H
  exact hold U ⟨((l,m),h23),⟨Q,U⟩,oi_ f15,H.s [0,1]⟩
  exact U
  refine both ?_ ?_
  refine aA ((H.rs (α:=X) 2 Q).at1' c8 c9 o5) (hold U (both ?_ ?_))
  obtain ⟨⟨d,f,w,x⟩,k⟩:=a9
  refine have H:=H.s [1,3,0,2];fB (ih d_b j n c g a h b a1 h0 d f w x k o4) (Γi:=[Bx d_b [(vi j),(c).v,a,b],E (List (Sh Ty1)) n c]) H [0] Q (pA iA zA) ?_
  rintro _ _ w27 ⟨h24,rfl,rfl⟩ H
  refine hold U (both ?_ ?_)
  refine gA (α:=Int) (us:=[(vi k),(vi a10)]) (xs:=[k,a10]) (gs:=[(),()]) gok Q Q Q ⟨Q,Q,U⟩ Q Q ((H.sc (α:=Int) a10).sc (α:=Int) k) fun h25 w28 hx H=>hold U (aB (α:=Int) gok Q Q Q Q H fun h26 w29 hx H=>hold U ?_)
  obtain ⟨l,m,o,p⟩:=a11
  refine have H:=((H.s [1,0,2,3,4,5]).frz).s [1,0,2,3,4,5];have H:=(H.frz).s [2,3,0,1,4,5];fB (@wD d_b d f h24 g a h b 5 0 [k,a10] h25 [y] h26 l m o p o6) (Γi:=[Bx d_b [(vi d),(h24).v,a,b],E (List (Sh Ty1)) f h24]) H [1,0] Q (pA iA (pA iA zA)) ?_
  rintro _ _ w30 ⟨h27,rfl,rfl⟩ H
  exact hold U ⟨((l,m),h27),⟨Q,U⟩,oi_ f15,H.s [0,1]⟩
  refine both ?_ ?_
  refine aB (α:=Int) gok Q Q Q Q H fun h28 w31 hx H=>hold U (gA (α:=Int) (us:=[(vi k),(vi a10)]) (xs:=[k,a10]) (gs:=[(),()]) gok Q Q Q ⟨Q,Q,U⟩ Q Q ((H.sc (α:=Int) a10).sc (α:=Int) k) fun h29 w32 hx H=>hold U ?_)
  obtain ⟨l,m,o,p⟩:=a11
  refine have H:=((H.frz).s [1,0,2,3,4,5]).frz;have H:=H.s [2,3,0,1,4,5];fB (@wD d_b d f h24 g a h b 5 0 [k,a10] h29 [y] h28 l m o p o6) (Γi:=[Bx d_b [(vi d),(h24).v,a,b],E (List (Sh Ty1)) f h24]) H [1,0] Q (pA iA (pA iA zA)) ?_
  rintro _ _ w33 ⟨h30,rfl,rfl⟩ H
  exact hold U ⟨((l,m),h30),⟨Q,U⟩,oi_ f15,H.s [0,1]⟩
  exact U
  refine both ?_ ?_
  refine aB (α:=Int) gok Q Q Q Q H fun h31 w34 hx H=>hold U ?_
  obtain ⟨⟨d,f,w,x⟩,k⟩:=a9
  refine have H:=H.s [2,4,0,1,3];fB (ih d_b j n c g a h b a1 h0 d f w x k o4) (Γi:=[Bx d_b [(vi j),(c).v,a,b],E (List (Sh Ty1)) n c]) H [1] Q (pA iA zA) ?_
  rintro _ _ w35 ⟨h32,rfl,rfl⟩ H
  refine hold U (gA (α:=Int) (us:=[(vi k),(vi a10)]) (xs:=[k,a10]) (gs:=[(),()]) gok Q Q Q ⟨Q,Q,U⟩ Q Q ((H.sc (α:=Int) a10).sc (α:=Int) k) fun h33 w36 hx H=>hold U ?_)
  obtain ⟨l,m,o,p⟩:=a11
  refine have H:=((H.frz).s [3,0,1,2,4,5]).frz;have H:=H.s [2,3,0,1,4,5];fB (@wD d_b d f h32 g a h b 5 0 [k,a10] h33 [y] h31 l m o p o6) (Γi:=[Bx d_b [(vi d),(h32).v,a,b],E (List (Sh Ty1)) f h32]) H [1,0] Q (pA iA (pA iA zA)) ?_
  rintro _ _ w37 ⟨h34,rfl,rfl⟩ H
  exact hold U ⟨((l,m),h34),⟨Q,U⟩,oi_ f15,H.s [0,1]⟩
  exact U
  refine both ?_ ?_
  refine aB (α:=Int) gok Q Q Q Q H fun h35 w38 hx H=>hold U (both ?_ ?_)
  obtain ⟨⟨d,f,w,x⟩,k⟩:=a9
  refine have H:=H.s [2,4,0,1,3];fB (ih d_b j n c g a h b a1 h0 d f w x k o4) (Γi:=[Bx d_b [(vi j),(c).v,a,b],E (List (Sh Ty1)) n c]) H [1] Q (pA iA zA) ?_
  rintro _ _ w39 ⟨h36,rfl,rfl⟩ H
  refine hold U (aA ((H.rs (α:=X) 4 Q).at1' c8 c9 o5) (hold U (gA (α:=Int) (us:=[(vi k),(vi a10)]) (xs:=[k,a10]) (gs:=[(),()]) gok Q Q Q ⟨Q,Q,U⟩ Q Q ((H.sc (α:=Int) a10).sc (α:=Int) k) fun h37 w40 hx H=>hold U ?_)))
  obtain ⟨l,m,o,p⟩:=a11
  refine have H:=((H.frz).s [3,0,1,2,4,5]).frz;have H:=H.s [2,3,0,1,4,5];fB (@wD d_b d f h36 g a h b 5 0 [k,a10] h37 [y] h35 l m o p o6) (Γi:=[Bx d_b [(vi d),(h36).v,a,b],E (List (Sh Ty1)) f h36]) H [1,0] Q (pA iA (pA iA zA)) ?_
  rintro _ _ w41 ⟨h38,rfl,rfl⟩ H
  exact hold U ⟨((l,m),h38),⟨Q,U⟩,oi_ f15,H.s [0,1]⟩
  refine both ?_ ?_
  refine aA ((H.rs (α:=X) 3 Q).at1' c8 c9 o5) (hold U ?_)
  obtain ⟨⟨d,f,w,x⟩,k⟩:=a9
  refine have H:=H.s [2,4,0,1,3];fB (ih d_b j n c g a h b a1 h0 d f w x k o4) (Γi:=[Bx d_b [(vi j),(c).v,a,b],E (List (Sh Ty1)) n c]) H [1] Q (pA iA zA) ?_
  rintro _ _ w42 ⟨h39,rfl,rfl⟩ H
  refine hold U (gA (α:=Int) (us:=[(vi k),(vi a10)]) (xs:=[k,a10]) (gs:=[(),()]) gok Q Q Q ⟨Q,Q,U⟩ Q Q ((H.sc (α:=Int) a10).sc (α:=Int) k) fun h40 w43 hx H=>hold U ?_)
  obtain ⟨l,m,o,p⟩:=a11
  refine have H:=((H.frz).s [3,0,1,2,4,5]).frz;have H:=H.s [2,3,0,1,4,5];fB (@wD d_b d f h39 g a h b 5 0 [k,a10] h40 [y] h35 l m o p o6) (Γi:=[Bx d_b [(vi d),(h39).v,a,b],E (List (Sh Ty1)) f h39]) H [1,0] Q (pA iA (pA iA zA)) ?_
  rintro _ _ w44 ⟨h41,rfl,rfl⟩ H
  exact hold U ⟨((l,m),h41),⟨Q,U⟩,oi_ f15,H.s [0,1]⟩
  exact U
  exact U
  refine both ?_ ?_
  refine bO f5 fun a13 o7 f16=>bO f16 fun a14 o8 f17=>bO f17 fun a15 o9 f18=>aB (α:=Int) gok Q Q Q Q H fun h42 w45 hx H=>hold U (both ?_ ?_)
  obtain ⟨⟨q,r,ac,ad⟩,s⟩:=a13
  refine have H:=H.s [2,4,0,1,3];fB (ih d_b j n c g a h b a1 h0 q r ac ad s o7) (Γi:=[Bx d_b [(vi j),(c).v,a,b],E (List (Sh Ty1)) n c]) H [1] Q (pA iA zA) ?_
  rintro _ _ w46 ⟨h43,rfl,rfl⟩ H
  refine hold U (Zx ((H.rs (α:=X) 4 Q).at1 o8) fun p3 m3 c12 c13 c14 c15=>dA c12 c13 c14 (hold U (aA ((H.rs (α:=X) 4 Q).at1' c12 c13 o8) (hold U (gA (α:=Int) (us:=[(vi s),(vi a14)]) (xs:=[s,a14]) (gs:=[(),()]) gok Q Q Q ⟨Q,Q,U⟩ Q Q ((H.sc (α:=Int) a14).sc (α:=Int) s) fun h44 w47 hx H=>hold U ?_)))))
  obtain ⟨aa,ab,af,ag⟩:=a15
  refine have H:=((H.frz).s [3,0,1,2,4,5]).frz;have H:=H.s [2,3,0,1,4,5];fB (@wD d_b q r h43 g a h b 5 0 [s,a14] h44 [y] h42 aa ab af ag o9) (Γi:=[Bx d_b [(vi q),(h43).v,a,b],E (List (Sh Ty1)) r h43]) H [1,0] Q (pA iA (pA iA zA)) ?_
  rintro _ _ w48 ⟨h45,rfl,rfl⟩ H
  exact hold U ⟨((aa,ab),h45),⟨Q,U⟩,oi_ f18,H.s [0,1]⟩
  refine both ?_ ?_
  refine Zx ((H.rs (α:=X) 3 Q).at1 o8) fun p4 m4 c16 c17 c18 c19=>dA c16 c17 c18 (hold U (both ?_ ?_))
  obtain ⟨⟨q,r,ac,ad⟩,s⟩:=a13
  refine have H:=H.s [2,4,0,1,3];fB (ih d_b j n c g a h b a1 h0 q r ac ad s o7) (Γi:=[Bx d_b [(vi j),(c).v,a,b],E (List (Sh Ty1)) n c]) H [1] Q (pA iA zA) ?_
  rintro _ _ w49 ⟨h46,rfl,rfl⟩ H
  refine hold U (aA ((H.rs (α:=X) 4 Q).at1' c16 c17 o8) (hold U (gA (α:=Int) (us:=[(vi s),(vi a14)]) (xs:=[s,a14]) (gs:=[(),()]) gok Q Q Q ⟨Q,Q,U⟩ Q Q ((H.sc (α:=Int) a14).sc (α:=Int) s) fun h47 w50 hx H=>hold U ?_)))
  obtain ⟨aa,ab,af,ag⟩:=a15
  refine have H:=((H.frz).s [3,0,1,2,4,5]).frz;have H:=H.s [2,3,0,1,4,5];fB (@wD d_b q r h46 g a h b 5 0 [s,a14] h47 [y] h42 aa ab af ag o9) (Γi:=[Bx d_b [(vi q),(h46).v,a,b],E (List (Sh Ty1)) r h46]) H [1,0] Q (pA iA (pA iA zA)) ?_
  rintro _ _ w51 ⟨h48,rfl,rfl⟩ H
  exact hold U ⟨((aa,ab),h48),⟨Q,U⟩,oi_ f18,H.s [0,1]⟩
  refine both ?_ ?_
  refine aA ((H.rs (α:=X) 3 Q).at1' c16 c17 o8) (hold U ?_)
  obtain ⟨⟨q,r,ac,ad⟩,s⟩:=a13
  refine have H:=H.s [2,4,0,1,3];fB (ih d_b j n c g a h b a1 h0 q r ac ad s o7) (Γi:=[Bx d_b [(vi j),(c).v,a,b],E (List (Sh Ty1)) n c]) H [1] Q (pA iA zA) ?_
  rintro _ _ w52 ⟨h49,rfl,rfl⟩ H
  refine hold U (gA (α:=Int) (us:=[(vi s),(vi a14)]) (xs:=[s,a14]) (gs:=[(),()]) gok Q Q Q ⟨Q,Q,U⟩ Q Q ((H.sc (α:=Int) a14).sc (α:=Int) s) fun h50 w53 hx H=>hold U ?_)
  obtain ⟨aa,ab,af,ag⟩:=a15
  refine have H:=((H.frz).s [3,0,1,2,4,5]).frz;have H:=H.s [2,3,0,1,4,5];fB (@wD d_b q r h49 g a h b 5 0 [s,a14] h50 [y] h42 aa ab af ag o9) (Γi:=[Bx d_b [(vi q),(h49).v,a,b],E (List (Sh Ty1)) r h49]) H [1,0] Q (pA iA (pA iA zA)) ?_
  rintro _ _ w54 ⟨h51,rfl,rfl⟩ H
  exact hold U ⟨((aa,ab),h51),⟨Q,U⟩,oi_ f18,H.s [0,1]⟩
  exact U
  exact U
  exact U
  rintro T0 ⟨⟨bq,br⟩,g0⟩ w55 ⟨hr,H⟩;(try dsimp only at H)
  subst hr
  cases f4
  exact ⟨_,_,Q,⟨g0,Q,Q⟩,(H.s [0,1])⟩
  refine aB (α:=Int) gok Q Q Q Q H fun h52 w56 hx H=>have H:=H.nil (α:=Int);bO f19 fun ⟨bm,bn,bo,bp⟩ i9 f20=>have H:=((H.frz).s [1,0,2,3,4]).frz;have H:=H.s [2,4,0,1,3];fB (@wD d_b j n c g a h b 6 0 [] nilH [y] h52 bm bn bo bp i9) (Γi:=[Bx d_b [(vi j),(c).v,a,b],E (List (Sh Ty1)) n c]) H [1,0] Q (pA iA (pA iA zA)) ?_
  rintro _ _ w57 ⟨h53,rfl,rfl⟩ H
  cases f20
  exact ⟨_,_,Q,⟨h53,Q,Q⟩,(H.s [0,1])⟩
  refine Zi f21 (H.rs (α:=X) 0 Q) fun a16 p5 m5 c23 f22=>aA c23 ?_
  cases f22
  exact ⟨_,_,Q,⟨c,Q,Q⟩,(H.s [1,2])⟩
theorem Gx_ {d_b:Nat}{d:Int}{e:List Ty1}{a:Hd}{j:X}{b:Value}{k:X}{c:Value}{i:X}{f:Hd}{g:Int}{h:List Ty1}{l m:X}{y1:Int} (hF:rY (d,e,j,k) i=some ((g,h,l,m),y1)) :
  lD Tryz.prog 73 #[(vp d_b),(f).v] [Es X i f] [Bx d_b [(vi d),(a).v,b,c],E (List (Sh Ty1)) e a] (fun v Γ'=>∃ z0:Hd,v=(vi y1)∧Γ'=[Bx d_b [(vi g),(z0).v,b,c],E (List (Sh Ty1)) h z0]):=Gp_ _ d_b d e a j b k c i f g h l m y1 hF
theorem Gc_ {d_b:Nat}{n:Int}{o:List Ty1}{k:Hd}{h:X}{a:Value}{j:X}{b:Value}{l:X}{f:Hd}{d:List X}{c:Hd}{ai s:Int}{t:List Ty1}{aj ak y1:X} (hF:cY (n,o,h,j) l d ai=some ((s,t,aj,ak),y1)) :
  lD Tryz.prog 47 #[(vp d_b),(f).v,(c).v,(vi ai)] [Es X l f,Es (List X) d c] [Bx d_b [(vi n),(k).v,a,b],E (List (Sh Ty1)) o k] (fun v Γ'=>∃ z0 z1:Hd,v=(z1).v∧Γ'=[Bx d_b [(vi s),(z0).v,a,b],E (List (Sh Ty1)) t z0,Es X y1 z1]):=by
 refine Zs (args:=[_,_,_,_]) gok Tryz.func47 Q _ Q Q Q fun w0 S0 fp0 H=>bO hF fun a5 e hF6=>sD (α:=X) gok Q Q Q Q (xD e) H fun h8 w7 hx H=>sq (eA (H.rs (α:=List X) 2 Q).len (have x0:=(H.rs (α:=List X) 2 Q).max;bO hF6 fun r0 e f0=>cB _ d.length (fun (k0:Nat) (s0:Int×(List Ty1)×List X) (g0:Hd)=>[(0,(vp d_b)),(1,(f).v),(9,(h8).v),(25,(c).v),(26,(vi ((d.length:Nat):Int))),(27,(vi ((k0:Nat):Int)))]) (fun _ (s0:Int×(List Ty1)×List X) (g0:Hd) w'=>Cx w0 fp0 S0 w' [Bx d_b [(vi s0.1),(g0).v,a,b],E (List (Sh Ty1)) s0.2.1 g0,Es X l f,E (List X) s0.2.2 h8,Es (List X) d c]) (n,o,a5) k e r6_ (H.s [3,4,1,0,2]) ?_ ?_));rintro T0 k0 ⟨x,y,al⟩ g0 w1 o0 hk H f1;(try dsimp only at H);refine bA (z:=true) (uA hk) (sq (sq ?_));refine bO f1 fun a0 e f2=>Zz (H.elL 4 Q e) fun p0 m0 h0 c0 c1 c2 c3 H=>dA c0 c1 c2 (aA c3 (tF (α:=Int) gok Q Q H fun h1 w2 hx H=>sq (eA (H.rs (α:=X) 1 Q).len (have x1:=(H.rs (α:=X) 1 Q).max;bO f2 fun r1 e f3=>cB _ a0.length (fun (k1:Nat) (s1:X) (g1:Hd)=>[(0,(vp d_b)),(1,(f).v),(9,(h8).v),(10,(vi ((k0:Nat):Int))),(11,(h0).v),(12,(g1).v),(25,(c).v),(26,(vi ((d.length:Nat):Int))),(27,(vi ((k0:Nat):Int))),(33,(h0).v),(34,(vi ((a0.length:Nat):Int))),(35,(vi ((k1:Nat):Int)))]) (fun _ (s1:X) (g1:Hd) w'=>Cx w0 fp0 S0 w' [Bx d_b [(vi x),(g0).v,a,b],E (List (Sh Ty1)) y g0,Es X l f,E (List X) al h8,Es X a0 h0,E X s1 g1,Es (List X) d c]) ([]:X) h1 e r12_ (H.s [2,3,4,5,1,0,6]) ?_ ?_))));rintro T1 k1 s1 g1 w3 o1 hk H f4;refine bA (z:=true) (uA hk) (sq (sq ?_));refine Zi f4 (H.rs (α:=X) 4 Q) fun a1 p1 m1 c7 f5=>aA c7 (boolB_ f5 (fun f7=>?_) fun f8=>?_);refine arK hk x1 ?_;obtain rfl:=oi_ f7;exact ⟨g1,r12_,H.s [0,1,2,3,4,5,6]⟩;refine aB (α:=Int) gok Q Q Q Q H fun h2 w4 hx H=>bO f8 fun a3 e f9=>append_ (α:=Int) gok Q Q Q Q (H.s [6,0,1,2,3,4,5,7]) e fun h3 w5 H=>arK hk x1 ?_;obtain rfl:=oi_ f9;exact ⟨h3,r12_,H.s [1,2,3,4,5,0,6]⟩;rintro T2 g2 w6 H;refine bA (z:=false) vA (sq (Zi f3 (H.rs (α:=X) 2 Q) fun a4 p2 m2 c11 f10=>aA c11 (eA (H.ro (α:=X) 5 Q).len (bO f10 fun y0 e f11=>?_))));obtain ⟨⟨p,q,aa,ab⟩,m⟩:=y0
 refine have i0:=e;fB (@Ge_ d_b x y g0 h a j b a4 ((r1.length:Nat):Int) p q aa ab m i0) (Γi:=[Bx d_b [(vi x),(g0).v,a,b],E (List (Sh Ty1)) y g0]) H [] Q zA ?_;rintro _ _ w8 ⟨h4,h5,rfl,rfl⟩ H;refine eA (H.rs (α:=X) 2 Q).len (have x2:=(H.rs (α:=X) 2 Q).max;bO f11 fun r2 e f12=>cB _ m.length (fun (k2:Nat) (s2:Int×(List Ty1)×List X) (g3:Hd)=>[(0,(vp d_b)),(1,(f).v),(9,(h8).v),(11,(h0).v),(12,(g2).v),(25,(c).v),(26,(vi ((d.length:Nat):Int))),(27,(vi ((k0:Nat):Int))),(54,(h5).v),(55,(vi ((m.length:Nat):Int))),(56,(vi ((k2:Nat):Int)))]) (fun _ (s2:Int×(List Ty1)×List X) (g3:Hd) w'=>Cx w0 fp0 S0 w' [Bx d_b [(vi s2.1),(g3).v,a,b],E (List (Sh Ty1)) s2.2.1 g3,Es X l f,E (List X) s2.2.2 h8,Es X a0 h0,E X r1 g2,Es (List X) d c,Es X m h5]) (p,q,al) h4 e r11_ (H.s [0,1,3,4,5,6,7,2]) ?_ ?_);rintro T3 k2 ⟨ac,r,ap⟩ g3 w9 o2 hk H f13;(try dsimp only at H);refine bA (z:=true) (uA hk) (sq (sq ?_));refine Zi f13 (H.rs (α:=X) 7 Q) fun a6 p3 m3 c15 f14=>aA c15 (Zi f14 (H.ro (α:=X) 5 Q) fun a7 p4 m4 c19 f15=>aA c19 (bO f15 fun r3 f16 f17=>cut (fun (q0:(Int×(List Ty1)×Int)×Hd)=>[(0,(vp d_b)),(1,(f).v),(9,(h8).v),(11,(h0).v),(12,(g2).v),(16,(vi q0.1.2.2)),(17,(vi a7)),(25,(c).v),(26,(vi ((d.length:Nat):Int))),(27,(vi ((k0:Nat):Int))),(54,(h5).v),(55,(vi ((m.length:Nat):Int))),(56,(vi ((k2:Nat):Int)))]) (fun (q0:(Int×(List Ty1)×Int)×Hd) w'=>(q0.1.1,q0.1.2.1,q0.1.2.2)=r3∧Cx w0 fp0 S0 w' [Bx d_b [(vi q0.1.1),(q0.2).v,a,b],E (List (Sh Ty1)) q0.1.2.1 q0.2,Es X l f,E (List X) ap h8,Es X a0 h0,E X r1 g2,Es (List X) d c,Es X m h5]) ?_ ?_));refine Zi f16 (H.rs (α:=X) 4 Q) fun a8 p5 m5 c23 f18=>aA c23 (boolB_ f18 (fun f20=>?_) fun f21=>?_);exact ⟨((ac,r,a6),g3),r13_,oi_ f20,H.s [0,1,2,3,4,5,6,7]⟩;obtain ⟨y2,e,f22⟩:=nB f21;obtain ⟨⟨g,ad,ae,af⟩,ag⟩:=y2;refine have i1:=e;iC (@pP d_b ac r ((g3).v) h a j b g ad ae af ag i1) (Γi:=[Bx d_b [(vi ac),(g3).v,a,b]]) H U ?_;rintro _ _ w10 ⟨rfl,rfl⟩ H
 refine aB (α:=Int) gok Q Q Q Q H fun h6 w11 hx H=>aB (α:=Int) gok Q Q Q Q H fun h7 w12 hx H=>bO f22 fun ⟨u,w,am,an⟩ i2 f23=>have H:=((H.s [1,0,2,3,4,5,6,7,8,9]).frz).s [1,0,2,3,4,5,6,7,8,9];have H:=(H.frz).s [2,3,0,1,4,5,6,7,8,9];fB (@wD d_b g r g3 h a j b 7 a8 [a6] h6 [ag] h7 u w am an i2) (Γi:=[Bx d_b [(vi g),(g3).v,a,b],E (List (Sh Ty1)) r g3]) H [1,0] Q (pA iA (pA iA zA)) ?_;rintro _ _ w13 ⟨h9,rfl,rfl⟩ H;exact ⟨((u,w,ag),h9),r13_,oi_ f23,H.s [0,1,4,5,6,7,8,9]⟩;rintro T4 ⟨⟨bd,be,bf⟩,g4⟩ w14 ⟨hr,H⟩;(try dsimp only at H);subst hr;refine bO f17 fun a10 e f24=>have H:=(H.s [3,0,1,2,4,5,6,7]).toEH (α:=X);Zz (H.peekL e) fun p6 m6 h10 c24 c25 c26 c27 H=>dA c24 c25 c26 (aA c27 (aB (α:=Int) gok Q Q Q Q H fun h11 w15 hx H=>have H:=(H.s [1,0,2,3,4,5,6,7,8]).takeK 0 Q;bO f24 fun a11 e f25=>append_ (α:=Int) gok Q Q Q Q (H.s [0,2,1,3,4,5,6,7,8,9]) e fun h12 w16 H=>dA c24 c25 c26 (stX0 (H.s [1,0,2,3,4,5,6,7,8]) c24 Q Q fun w17 H=>bO f25 fun a12 e f26=>have H:=(H.s [1,0,2,3,4,5,6,7,8]).put c25 e;arK hk x2 ?_)));obtain rfl:=oi_ f26;exact ⟨g4,r11_,H.s [1,2,3,0,4,5,6,7]⟩;obtain ⟨bg,bh,bi⟩:=r2;rintro T5 g5 w18 H;refine bA (z:=false) vA (sq (arK hk x0 ?_));obtain rfl:=oi_ f12;exact ⟨g5,r6_,H.s [0,1,2,3,6]⟩;obtain ⟨aq,au,ah⟩:=r0;rintro T6 g6 w19 H;refine bA (z:=false) vA (sq (tF (α:=Int) gok Q Q H fun h13 w20 hx H=>sq (eA (H.ro (α:=List X) 4 Q).len (have H:=(H.s [4,0,1,2,3,5]).frz;have x3:=(H.rs (α:=List X) 0 Q).max;bO f0 fun r4 e f27=>cB _ ah.length (fun (k3:Nat) (s6:Int×(List Ty1)×X) (g7:Hd×Hd)=>[(0,(vp d_b)),(20,(g7.2).v),(94,(h8).v),(95,(vi ((ah.length:Nat):Int))),(96,(vi ((k3:Nat):Int)))]) (fun _ (s6:Int×(List Ty1)×X) (g7:Hd×Hd) w'=>Cx w0 fp0 S0 w' [Bx d_b [(vi s6.1),(g7.1).v,a,b],E (List (Sh Ty1)) s6.2.1 g7.1,E X s6.2.2 g7.2,Es (List X) ah h8]) (aq,au,([]:X)) (g6,h13) e r5_ (H.s [2,3,1,0]) ?_ ?_))));rintro T7 k3 ⟨av,aw,bj⟩ ⟨ao,bk⟩ w21 o3 hk H f28;(try dsimp only at H);refine bA (z:=true) (uA hk) (sq (sq ?_));refine bO f28 fun a13 e f29=>Zz (H.elL 3 Q e) fun p7 m7 h14 c28 c29 c30 c31 H=>dA c28 c29 c30 (aA c31 (bO f29 fun y4 e f30=>?_));obtain ⟨⟨ax,ay,az,ba⟩,bl⟩:=y4
 refine have i3:=e;have H:=H.s [1,2,0,3,4];fB (Gx_ i3) (Γi:=[Bx d_b [(vi av),(ao).v,a,b],E (List (Sh Ty1)) aw ao]) H [0] Q (pA iA zA) ?_;rintro _ _ w22 ⟨h15,rfl,rfl⟩ H;refine aB (α:=Int) gok Q Q Q Q H fun h16 w23 hx H=>bO f30 fun a14 e f31=>append_ (α:=Int) gok Q Q Q Q (H.s [4,0,1,2,3,5]) e fun h17 w24 H=>arK hk x3 ?_;obtain rfl:=oi_ f31;exact ⟨(h15,h17),r5_,H.s [1,2,0,4]⟩;obtain ⟨bm,bn,bo⟩:=r4;rintro T8 ⟨bb,bc⟩ w25 H;(try dsimp only at H);refine bA (z:=false) vA (sq ?_);replace H:=(H.s [2,0,1,3]).frz;cases f27;exact ⟨_,_,Q,⟨bb,bc,Q,Q⟩,(H.s [1,2,0])⟩
theorem GA_ {f g:Int}{c:X}{a:Hd}{d:X}{b:Hd}{y:Bool} (hF:xS (f,g,c,d)=some y) :
  cA Tryz.prog 130 #[(.agg #[(vi f),(vi g),(a).v,(b).v])] [Es X c a,Es X d b] [] (fun v Γ'=>v=(.bool y)∧Γ'=[]):=by
 refine Ze (args:=[_]) gok Tryz.func130 Q _ Q Q Q fun w0 S0 fp0 H=>xA H fun b4 w3 hx H=>sq (bO hF fun r0 f0 f1=>cut (fun (q0:Bool)=>[(1,(vp b4)),(14,(.bool q0))]) (fun (q0:Bool) w'=>q0=r0∧Cx w0 fp0 S0 w' [Bx b4 [(vi f),(vi g),(a).v,(b).v],Es X c a,Es X d b]) ?_ ?_);refine fld gok Q Q Q Q (aA (H.b 0 0 Q Q) (Zc00 f0 B4_ H U fun y0 f2 w1 H=>boolB_ f2 (fun f4=>?_) fun f7=>?_));exact fld gok Q Q Q Q (aA (H.b 0 0 Q Q) (fld gok Q Q Q Q (aA (H.b 0 1 Q Q) (Zc00 f4 BX_ H U fun y1 f5 w2 H=>bO f5 fun a1 e f6=>vB e ⟨a1,⟨Q,Q,U⟩,oi_ f6,H.s [0,1,2]⟩))));exact ⟨true,⟨Q,Q,U⟩,oi_ f7,H.s [0,1,2]⟩;rintro T0 s0 w4 ⟨hr,H⟩;(try dsimp only at H);subst hr;cases s0;have f8:=uB f1
 refine mB H [] (.fst 0 (.fst 3 (.fst 6 (.fst 1 (.fst 4 (.fst 5 (.fst 7 (.fst 8 (.fst 9 (.act 2 (.act 10 (.fst 11 .done)))))))))))) eB [] U (by kernel_rfl) ?_;intro w5 H
 have hX:Ext w5 w5:=Upd.refl _ _;refine mA (fun _=>fld gok Q Q Q Q ⟨Q,Q⟩) (mA (fun _=>fld gok Q Q Q Q ⟨Q,Q⟩) (mA (fun _=>fld gok Q Q Q Q ⟨Q,Q⟩) (jA (H.b 0 0 Q Q) (jA (H.b 0 2 Q Q) (eA (H.rs (α:=X) 1 Q).len (jA (H.b 0 3 Q Q) (eA (H.rs (α:=X) 2 Q).len (mA (fun _=>kB (cs:=#[(vi ((c.length:Nat):Int)),(vi ((d.length:Nat):Int))]) gok Q Q Q ⟨Q,Q⟩) (bO f8 fun ⟨h,i⟩ i2 f9=>Zq0 (qS i2) H U fun w6 hx H=>hold_ hX hx fun hX=>(bO f9 fun a2 e f10=>?_))))))))))
 refine eqA gok Q Tryz.underlying109 (by kernel_rfl) (by kernel_rfl) (by kernel_rfl) (by refine ⟨Q,⟨_,_,Q⟩,Q,⟨_,_,Q⟩,U⟩) (ls:=[h,i]) (bs:=[((c.length:Nat):Int),((d.length:Nat):Int)]) Q Q Q Q e ?_
 refine hold hX ?_;cases f10;exact ⟨_,_,Q,⟨Q,Q⟩,(H.s []).close U⟩;have f11:=tB f1;cases f11;exact ⟨_,_,Q,⟨Q,Q⟩,(H.s []).close U⟩
theorem oS {f:X}{d:Hd}{c0_b:Nat}{h:Int}{i:List Ty1}{a:Hd}{k:X}{b:Hd}{l:X}{c:Hd}{c1_b:Nat}{m:Bool}{c2_b:Nat}{n:List Bool}{g:Hd}{c3_b:Nat}{o:Int}{y0:Bool}{y1:List Bool}{y2:Int} (hF:kJ f (h,i,k,l) m n o=some (y0,y1,y2)) :
  cA Tryz.prog 132 #[(d).v,(vp c0_b),(vp c1_b),(vp c2_b),(vp c3_b)] [Es X f d,Es (List Ty1) i a,Es X k b,Es X l c] [Bx c0_b [(vi h),(a).v,(b).v,(c).v],Bx c1_b [(.bool m)],Bx c2_b [(g).v],E (List Bool) n g,Bx c3_b [(vi o)]] (fun v Γ'=>v=(.tuple #[])∧Γ'=[Bx c0_b [(vi h),(a).v,(b).v,(c).v],Bx c1_b [(.bool y0)],Bx c2_b [(g).v],E (List Bool) y1 g,Bx c3_b [(vi y2)]]):=by
 refine Ze (args:=[_,_,_,_,_]) gok Tryz.func132 Q _ Q Q Q fun w0 S0 fp0 H=>eA (H.rs (α:=X) 0 Q).len (have x0:=(H.rs (α:=X) 0 Q).max;bO hF fun r0 e f0=>cB _ f.length (fun (k0:Nat) (s0:Bool×Int×List Bool) (_:Unit)=>[(1,(vp c0_b)),(2,(vp c1_b)),(3,(vp c2_b)),(4,(vp c3_b)),(8,(d).v),(9,(vi ((f.length:Nat):Int))),(10,(vi ((k0:Nat):Int)))]) (fun _ (s0:Bool×Int×List Bool) (_:Unit) w'=>Cx w0 fp0 S0 w' [Bx c0_b [(vi h),(a).v,(b).v,(c).v],Es (List Ty1) i a,Es X k b,Es X l c,Bx c1_b [(.bool s0.1)],Bx c2_b [(g).v],E (List Bool) s0.2.2 g,Bx c3_b [(vi s0.2.1)],Es X f d]) (m,o,n) () e r7_ (H.s [4,1,2,3,5,6,7,8,0]) ?_ ?_);rintro T0 k0 ⟨p,q,r⟩ _ w1 o0 hk H f1;(try dsimp only at H);refine bA (z:=true) (uA hk) (sq (bO f1 fun r1 f2 f3=>cut (fun (q0:Bool×Int×List Bool)=>[(1,(vp c0_b)),(2,(vp c1_b)),(3,(vp c2_b)),(4,(vp c3_b)),(8,(d).v),(9,(vi ((f.length:Nat):Int))),(10,(vi ((k0:Nat):Int)))]) (fun (q0:Bool×Int×List Bool) w'=>(q0.1,q0.2.1,q0.2.2)=r1∧Cx w0 fp0 S0 w' [Bx c0_b [(vi h),(a).v,(b).v,(c).v],Es (List Ty1) i a,Es X k b,Es X l c,Bx c1_b [(.bool q0.1)],Bx c2_b [(g).v],E (List Bool) q0.2.2 g,Bx c3_b [(vi q0.2.1)],Es X f d]) ?_ ?_));refine Zi f2 (H.rs (α:=X) 8 Q) fun a0 p0 m0 c3 f4=>aA c3 (sq (fld gok Q Q Q Q (aA (H.b 0 0 Q Q) (bO f4 fun a1 e f5=>arO e (Zc00 f5 pJ H U fun y3 f6 w2 H=>boolB_ f6 (fun f8=>?_) fun f15=>?_)))));refine aA (H.bx0 5 Q) (bO f8 fun a3 e f9=>Zx ((H.ro (α:=List Bool) 6 Q).at1 e) fun p1 m1 c4 c5 c6 c7=>dA c4 c5 c6 (aA c7 (boolB_ f9 (fun f11=>?_) fun f12=>?_)));exact ⟨(p,q,r),r7_,oi_ f11,H.s [0,1,2,3,4,5,6,7,8]⟩;exact aA (H.bx0 5 Q) (bO f12 fun a5 i1 f13=>Zy ((H.ro (α:=List Bool) 6 Q).setp i1) fun p2 m2 c8 c9 c10=>dA c8 c9 c10 (qC (α:=Bool) (H.s [6,0,1,2,3,4,5,7,8]) c8 c9 i1 fun w3 H=>aA (H.bx0 7 Q) (bO f13 fun a6 e f14=>arO e (pK (H.s [7,0,1,2,3,4,5,6,8]) Q fun w4 H=>⟨(p,a6,a5),r7_,oi_ f14,H.s [2,3,4,5,6,7,1,0,8]⟩))));exact pK (H.s [4,0,1,2,3,5,6,7,8]) Q fun w5 H=>⟨(false,q,r),r7_,oi_ f15,H.s [1,2,3,4,0,5,6,7,8]⟩;rintro T1 ⟨s,t,u⟩ w6 ⟨hr,H⟩;(try dsimp only at H);subst hr;refine arK hk x0 ?_;obtain rfl:=oi_ f3;exact ⟨(),r7_,H.s [0,1,2,3,4,5,6,7,8]⟩;obtain ⟨w,x,y⟩:=r0;rintro T2 _ w7 H;refine bA (z:=false) vA (sq ?_);cases f0
 exact ⟨_,_,Q,⟨Q,Q⟩,(H.s [0,4,5,6,7]).close ⟨cloB,cloB,cloB,cloE,cloB,U⟩⟩
theorem FX_ {q:Int}{k:List Ty1}{g:Hd}{r:X}{o:Hd}{s:X}{p:Hd}{d0_b:Nat}{f:Int}{l:List Ty1}{a:Hd}{m:X}{b:Hd}{n:X}{c:Hd}{d1_b:Nat}{t:Bool}{d2_b:Nat}{u:List Bool}{d:Hd}{d3_b:Nat}{w:Int}{y0:Bool}{y1:List Bool}{y2:Int} (hF:mS (q,k,r,s) (f,l,m,n) t u w=some (y0,y1,y2)) :
  cA Tryz.prog 131 #[(.agg #[(vi q),(g).v,(o).v,(p).v]),(.func (.func 132) #[] #[(vp d0_b),(vp d1_b),(vp d2_b),(vp d3_b)])] [Es (List Ty1) k g,Es X r o,Es X s p,Es (List Ty1) l a,Es X m b,Es X n c] [Bx d0_b [(vi f),(a).v,(b).v,(c).v],Bx d1_b [(.bool t)],Bx d2_b [(d).v],E (List Bool) u d,Bx d3_b [(vi w)]] (fun v Γ'=>v=(.tuple #[])∧Γ'=[Bx d0_b [(vi f),(a).v,(b).v,(c).v],Bx d1_b [(.bool y0)],Bx d2_b [(d).v],E (List Bool) y1 d,Bx d3_b [(vi y2)]]):=by
 refine Ze (args:=[_,_]) gok Tryz.func131 Q _ Q Q Q fun w0 S0 fp0 H=>xA H fun b0 w1 hx H=>fld gok Q Q Q Q (aA (H.b 0 2 Q Q) (bO hF fun ⟨x,y,aa⟩ i0 f0=>have H:=H.s [7,8,9,10,11,0,1,2,3,4,5,6];Zd0 (oS i0) (Γi:=[Bx d0_b [(vi f),(a).v,(b).v,(c).v],Bx d1_b [(.bool t)],Bx d2_b [(d).v],E (List Bool) u d,Bx d3_b [(vi w)]]) H ⟨Vw.sh 2 Q,Vw.sh 4 Q,Vw.sh 5 Q,Vw.sh 6 Q,U⟩ fun w2 H=>fld gok Q Q Q Q (aA (H.b 5 3 Q Q) (bO f0 fun ⟨ab,ac,ad⟩ i1 f1=>Zd0 (oS i1) (Γi:=[Bx d0_b [(vi f),(a).v,(b).v,(c).v],Bx d1_b [(.bool x)],Bx d2_b [(d).v],E (List Bool) y d,Bx d3_b [(vi aa)]]) H ⟨Vw.sh 3 Q,Vw.sh 4 Q,Vw.sh 5 Q,Vw.sh 6 Q,U⟩ fun w3 H=>fld gok Q Q Q Q (aA (H.b 5 1 Q Q) (eA (H.rs (α:=List Ty1) 6 Q).len ?_))))));have x0:=(H.rs (α:=List Ty1) 6 Q).max;refine bO f1 fun r0 e f2=>cB _ k.length (fun (k0:Nat) (s0:Int×Bool×List Bool) (_:Unit)=>[(1,(.func (.func 132) #[] #[(vp d0_b),(vp d1_b),(vp d2_b),(vp d3_b)])),(15,(g).v),(16,(vi ((k.length:Nat):Int))),(17,(vi ((k0:Nat):Int)))]) (fun _ (s0:Int×Bool×List Bool) (_:Unit) w'=>Cx w0 fp0 S0 w' [Bx d0_b [(vi f),(a).v,(b).v,(c).v],Es (List Ty1) l a,Es X m b,Es X n c,Bx d1_b [(.bool s0.2.1)],Bx d2_b [(d).v],E (List Bool) s0.2.2 d,Bx d3_b [(vi s0.1)],Es (List Ty1) k g]) (ad,ab,ac) () e r4_ (H.s [0,9,10,11,1,2,3,4,6]) ?_ ?_;rintro T0 k0 ⟨ae,af,ag⟩ _ w4 o0 hk H f3;(try dsimp only at H);refine bA (z:=true) (uA hk) (sq (sq ?_));refine bO f3 fun a0 e f4=>Zz (H.el (α:=Ty1) 8 Q e) fun p0 m0 g0 c0 c1 c2 c3 H=>?_;obtain ⟨ah,ai,aj,ak⟩:=a0;obtain ⟨_,_,h0,h1⟩:=g0
 refine have H:=((H.part (β:=X) aj (h0:Hd) 0 Q (fun S h=>(And.left (And.right (And.right h))))).part (β:=X) ak (h1:Hd) 1 Q (fun S h=>(And.right (And.right (And.right h))))).s [0,1,3,4,5,6,7,8,9,10,11];dA c0 c1 c2 (oC [(vi ah),(vi ai),(h0).v,(h1).v] Q c3 (yA gok Q H fun b1 w5 hx H=>stA gok _ Q H Q Q Q fun w6 H=>fld gok Q Q Q Q (aA (H.b 0 2 Q Q) (bO f4 fun ⟨al,am,an⟩ i2 f5=>have H:=H.s [3,7,8,9,10,0,1,2,4,5,6,11];Zd0 (oS i2) (Γi:=[Bx d0_b [(vi f),(a).v,(b).v,(c).v],Bx d1_b [(.bool af)],Bx d2_b [(d).v],E (List Bool) ag d,Bx d3_b [(vi ae)]]) H ⟨Vw.sh 2 Q,Vw.sh 3 Q,Vw.sh 4 Q,Vw.sh 5 Q,U⟩ fun w7 H=>fld gok Q Q Q Q (aA (H.b 5 3 Q Q) (bO f5 fun ⟨ao,ap,aq⟩ i3 f6=>Zd0 (oS i3) (Γi:=[Bx d0_b [(vi f),(a).v,(b).v,(c).v],Bx d1_b [(.bool al)],Bx d2_b [(d).v],E (List Bool) am d,Bx d3_b [(vi an)]]) H ⟨Vw.sh 1 Q,Vw.sh 3 Q,Vw.sh 4 Q,Vw.sh 5 Q,U⟩ fun w8 H=>?_))))));refine arK hk x0 ?_;obtain rfl:=oi_ f6;exact ⟨(),r4_,H.s [0,8,9,10,1,2,3,4,11]⟩;obtain ⟨au,av,aw⟩:=r0;rintro T1 _ w9 H;refine bA (z:=false) vA (sq ?_);cases f2;exact ⟨_,_,Q,⟨Q,Q⟩,(H.s [0,4,5,6,7]).close ⟨cloB,cloB,cloB,cloE,cloB,U⟩⟩
theorem Gm_ {f:Int}{d:List Ty1}{a:Hd}{g:X}{b:Hd}{k:X}{c:Hd}{y:Bool} (hF:uS (f,d,g,k)=some y) :
  cA Tryz.prog 108 #[(.agg #[(vi f),(a).v,(b).v,(c).v])] [Es (List Ty1) d a,Es X g b,Es X k c] [] (fun v Γ'=>v=(.bool y)∧Γ'=[]):=by
 refine Ze (args:=[_]) gok Tryz.func108 Q _ Q Q Q fun w0 S0 fp0 H=>xA H fun b5 w4 hx H=>sq (bO hF fun r0 f0 f1=>cut (fun (q0:Bool)=>[(1,(vp b5)),(29,(.bool q0))]) (fun (q0:Bool) w'=>q0=r0∧Cx w0 fp0 S0 w' [Bx b5 [(vi f),(a).v,(b).v,(c).v],Es (List Ty1) d a,Es X g b,Es X k c]) ?_ ?_);refine fld gok Q Q Q Q (aA (H.b 0 0 Q Q) (Zc00 f0 pJ H U fun y0 f2 w1 H=>boolB_ f2 (fun f4=>?_) fun f12=>?_));refine fld gok Q Q Q Q (aA (H.b 0 1 Q Q) (eA (H.rs (α:=List Ty1) 1 Q).len (boolB_ f4 (fun f6=>?_) fun f11=>?_)));refine fld gok Q Q Q Q (aA (H.b 0 2 Q Q) (eA (H.rs (α:=X) 2 Q).len (boolB_ f6 (fun f8=>?_) fun f10=>?_)));exact fld gok Q Q Q Q (aA (H.b 0 3 Q Q) (eA (H.rs (α:=X) 3 Q).len (bO f8 fun a3 e f9=>vB e ⟨a3,⟨Q,Q,U⟩,oi_ f9,H.s [0,1,2,3]⟩)));exact ⟨true,⟨Q,Q,U⟩,oi_ f10,H.s [0,1,2,3]⟩;exact ⟨true,⟨Q,Q,U⟩,oi_ f11,H.s [0,1,2,3]⟩;exact ⟨true,⟨Q,Q,U⟩,oi_ f12,H.s [0,1,2,3]⟩;rintro T0 s0 w2 ⟨hr,H⟩;(try dsimp only at H);subst hr;cases s0;have f13:=uB f1;refine sq (fld gok Q Q Q Q (aA (H.b 0 1 Q Q) (eA (H.rs (α:=List Ty1) 1 Q).len (have x0:=(H.rs (α:=List Ty1) 1 Q).max;bO f13 fun r1 e f14=>dG _ d.length (fun (k0:Nat) (_:Unit) (_:Unit)=>[(1,(vp b5)),(31,(a).v),(32,(vi ((d.length:Nat):Int))),(33,(vi ((k0:Nat):Int)))]) (fun _ (_:Unit) (_:Unit) w'=>Cx w0 fp0 S0 w' [Bx b5 [(vi f),(a).v,(b).v,(c).v],Es (List Ty1) d a,Es X g b,Es X k c]) () () e r4_ (H.s [0,1,2,3]) ?_ ?_))));rintro T1 k0 _ _ w3 o0 hk H hrt f15;refine bA (z:=true) (uA hk) (sq (sq ?_));refine bO f15 fun a4 e f16=>Zz (H.el (α:=Ty1) 1 Q e) fun p0 m0 g0 c0 c1 c2 c3 H=>?_;obtain ⟨l,m,n,o⟩:=a4;obtain ⟨_,_,h0,h1⟩:=g0;replace H:=((H.part (β:=X) n (h0:Hd) 0 Q (fun S h=>(And.left (And.right (And.right h))))).part (β:=X) o (h1:Hd) 1 Q (fun S h=>(And.right (And.right (And.right h))))).s [0,1,3,4,5,6];refine dA c0 c1 c2 (oC [(vi l),(vi m),(h0).v,(h1).v] Q c3 (yA gok Q H fun b0 w5 hx H=>stA gok _ Q H Q Q Q fun w6 H=>Zn (H.bz_ 0 Q) Q (Zc00 f16 GA_ H ⟨Vw.sh 2 Q,Vw.sh 1 Q,U⟩ fun y1 f17 w7 H=>boolB_ f17 (fun f19=>?_) fun f20=>?_)));refine arK hk x0 ?_;obtain rfl:=oi_ f19;exact ⟨(),(),Q,r4_,H.s [3,4,5,6]⟩;obtain rfl:=oi_ f20;have hr:=hrt _ Q;subst hr
 have f21:some _=some _:=f14;cases f21;exact ⟨_,_,Q,⟨Q,Q⟩,(H.s []).close U⟩;rintro T2 _ _ w8 hr H;subst hr;refine bA (z:=false) vA (sq (fld gok Q Q Q Q (aA (H.b 0 0 Q Q) (bO f14 fun a6 e f22=>sD (α:=Bool) gok Q Q Q Q (xD e) H fun h2 w9 hx H=>yA gok Q H fun b1 w10 hx H=>yA gok Q H fun b2 w11 hx H=>yA gok Q H fun b3 w12 hx H=>pK (H.s [2,0,1,3,4,5,6,7]) Q fun w13 H=>pK (H.s [2,0,1,3,4,5,6,7]) Q fun w14 H=>pK (H.s [2,0,1,3,4,5,6,7]) Q fun w15 H=>Zn (H.bz_ 4 Q) Q (bO f22 fun ⟨p,q,r⟩ i2 f23=>?_)))));replace H:=H.s [4,1,2,3,0,5,6,7];refine Zd0 (FX_ i2) (Γi:=[Bx b5 [(vi f),(a).v,(b).v,(c).v],Bx b2 [(.bool true)],Bx b1 [(h2).v],E (List Bool) a6 h2,Bx b3 [(vi 0)]]) H ⟨Vw.sh 0 Q,Vw.sh 1 Q,Vw.sh 2 Q,Vw.sh 0 Q,Vw.sh 1 Q,Vw.sh 2 Q,U⟩ fun w16 H=>bO f23 fun r2 f24 f25=>cut (fun (q1:Bool×Bool)=>[(2,(.bool q1.2))]) (fun (q1:Bool×Bool) w'=>(q1.1,q1.2)=r2∧Cx w0 fp0 S0 w' []) ?_ ?_;refine aA (H.bx0 1 Q) ?_;cases p;have f26:=uB f24;exact ⟨(false,false),⟨Q,U⟩,oi_ f26,H.s []⟩;have f27:=tB f24;exact aA (H.bx0 4 Q) (fld gok Q Q Q Q (aA (H.b 0 0 Q Q) (bO f27 fun a7 e f28=>vB e ⟨(true,a7),⟨Q,U⟩,oi_ f28,H.s []⟩)));rintro T3 ⟨s,t⟩ w17 ⟨hr,H⟩;(try dsimp only at H);subst hr;cases f25;exact ⟨_,_,Q,⟨Q,Q⟩,(H.s []).close U⟩;have f29:=tB f1;cases f29;exact ⟨_,_,Q,⟨Q,Q⟩,(H.s []).close U⟩
theorem Gj_ {b:X}{a:Hd}{n_:Int}{y:Bool} (hF:jY b n_=some y) :
  cA Tryz.prog 133 #[(a).v,(vi n_)] [Es X b a] [] (fun v Γ'=>v=(.bool y)∧Γ'=[]):=by
 refine Ze (args:=[_,_]) gok Tryz.func133 Q _ Q Q Q fun w0 S0 fp0 H=>sq (eA (H.rs (α:=X) 0 Q).len (boolB_ hF (fun hF4=>?_) fun f15=>?_));refine bO hF4 fun a5 e hF6=>sD (α:=Bool) gok Q Q Q Q (xD e) H fun h8 w7 hx H=>sq (eA (H.rs (α:=X) 1 Q).len (have x0:=(H.rs (α:=X) 1 Q).max;bO hF6 fun r0 e f0=>dG _ b.length (fun (k0:Nat) (s0:List Bool) (_:Unit)=>[(1,(vi n_)),(5,(h8).v),(14,(a).v),(15,(vi ((b.length:Nat):Int))),(16,(vi ((k0:Nat):Int)))]) (fun _ (s0:List Bool) (_:Unit) w'=>Cx w0 fp0 S0 w' [E (List Bool) s0 h8,Es X b a]) a5 () e r5_ (H.s [0,1]) ?_ ?_));rintro T0 k0 s0 _ w1 o0 hk H hrt f1;refine bA (z:=true) (uA hk) (sq (sq ?_));refine Zi f1 (H.rs (α:=X) 1 Q) fun a0 p0 m0 c3 f2=>aA c3 (sq (bO f2 fun r1 f3 f4=>cut (fun (q0:Bool)=>[(1,(vi n_)),(5,(h8).v),(7,(vi a0)),(14,(a).v),(15,(vi ((b.length:Nat):Int))),(16,(vi ((k0:Nat):Int))),(30,(.bool q0))]) (fun (q0:Bool) w'=>q0=r1∧Cx w0 fp0 S0 w' [E (List Bool) s0 h8,Es X b a]) ?_ ?_));refine bO f3 fun a1 e f5=>arO e (Zc00 f5 pJ H U fun y0 f6 w2 H=>boolB_ f6 (fun f8=>?_) fun f10=>?_);exact bO f8 fun a4 e f9=>Zx ((H.ro (α:=List Bool) 0 Q).at1 e) fun p1 m1 c4 c5 c6 c7=>dA c4 c5 c6 (aA c7 ⟨a4,r7_,oi_ f9,H.s [0,1]⟩);exact ⟨true,r7_,oi_ f10,H.s [0,1]⟩;rintro T1 s1 w3 ⟨hr,H⟩;(try dsimp only at H);subst hr;cases s1;refine have f11:=uB f4;bO f11 fun a6 i1 f12=>Zy ((H.ro (α:=List Bool) 0 Q).setp i1) fun p2 m2 c8 c9 c10=>dA c8 c9 c10 (qC (α:=Bool) H c8 c9 i1 fun w4 H=>arK hk x0 ?_);obtain rfl:=oi_ f12;exact ⟨a6,(),Q,r5_,H.s [0,1]⟩;have f13:=tB f4;obtain rfl:=oi_ f13;have hr:=hrt _ Q;subst hr;have f14:some _=some _:=f0;cases f14;exact ⟨_,_,Q,⟨Q,Q⟩,(H.s []).close U⟩;rintro T2 s2 _ w5 hr H;subst hr;refine bA (z:=false) vA (sq ?_);cases f0;exact ⟨_,_,Q,⟨Q,Q⟩,(H.s []).close U⟩;cases f15;exact ⟨_,_,Q,⟨Q,Q⟩,(H.s []).close U⟩
theorem B7_ {n_:Int}{b:List X}{a:Hd}{y:Bool} (hF:zY n_ b=some y) :
  cA Tryz.prog 109 #[(vi n_),(a).v] [Es (List X) b a] [] (fun v Γ'=>v=(.bool y)∧Γ'=[]):=by
 refine Ze (args:=[_,_]) gok Tryz.func109 Q _ Q Q Q fun w0 S0 fp0 H=>kD hF nI H ⟨Vw.sh 0 Q,U⟩ fun y2 hF3 h5 w4 H=>Zc00 hF3 Gj_ H ⟨Vw.own 0 Q,U⟩ fun y7 hF8 w9 H=>?_;cases hF8;exact ⟨_,_,Q,⟨Q,Q⟩,(H.s []).close U⟩
theorem F5_ {i:Int}{d:List Ty1}{a:Hd}{f:X}{b:Hd}{g:X}{c:Hd}{y:Bool} (hF:yX (i,d,f,g)=some y) :
  cA Tryz.prog 74 #[(.agg #[(vi i),(a).v,(b).v,(c).v])] [Es (List Ty1) d a,Es X f b,Es X g c] [] (fun v Γ'=>v=(.bool y)∧Γ'=[]):=by
 refine Ze (args:=[_]) gok Tryz.func74 Q _ Q Q Q fun w0 S0 fp0 H=>xA H fun b5 w4 hx H=>sq (Zn (H.bz_ 0 Q) Q (Zc00 hF Gm_ H ⟨Vw.sh 1 Q,Vw.sh 2 Q,Vw.sh 3 Q,U⟩ fun y7 hF8 w9 H=>boolB_ hF8 (fun f1=>?_) fun f15=>?_));obtain ⟨r0,f2,f3⟩:=nB f1
 refine fG H [] (.fst 0 (.fst 3 (.fst 1 (.fst 4 (.alts (.alt 2 (.fst 6 (.act 5 (.fst 7 .done))) (.alt 5 (.act 2 (.fst 6 (.fst 7 .done))) .no))))))) eB [] U (by kernel_rfl) (fun (q0:(List X×List X)×(Hd×Hd))=>[(1,(vp b5)),(3,(q0.2.1).v),(4,(q0.2.2).v)]) (fun (q0:(List X×List X)×(Hd×Hd)) w'=>(q0.1.1,q0.1.2)=r0∧Cx w0 fp0 S0 w' [Bx b5 [(vi i),(a).v,(b).v,(c).v],Es (List Ty1) d a,Es X f b,Es X g c,E (List (Sh X)) q0.1.1 q0.2.1,E (List (Sh X)) q0.1.2 q0.2.2]) ?_ ?_
 intro w1 H;have hX:Ext w1 w1:=Upd.refl _ _;refine mA (fun _=>fld gok Q Q Q Q ⟨Q,Q⟩) (mA (fun _=>fld gok Q Q Q Q ⟨Q,Q⟩) (jA (H.b 0 2 Q Q) (jA (H.b 0 3 Q Q) (both ?_ ?_))))
 refine jC (α:=Sh X) gok Q Q Q Q (by rfl) (H.dup 2 Q iA) ?_;intro h0 w2 hx H
 refine hold_ hX hx fun hX=>?_
 refine jC (α:=Sh X) gok Q Q Q Q (by rfl) (H.dup 4 Q iA) ?_;intro h1 w3 hx H
 exact hold_ hX hx fun hX=>⟨(([f],[g]),(h0,h1)),r3_,oi_ f2,H.s [2,3,4,5,1,0]⟩;refine both ?_ ?_
 refine jC (α:=Sh X) gok Q Q Q Q (by rfl) (H.dup 3 Q iA) ?_;intro h2 w5 hx H
 refine hold_ hX hx fun hX=>?_
 refine jC (α:=Sh X) gok Q Q Q Q (by rfl) (H.dup 3 Q iA) ?_;intro h3 w6 hx H
 exact hold_ hX hx fun hX=>⟨(([f],[g]),(h3,h2)),r3_,oi_ f2,H.s [2,3,4,5,0,1]⟩;exact U;rintro T0 ⟨⟨k,l⟩,⟨m,n⟩⟩ w7 ⟨hr,H⟩;(try dsimp only at H);subst hr;refine sq (fld gok Q Q Q Q (aA (H.b 0 1 Q Q) (eA (H.rs (α:=List Ty1) 1 Q).len (have x0:=(H.rs (α:=List Ty1) 1 Q).max;bO f3 fun r1 e f4=>cB _ d.length (fun (k0:Nat) (s1:List X×List X) (g1:Hd×Hd)=>[(1,(vp b5)),(3,(g1.1).v),(4,(g1.2).v),(17,(a).v),(18,(vi ((d.length:Nat):Int))),(19,(vi ((k0:Nat):Int)))]) (fun _ (s1:List X×List X) (g1:Hd×Hd) w'=>Cx w0 fp0 S0 w' [Bx b5 [(vi i),(a).v,(b).v,(c).v],Es (List Ty1) d a,Es X f b,Es X g c,E (List (Sh X)) s1.1 g1.1,E (List (Sh X)) s1.2 g1.2]) (k,l) (m,n) e r6_ (H.s [0,1,2,3,4,5]) ?_ ?_))));rintro T1 k0 ⟨x,aa⟩ ⟨ab,ac⟩ w8 o0 hk H f5;(try dsimp only at H);refine bA (z:=true) (uA hk) (sq (sq ?_));refine bO f5 fun a1 e f6=>Zz (H.el (α:=Ty1) 1 Q e) fun p0 m0 g2 c0 c1 c2 c3 H=>?_;obtain ⟨o,p,q,r⟩:=a1;obtain ⟨_,_,h4,h5⟩:=g2;refine have H:=((H.part (β:=X) q (h4:Hd) 0 Q (fun S h=>(And.left (And.right (And.right h))))).part (β:=X) r (h5:Hd) 1 Q (fun S h=>(And.right (And.right (And.right h))))).s [0,1,3,4,5,6,7,8];dA c0 c1 c2 (oC [(vi o),(vi p),(h4).v,(h5).v] Q c3 (yA gok Q H fun b0 w10 hx H=>stA gok _ Q H Q Q Q fun w11 H=>fld gok Q Q Q Q (aA (H.b 0 3 Q Q) ?_)))
 refine jC (α:=Sh X) gok Q Q Q Q (by rfl) (H.dup 1 Q iA) ?_;intro h6 w12 hx H
 refine bO f6 fun a2 e f7=>append_ (α:=Sh X) gok Q Q Q Q (H.s [8,0,1,2,3,4,5,6,7,9]) e fun h7 w13 H=>fld gok Q Q Q Q (aA (H.b 1 2 Q Q) ?_)
 refine jC (α:=Sh X) gok Q Q Q Q (by rfl) (H.dup 3 Q iA) ?_;intro h8 w14 hx H
 refine bO f7 fun a3 e f8=>append_ (α:=Sh X) gok Q Q Q Q (H.s [9,0,1,2,3,4,5,6,7,8]) e fun h9 w15 H=>arK hk x0 ?_;obtain rfl:=oi_ f8;exact ⟨(h7,h9),r6_,H.s [5,6,7,8,1,0]⟩;obtain ⟨s,t⟩:=r1;rintro T2 ⟨u,w⟩ w16 H;(try dsimp only at H);refine bA (z:=false) vA (sq (bO f4 fun r2 f9 f10=>cut (fun (q1:Bool)=>[(2,(.bool q1))]) (fun (q1:Bool) w'=>q1=r2∧Cx w0 fp0 S0 w' []) ?_ ?_));refine fld gok Q Q Q Q (aA (H.b 0 0 Q Q) (Zc00 f9 B7_ H ⟨Vw.part (β:=List X) (Vw.own (α:=List (Sh X)) 4 Q) s u (fun S h=>h),U⟩ fun y0 f11 w17 H=>?_));cases y0;have f12:=uB f11;exact ⟨false,⟨Q,U⟩,oi_ f12,H.s []⟩;have f13:=tB f11;exact fld gok Q Q Q Q (aA (H.b 0 0 Q Q) (Zc00 f13 B7_ H ⟨Vw.part (β:=List X) (Vw.own (α:=List (Sh X)) 5 Q) t w (fun S h=>h),U⟩ fun y1 f14 w18 H=>⟨y1,⟨Q,U⟩,oi_ f14,H.s []⟩));rintro T3 s3 w19 ⟨hr,H⟩;(try dsimp only at H);subst hr;cases f10;exact ⟨_,_,Q,⟨Q,Q⟩,(H.s []).close U⟩;cases f15;exact ⟨_,_,Q,⟨Q,Q⟩,(H.s []).close U⟩
theorem cE {a_ n_:Int}{y:X} (hF:sN a_ n_=some y) :
  cA Tryz.prog 136 #[(vi a_),(vi n_)] [] [] (fun v Γ'=>∃ z0:Hd,v=(z0).v∧Γ'=[E X y z0]):=by
 refine Ze (args:=[_,_]) gok Tryz.func136 Q _ Q Q Q fun w0 S0 fp0 H=>kD hF pI H U fun y1 hF2 h4 w3 H=>sq (eA (H.ro (α:=X) 0 Q).len (have x0:=(H.ro (α:=X) 0 Q).max;bO hF2 fun r0 e f0=>cB _ y1.length (fun (k6:Nat) (s0:X) (_:Unit)=>[(0,(vi a_)),(5,(h4).v),(10,(vi ((y1.length:Nat):Int))),(11,(vi ((k6:Nat):Int)))]) (fun _ (s0:X) (_:Unit) w'=>Cx w0 fp0 S0 w' [E X s0 h4]) y1 () e r4_ (H.s [0]) ?_ ?_));rintro T0 k6 s0 _ w1 o0 hk H f1;refine bA (z:=true) (uA hk) (sq (sq ?_));refine bO f1 fun a0 i0 f2=>Zy ((H.ro (α:=X) 0 Q).setp i0) fun p0 m0 c0 c1 c2=>dA c0 c1 c2 (qC (α:=Int) H c0 c1 i0 fun w2 H=>arK hk x0 ?_);obtain rfl:=oi_ f2;exact ⟨(),r4_,H.s [0]⟩;rintro T1 _ w4 H;refine bA (z:=false) vA (sq ?_);cases f0;exact ⟨_,_,Q,⟨h4,Q,Q⟩,(H.s [0]).close ⟨cloE,U⟩⟩
end Go.Proofs.YtodfjigndedehaaGreatDoor
