/-
 Contracts, printed by a program (wip/y/gen.py): each function of Go computes its partial function. Condition of each: its partial function yields a value.
-/
import Derived.Test.YtlggnmkelgplnaaGreatDoorZCall2
namespace Go.Proofs.YtlggnmkelgplnaaGreatDoor
open Go Go.Proofs.YtlggnmkelgplnaaGreatDoor.RW
set_option maxRecDepth 100000
set_option linter.unusedVariables false
theorem spec_rlCompose_c (p_:Int) (a__0:Int) (a__1:Int) (a__2:List (List Int)) (a__2h:Hd) (b__0:Int) (b__1:Int) (b__2:List (List Int)) (b__2h:Hd) (y_0:Int) (y_1:Int) (y_2:List (List Int)) (hF:F_spec_rlCompose p_ (a__0,a__1,a__2) (b__0,b__1,b__2) = some (y_0,y_1,y_2)) :
  ConF Tryz.prog 65 #[(.int .i64 p_),(.agg #[(.int .i64 a__0),(.int .i64 a__1),(a__2h).v]),(.agg #[(.int .i64 b__0),(.int .i64 b__1),(b__2h).v])] [Es (List (List Int)) a__2 a__2h,Es (List (List Int)) b__2 b__2h] [] (fun v Γ'=>∃ z0:Hd,v = (.agg #[(.int .i64 y_0),(.int .i64 y_1),(z0).v]) ∧ Γ' = [E (List (List Int)) y_2 z0]):=by
 intro w0 S0 fp0 hI hS
 have H:Cx w0 fp0 S0 w0 [Es (List (List Int)) a__2 a__2h,Es (List (List Int)) b__2 b__2h]:=Cx.start hI hS
 clear hI hS
 refine enterC (args:=[_,_,_]) gok Tryz.func65 rfl _ rfl rfl rfl ?_
 refine box_ H ?_;clear H;intro b4 w3 hx H
 clear hx
 refine box_ H ?_;clear H;intro b7 w6 hx H
 clear hx
 refine alloc_ gok rfl H ?_;clear H;intro b0 w9 hx H
 clear hx
 refine fld gok rfl rfl rfl rfl ?_
 refine load1 (H.bx 2 rfl (j:=1) rfl) ?_
 obtain ⟨a0,e,f0⟩:=bindS hF;clear hF
 refine make_ (α:=List Int) gok rfl rfl rfl rfl (makeCO_of e) H ?_;clear e H;intro h0 w1 hx H
 clear hx
 refine sq ?_
 refine lenE (H.ro (α:=List (List Int)) 0 rfl).len ?_
 have x0:=(H.ro (α:=List (List Int)) 0 rfl).max
 obtain ⟨r0,e,f1⟩:=bindS f0;clear f0
 refine loopS _ a0.length (fun (k0:Nat) (s0:List (List Int)) (_:Unit)=>[(0,(.int .i64 p_)),(4,(.pointer (some ⟨b4,0,none⟩))),(5,(.pointer (some ⟨b7,0,none⟩))),(6,(.pointer (some ⟨b0,0,none⟩))),(7,(.int .i64 a__1)),(8,(h0).v),(24,(.int .i64 ((a0.length:Nat):Int))),(25,(.int .i64 ((k0:Nat):Int)))]) (fun _ (s0:List (List Int)) (_:Unit) w'=>Cx w0 fp0 S0 w' [Bx b4 [(.int .i64 a__0),(.int .i64 a__1),(a__2h).v],Es (List (List Int)) a__2 a__2h,Bx b7 [(.int .i64 b__0),(.int .i64 b__1),(b__2h).v],Es (List (List Int)) b__2 b__2h,Bx b0 [(.int .i64 0),(.int .i64 0),(.slice none 0 0)],E (List (List Int)) s0 h0]) a0 () e ⟨rfl,rfl,rfl,rfl,rfl,rfl,rfl,rfl,trivial⟩ (H.sel [3,4,2,5,1,0] rfl) ?_ ?_
 ·
  clear H e
  rintro T0 k0 s0 _ w2 o0 hk (H:Cx w0 fp0 S0 w2 [Bx b4 [(.int .i64 a__0),(.int .i64 a__1),(a__2h).v],Es (List (List Int)) a__2 a__2h,Bx b7 [(.int .i64 b__0),(.int .i64 b__1),(b__2h).v],Es (List (List Int)) b__2 b__2h,Bx b0 [(.int .i64 0),(.int .i64 0),(.slice none 0 0)],E (List (List Int)) s0 h0]) f2
  refine boolE (z:=true) (ltLen hk) ?_
  refine sq ?_
  refine sq ?_
  refine sq ?_
  refine fld gok rfl rfl rfl rfl ?_
  refine load1 (H.bx 0 rfl (j:=2) rfl) ?_
  refine lenE (H.rs (α:=List (List Int)) 1 rfl).len ?_
  have x1:=(H.rs (α:=List (List Int)) 1 rfl).max
  obtain ⟨r1,e,f3⟩:=bindS f2;clear f2
  refine loopS _ a__2.length (fun (k1:Nat) (s1:List (List Int)) (_:Unit)=>[(0,(.int .i64 p_)),(4,(.pointer (some ⟨b4,0,none⟩))),(5,(.pointer (some ⟨b7,0,none⟩))),(6,(.pointer (some ⟨b0,0,none⟩))),(7,(.int .i64 a__1)),(8,(h0).v),(9,(.int .i64 ((k0:Nat):Int))),(24,(.int .i64 ((a0.length:Nat):Int))),(25,(.int .i64 ((k0:Nat):Int))),(29,(a__2h).v),(30,(.int .i64 ((a__2.length:Nat):Int))),(31,(.int .i64 ((k1:Nat):Int)))]) (fun _ (s1:List (List Int)) (_:Unit) w'=>Cx w0 fp0 S0 w' [Bx b4 [(.int .i64 a__0),(.int .i64 a__1),(a__2h).v],Es (List (List Int)) a__2 a__2h,Bx b7 [(.int .i64 b__0),(.int .i64 b__1),(b__2h).v],Es (List (List Int)) b__2 b__2h,Bx b0 [(.int .i64 0),(.int .i64 0),(.slice none 0 0)],E (List (List Int)) s1 h0]) s0 () e ⟨rfl,rfl,rfl,rfl,rfl,rfl,rfl,rfl,rfl,rfl,rfl,rfl,trivial⟩ (H.sel [0,1,2,3,4,5] rfl) ?_ ?_
  ·
   clear H e
   rintro T1 k1 s1 _ w4 o1 hk (H:Cx w0 fp0 S0 w4 [Bx b4 [(.int .i64 a__0),(.int .i64 a__1),(a__2h).v],Es (List (List Int)) a__2 a__2h,Bx b7 [(.int .i64 b__0),(.int .i64 b__1),(b__2h).v],Es (List (List Int)) b__2 b__2h,Bx b0 [(.int .i64 0),(.int .i64 0),(.slice none 0 0)],E (List (List Int)) s1 h0]) f4
   refine boolE (z:=true) (ltLen hk) ?_
   refine sq ?_
   refine sq ?_
   obtain ⟨a1,e,f5⟩:=bindS f4;clear f4
   have HH:=H;clear H;obtain ⟨p0,m0,h1,c0,c1,c2,c3,H⟩:=HH.elL 1 rfl e;clear HH
   clear e
   refine idxE c0 c1 c2 ?_;clear c0 c1 c2
   refine load1 c3 ?_;clear c3
   refine heldX H [14,16,15,0,1] (.pure 0 (.pure 1 (.fst 2 (.fst 3 (.fst 4 (.fst 6 (.fst 7 (.fst 9 (.fst 5 (.fst 8 (.fst 10 (.fst 11 (.fst 12 (.act 13 (.act 14 (.act 15 (.act 16 .done))))))))))))))))) mixed [] trivial (by kernel_rfl) ?_
   clear H;intro w5 H
   have hX:Ext w5 w5:=Upd.refl _ _
   have H0:=H
   obtain ⟨a2,e,f6⟩:=bindS f5;clear f5
   replace H:=H.sel [6,0,1,2,3,4,5] rfl
   replace H:=H.toEH (α:=List Int)
   have HH:=H;clear H;obtain ⟨p1,m1,h2,c4,c5,c6,c7,H⟩:=HH.peekL e;clear HH
   clear e
   refine idxE c4 c5 c6 ?_
   refine anyH (fun _=>fld gok rfl rfl rfl rfl ⟨rfl,rfl⟩) ?_
   refine load1X c7 ?_;clear c7
   refine load1X (H.bx 2 rfl (j:=0) rfl) ?_
   obtain ⟨a3,e,f7⟩:=bindS f6;clear f6
   refine arO e ?_;clear e
   obtain ⟨a4,e,f8⟩:=bindS f7;clear f7
   obtain ⟨p2,m2,c8,c9,c10,c11⟩:=(H.rs (α:=List Int) 1 rfl).at1 e;clear e
   refine idxE c8 c9 c10 ?_;clear c8 c9 c10
   refine load1X c11 ?_;clear c11
   refine lit1S (α:=Int) gok rfl rfl rfl rfl H ?_;clear H;intro h3 w7 hx H
   replace hX:=hX.trans0 hx;clear hx
   refine hold hX ?_
   replace H:=H.sel [1,0,2,3,4,5,6,7] rfl
   replace H:=H.takeK 0 rfl
   obtain ⟨a5,e,f9⟩:=bindS f8;clear f8
   replace H:=H.sel [0,2,1,3,4,5,6,7,8] rfl
   refine append_ (α:=Int) gok rfl rfl rfl rfl H e ?_;clear e H;intro h4 w8 H
   refine hold trivial ?_
   refine idxE c4 c5 c6 ?_
   refine hold trivial ?_
   replace H:=H.sel [1,0,2,3,4,5,6,7] rfl
   refine stX0 H c4 rfl rfl ?_;clear H;intro w10 H
   obtain ⟨a6,e,f10⟩:=bindS f9;clear f9
   replace H:=H.sel [1,0,2,3,4,5,6,7] rfl
   replace H:=H.put c5 e;clear e
   refine hold trivial ?_
   refine arK hk x1 ?_
   have hs:=Option.some.inj f10;subst hs;clear f10
   exact ⟨(),⟨rfl,rfl,rfl,rfl,rfl,rfl,rfl,rfl,rfl,rfl,rfl,rfl,trivial⟩,H.sel [2,3,4,5,6,0] rfl⟩
  ·
   clear H e
   rintro T2 _ w11 (H:Cx w0 fp0 S0 w11 [Bx b4 [(.int .i64 a__0),(.int .i64 a__1),(a__2h).v],Es (List (List Int)) a__2 a__2h,Bx b7 [(.int .i64 b__0),(.int .i64 b__1),(b__2h).v],Es (List (List Int)) b__2 b__2h,Bx b0 [(.int .i64 0),(.int .i64 0),(.slice none 0 0)],E (List (List Int)) r1 h0])
   refine boolE (z:=false) geLen ?_
   refine sq ?_
   refine fld gok rfl rfl rfl rfl ?_
   refine load1 (H.bx 2 rfl (j:=2) rfl) ?_
   refine lenE (H.rs (α:=List (List Int)) 3 rfl).len ?_
   have x2:=(H.rs (α:=List (List Int)) 3 rfl).max
   obtain ⟨r2,e,f11⟩:=bindS f3;clear f3
   refine loopS _ b__2.length (fun (k2:Nat) (s2:List (List Int)) (_:Unit)=>[(0,(.int .i64 p_)),(4,(.pointer (some ⟨b4,0,none⟩))),(5,(.pointer (some ⟨b7,0,none⟩))),(6,(.pointer (some ⟨b0,0,none⟩))),(7,(.int .i64 a__1)),(8,(h0).v),(9,(.int .i64 ((k0:Nat):Int))),(24,(.int .i64 ((a0.length:Nat):Int))),(25,(.int .i64 ((k0:Nat):Int))),(53,(b__2h).v),(54,(.int .i64 ((b__2.length:Nat):Int))),(55,(.int .i64 ((k2:Nat):Int)))]) (fun _ (s2:List (List Int)) (_:Unit) w'=>Cx w0 fp0 S0 w' [Bx b4 [(.int .i64 a__0),(.int .i64 a__1),(a__2h).v],Es (List (List Int)) a__2 a__2h,Bx b7 [(.int .i64 b__0),(.int .i64 b__1),(b__2h).v],Es (List (List Int)) b__2 b__2h,Bx b0 [(.int .i64 0),(.int .i64 0),(.slice none 0 0)],E (List (List Int)) s2 h0]) r1 () e ⟨rfl,rfl,rfl,rfl,rfl,rfl,rfl,rfl,rfl,rfl,rfl,rfl,trivial⟩ (H.sel [0,1,2,3,4,5] rfl) ?_ ?_
   ·
    clear H e
    rintro T3 k2 s2 _ w12 o2 hk (H:Cx w0 fp0 S0 w12 [Bx b4 [(.int .i64 a__0),(.int .i64 a__1),(a__2h).v],Es (List (List Int)) a__2 a__2h,Bx b7 [(.int .i64 b__0),(.int .i64 b__1),(b__2h).v],Es (List (List Int)) b__2 b__2h,Bx b0 [(.int .i64 0),(.int .i64 0),(.slice none 0 0)],E (List (List Int)) s2 h0]) f12
    refine boolE (z:=true) (ltLen hk) ?_
    refine sq ?_
    refine sq ?_
    obtain ⟨a7,e,f13⟩:=bindS f12;clear f12
    have HH:=H;clear H;obtain ⟨p3,m3,h5,c12,c13,c14,c15,H⟩:=HH.elL 3 rfl e;clear HH
    clear e
    refine idxE c12 c13 c14 ?_;clear c12 c13 c14
    refine load1 c15 ?_;clear c15
    refine heldX H [13,15,14,0,1] (.pure 0 (.pure 1 (.fst 2 (.fst 3 (.fst 4 (.fst 6 (.fst 7 (.fst 8 (.fst 9 (.fst 5 (.fst 10 (.act 11 (.act 12 (.act 13 (.act 14 (.act 15 .done)))))))))))))))) mixed [] trivial (by kernel_rfl) ?_
    clear H;intro w13 H
    have hX:Ext w13 w13:=Upd.refl _ _
    have H0:=H
    obtain ⟨a8,e,f14⟩:=bindS f13;clear f13
    replace H:=H.sel [6,0,1,2,3,4,5] rfl
    replace H:=H.toEH (α:=List Int)
    have HH:=H;clear H;obtain ⟨p4,m4,h6,c16,c17,c18,c19,H⟩:=HH.peekL e;clear HH
    clear e
    refine idxE c16 c17 c18 ?_
    obtain ⟨a9,e,f15⟩:=bindS f14;clear f14
    obtain ⟨p5,m5,c20,c21,c22,c23⟩:=(H.rs (α:=List Int) 1 rfl).at1 e;clear e
    refine idxE c20 c21 c22 ?_;clear c20 c21 c22
    refine load1X c19 ?_;clear c19
    refine load1X c23 ?_;clear c23
    obtain ⟨y0,e,f16⟩:=bindS f15;clear f15
    have ey987:=e;clear e
    refine callFx (spec_fdNeg_c p_ a9 y0 ey987) H trivial ?_;clear H ey987
    rintro _ _ w15 ⟨rfl,rfl⟩ hx H
    replace hX:=hX.trans0 hx;clear hx
    refine hold hX ?_
    refine lit1S (α:=Int) gok rfl rfl rfl rfl H ?_;clear H;intro h7 w16 hx H
    replace hX:=hX.trans0 hx;clear hx
    refine hold hX ?_
    replace H:=H.sel [1,0,2,3,4,5,6,7] rfl
    replace H:=H.takeK 0 rfl
    obtain ⟨a10,e,f17⟩:=bindS f16;clear f16
    replace H:=H.sel [0,2,1,3,4,5,6,7,8] rfl
    refine append_ (α:=Int) gok rfl rfl rfl rfl H e ?_;clear e H;intro h8 w17 H
    refine hold trivial ?_
    refine idxE c16 c17 c18 ?_
    refine hold trivial ?_
    replace H:=H.sel [1,0,2,3,4,5,6,7] rfl
    refine stX0 H c16 rfl rfl ?_;clear H;intro w18 H
    obtain ⟨a11,e,f18⟩:=bindS f17;clear f17
    replace H:=H.sel [1,0,2,3,4,5,6,7] rfl
    replace H:=H.put c17 e;clear e
    refine hold trivial ?_
    refine arK hk x2 ?_
    have hs:=Option.some.inj f18;subst hs;clear f18
    exact ⟨(),⟨rfl,rfl,rfl,rfl,rfl,rfl,rfl,rfl,rfl,rfl,rfl,rfl,trivial⟩,H.sel [2,3,4,5,6,0] rfl⟩
   ·
    clear H e
    rintro T4 _ w19 (H:Cx w0 fp0 S0 w19 [Bx b4 [(.int .i64 a__0),(.int .i64 a__1),(a__2h).v],Es (List (List Int)) a__2 a__2h,Bx b7 [(.int .i64 b__0),(.int .i64 b__1),(b__2h).v],Es (List (List Int)) b__2 b__2h,Bx b0 [(.int .i64 0),(.int .i64 0),(.slice none 0 0)],E (List (List Int)) r2 h0])
    refine boolE (z:=false) geLen ?_
    refine sq ?_
    refine arK hk x0 ?_
    have hs:=Option.some.inj f11;subst hs;clear f11
    exact ⟨(),⟨rfl,rfl,rfl,rfl,rfl,rfl,rfl,rfl,trivial⟩,H.sel [0,1,2,3,4,5] rfl⟩
 ·
  clear H e
  rintro T5 _ w20 (H:Cx w0 fp0 S0 w20 [Bx b4 [(.int .i64 a__0),(.int .i64 a__1),(a__2h).v],Es (List (List Int)) a__2 a__2h,Bx b7 [(.int .i64 b__0),(.int .i64 b__1),(b__2h).v],Es (List (List Int)) b__2 b__2h,Bx b0 [(.int .i64 0),(.int .i64 0),(.slice none 0 0)],E (List (List Int)) r0 h0])
  refine boolE (z:=false) geLen ?_
  refine sq ?_
  refine sq ?_
  refine fld gok rfl rfl rfl rfl ?_
  refine load1 (H.bx 0 rfl (j:=2) rfl) ?_
  refine lenE (H.rs (α:=List (List Int)) 1 rfl).len ?_
  refine fld gok rfl rfl rfl rfl ?_
  refine load1 (H.bx 2 rfl (j:=2) rfl) ?_
  refine lenE (H.rs (α:=List (List Int)) 3 rfl).len ?_
  obtain ⟨a13,e,f19⟩:=bindS f1;clear f1
  refine arO e ?_;clear e
  obtain ⟨y1,e,f20⟩:=bindS f19;clear f19
  have ey1018:=e;clear e
  refine callF (spec_spNull_c p_ a13 r0 h0 y1 ey1018) (Γi:=[]) H ⟨Vw.own 5 rfl,trivial⟩ ?_;clear H ey1018
  rintro _ _ w21 ⟨h9,rfl,rfl⟩ H
  refine lenE (H.ro (α:=List (List Int)) 0 rfl).len ?_
  replace H:=H.frz
  have x3:=(H.rs (α:=List (List Int)) 0 rfl).max
  obtain ⟨r3,e,f21⟩:=bindS f20;clear f20
  replace H:=H.nil (α:=List Int)
  refine loopS _ y1.length (fun (k3:Nat) (s3:List (List Int)) (g0:Hd)=>[(0,(.int .i64 p_)),(4,(.pointer (some ⟨b4,0,none⟩))),(5,(.pointer (some ⟨b7,0,none⟩))),(6,(.pointer (some ⟨b0,0,none⟩))),(7,(.int .i64 a__1)),(14,(g0).v),(85,(h9).v),(86,(.int .i64 ((y1.length:Nat):Int))),(87,(.int .i64 ((k3:Nat):Int)))]) (fun _ (s3:List (List Int)) (g0:Hd) w'=>Cx w0 fp0 S0 w' [Bx b4 [(.int .i64 a__0),(.int .i64 a__1),(a__2h).v],Es (List (List Int)) a__2 a__2h,Bx b7 [(.int .i64 b__0),(.int .i64 b__1),(b__2h).v],Es (List (List Int)) b__2 b__2h,Bx b0 [(.int .i64 0),(.int .i64 0),(.slice none 0 0)],E (List (List Int)) s3 g0,Es (List (List Int)) y1 h9]) [] nilH e ⟨rfl,rfl,rfl,rfl,rfl,rfl,rfl,rfl,rfl,trivial⟩ (H.sel [2,3,4,5,6,0,1] rfl) ?_ ?_
  ·
   clear H e
   rintro T6 k3 s3 g0 w22 o3 hk (H:Cx w0 fp0 S0 w22 [Bx b4 [(.int .i64 a__0),(.int .i64 a__1),(a__2h).v],Es (List (List Int)) a__2 a__2h,Bx b7 [(.int .i64 b__0),(.int .i64 b__1),(b__2h).v],Es (List (List Int)) b__2 b__2h,Bx b0 [(.int .i64 0),(.int .i64 0),(.slice none 0 0)],E (List (List Int)) s3 g0,Es (List (List Int)) y1 h9]) f22
   refine boolE (z:=true) (ltLen hk) ?_
   refine sq ?_
   refine sq ?_
   obtain ⟨a14,e,f23⟩:=bindS f22;clear f22
   have HH:=H;clear H;obtain ⟨p6,m6,h10,c24,c25,c26,c27,H⟩:=HH.elL 6 rfl e;clear HH
   clear e
   refine idxE c24 c25 c26 ?_;clear c24 c25 c26
   refine load1 c27 ?_;clear c27
   refine heldX H [] (.fst 0 (.fst 1 (.fst 3 (.fst 5 (.fst 7 (.fst 8 (.fst 2 (.fst 4 (.fst 6 (.fst 9 (.fst 10 (.fst 11 (.act 12 (.fst 13 .done)))))))))))))) mixed [] trivial (by kernel_rfl) ?_
   clear H;intro w23 H
   have hX:Ext w23 w23:=Upd.refl _ _
   have H0:=H
   refine anyH (fun _=>fld gok rfl rfl rfl rfl ⟨rfl,rfl⟩) ?_
   refine anyH (fun _=>fld gok rfl rfl rfl rfl ⟨rfl,rfl⟩) ?_
   refine anyH (fun _=>fld gok rfl rfl rfl rfl ⟨rfl,rfl⟩) ?_
   refine load1X (H.bx 1 rfl (j:=0) rfl) ?_
   obtain ⟨a15,e,f24⟩:=bindS f23;clear f23
   refine arO e ?_;clear e
   refine load1X (H.bx 1 rfl (j:=2) rfl) ?_
   refine load1X (H.bx 1 rfl (j:=2) rfl) ?_
   refine lenE (H.rs (α:=List (List Int)) 2 rfl).len ?_
   obtain ⟨a16,e,f25⟩:=bindS f24;clear f24
   refine slSX (α:=Int) gok rfl rfl H 0 rfl e rfl rfl ?_;clear e;intro h11 HH;clear H;have H:=HH;clear HH
   obtain ⟨y2,e,f26⟩:=bindS f25;clear f25
   have ey1244:=e;clear e
   refine callFx (spec_spSum_c p_ a15 a__2 a__2h a16 h11 y2 ey1244) H ⟨Vw.sh 3 rfl,Vw.sh 0 rfl,trivial⟩ ?_;clear H ey1244
   rintro _ _ w24 ⟨h12,rfl,rfl⟩ hx H
   replace hX:=hX.trans0 hx;clear hx
   refine hold hX ?_
   refine heldX H [] (.fst 0 (.fst 1 (.fst 2 (.fst 5 (.fst 7 (.fst 8 (.fst 3 (.fst 4 (.fst 6 (.fst 9 (.fst 10 (.fst 11 (.act 12 (.fst 13 .done)))))))))))))) mixed [] trivial (by kernel_rfl) ?_
   clear H;intro w25 H
   have hX:Ext w25 w25:=Upd.refl _ _
   have H0:=H
   refine anyH (fun _=>fld gok rfl rfl rfl rfl ⟨rfl,rfl⟩) ?_
   refine anyH (fun _=>fld gok rfl rfl rfl rfl ⟨rfl,rfl⟩) ?_
   refine anyH (fun _=>fld gok rfl rfl rfl rfl ⟨rfl,rfl⟩) ?_
   refine load1X (H.bx 5 rfl (j:=1) rfl) ?_
   obtain ⟨a17,e,f27⟩:=bindS f26;clear f26
   refine arO e ?_;clear e
   refine load1X (H.bx 5 rfl (j:=2) rfl) ?_
   refine load1X (H.bx 3 rfl (j:=2) rfl) ?_
   refine lenE (H.rs (α:=List (List Int)) 4 rfl).len ?_
   obtain ⟨a18,e,f28⟩:=bindS f27;clear f27
   refine slSX (α:=Int) (hi:=none) gok rfl rfl H 2 rfl e rfl (congrArg (fun n:Nat=>some (n:Int)) (H.rs (α:=List Int) 2 rfl).len) ?_;clear e;intro h13 HH;clear H;have H:=HH;clear HH
   obtain ⟨y3,e,f29⟩:=bindS f28;clear f28
   have ey1256:=e;clear e
   refine callFx (spec_spSum_c p_ a17 b__2 b__2h a18 h13 y3 ey1256) H ⟨Vw.sh 7 rfl,Vw.sh 0 rfl,trivial⟩ ?_;clear H ey1256
   rintro _ _ w26 ⟨h14,rfl,rfl⟩ hx H
   replace hX:=hX.trans0 hx;clear hx
   refine hold hX ?_
   refine heldX H [9,11,10,12,0] (.pure 0 (.fst 1 (.fst 2 (.fst 6 (.fst 7 (.fst 8 (.fst 3 (.fst 4 (.act 5 (.act 9 (.act 10 (.act 11 (.act 12 .done))))))))))))) mixed [] trivial (by kernel_rfl) ?_
   clear H;intro w27 H
   have hX:Ext w27 w27:=Upd.refl _ _
   have H0:=H
   refine anyH (fun _=>fld gok rfl rfl rfl rfl ⟨rfl,rfl⟩) ?_
   obtain ⟨a19,e,f30⟩:=bindS f29;clear f29
   replace H:=H.frz
   refine slSX (α:=Int) (hi:=none) gok rfl rfl H 0 rfl e rfl (congrArg (fun n:Nat=>some (n:Int)) (H.rs (α:=List Int) 0 rfl).len) ?_;clear e;intro h16 HH;clear H;have H:=HH;clear HH
   refine load1X (H.bx 6 rfl (j:=0) rfl) ?_
   obtain ⟨a20,e,f31⟩:=bindS f30;clear f30
   replace H:=H.sel [3,0,1,2,4,5,6,7,8,9,10,11,12] rfl
   replace H:=H.frz
   refine slSX (α:=Int) gok rfl rfl H 0 rfl e rfl rfl ?_;clear e;intro h17 HH;clear H;have H:=HH;clear HH
   obtain ⟨y4,e,f32⟩:=bindS f31;clear f31
   have ey1270:=e;clear e
   refine callFx (spec_l1Own_c a20 h17 y4 ey1270) H ⟨Vw.sh 0 rfl,trivial⟩ ?_;clear H ey1270
   rintro _ _ w28 ⟨h18,rfl,rfl⟩ hx H
   replace hX:=hX.trans0 hx;clear hx
   refine hold hX ?_
   obtain ⟨a21,e,f33⟩:=bindS f32;clear f32
   refine appendS (α:=Int) gok rfl rfl rfl rfl H (Vw.sh 2 rfl) e ?_;clear e H;intro h19 w29 H
   refine hold trivial ?_
   refine lit1 (α:=List Int) (g:=h19) gok rfl rfl rfl rfl rfl H ?_;clear H;intro h20 w30 hx H
   clear hx
   refine hold trivial ?_
   obtain ⟨a22,e,f34⟩:=bindS f33;clear f33
   replace H:=H.sel [13,0,1,2,3,4,5,6,7,8,9,10,11,12,14] rfl
   refine append_ (α:=List Int) gok rfl rfl rfl rfl H e ?_;clear e H;intro h21 w31 H
   refine hold trivial ?_
   refine hold trivial ?_
   refine arK hk x3 ?_
   have hs:=Option.some.inj f34;subst hs;clear f34
   exact ⟨h21,⟨rfl,rfl,rfl,rfl,rfl,rfl,rfl,rfl,rfl,trivial⟩,H.sel [8,9,10,11,12,0,13] rfl⟩
  ·
   clear H e
   rintro T7 g1 w32 (H:Cx w0 fp0 S0 w32 [Bx b4 [(.int .i64 a__0),(.int .i64 a__1),(a__2h).v],Es (List (List Int)) a__2 a__2h,Bx b7 [(.int .i64 b__0),(.int .i64 b__1),(b__2h).v],Es (List (List Int)) b__2 b__2h,Bx b0 [(.int .i64 0),(.int .i64 0),(.slice none 0 0)],E (List (List Int)) r3 g1,Es (List (List Int)) y1 h9])
   refine boolE (z:=false) geLen ?_
   refine sq ?_
   refine fld gok rfl rfl rfl rfl ?_
   refine load1 (H.bx 0 rfl (j:=0) rfl) ?_
   refine fld gok rfl rfl rfl rfl ?_
   refine load1 (H.bx 2 rfl (j:=1) rfl) ?_
   obtain ⟨y5,e,f35⟩:=bindS f21;clear f21
   obtain ⟨y5_0,y5_1,y5_2⟩:=y5
   have ey1293:=e;clear e
   refine callF (spec_rlOf_c p_ a__0 b__1 r3 g1 y5_0 y5_1 y5_2 ey1293) (Γi:=[]) H ⟨Vw.own 5 rfl,trivial⟩ ?_;clear H ey1293
   rintro _ _ w33 ⟨h22,rfl,rfl⟩ H
   replace H:=H.sel [5,0,1,2,3,4,6,7] rfl
   refine stA gok [(.int .i64 y5_0),(.int .i64 y5_1),(h22).v] rfl H rfl rfl rfl ?_;clear H;intro w34 H
   refine loadN [(.int .i64 y5_0),(.int .i64 y5_1),(h22).v] rfl (fun j u hj=>H.bx 0 rfl hj) ?_
   cases f35
   exact ⟨_,_,rfl,⟨h22,rfl,rfl⟩,(H.sel [1] rfl).close ⟨cloE,trivial⟩⟩
theorem spec_rlTensor_c (p_:Int) (a__0:Int) (a__1:Int) (a__2:List (List Int)) (a__2h:Hd) (b__0:Int) (b__1:Int) (b__2:List (List Int)) (b__2h:Hd) (y_0:Int) (y_1:Int) (y_2:List (List Int)) (hF:F_spec_rlTensor p_ (a__0,a__1,a__2) (b__0,b__1,b__2) = some (y_0,y_1,y_2)) :
  ConF Tryz.prog 66 #[(.int .i64 p_),(.agg #[(.int .i64 a__0),(.int .i64 a__1),(a__2h).v]),(.agg #[(.int .i64 b__0),(.int .i64 b__1),(b__2h).v])] [Es (List (List Int)) a__2 a__2h,Es (List (List Int)) b__2 b__2h] [] (fun v Γ'=>∃ z0:Hd,v = (.agg #[(.int .i64 y_0),(.int .i64 y_1),(z0).v]) ∧ Γ' = [E (List (List Int)) y_2 z0]):=by
 intro w0 S0 fp0 hI hS
 have H:Cx w0 fp0 S0 w0 [Es (List (List Int)) a__2 a__2h,Es (List (List Int)) b__2 b__2h]:=Cx.start hI hS
 clear hI hS
 refine enterC (args:=[_,_,_]) gok Tryz.func66 rfl _ rfl rfl rfl ?_
 refine box_ H ?_;clear H;intro b4 w3 hx H
 clear hx
 refine box_ H ?_;clear H;intro b7 w6 hx H
 clear hx
 refine alloc_ gok rfl H ?_;clear H;intro b0 w9 hx H
 clear hx
 refine heldX H [] (.fst 0 (.fst 2 (.fst 5 (.fst 7 (.fst 1 (.fst 3 (.fst 4 (.fst 10 (.fst 6 (.fst 8 (.fst 9 (.fst 11 .done)))))))))))) mixed [] trivial (by kernel_rfl) ?_
 clear H;intro w1 H
 have hX:Ext w1 w1:=Upd.refl _ _
 have H0:=H
 refine anyH (fun _=>fld gok rfl rfl rfl rfl ⟨rfl,rfl⟩) ?_
 refine anyH (fun _=>fld gok rfl rfl rfl rfl ⟨rfl,rfl⟩) ?_
 refine anyH (fun _=>fld gok rfl rfl rfl rfl ⟨rfl,rfl⟩) ?_
 refine anyH (fun _=>fld gok rfl rfl rfl rfl ⟨rfl,rfl⟩) ?_
 refine load1X (H.bx 2 rfl (j:=0) rfl) ?_
 refine load1X (H.bx 1 rfl (j:=0) rfl) ?_
 obtain ⟨a0,e,f0⟩:=bindS hF;clear hF
 refine arO e ?_;clear e
 refine load1X (H.bx 2 rfl (j:=1) rfl) ?_
 refine load1X (H.bx 1 rfl (j:=1) rfl) ?_
 obtain ⟨a1,e,f1⟩:=bindS f0;clear f0
 refine arO e ?_;clear e
 refine sq ?_
 refine fld gok rfl rfl rfl rfl ?_
 refine load1 (H.bx 2 rfl (j:=2) rfl) ?_
 refine lenE (H.rs (α:=List (List Int)) 3 rfl).len ?_
 have x0:=(H.rs (α:=List (List Int)) 3 rfl).max
 obtain ⟨r0,e,f2⟩:=bindS f1;clear f1
 replace H:=H.nil (α:=List Int)
 refine loopS _ a__2.length (fun (k0:Nat) (s0:List (List Int)) (g0:Hd)=>[(0,(.int .i64 p_)),(4,(.pointer (some ⟨b4,0,none⟩))),(5,(.pointer (some ⟨b7,0,none⟩))),(6,(.pointer (some ⟨b0,0,none⟩))),(7,(.int .i64 a0)),(8,(.int .i64 a1)),(9,(g0).v),(31,(a__2h).v),(32,(.int .i64 ((a__2.length:Nat):Int))),(33,(.int .i64 ((k0:Nat):Int)))]) (fun _ (s0:List (List Int)) (g0:Hd) w'=>Cx w0 fp0 S0 w' [Bx b4 [(.int .i64 a__0),(.int .i64 a__1),(a__2h).v],Es (List (List Int)) a__2 a__2h,Bx b7 [(.int .i64 b__0),(.int .i64 b__1),(b__2h).v],Es (List (List Int)) b__2 b__2h,Bx b0 [(.int .i64 0),(.int .i64 0),(.slice none 0 0)],E (List (List Int)) s0 g0]) [] nilH e ⟨rfl,rfl,rfl,rfl,rfl,rfl,rfl,rfl,rfl,rfl,trivial⟩ (H.sel [3,4,2,5,1,0] rfl) ?_ ?_
 ·
  clear H e
  rintro T0 k0 s0 g0 w2 o0 hk (H:Cx w0 fp0 S0 w2 [Bx b4 [(.int .i64 a__0),(.int .i64 a__1),(a__2h).v],Es (List (List Int)) a__2 a__2h,Bx b7 [(.int .i64 b__0),(.int .i64 b__1),(b__2h).v],Es (List (List Int)) b__2 b__2h,Bx b0 [(.int .i64 0),(.int .i64 0),(.slice none 0 0)],E (List (List Int)) s0 g0]) f3
  refine boolE (z:=true) (ltLen hk) ?_
  refine sq ?_
  refine sq ?_
  obtain ⟨a2,e,f4⟩:=bindS f3;clear f3
  have HH:=H;clear H;obtain ⟨p0,m0,h0,c0,c1,c2,c3,H⟩:=HH.elL 1 rfl e;clear HH
  clear e
  refine idxE c0 c1 c2 ?_;clear c0 c1 c2
  refine load1 c3 ?_;clear c3
  obtain ⟨a3,e,f5⟩:=bindS f4;clear f4
  refine arO e ?_;clear e
  obtain ⟨a4,e,f6⟩:=bindS f5;clear f5
  refine make_ (α:=Int) gok rfl rfl rfl rfl (makeCO_of e) H ?_;clear e H;intro h1 w4 hx H
  clear hx
  refine sq ?_
  refine lenE (H.rs (α:=List Int) 1 rfl).len ?_
  have x1:=(H.rs (α:=List Int) 1 rfl).max
  obtain ⟨r1,e,f7⟩:=bindS f6;clear f6
  refine loopS _ a2.length (fun (k1:Nat) (s1:List Int) (_:Unit)=>[(0,(.int .i64 p_)),(4,(.pointer (some ⟨b4,0,none⟩))),(5,(.pointer (some ⟨b7,0,none⟩))),(6,(.pointer (some ⟨b0,0,none⟩))),(7,(.int .i64 a0)),(8,(.int .i64 a1)),(9,(g0).v),(12,(h1).v),(31,(a__2h).v),(32,(.int .i64 ((a__2.length:Nat):Int))),(33,(.int .i64 ((k0:Nat):Int))),(41,(h0).v),(42,(.int .i64 ((a2.length:Nat):Int))),(43,(.int .i64 ((k1:Nat):Int)))]) (fun _ (s1:List Int) (_:Unit) w'=>Cx w0 fp0 S0 w' [Bx b4 [(.int .i64 a__0),(.int .i64 a__1),(a__2h).v],Es (List (List Int)) a__2 a__2h,Bx b7 [(.int .i64 b__0),(.int .i64 b__1),(b__2h).v],Es (List (List Int)) b__2 b__2h,Bx b0 [(.int .i64 0),(.int .i64 0),(.slice none 0 0)],E (List (List Int)) s0 g0,E (List Int) s1 h1,Es (List Int) a2 h0]) a4 () e ⟨rfl,rfl,rfl,rfl,rfl,rfl,rfl,rfl,rfl,rfl,rfl,rfl,rfl,rfl,trivial⟩ (H.sel [2,3,4,5,6,7,0,1] rfl) ?_ ?_
  ·
   clear H e
   rintro T1 k1 s1 _ w5 o1 hk (H:Cx w0 fp0 S0 w5 [Bx b4 [(.int .i64 a__0),(.int .i64 a__1),(a__2h).v],Es (List (List Int)) a__2 a__2h,Bx b7 [(.int .i64 b__0),(.int .i64 b__1),(b__2h).v],Es (List (List Int)) b__2 b__2h,Bx b0 [(.int .i64 0),(.int .i64 0),(.slice none 0 0)],E (List (List Int)) s0 g0,E (List Int) s1 h1,Es (List Int) a2 h0]) f8
   refine boolE (z:=true) (ltLen hk) ?_
   refine sq ?_
   refine sq ?_
   obtain ⟨a5,e,f9⟩:=bindS f8;clear f8
   obtain ⟨p1,m1,c4,c5,c6,c7⟩:=(H.rs (α:=List Int) 7 rfl).at1 e;clear e
   refine idxE c4 c5 c6 ?_;clear c4 c5 c6
   refine load1 c7 ?_;clear c7
   refine fld gok rfl rfl rfl rfl ?_
   refine load1 (H.bx 0 rfl (j:=0) rfl) ?_
   obtain ⟨a6,e,f10⟩:=bindS f9;clear f9
   refine boolO e ?_;clear e
   cases a6
   ·
    have f11:=condF f10;clear f10
    obtain ⟨a7,e,f12⟩:=bindS f11;clear f11
    refine arO e ?_;clear e
    refine fld gok rfl rfl rfl rfl ?_
    refine load1 (H.bx 0 rfl (j:=0) rfl) ?_
    obtain ⟨a8,e,f13⟩:=bindS f12;clear f12
    refine arO e ?_;clear e
    obtain ⟨a9,e,f14⟩:=bindS f13;clear f13
    have ea445:=e;clear e
    obtain ⟨p2,m2,c8,c9,c10⟩:=(H.ro (α:=List Int) 6 rfl).setp ea445
    refine idxE c8 c9 c10 ?_
    replace H:=H.sel [6,0,1,2,3,4,5,7] rfl
    refine setS (α:=Int) H c8 c9 ea445 ?_;clear H c8 c9 c10 ea445;intro w7 H
    refine arK hk x1 ?_
    have hs:=Option.some.inj f14;subst hs;clear f14
    exact ⟨(),⟨rfl,rfl,rfl,rfl,rfl,rfl,rfl,rfl,rfl,rfl,rfl,rfl,rfl,rfl,trivial⟩,H.sel [1,2,3,4,5,6,0,7] rfl⟩
   ·
    have f15:=condT f10;clear f10
    obtain ⟨a10,e,f16⟩:=bindS f15;clear f15
    have ea455:=e;clear e
    obtain ⟨p3,m3,c11,c12,c13⟩:=(H.ro (α:=List Int) 6 rfl).setp ea455
    refine idxE c11 c12 c13 ?_
    replace H:=H.sel [6,0,1,2,3,4,5,7] rfl
    refine setS (α:=Int) H c11 c12 ea455 ?_;clear H c11 c12 c13 ea455;intro w8 H
    refine arK hk x1 ?_
    have hs:=Option.some.inj f16;subst hs;clear f16
    exact ⟨(),⟨rfl,rfl,rfl,rfl,rfl,rfl,rfl,rfl,rfl,rfl,rfl,rfl,rfl,rfl,trivial⟩,H.sel [1,2,3,4,5,6,0,7] rfl⟩
  ·
   clear H e
   rintro T2 _ w10 (H:Cx w0 fp0 S0 w10 [Bx b4 [(.int .i64 a__0),(.int .i64 a__1),(a__2h).v],Es (List (List Int)) a__2 a__2h,Bx b7 [(.int .i64 b__0),(.int .i64 b__1),(b__2h).v],Es (List (List Int)) b__2 b__2h,Bx b0 [(.int .i64 0),(.int .i64 0),(.slice none 0 0)],E (List (List Int)) s0 g0,E (List Int) r1 h1,Es (List Int) a2 h0])
   refine boolE (z:=false) geLen ?_
   refine sq ?_
   replace H:=H.sel [6,0,1,2,3,4,5,7] rfl
   refine lit1 (α:=List Int) (g:=h1) gok rfl rfl rfl rfl rfl H ?_;clear H;intro h2 w11 hx H
   clear hx
   obtain ⟨a11,e,f17⟩:=bindS f7;clear f7
   replace H:=H.sel [6,0,1,2,3,4,5,7] rfl
   refine append_ (α:=List Int) gok rfl rfl rfl rfl H e ?_;clear e H;intro h3 w13 H
   refine arK hk x0 ?_
   have hs:=Option.some.inj f17;subst hs;clear f17
   exact ⟨h3,⟨rfl,rfl,rfl,rfl,rfl,rfl,rfl,rfl,rfl,rfl,trivial⟩,H.sel [1,2,3,4,5,0] rfl⟩
 ·
  clear H e
  rintro T3 g1 w14 (H:Cx w0 fp0 S0 w14 [Bx b4 [(.int .i64 a__0),(.int .i64 a__1),(a__2h).v],Es (List (List Int)) a__2 a__2h,Bx b7 [(.int .i64 b__0),(.int .i64 b__1),(b__2h).v],Es (List (List Int)) b__2 b__2h,Bx b0 [(.int .i64 0),(.int .i64 0),(.slice none 0 0)],E (List (List Int)) r0 g1])
  refine boolE (z:=false) geLen ?_
  refine sq ?_
  refine sq ?_
  refine fld gok rfl rfl rfl rfl ?_
  refine load1 (H.bx 2 rfl (j:=2) rfl) ?_
  refine lenE (H.rs (α:=List (List Int)) 3 rfl).len ?_
  have x2:=(H.rs (α:=List (List Int)) 3 rfl).max
  obtain ⟨r2,e,f18⟩:=bindS f2;clear f2
  refine loopS _ b__2.length (fun (k2:Nat) (s2:List (List Int)) (g2:Hd)=>[(0,(.int .i64 p_)),(4,(.pointer (some ⟨b4,0,none⟩))),(5,(.pointer (some ⟨b7,0,none⟩))),(6,(.pointer (some ⟨b0,0,none⟩))),(7,(.int .i64 a0)),(8,(.int .i64 a1)),(9,(g2).v),(72,(b__2h).v),(73,(.int .i64 ((b__2.length:Nat):Int))),(74,(.int .i64 ((k2:Nat):Int)))]) (fun _ (s2:List (List Int)) (g2:Hd) w'=>Cx w0 fp0 S0 w' [Bx b4 [(.int .i64 a__0),(.int .i64 a__1),(a__2h).v],Es (List (List Int)) a__2 a__2h,Bx b7 [(.int .i64 b__0),(.int .i64 b__1),(b__2h).v],Es (List (List Int)) b__2 b__2h,Bx b0 [(.int .i64 0),(.int .i64 0),(.slice none 0 0)],E (List (List Int)) s2 g2]) r0 g1 e ⟨rfl,rfl,rfl,rfl,rfl,rfl,rfl,rfl,rfl,rfl,trivial⟩ (H.sel [0,1,2,3,4,5] rfl) ?_ ?_
  ·
   clear H e
   rintro T4 k2 s2 g2 w15 o2 hk (H:Cx w0 fp0 S0 w15 [Bx b4 [(.int .i64 a__0),(.int .i64 a__1),(a__2h).v],Es (List (List Int)) a__2 a__2h,Bx b7 [(.int .i64 b__0),(.int .i64 b__1),(b__2h).v],Es (List (List Int)) b__2 b__2h,Bx b0 [(.int .i64 0),(.int .i64 0),(.slice none 0 0)],E (List (List Int)) s2 g2]) f19
   refine boolE (z:=true) (ltLen hk) ?_
   refine sq ?_
   refine sq ?_
   obtain ⟨a12,e,f20⟩:=bindS f19;clear f19
   have HH:=H;clear H;obtain ⟨p4,m4,h4,c14,c15,c16,c17,H⟩:=HH.elL 3 rfl e;clear HH
   clear e
   refine idxE c14 c15 c16 ?_;clear c14 c15 c16
   refine load1 c17 ?_;clear c17
   obtain ⟨a14,e,f21⟩:=bindS f20;clear f20
   refine arO e ?_;clear e
   obtain ⟨a16,e,f22⟩:=bindS f21;clear f21
   refine make_ (α:=Int) gok rfl rfl rfl rfl (makeCO_of e) H ?_;clear e H;intro h5 w16 hx H
   clear hx
   refine sq ?_
   refine lenE (H.rs (α:=List Int) 1 rfl).len ?_
   have x3:=(H.rs (α:=List Int) 1 rfl).max
   obtain ⟨r3,e,f23⟩:=bindS f22;clear f22
   refine loopS _ a12.length (fun (k3:Nat) (s3:List Int) (_:Unit)=>[(0,(.int .i64 p_)),(4,(.pointer (some ⟨b4,0,none⟩))),(5,(.pointer (some ⟨b7,0,none⟩))),(6,(.pointer (some ⟨b0,0,none⟩))),(7,(.int .i64 a0)),(8,(.int .i64 a1)),(9,(g2).v),(17,(h5).v),(72,(b__2h).v),(73,(.int .i64 ((b__2.length:Nat):Int))),(74,(.int .i64 ((k2:Nat):Int))),(82,(h4).v),(83,(.int .i64 ((a12.length:Nat):Int))),(84,(.int .i64 ((k3:Nat):Int)))]) (fun _ (s3:List Int) (_:Unit) w'=>Cx w0 fp0 S0 w' [Bx b4 [(.int .i64 a__0),(.int .i64 a__1),(a__2h).v],Es (List (List Int)) a__2 a__2h,Bx b7 [(.int .i64 b__0),(.int .i64 b__1),(b__2h).v],Es (List (List Int)) b__2 b__2h,Bx b0 [(.int .i64 0),(.int .i64 0),(.slice none 0 0)],E (List (List Int)) s2 g2,E (List Int) s3 h5,Es (List Int) a12 h4]) a16 () e ⟨rfl,rfl,rfl,rfl,rfl,rfl,rfl,rfl,rfl,rfl,rfl,rfl,rfl,rfl,trivial⟩ (H.sel [2,3,4,5,6,7,0,1] rfl) ?_ ?_
   ·
    clear H e
    rintro T5 k3 s3 _ w17 o3 hk (H:Cx w0 fp0 S0 w17 [Bx b4 [(.int .i64 a__0),(.int .i64 a__1),(a__2h).v],Es (List (List Int)) a__2 a__2h,Bx b7 [(.int .i64 b__0),(.int .i64 b__1),(b__2h).v],Es (List (List Int)) b__2 b__2h,Bx b0 [(.int .i64 0),(.int .i64 0),(.slice none 0 0)],E (List (List Int)) s2 g2,E (List Int) s3 h5,Es (List Int) a12 h4]) f24
    refine boolE (z:=true) (ltLen hk) ?_
    refine sq ?_
    refine sq ?_
    obtain ⟨a17,e,f25⟩:=bindS f24;clear f24
    obtain ⟨p5,m5,c18,c19,c20,c21⟩:=(H.rs (α:=List Int) 7 rfl).at1 e;clear e
    refine idxE c18 c19 c20 ?_;clear c18 c19 c20
    refine load1 c21 ?_;clear c21
    refine fld gok rfl rfl rfl rfl ?_
    refine load1 (H.bx 2 rfl (j:=0) rfl) ?_
    obtain ⟨a18,e,f26⟩:=bindS f25;clear f25
    refine boolO e ?_;clear e
    cases a18
    ·
     have f27:=condF f26;clear f26
     refine fld gok rfl rfl rfl rfl ?_
     refine load1 (H.bx 0 rfl (j:=1) rfl) ?_
     obtain ⟨a19,e,f28⟩:=bindS f27;clear f27
     refine arO e ?_;clear e
     obtain ⟨a20,e,f29⟩:=bindS f28;clear f28
     refine arO e ?_;clear e
     refine fld gok rfl rfl rfl rfl ?_
     refine load1 (H.bx 2 rfl (j:=0) rfl) ?_
     obtain ⟨a21,e,f30⟩:=bindS f29;clear f29
     refine arO e ?_;clear e
     obtain ⟨a22,e,f31⟩:=bindS f30;clear f30
     have ea935:=e;clear e
     obtain ⟨p6,m6,c22,c23,c24⟩:=(H.ro (α:=List Int) 6 rfl).setp ea935
     refine idxE c22 c23 c24 ?_
     replace H:=H.sel [6,0,1,2,3,4,5,7] rfl
     refine setS (α:=Int) H c22 c23 ea935 ?_;clear H c22 c23 c24 ea935;intro w18 H
     refine arK hk x3 ?_
     have hs:=Option.some.inj f31;subst hs;clear f31
     exact ⟨(),⟨rfl,rfl,rfl,rfl,rfl,rfl,rfl,rfl,rfl,rfl,rfl,rfl,rfl,rfl,trivial⟩,H.sel [1,2,3,4,5,6,0,7] rfl⟩
    ·
     have f32:=condT f26;clear f26
     refine fld gok rfl rfl rfl rfl ?_
     refine load1 (H.bx 0 rfl (j:=0) rfl) ?_
     obtain ⟨a23,e,f33⟩:=bindS f32;clear f32
     refine arO e ?_;clear e
     obtain ⟨a24,e,f34⟩:=bindS f33;clear f33
     have ea947:=e;clear e
     obtain ⟨p7,m7,c25,c26,c27⟩:=(H.ro (α:=List Int) 6 rfl).setp ea947
     refine idxE c25 c26 c27 ?_
     replace H:=H.sel [6,0,1,2,3,4,5,7] rfl
     refine setS (α:=Int) H c25 c26 ea947 ?_;clear H c25 c26 c27 ea947;intro w19 H
     refine arK hk x3 ?_
     have hs:=Option.some.inj f34;subst hs;clear f34
     exact ⟨(),⟨rfl,rfl,rfl,rfl,rfl,rfl,rfl,rfl,rfl,rfl,rfl,rfl,rfl,rfl,trivial⟩,H.sel [1,2,3,4,5,6,0,7] rfl⟩
   ·
    clear H e
    rintro T6 _ w20 (H:Cx w0 fp0 S0 w20 [Bx b4 [(.int .i64 a__0),(.int .i64 a__1),(a__2h).v],Es (List (List Int)) a__2 a__2h,Bx b7 [(.int .i64 b__0),(.int .i64 b__1),(b__2h).v],Es (List (List Int)) b__2 b__2h,Bx b0 [(.int .i64 0),(.int .i64 0),(.slice none 0 0)],E (List (List Int)) s2 g2,E (List Int) r3 h5,Es (List Int) a12 h4])
    refine boolE (z:=false) geLen ?_
    refine sq ?_
    replace H:=H.sel [6,0,1,2,3,4,5,7] rfl
    refine lit1 (α:=List Int) (g:=h5) gok rfl rfl rfl rfl rfl H ?_;clear H;intro h6 w21 hx H
    clear hx
    obtain ⟨a25,e,f35⟩:=bindS f23;clear f23
    replace H:=H.sel [6,0,1,2,3,4,5,7] rfl
    refine append_ (α:=List Int) gok rfl rfl rfl rfl H e ?_;clear e H;intro h7 w22 H
    refine arK hk x2 ?_
    have hs:=Option.some.inj f35;subst hs;clear f35
    exact ⟨h7,⟨rfl,rfl,rfl,rfl,rfl,rfl,rfl,rfl,rfl,rfl,trivial⟩,H.sel [1,2,3,4,5,0] rfl⟩
  ·
   clear H e
   rintro T7 g3 w23 (H:Cx w0 fp0 S0 w23 [Bx b4 [(.int .i64 a__0),(.int .i64 a__1),(a__2h).v],Es (List (List Int)) a__2 a__2h,Bx b7 [(.int .i64 b__0),(.int .i64 b__1),(b__2h).v],Es (List (List Int)) b__2 b__2h,Bx b0 [(.int .i64 0),(.int .i64 0),(.slice none 0 0)],E (List (List Int)) r2 g3])
   refine boolE (z:=false) geLen ?_
   refine sq ?_
   obtain ⟨y0,e,f36⟩:=bindS f18;clear f18
   obtain ⟨y0_0,y0_1,y0_2⟩:=y0
   have ey967:=e;clear e
   refine callF (spec_rlOf_c p_ a0 a1 r2 g3 y0_0 y0_1 y0_2 ey967) (Γi:=[]) H ⟨Vw.own 5 rfl,trivial⟩ ?_;clear H ey967
   rintro _ _ w24 ⟨h8,rfl,rfl⟩ H
   replace H:=H.sel [5,0,1,2,3,4,6] rfl
   refine stA gok [(.int .i64 y0_0),(.int .i64 y0_1),(h8).v] rfl H rfl rfl rfl ?_;clear H;intro w25 H
   refine loadN [(.int .i64 y0_0),(.int .i64 y0_1),(h8).v] rfl (fun j u hj=>H.bx 0 rfl hj) ?_
   cases f36
   exact ⟨_,_,rfl,⟨h8,rfl,rfl⟩,(H.sel [1] rfl).close ⟨cloE,trivial⟩⟩
theorem spec_dnTerm_c (p_:Int) (t__0:List (Int × Int × ByteArray)) (t__0h:Hd) (y0_0:Int) (y0_1:Int) (y0_2:List (List Int)) (y1:Bool) (hF:F_spec_dnTerm p_ t__0 = some ((y0_0,y0_1,y0_2),y1)) :
  ConS Tryz.prog 48 #[(.int .i64 p_),(.agg #[(t__0h).v])] [Es (List (Int × Int × ByteArray)) t__0 t__0h] [] (fun v Γ'=>∃ z0:Hd,v = (.tuple #[(.agg #[(.int .i64 y0_0),(.int .i64 y0_1),(z0).v]),(.bool y1)]) ∧ Γ' = [Es (List (List Int)) y0_2 z0]):=by
 intro w0 S0 fp0 hI hS
 have H:Cx w0 fp0 S0 w0 [Es (List (Int × Int × ByteArray)) t__0 t__0h]:=Cx.start hI hS
 clear hI hS
 refine enterC (args:=[_,_]) gok Tryz.func48 rfl _ rfl rfl rfl ?_
 refine box_ H ?_;clear H;intro b3 w2 hx H
 clear hx
 refine alloc_ gok rfl H ?_;clear H;intro b6 w5 hx H
 clear hx
 refine sq ?_
 refine loadN [(t__0h).v] rfl (fun j u hj=>H.bx 1 rfl hj) ?_
 obtain ⟨y8,e,hF9⟩:=bindS hF;clear hF
 have ey8:=e;clear e
 refine callF (spec_tmGood_c p_ t__0 t__0h y8 ey8) (Γi:=[]) H ⟨Vw.sh 2 rfl,trivial⟩ ?_;clear H ey8
 rintro _ _ w1 ⟨rfl,rfl⟩ H
 obtain ⟨a0,e,f0⟩:=bindS hF9;clear hF9
 refine boolO e ?_;clear e
 cases a0
 ·
  have f1:=condF f0;clear f0
  refine sq ?_
  refine fld gok rfl rfl rfl rfl ?_
  refine load1 (H.bx 1 rfl (j:=0) rfl) ?_
  refine lenE (H.rs (α:=List (Int × Int × ByteArray)) 2 rfl).len ?_
  have x0:=(H.rs (α:=List (Int × Int × ByteArray)) 2 rfl).max
  obtain ⟨r0,e,f2⟩:=bindS f1;clear f1
  replace H:=H.nil (α:=Sh (Int × Int × List (List Int)))
  refine loopO _ t__0.length (fun (k0:Nat) (s0:List (Int × Int × List (List Int))) (g0:Hd)=>[(0,(.int .i64 p_)),(4,(.pointer (some ⟨b6,0,none⟩))),(6,(g0).v),(17,(t__0h).v),(18,(.int .i64 ((t__0.length:Nat):Int))),(19,(.int .i64 ((k0:Nat):Int)))]) (fun _ (s0:List (Int × Int × List (List Int))) (g0:Hd) w'=>Cx w0 fp0 S0 w' [Bx b6 [(.int .i64 0),(.int .i64 0),(.slice none 0 0)],E (List (Sh (Int × Int × List (List Int)))) s0 g0,Es (List (Int × Int × ByteArray)) t__0 t__0h]) [] nilH e ⟨rfl,rfl,rfl,rfl,rfl,rfl,trivial⟩ (H.sel [1,0,3] rfl) ?_ ?_
  ·
   clear H e
   rintro T0 k0 s0 g0 w3 o0 hk (H:Cx w0 fp0 S0 w3 [Bx b6 [(.int .i64 0),(.int .i64 0),(.slice none 0 0)],E (List (Sh (Int × Int × List (List Int)))) s0 g0,Es (List (Int × Int × ByteArray)) t__0 t__0h]) hrt f3
   refine boolE (z:=true) (ltLen hk) ?_
   refine sq ?_
   obtain ⟨r1,f4,f5⟩:=bindS f3;clear f3
   refine cut (fun (q0:(List (Int × Int × List (List Int))) × Hd)=>[(0,(.int .i64 p_)),(4,(.pointer (some ⟨b6,0,none⟩))),(6,(q0.2).v),(17,(t__0h).v),(18,(.int .i64 ((t__0.length:Nat):Int))),(19,(.int .i64 ((k0:Nat):Int)))]) (fun (q0:(List (Int × Int × List (List Int))) × Hd) w'=>.inl q0.1 = r1 ∧ Cx w0 fp0 S0 w' [Bx b6 [(.int .i64 0),(.int .i64 0),(.slice none 0 0)],E (List (Sh (Int × Int × List (List Int)))) q0.1 q0.2,Es (List (Int × Int × ByteArray)) t__0 t__0h]) ?_ ?_
   ·
    obtain ⟨a1,e,f6⟩:=bindS f4;clear f4
    have HH:=H;clear H;obtain ⟨p0,m0,g1,c0,c1,c2,c3,H⟩:=HH.el (α:=Int × Int × ByteArray) 2 rfl e;clear HH
    clear e
    obtain ⟨a1_0,a1_1,a1_2⟩:=a1
    obtain ⟨_,_,_⟩:=g1
    replace H:=H.sel [1,2,3] rfl
    refine idxE c0 c1 c2 ?_;clear c0 c1 c2
    refine loadN [(.int .i64 a1_0),(.int .i64 a1_1),(.string a1_2)] rfl c3 ?_;clear c3
    refine alloc_ gok rfl H ?_;clear H;intro b0 w4 hx H
    clear hx
    refine stA gok [(.int .i64 a1_0),(.int .i64 a1_1),(.string a1_2)] rfl H rfl rfl rfl ?_;clear H;intro w6 H
    refine sq ?_
    refine fld gok rfl rfl rfl rfl ?_
    refine load1 (H.bx 0 rfl (j:=0) rfl) ?_
    obtain ⟨y0,e,f7⟩:=bindS f6;clear f6
    have ey1860:=e;clear e
    refine callF (spec_dnTimeless_c a1_0 y0 ey1860) (Γi:=[]) H trivial ?_;clear H ey1860
    rintro _ _ w7 ⟨rfl,rfl⟩ H
    obtain ⟨a2,e,f8⟩:=bindS f7;clear f7
    refine boolO e ?_;clear e
    cases a2
    ·
     have f9:=condF f8;clear f8
     refine sq ?_
     obtain ⟨r2,f10,f11⟩:=bindS f9;clear f9
     refine cut (fun (q1:Bool)=>[(0,(.int .i64 p_)),(4,(.pointer (some ⟨b6,0,none⟩))),(6,(g0).v),(8,(.pointer (some ⟨b0,0,none⟩))),(17,(t__0h).v),(18,(.int .i64 ((t__0.length:Nat):Int))),(19,(.int .i64 ((k0:Nat):Int))),(35,(.bool q1))]) (fun (q1:Bool) w'=>q1 = r2 ∧ Cx w0 fp0 S0 w' [Bx b6 [(.int .i64 0),(.int .i64 0),(.slice none 0 0)],E (List (Sh (Int × Int × List (List Int)))) s0 g0,Bx b0 [(.int .i64 a1_0),(.int .i64 a1_1),(.string a1_2)],Es (List (Int × Int × ByteArray)) t__0 t__0h]) ?_ ?_
     ·
      refine fld gok rfl rfl rfl rfl ?_
      refine load1 (H.bx 0 rfl (j:=0) rfl) ?_
      obtain ⟨a3,e,f12⟩:=bindS f10;clear f10
      refine boolO e ?_;clear e
      cases a3
      ·
       have f13:=condF f12;clear f12
       exact ⟨false,⟨rfl,rfl,rfl,rfl,rfl,rfl,rfl,rfl,trivial⟩,Option.some.inj f13,H.sel [1,2,0,3] rfl⟩
      ·
       have f14:=condT f12;clear f12
       refine fld gok rfl rfl rfl rfl ?_
       refine load1 (H.bx 0 rfl (j:=0) rfl) ?_
       obtain ⟨a4,e,f15⟩:=bindS f14;clear f14
       refine boolO e ?_;clear e
       exact ⟨a4,⟨rfl,rfl,rfl,rfl,rfl,rfl,rfl,rfl,trivial⟩,Option.some.inj f15,H.sel [1,2,0,3] rfl⟩
     ·
      clear f10 H
      rintro T1 s1 w8 ⟨hr,(H:Cx w0 fp0 S0 w8 [Bx b6 [(.int .i64 0),(.int .i64 0),(.slice none 0 0)],E (List (Sh (Int × Int × List (List Int)))) s0 g0,Bx b0 [(.int .i64 a1_0),(.int .i64 a1_1),(.string a1_2)],Es (List (Int × Int × ByteArray)) t__0 t__0h])⟩
      subst hr
      cases s1
      ·
       have f16:=condF f11;clear f11
       obtain ⟨r3,f17,f18⟩:=bindS f16;clear f16
       refine heldJ H [] (.fst 0 (.fst 1 (.fst 2 (.fst 3 (.fst 4 (.fst 6 (.fst 7 (.fst 8 (.fst 9 (.fst 10 (.fst 5 (.fst 11 (.alts (.alt 12 (.act 13 (.act 14 (.act 15 .done))) (.alt 13 (.act 12 (.act 14 (.act 15 .done))) .no))))))))))))))) mixed [] trivial (by kernel_rfl) (fun (q2:(Int × Int × List (List Int) × Int × Int × List (List Int)) × (Hd × Hd × Nat × Nat))=>[(0,(.int .i64 p_)),(4,(.pointer (some ⟨b6,0,none⟩))),(6,(g0).v),(8,(.pointer (some ⟨b0,0,none⟩))),(9,(.pointer (some ⟨q2.2.2.2.2,0,none⟩))),(10,(.pointer (some ⟨q2.2.2.2.1,0,none⟩))),(17,(t__0h).v),(18,(.int .i64 ((t__0.length:Nat):Int))),(19,(.int .i64 ((k0:Nat):Int)))]) (fun (q2:(Int × Int × List (List Int) × Int × Int × List (List Int)) × (Hd × Hd × Nat × Nat)) w'=>(q2.1.1,q2.1.2.1,q2.1.2.2.1,q2.1.2.2.2.1,q2.1.2.2.2.2.1,q2.1.2.2.2.2.2) = r3 ∧ Cx w0 fp0 S0 w' [Bx b6 [(.int .i64 0),(.int .i64 0),(.slice none 0 0)],E (List (Sh (Int × Int × List (List Int)))) s0 g0,Bx b0 [(.int .i64 a1_0),(.int .i64 a1_1),(.string a1_2)],Bx q2.2.2.2.2 [(.int .i64 q2.1.2.2.2.1),(.int .i64 q2.1.2.2.2.2.1),(q2.2.2.1).v],Es (List (List Int)) q2.1.2.2.2.2.2 q2.2.2.1,Bx q2.2.2.2.1 [(.int .i64 q2.1.1),(.int .i64 q2.1.2.1),(q2.2.1).v],Es (List (List Int)) q2.1.2.2.1 q2.2.1,Es (List (Int × Int × ByteArray)) t__0 t__0h]) ?_ ?_
       ·
        clear H;intro w9 H
        have hX:Ext w9 w9:=Upd.refl _ _
        have H0:=H
        refine lenE (Rdb.len (α:=Sh (Int × Int × List (List Int))) (H.ro (α:=List (Sh (Int × Int × List (List Int)))) 1 rfl)) ?_
        obtain ⟨a5,e,f19⟩:=bindS f17;clear f17
        refine arO e ?_;clear e
        obtain ⟨a6,e,f20⟩:=bindS f19;clear f19
        have HH:=H;clear H;obtain ⟨p1,m1,g2,c4,c5,c6,c7,H⟩:=HH.ex (α:=Int × Int × List (List Int)) 1 rfl e;clear HH
        clear e
        obtain ⟨a6_0,a6_1,a6_2⟩:=a6
        obtain ⟨_,_,h0⟩:=g2
        replace H:=H.part (β:=List (List Int)) a6_2 (h0:Hd) 0 rfl (fun S h=>(And.right (And.right h)))
        replace H:=H.sel [0,2,3,4,5] rfl
        refine idxE c4 c5 c6 ?_;clear c4 c5 c6
        refine lenE (Rdb.len (α:=Sh (Int × Int × List (List Int))) (H.ro (α:=List (Sh (Int × Int × List (List Int)))) 2 rfl)) ?_
        obtain ⟨a7,e,f21⟩:=bindS f20;clear f20
        refine arO e ?_;clear e
        obtain ⟨a8,e,f22⟩:=bindS f21;clear f21
        have HH:=H;clear H;obtain ⟨p2,m2,g3,c8,c9,c10,c11,H⟩:=HH.ex (α:=Int × Int × List (List Int)) 2 rfl e;clear HH
        clear e
        obtain ⟨a8_0,a8_1,a8_2⟩:=a8
        obtain ⟨_,_,h1⟩:=g3
        replace H:=H.part (β:=List (List Int)) a8_2 (h1:Hd) 0 rfl (fun S h=>(And.right (And.right h)))
        replace H:=H.sel [0,2,3,4,5,6] rfl
        refine idxE c8 c9 c10 ?_;clear c8 c9 c10
        refine loadNX [(.int .i64 a6_0),(.int .i64 a6_1),(h0).v] rfl c7 ?_;clear c7
        refine loadNX [(.int .i64 a8_0),(.int .i64 a8_1),(h1).v] rfl c11 ?_;clear c11
        refine both ?_ ?_
        ·
         refine allocX gok rfl H ?_;clear H;intro b1 w11 hx v0 H;replace v0:=Nat.le_trans hX.size v0
         replace hX:=hX.trans0 hx;clear hx
         refine hold hX ?_
         refine allocX gok rfl H ?_;clear H;intro b2 w12 hx v1 H;replace v1:=Nat.le_trans hX.size v1
         replace hX:=hX.trans0 hx;clear hx
         refine hold hX ?_
         replace H:=H.sel [1,0,2,3,4,5,6,7] rfl
         refine stAX gok [(.int .i64 a6_0),(.int .i64 a6_1),(h0).v] rfl H rfl rfl rfl ?_;clear H;intro w13 hu H
         replace hX:=hX.fresh hu v0;clear hu
         refine hold hX ?_
         replace H:=H.sel [1,0,2,3,4,5,6,7] rfl
         refine stAX gok [(.int .i64 a8_0),(.int .i64 a8_1),(h1).v] rfl H rfl rfl rfl ?_;clear H;intro w14 hu H
         replace hX:=hX.fresh hu v1;clear hu
         refine hold hX ?_
         exact ⟨((a8_0,a8_1,a8_2,a6_0,a6_1,a6_2),(h1,h0,b2,b1)),⟨rfl,rfl,rfl,rfl,rfl,rfl,rfl,rfl,rfl,trivial⟩,Option.some.inj f22,H.sel [4,5,6,1,3,0,2,7] rfl⟩
        ·
         refine both ?_ ?_
         ·
          refine allocX gok rfl H ?_;clear H;intro b4 w15 hx v2 H;replace v2:=Nat.le_trans hX.size v2
          replace hX:=hX.trans0 hx;clear hx
          refine hold hX ?_
          refine allocX gok rfl H ?_;clear H;intro b5 w16 hx v3 H;replace v3:=Nat.le_trans hX.size v3
          replace hX:=hX.trans0 hx;clear hx
          refine hold hX ?_
          refine stAX gok [(.int .i64 a6_0),(.int .i64 a6_1),(h0).v] rfl H rfl rfl rfl ?_;clear H;intro w17 hu H
          replace hX:=hX.fresh hu v3;clear hu
          refine hold hX ?_
          replace H:=H.sel [1,0,2,3,4,5,6,7] rfl
          refine stAX gok [(.int .i64 a8_0),(.int .i64 a8_1),(h1).v] rfl H rfl rfl rfl ?_;clear H;intro w18 hu H
          replace hX:=hX.fresh hu v2;clear hu
          refine hold hX ?_
          exact ⟨((a8_0,a8_1,a8_2,a6_0,a6_1,a6_2),(h1,h0,b4,b5)),⟨rfl,rfl,rfl,rfl,rfl,rfl,rfl,rfl,rfl,trivial⟩,Option.some.inj f22,H.sel [4,5,6,1,3,0,2,7] rfl⟩
         ·
          exact trivial
       ·
        clear f17 H
        rintro T2 ⟨⟨s2_0,s2_1,s2_2,s2_3,s2_4,s2_5⟩,⟨g4_0,g4_1,g4_2,g4_3⟩⟩ w19 ⟨hr,(H:Cx w0 fp0 S0 w19 [Bx b6 [(.int .i64 0),(.int .i64 0),(.slice none 0 0)],E (List (Sh (Int × Int × List (List Int)))) s0 g0,Bx b0 [(.int .i64 a1_0),(.int .i64 a1_1),(.string a1_2)],Bx g4_3 [(.int .i64 s2_3),(.int .i64 s2_4),(g4_1).v],Es (List (List Int)) s2_5 g4_1,Bx g4_2 [(.int .i64 s2_0),(.int .i64 s2_1),(g4_0).v],Es (List (List Int)) s2_2 g4_0,Es (List (Int × Int × ByteArray)) t__0 t__0h])⟩
        subst hr
        refine lenE (Rdb.len (α:=Sh (Int × Int × List (List Int))) (H.ro (α:=List (Sh (Int × Int × List (List Int)))) 1 rfl)) ?_
        obtain ⟨a9,e,f23⟩:=bindS f18;clear f18
        refine arO e ?_;clear e
        obtain ⟨a10,e,f24⟩:=bindS f23;clear f23
        replace H:=H.sel [1,0,2,3,4,5,6,7] rfl
        refine slO (α:=Sh (Int × Int × List (List Int))) gok rfl rfl H e rfl rfl ?_;clear e H;intro h2 H
        refine fld gok rfl rfl rfl rfl ?_
        refine load1 (H.bx 2 rfl (j:=0) rfl) ?_
        obtain ⟨a12,e,f25⟩:=bindS f24;clear f24
        refine boolO e ?_;clear e
        cases a12
        ·
         have f26:=condF f25;clear f25
         refine loadN [(.int .i64 s2_3),(.int .i64 s2_4),(g4_1).v] rfl (fun j u hj=>H.bx 3 rfl hj) ?_
         refine loadN [(.int .i64 s2_0),(.int .i64 s2_1),(g4_0).v] rfl (fun j u hj=>H.bx 5 rfl hj) ?_
         obtain ⟨y2,e,f27⟩:=bindS f26;clear f26
         obtain ⟨y2_0,y2_1,y2_2⟩:=y2
         have ey2026:=e;clear e
         refine callF (spec_rlTensor_c p_ s2_3 s2_4 s2_5 g4_1 s2_0 s2_1 s2_2 g4_0 y2_0 y2_1 y2_2 ey2026) (Γi:=[]) H ⟨Vw.sh 4 rfl,Vw.sh 6 rfl,trivial⟩ ?_;clear H ey2026
         rintro _ _ w20 ⟨h3,rfl,rfl⟩ H
         replace H:=H.sc (α:=Int) y2_1
         replace H:=H.join (α:=Int) (β:=List (List Int))
         replace H:=H.sc (α:=Int) y2_0
         replace H:=H.join (α:=Int) (β:=Int × List (List Int))
         refine lit1 (α:=Int × Int × List (List Int)) (g:=((),(),h3)) gok rfl rfl rfl rfl rfl H ?_;clear H;intro h4 w21 hx H
         clear hx
         obtain ⟨a13,e,f28⟩:=bindS f27;clear f27
         replace H:=H.frzE (α:=Int × Int × List (List Int))
         replace H:=H.sel [1,0,2,3,4,5,6,7,8] rfl
         refine append_ (α:=Sh (Int × Int × List (List Int))) gok rfl rfl rfl rfl H e ?_;clear e H;intro h5 w22 H
         exact ⟨(a13,h5),⟨rfl,rfl,rfl,rfl,rfl,rfl,trivial⟩,Option.some.inj f28,H.sel [1,0,7] rfl⟩
        ·
         have f29:=condT f25;clear f25
         refine loadN [(.int .i64 s2_3),(.int .i64 s2_4),(g4_1).v] rfl (fun j u hj=>H.bx 3 rfl hj) ?_
         refine loadN [(.int .i64 s2_0),(.int .i64 s2_1),(g4_0).v] rfl (fun j u hj=>H.bx 5 rfl hj) ?_
         obtain ⟨y3,e,f30⟩:=bindS f29;clear f29
         obtain ⟨y3_0,y3_1,y3_2⟩:=y3
         have ey2044:=e;clear e
         refine callF (spec_rlCompose_c p_ s2_3 s2_4 s2_5 g4_1 s2_0 s2_1 s2_2 g4_0 y3_0 y3_1 y3_2 ey2044) (Γi:=[]) H ⟨Vw.sh 4 rfl,Vw.sh 6 rfl,trivial⟩ ?_;clear H ey2044
         rintro _ _ w23 ⟨h6,rfl,rfl⟩ H
         replace H:=H.sc (α:=Int) y3_1
         replace H:=H.join (α:=Int) (β:=List (List Int))
         replace H:=H.sc (α:=Int) y3_0
         replace H:=H.join (α:=Int) (β:=Int × List (List Int))
         refine lit1 (α:=Int × Int × List (List Int)) (g:=((),(),h6)) gok rfl rfl rfl rfl rfl H ?_;clear H;intro h7 w24 hx H
         clear hx
         obtain ⟨a14,e,f31⟩:=bindS f30;clear f30
         replace H:=H.frzE (α:=Int × Int × List (List Int))
         replace H:=H.sel [1,0,2,3,4,5,6,7,8] rfl
         refine append_ (α:=Sh (Int × Int × List (List Int))) gok rfl rfl rfl rfl H e ?_;clear e H;intro h8 w25 H
         exact ⟨(a14,h8),⟨rfl,rfl,rfl,rfl,rfl,rfl,trivial⟩,Option.some.inj f31,H.sel [1,0,7] rfl⟩
      ·
       have f32:=condT f11;clear f11
       refine loadN [(.int .i64 a1_0),(.int .i64 a1_1),(.string a1_2)] rfl (fun j u hj=>H.bx 2 rfl hj) ?_
       obtain ⟨y4,e,f33⟩:=bindS f32;clear f32
       obtain ⟨y4_0,y4_1,y4_2⟩:=y4
       have ey2062:=e;clear e
       refine callF (spec_dnLeaf_c p_ a1_0 a1_1 a1_2 y4_0 y4_1 y4_2 ey2062) (Γi:=[]) H trivial ?_;clear H ey2062
       rintro _ _ w26 ⟨h9,rfl,rfl⟩ H
       replace H:=H.sc (α:=Int) y4_1
       replace H:=H.join (α:=Int) (β:=List (List Int))
       replace H:=H.sc (α:=Int) y4_0
       replace H:=H.join (α:=Int) (β:=Int × List (List Int))
       refine lit1 (α:=Int × Int × List (List Int)) (g:=((),(),h9)) gok rfl rfl rfl rfl rfl H ?_;clear H;intro h10 w27 hx H
       clear hx
       obtain ⟨a15,e,f34⟩:=bindS f33;clear f33
       replace H:=H.frzE (α:=Int × Int × List (List Int))
       replace H:=H.sel [2,0,1,3,4] rfl
       refine append_ (α:=Sh (Int × Int × List (List Int))) gok rfl rfl rfl rfl H e ?_;clear e H;intro h11 w28 H
       exact ⟨(a15,h11),⟨rfl,rfl,rfl,rfl,rfl,rfl,trivial⟩,Option.some.inj f34,H.sel [1,0,3] rfl⟩
    ·
     have f35:=condT f8;clear f8
     refine build_ (cs:=#[(.int .i64 0),(.int .i64 0),(.slice none 0 0)]) gok rfl rfl rfl ?_
     replace H:=H.sel [1,0,2,3] rfl
     refine stA gok [(.int .i64 0),(.int .i64 0),(.slice none 0 0)] rfl H rfl rfl rfl ?_;clear H;intro w29 H
     have hs:=Option.some.inj f35;subst hs;clear f35
     have f36:some _ = some _:=f5;clear f5
     have hs:=Option.some.inj f36;subst hs;clear f36
     have hr:=hrt _ rfl;subst hr
     have f37:some _ = some _:=f2
     refine loadN [(.int .i64 0),(.int .i64 0),(.slice none 0 0)] rfl (fun j u hj=>H.bx 0 rfl hj) ?_
     replace H:=H.nil (α:=List Int)
     replace H:=H.frz
     cases f37
     exact ⟨_,_,rfl,⟨nilH,rfl,rfl⟩,(H.sel [0] rfl)⟩
   ·
    clear f4 H
    rintro T3 ⟨s3,g5⟩ w30 ⟨hr,(H:Cx w0 fp0 S0 w30 [Bx b6 [(.int .i64 0),(.int .i64 0),(.slice none 0 0)],E (List (Sh (Int × Int × List (List Int)))) s3 g5,Es (List (Int × Int × ByteArray)) t__0 t__0h])⟩
    subst hr
    refine arK hk x0 ?_
    have hs:=Option.some.inj f5;subst hs;clear f5
    exact ⟨s3,g5,rfl,⟨rfl,rfl,rfl,rfl,rfl,rfl,trivial⟩,H.sel [0,1,2] rfl⟩
  ·
   clear H e
   rintro T4 s4 g6 w31 hr (H:Cx w0 fp0 S0 w31 [Bx b6 [(.int .i64 0),(.int .i64 0),(.slice none 0 0)],E (List (Sh (Int × Int × List (List Int)))) s4 g6,Es (List (Int × Int × ByteArray)) t__0 t__0h])
   subst hr
   refine boolE (z:=false) geLen ?_
   refine sq ?_
   obtain ⟨a16,e,f38⟩:=bindS f2;clear f2
   have HH:=H;clear H;obtain ⟨p3,m3,g7,c12,c13,c14,c15,H⟩:=HH.ex (α:=Int × Int × List (List Int)) 1 rfl e;clear HH
   clear e
   obtain ⟨a16_0,a16_1,a16_2⟩:=a16
   obtain ⟨_,_,h12⟩:=g7
   replace H:=H.part (β:=List (List Int)) a16_2 (h12:Hd) 0 rfl (fun S h=>(And.right (And.right h)))
   replace H:=H.sel [0,2,3,4] rfl
   refine idxE c12 c13 c14 ?_;clear c12 c13 c14
   refine loadN [(.int .i64 a16_0),(.int .i64 a16_1),(h12).v] rfl c15 ?_;clear c15
   replace H:=H.sel [1,0,2,3] rfl
   refine stA gok [(.int .i64 a16_0),(.int .i64 a16_1),(h12).v] rfl H rfl rfl rfl ?_;clear H;intro w32 H
   refine loadN [(.int .i64 a16_0),(.int .i64 a16_1),(h12).v] rfl (fun j u hj=>H.bx 0 rfl hj) ?_
   cases f38
   exact ⟨_,_,rfl,⟨h12,rfl,rfl⟩,(H.sel [1] rfl)⟩
 ·
  have f39:=condT f0;clear f0
  refine build_ (cs:=#[(.int .i64 0),(.int .i64 0),(.slice none 0 0)]) gok rfl rfl rfl ?_
  refine stA gok [(.int .i64 0),(.int .i64 0),(.slice none 0 0)] rfl H rfl rfl rfl ?_;clear H;intro w33 H
  refine loadN [(.int .i64 0),(.int .i64 0),(.slice none 0 0)] rfl (fun j u hj=>H.bx 0 rfl hj) ?_
  replace H:=H.nil (α:=List Int)
  replace H:=H.frz
  cases f39
  exact ⟨_,_,rfl,⟨nilH,rfl,rfl⟩,(H.sel [0] rfl)⟩
theorem spec_dnTwo_c (p_:Int) (a__0:List (Int × Int × ByteArray)) (a__0h:Hd) (b__0:List (Int × Int × ByteArray)) (b__0h:Hd) (y0_0:Int) (y0_1:Int) (y0_2:List (List Int)) (y1_0:Int) (y1_1:Int) (y1_2:List (List Int)) (y2:Bool) (hF:F_spec_dnTwo p_ a__0 b__0 = some ((y0_0,y0_1,y0_2),(y1_0,y1_1,y1_2),y2)) :
  ConS Tryz.prog 30 #[(.int .i64 p_),(.agg #[(a__0h).v]),(.agg #[(b__0h).v])] [Es (List (Int × Int × ByteArray)) a__0 a__0h,Es (List (Int × Int × ByteArray)) b__0 b__0h] [] (fun v Γ'=>∃ z0 z1:Hd,v = (.tuple #[(.agg #[(.int .i64 y0_0),(.int .i64 y0_1),(z0).v]),(.agg #[(.int .i64 y1_0),(.int .i64 y1_1),(z1).v]),(.bool y2)]) ∧ Γ' = [Es (List (List Int)) y0_2 z0,Es (List (List Int)) y1_2 z1]):=by
 intro w0 S0 fp0 hI hS
 have H:Cx w0 fp0 S0 w0 [Es (List (Int × Int × ByteArray)) a__0 a__0h,Es (List (Int × Int × ByteArray)) b__0 b__0h]:=Cx.start hI hS
 clear hI hS
 refine enterC (args:=[_,_,_]) gok Tryz.func30 rfl _ rfl rfl rfl ?_
 refine box_ H ?_;clear H;intro b4 w3 hx H
 clear hx
 refine box_ H ?_;clear H;intro b7 w6 hx H
 clear hx
 refine alloc_ gok rfl H ?_;clear H;intro b0 w9 hx H
 clear hx
 refine alloc_ gok rfl H ?_;clear H;intro b1 w1 hx H
 clear hx
 refine loadN [(a__0h).v] rfl (fun j u hj=>H.bx 3 rfl hj) ?_
 obtain ⟨y0,e,f0⟩:=bindS hF;clear hF
 obtain ⟨⟨y0_0_0,y0_0_1,y0_0_2⟩,y0_1⟩:=y0
 have ey15:=e;clear e
 refine callS (spec_dnTerm_c p_ a__0 a__0h y0_0_0 y0_0_1 y0_0_2 y0_1 ey15) (Γi:=[]) H [4] rfl (persC persS persN) ?_;clear H ey15
 rintro _ _ w2 ⟨h0,rfl,rfl⟩ H
 refine alloc_ gok rfl H ?_;clear H;intro b2 w4 hx H
 clear hx
 refine stA gok [(.int .i64 y0_0_0),(.int .i64 y0_0_1),(h0).v] rfl H rfl rfl rfl ?_;clear H;intro w5 H
 refine loadN [(b__0h).v] rfl (fun j u hj=>H.bx 4 rfl hj) ?_
 obtain ⟨y1,e,f1⟩:=bindS f0;clear f0
 obtain ⟨⟨y1_0_0,y1_0_1,y1_0_2⟩,y1_1⟩:=y1
 have ey24:=e;clear e
 refine callS (spec_dnTerm_c p_ b__0 b__0h y1_0_0 y1_0_1 y1_0_2 y1_1 ey24) (Γi:=[]) H [7] rfl (persC persS persN) ?_;clear H ey24
 rintro _ _ w7 ⟨h1,rfl,rfl⟩ H
 refine alloc_ gok rfl H ?_;clear H;intro b3 w8 hx H
 clear hx
 refine stA gok [(.int .i64 y1_0_0),(.int .i64 y1_0_1),(h1).v] rfl H rfl rfl rfl ?_;clear H;intro w10 H
 obtain ⟨r0,f2,f3⟩:=bindS f1;clear f1
 refine cut (fun (q0:(Int × Int × List (List Int) × Int × Int × List (List Int) × Bool) × (Hd × Hd))=>[(6,(.pointer (some ⟨b0,0,none⟩))),(7,(.pointer (some ⟨b1,0,none⟩))),(8,(.bool q0.1.2.2.2.2.2.2))]) (fun (q0:(Int × Int × List (List Int) × Int × Int × List (List Int) × Bool) × (Hd × Hd)) w'=>(q0.1.1,q0.1.2.1,q0.1.2.2.1,q0.1.2.2.2.1,q0.1.2.2.2.2.1,q0.1.2.2.2.2.2.1,q0.1.2.2.2.2.2.2) = r0 ∧ Cx w0 fp0 S0 w' [Bx b0 [(.int .i64 q0.1.1),(.int .i64 q0.1.2.1),(q0.2.1).v],Es (List (List Int)) q0.1.2.2.1 q0.2.1,Bx b1 [(.int .i64 q0.1.2.2.2.1),(.int .i64 q0.1.2.2.2.2.1),(q0.2.2).v],Es (List (List Int)) q0.1.2.2.2.2.2.1 q0.2.2]) ?_ ?_
 ·
  refine heldX H [20,21,22,0,1,14,15,16,17,18,19] (.pure 0 (.pure 1 (.fst 2 (.fst 3 (.fst 4 (.fst 5 (.fst 6 (.fst 7 (.fst 9 (.fst 8 (.fst 10 (.fst 11 (.fst 12 (.fst 13 (.pure 14 (.pure 15 (.pure 16 (.pure 17 (.pure 18 (.pure 19 (.act 20 (.act 21 (.act 22 .done))))))))))))))))))))))) mixed [((Addr.add ⟨b2,0,none⟩ 0),(.int .i64 y0_0_0)),((Addr.add ⟨b2,0,none⟩ 1),(.int .i64 y0_0_1)),((Addr.add ⟨b2,0,none⟩ 2),(h0).v),((Addr.add ⟨b3,0,none⟩ 0),(.int .i64 y1_0_0)),((Addr.add ⟨b3,0,none⟩ 1),(.int .i64 y1_0_1)),((Addr.add ⟨b3,0,none⟩ 2),(h1).v),((Addr.add ⟨b2,0,none⟩ 1),(.int .i64 y0_0_1)),((Addr.add ⟨b3,0,none⟩ 1),(.int .i64 y1_0_1))] ⟨H.bx 2 rfl (j:=0) rfl,H.bx 2 rfl (j:=1) rfl,H.bx 2 rfl (j:=2) rfl,H.bx 0 rfl (j:=0) rfl,H.bx 0 rfl (j:=1) rfl,H.bx 0 rfl (j:=2) rfl,H.bx 2 rfl (j:=1) rfl,H.bx 0 rfl (j:=1) rfl,trivial⟩ (by kernel_rfl) ?_
  clear H;intro w11 H
  have hX:Ext w11 w11:=Upd.refl _ _
  have H0:=H
  refine loadNW 0 [(.int .i64 y0_0_0),(.int .i64 y0_0_1),(h0).v] rfl ⟨rfl,rfl,rfl,trivial⟩ ?_
  refine loadNW 3 [(.int .i64 y1_0_0),(.int .i64 y1_0_1),(h1).v] rfl ⟨rfl,rfl,rfl,trivial⟩ ?_
  cases y0_1
  ·
   have f4:=condF f2;clear f2
   replace H:=H.sel [5,0,1,2,3,4,6,7,8,9] rfl
   refine stA gok [(.int .i64 y0_0_0),(.int .i64 y0_0_1),(h0).v] rfl H rfl rfl rfl ?_;clear H;intro w13 H
   refine hold ⟨H.bx 3 rfl (j:=0) rfl,H.bx 3 rfl (j:=1) rfl,H.bx 3 rfl (j:=2) rfl,H.bx 1 rfl (j:=0) rfl,H.bx 1 rfl (j:=1) rfl,H.bx 1 rfl (j:=2) rfl,H.bx 3 rfl (j:=1) rfl,H.bx 1 rfl (j:=1) rfl,trivial⟩ ?_
   replace H:=H.sel [5,0,1,2,3,4,6,7,8,9] rfl
   refine stA gok [(.int .i64 y1_0_0),(.int .i64 y1_0_1),(h1).v] rfl H rfl rfl rfl ?_;clear H;intro w14 H
   refine hold ⟨H.bx 4 rfl (j:=0) rfl,H.bx 4 rfl (j:=1) rfl,H.bx 4 rfl (j:=2) rfl,H.bx 2 rfl (j:=0) rfl,H.bx 2 rfl (j:=1) rfl,H.bx 2 rfl (j:=2) rfl,H.bx 4 rfl (j:=1) rfl,H.bx 2 rfl (j:=1) rfl,trivial⟩ ?_
   refine hold ⟨H.bx 4 rfl (j:=0) rfl,H.bx 4 rfl (j:=1) rfl,H.bx 4 rfl (j:=2) rfl,H.bx 2 rfl (j:=0) rfl,H.bx 2 rfl (j:=1) rfl,H.bx 2 rfl (j:=2) rfl,H.bx 4 rfl (j:=1) rfl,H.bx 2 rfl (j:=1) rfl,trivial⟩ ?_
   exact ⟨((y0_0_0,y0_0_1,y0_0_2,y1_0_0,y1_0_1,y1_0_2,false),(h0,h1)),⟨rfl,rfl,rfl,trivial⟩,Option.some.inj f4,H.sel [1,5,0,3] rfl⟩
  ·
   have f5:=condT f2;clear f2
   cases y1_1
   ·
    have f6:=condF f5;clear f5
    replace H:=H.sel [5,0,1,2,3,4,6,7,8,9] rfl
    refine stA gok [(.int .i64 y0_0_0),(.int .i64 y0_0_1),(h0).v] rfl H rfl rfl rfl ?_;clear H;intro w15 H
    refine hold ⟨H.bx 3 rfl (j:=0) rfl,H.bx 3 rfl (j:=1) rfl,H.bx 3 rfl (j:=2) rfl,H.bx 1 rfl (j:=0) rfl,H.bx 1 rfl (j:=1) rfl,H.bx 1 rfl (j:=2) rfl,H.bx 3 rfl (j:=1) rfl,H.bx 1 rfl (j:=1) rfl,trivial⟩ ?_
    replace H:=H.sel [5,0,1,2,3,4,6,7,8,9] rfl
    refine stA gok [(.int .i64 y1_0_0),(.int .i64 y1_0_1),(h1).v] rfl H rfl rfl rfl ?_;clear H;intro w16 H
    refine hold ⟨H.bx 4 rfl (j:=0) rfl,H.bx 4 rfl (j:=1) rfl,H.bx 4 rfl (j:=2) rfl,H.bx 2 rfl (j:=0) rfl,H.bx 2 rfl (j:=1) rfl,H.bx 2 rfl (j:=2) rfl,H.bx 4 rfl (j:=1) rfl,H.bx 2 rfl (j:=1) rfl,trivial⟩ ?_
    refine hold ⟨H.bx 4 rfl (j:=0) rfl,H.bx 4 rfl (j:=1) rfl,H.bx 4 rfl (j:=2) rfl,H.bx 2 rfl (j:=0) rfl,H.bx 2 rfl (j:=1) rfl,H.bx 2 rfl (j:=2) rfl,H.bx 4 rfl (j:=1) rfl,H.bx 2 rfl (j:=1) rfl,trivial⟩ ?_
    exact ⟨((y0_0_0,y0_0_1,y0_0_2,y1_0_0,y1_0_1,y1_0_2,false),(h0,h1)),⟨rfl,rfl,rfl,trivial⟩,Option.some.inj f6,H.sel [1,5,0,3] rfl⟩
   ·
    have f7:=condT f5;clear f5
    refine anyH (fun _=>fld gok rfl rfl rfl rfl ⟨rfl,rfl⟩) ?_
    refine anyH (fun _=>fld gok rfl rfl rfl rfl ⟨rfl,rfl⟩) ?_
    refine load1X (H.bx 2 rfl (j:=0) rfl) ?_
    refine load1X (H.bx 0 rfl (j:=0) rfl) ?_
    obtain ⟨a0,e,f8⟩:=bindS f7;clear f7
    refine boolO e ?_;clear e
    cases a0
    ·
     have f9:=condF f8;clear f8
     replace H:=H.sel [5,0,1,2,3,4,6,7,8,9] rfl
     refine stA gok [(.int .i64 y0_0_0),(.int .i64 y0_0_1),(h0).v] rfl H rfl rfl rfl ?_;clear H;intro w18 H
     refine hold ⟨H.bx 3 rfl (j:=0) rfl,H.bx 3 rfl (j:=1) rfl,H.bx 3 rfl (j:=2) rfl,H.bx 1 rfl (j:=0) rfl,H.bx 1 rfl (j:=1) rfl,H.bx 1 rfl (j:=2) rfl,H.bx 3 rfl (j:=1) rfl,H.bx 1 rfl (j:=1) rfl,trivial⟩ ?_
     replace H:=H.sel [5,0,1,2,3,4,6,7,8,9] rfl
     refine stA gok [(.int .i64 y1_0_0),(.int .i64 y1_0_1),(h1).v] rfl H rfl rfl rfl ?_;clear H;intro w19 H
     refine hold ⟨H.bx 4 rfl (j:=0) rfl,H.bx 4 rfl (j:=1) rfl,H.bx 4 rfl (j:=2) rfl,H.bx 2 rfl (j:=0) rfl,H.bx 2 rfl (j:=1) rfl,H.bx 2 rfl (j:=2) rfl,H.bx 4 rfl (j:=1) rfl,H.bx 2 rfl (j:=1) rfl,trivial⟩ ?_
     refine hold ⟨H.bx 4 rfl (j:=0) rfl,H.bx 4 rfl (j:=1) rfl,H.bx 4 rfl (j:=2) rfl,H.bx 2 rfl (j:=0) rfl,H.bx 2 rfl (j:=1) rfl,H.bx 2 rfl (j:=2) rfl,H.bx 4 rfl (j:=1) rfl,H.bx 2 rfl (j:=1) rfl,trivial⟩ ?_
     exact ⟨((y0_0_0,y0_0_1,y0_0_2,y1_0_0,y1_0_1,y1_0_2,false),(h0,h1)),⟨rfl,rfl,rfl,trivial⟩,Option.some.inj f9,H.sel [1,5,0,3] rfl⟩
    ·
     have f10:=condT f8;clear f8
     refine anyH (fun _=>fld gok rfl rfl rfl rfl ⟨rfl,rfl⟩) ?_
     refine load1W 6 rfl ?_
     refine anyH (fun _=>fld gok rfl rfl rfl rfl ⟨rfl,rfl⟩) ?_
     refine load1W 7 rfl ?_
     obtain ⟨a1,e,f11⟩:=bindS f10;clear f10
     refine boolO e ?_;clear e
     replace H:=H.sel [5,0,1,2,3,4,6,7,8,9] rfl
     refine stA gok [(.int .i64 y0_0_0),(.int .i64 y0_0_1),(h0).v] rfl H rfl rfl rfl ?_;clear H;intro w21 H
     refine hold ⟨H.bx 3 rfl (j:=0) rfl,H.bx 3 rfl (j:=1) rfl,H.bx 3 rfl (j:=2) rfl,H.bx 1 rfl (j:=0) rfl,H.bx 1 rfl (j:=1) rfl,H.bx 1 rfl (j:=2) rfl,H.bx 3 rfl (j:=1) rfl,H.bx 1 rfl (j:=1) rfl,trivial⟩ ?_
     replace H:=H.sel [5,0,1,2,3,4,6,7,8,9] rfl
     refine stA gok [(.int .i64 y1_0_0),(.int .i64 y1_0_1),(h1).v] rfl H rfl rfl rfl ?_;clear H;intro w22 H
     refine hold ⟨H.bx 4 rfl (j:=0) rfl,H.bx 4 rfl (j:=1) rfl,H.bx 4 rfl (j:=2) rfl,H.bx 2 rfl (j:=0) rfl,H.bx 2 rfl (j:=1) rfl,H.bx 2 rfl (j:=2) rfl,H.bx 4 rfl (j:=1) rfl,H.bx 2 rfl (j:=1) rfl,trivial⟩ ?_
     refine hold ⟨H.bx 4 rfl (j:=0) rfl,H.bx 4 rfl (j:=1) rfl,H.bx 4 rfl (j:=2) rfl,H.bx 2 rfl (j:=0) rfl,H.bx 2 rfl (j:=1) rfl,H.bx 2 rfl (j:=2) rfl,H.bx 4 rfl (j:=1) rfl,H.bx 2 rfl (j:=1) rfl,trivial⟩ ?_
     exact ⟨((y0_0_0,y0_0_1,y0_0_2,y1_0_0,y1_0_1,y1_0_2,a1),(h0,h1)),⟨rfl,rfl,rfl,trivial⟩,Option.some.inj f11,H.sel [1,5,0,3] rfl⟩
 ·
  clear f2 H
  rintro T0 ⟨⟨s0_0,s0_1,s0_2,s0_3,s0_4,s0_5,s0_6⟩,⟨g0_0,g0_1⟩⟩ w24 ⟨hr,(H:Cx w0 fp0 S0 w24 [Bx b0 [(.int .i64 s0_0),(.int .i64 s0_1),(g0_0).v],Es (List (List Int)) s0_2 g0_0,Bx b1 [(.int .i64 s0_3),(.int .i64 s0_4),(g0_1).v],Es (List (List Int)) s0_5 g0_1])⟩
  subst hr
  refine loadN [(.int .i64 s0_0),(.int .i64 s0_1),(g0_0).v] rfl (fun j u hj=>H.bx 0 rfl hj) ?_
  refine loadN [(.int .i64 s0_3),(.int .i64 s0_4),(g0_1).v] rfl (fun j u hj=>H.bx 2 rfl hj) ?_
  cases f3
  exact ⟨_,_,rfl,⟨g0_0,g0_1,rfl,rfl⟩,(H.sel [1,3] rfl)⟩
theorem spec_spCoords_c (basis_:List (List Int)) (basis_h:Hd) (v_:List Int) (v_h:Hd) (y:List Int) (hF:F_spec_spCoords basis_ v_ = some y) :
  ConF Tryz.prog 56 #[(basis_h).v,(v_h).v] [Es (List (List Int)) basis_ basis_h,Es (List Int) v_ v_h] [] (fun v Γ'=>∃ z0:Hd,v = (z0).v ∧ Γ' = [E (List Int) y z0]):=by
 intro w0 S0 fp0 hI hS
 have H:Cx w0 fp0 S0 w0 [Es (List (List Int)) basis_ basis_h,Es (List Int) v_ v_h]:=Cx.start hI hS
 clear hI hS
 refine enterC (args:=[_,_]) gok Tryz.func56 rfl _ rfl rfl rfl ?_
 refine sq ?_
 refine lenE (H.rs (α:=List (List Int)) 0 rfl).len ?_
 have x0:=(H.rs (α:=List (List Int)) 0 rfl).max
 obtain ⟨r0,e,f0⟩:=bindS hF;clear hF
 replace H:=H.nil (α:=Int)
 refine loopS _ basis_.length (fun (k3:Nat) (s0:List Int) (g0:Hd)=>[(1,(v_h).v),(5,(g0).v),(8,(basis_h).v),(9,(.int .i64 ((basis_.length:Nat):Int))),(10,(.int .i64 ((k3:Nat):Int)))]) (fun _ (s0:List Int) (g0:Hd) w'=>Cx w0 fp0 S0 w' [Es (List Int) v_ v_h,E (List Int) s0 g0,Es (List (List Int)) basis_ basis_h]) [] nilH e ⟨rfl,rfl,rfl,rfl,rfl,trivial⟩ (H.sel [2,0,1] rfl) ?_ ?_
 ·
  clear H e
  rintro T0 k3 s0 g0 w1 o0 hk (H:Cx w0 fp0 S0 w1 [Es (List Int) v_ v_h,E (List Int) s0 g0,Es (List (List Int)) basis_ basis_h]) f1
  refine boolE (z:=true) (ltLen hk) ?_
  refine sq ?_
  refine sq ?_
  obtain ⟨a0,e,f2⟩:=bindS f1;clear f1
  have HH:=H;clear H;obtain ⟨p0,m0,h0,c0,c1,c2,c3,H⟩:=HH.elL 2 rfl e;clear HH
  clear e
  refine idxE c0 c1 c2 ?_;clear c0 c1 c2
  refine load1 c3 ?_;clear c3
  obtain ⟨y0,e,f3⟩:=bindS f2;clear f2
  have ey89:=e;clear e
  refine callF (spec_spLead_c a0 h0 y0 ey89) (Γi:=[]) H ⟨Vw.sh 0 rfl,trivial⟩ ?_;clear H ey89
  rintro _ _ w2 ⟨rfl,rfl⟩ H
  obtain ⟨a1,e,f4⟩:=bindS f3;clear f3
  obtain ⟨p1,m1,c4,c5,c6,c7⟩:=(H.rs (α:=List Int) 1 rfl).at1 e;clear e
  refine idxE c4 c5 c6 ?_;clear c4 c5 c6
  refine load1 c7 ?_;clear c7
  refine lit1S (α:=Int) gok rfl rfl rfl rfl H ?_;clear H;intro h1 w3 hx H
  clear hx
  obtain ⟨a2,e,f5⟩:=bindS f4;clear f4
  replace H:=H.sel [3,0,1,2,4] rfl
  refine append_ (α:=Int) gok rfl rfl rfl rfl H e ?_;clear e H;intro h2 w4 H
  refine arK hk x0 ?_
  have hs:=Option.some.inj f5;subst hs;clear f5
  exact ⟨h2,⟨rfl,rfl,rfl,rfl,rfl,trivial⟩,H.sel [2,0,3] rfl⟩
 ·
  clear H e
  rintro T1 g1 w5 (H:Cx w0 fp0 S0 w5 [Es (List Int) v_ v_h,E (List Int) r0 g1,Es (List (List Int)) basis_ basis_h])
  refine boolE (z:=false) geLen ?_
  refine sq ?_
  cases f0
  exact ⟨_,_,rfl,⟨g1,rfl,rfl⟩,(H.sel [1] rfl).close ⟨cloE,trivial⟩⟩
theorem spec_l1Same_c (a_:List Int) (a_h:Hd) (b_:List Int) (b_h:Hd) (y:Bool) (hF:F_spec_l1Same a_ b_ = some y) :
  ConF Tryz.prog 49 #[(a_h).v,(b_h).v] [Es (List Int) a_ a_h,Es (List Int) b_ b_h] [] (fun v Γ'=>v = (.bool y) ∧ Γ' = []):=by
 intro w0 S0 fp0 hI hS
 have H:Cx w0 fp0 S0 w0 [Es (List Int) a_ a_h,Es (List Int) b_ b_h]:=Cx.start hI hS
 clear hI hS
 refine enterC (args:=[_,_]) gok Tryz.func49 rfl _ rfl rfl rfl ?_
 refine sq ?_
 refine lenE (H.rs (α:=List Int) 0 rfl).len ?_
 refine lenE (H.rs (α:=List Int) 1 rfl).len ?_
 obtain ⟨a3,e,hF4⟩:=bindS hF;clear hF
 refine boolO e ?_;clear e
 cases a3
 ·
  have hF5:=condF hF4;clear hF4
  refine sq ?_
  refine lenE (H.rs (α:=List Int) 0 rfl).len ?_
  have x0:=(H.rs (α:=List Int) 0 rfl).max
  obtain ⟨r0,e,f0⟩:=bindS hF5;clear hF5
  refine loopO _ a_.length (fun (k6:Nat) (_:Unit) (_:Unit)=>[(0,(a_h).v),(1,(b_h).v),(12,(.int .i64 ((a_.length:Nat):Int))),(13,(.int .i64 ((k6:Nat):Int)))]) (fun _ (_:Unit) (_:Unit) w'=>Cx w0 fp0 S0 w' [Es (List Int) a_ a_h,Es (List Int) b_ b_h]) () () e ⟨rfl,rfl,rfl,rfl,trivial⟩ (H.sel [0,1] rfl) ?_ ?_
  ·
   clear H e
   rintro T0 k6 _ _ w1 o0 hk (H:Cx w0 fp0 S0 w1 [Es (List Int) a_ a_h,Es (List Int) b_ b_h]) hrt f1
   refine boolE (z:=true) (ltLen hk) ?_
   refine sq ?_
   refine sq ?_
   refine heldX H [] (.fst 0 (.fst 1 (.fst 2 (.fst 4 (.fst 5 (.fst 6 (.fst 3 (.fst 7 (.fst 8 .done))))))))) mixed [] trivial (by kernel_rfl) ?_
   clear H;intro w2 H
   have hX:Ext w2 w2:=Upd.refl _ _
   have H0:=H
   obtain ⟨a0,e,f2⟩:=bindS f1;clear f1
   obtain ⟨p0,m0,c0,c1,c2,c3⟩:=(H.rs (α:=List Int) 0 rfl).at1 e;clear e
   refine idxE c0 c1 c2 ?_;clear c0 c1 c2
   obtain ⟨a1,e,f3⟩:=bindS f2;clear f2
   obtain ⟨p1,m1,c4,c5,c6,c7⟩:=(H.rs (α:=List Int) 1 rfl).at1 e;clear e
   refine idxE c4 c5 c6 ?_;clear c4 c5 c6
   refine load1X c3 ?_;clear c3
   refine load1X c7 ?_;clear c7
   obtain ⟨a2,e,f4⟩:=bindS f3;clear f3
   refine boolO e ?_;clear e
   cases a2
   ·
    have f5:=condF f4;clear f4
    refine arK hk x0 ?_
    have hs:=Option.some.inj f5;subst hs;clear f5
    exact ⟨(),(),rfl,⟨rfl,rfl,rfl,rfl,trivial⟩,H.sel [0,1] rfl⟩
   ·
    have f6:=condT f4;clear f4
    have hs:=Option.some.inj f6;subst hs;clear f6
    have hr:=hrt _ rfl;subst hr
    have f7:some _ = some _:=f0
    cases f7
    exact ⟨_,_,rfl,⟨rfl,rfl⟩,(H.sel [] rfl).close trivial⟩
  ·
   clear H e
   rintro T1 _ _ w3 hr (H:Cx w0 fp0 S0 w3 [Es (List Int) a_ a_h,Es (List Int) b_ b_h])
   subst hr
   refine boolE (z:=false) geLen ?_
   refine sq ?_
   cases f0
   exact ⟨_,_,rfl,⟨rfl,rfl⟩,(H.sel [] rfl).close trivial⟩
 ·
  have f8:=condT hF4;clear hF4
  cases f8
  exact ⟨_,_,rfl,⟨rfl,rfl⟩,(H.sel [] rfl).close trivial⟩
theorem spec_spHas_c (p_:Int) (basis_:List (List Int)) (basis_h:Hd) (v_:List Int) (v_h:Hd) (y:Bool) (hF:F_spec_spHas p_ basis_ v_ = some y) :
  ConF Tryz.prog 37 #[(.int .i64 p_),(basis_h).v,(v_h).v] [Es (List (List Int)) basis_ basis_h,Es (List Int) v_ v_h] [] (fun v Γ'=>v = (.bool y) ∧ Γ' = []):=by
 intro w0 S0 fp0 hI hS
 have H:Cx w0 fp0 S0 w0 [Es (List (List Int)) basis_ basis_h,Es (List Int) v_ v_h]:=Cx.start hI hS
 clear hI hS
 refine enterC (args:=[_,_,_]) gok Tryz.func37 rfl _ rfl rfl rfl ?_
 refine lenE (H.rs (α:=List Int) 1 rfl).len ?_
 obtain ⟨y3,e,hF4⟩:=bindS hF;clear hF
 have ey3:=e;clear e
 refine callF (spec_spCoords_c basis_ basis_h v_ v_h y3 ey3) (Γi:=[]) H ⟨Vw.sh 0 rfl,Vw.sh 1 rfl,trivial⟩ ?_;clear H ey3
 rintro _ _ w5 ⟨h6,rfl,rfl⟩ H
 obtain ⟨y8,e,hF9⟩:=bindS hF4;clear hF4
 have ey8:=e;clear e
 refine callF (spec_spSum_c p_ ((v_.length:Nat):Int) basis_ basis_h y3 h6 y8 ey8) (Γi:=[]) H ⟨Vw.sh 1 rfl,Vw.own 0 rfl,trivial⟩ ?_;clear H ey8
 rintro _ _ w1 ⟨h0,rfl,rfl⟩ H
 obtain ⟨y0,e,f0⟩:=bindS hF9;clear hF9
 have ey13:=e;clear e
 refine callF (spec_l1Same_c y8 h0 v_ v_h y0 ey13) (Γi:=[]) H ⟨Vw.own 0 rfl,Vw.sh 3 rfl,trivial⟩ ?_;clear H ey13
 rintro _ _ w2 ⟨rfl,rfl⟩ H
 cases f0
 exact ⟨_,_,rfl,⟨rfl,rfl⟩,(H.sel [] rfl).close trivial⟩
theorem spec_MissingPair_c (p_:Int) (a__0:List (Int × Int × ByteArray)) (a__0h:Hd) (b__0:List (Int × Int × ByteArray)) (b__0h:Hd) (y0:List Int) (y1:List Int) (y2:Bool) (hF:F_spec_MissingPair p_ a__0 b__0 = some (y0,y1,y2)) :
  ConF Tryz.prog 15 #[(.int .i64 p_),(.agg #[(a__0h).v]),(.agg #[(b__0h).v])] [Es (List (Int × Int × ByteArray)) a__0 a__0h,Es (List (Int × Int × ByteArray)) b__0 b__0h] [] (fun v Γ'=>∃ z0 z1:Hd,v = (.tuple #[(z0).v,(z1).v,(.bool y2)]) ∧ Γ' = [E (List Int) y0 z0,E (List Int) y1 z1]):=by
 intro w0 S0 fp0 hI hS
 have H:Cx w0 fp0 S0 w0 [Es (List (Int × Int × ByteArray)) a__0 a__0h,Es (List (Int × Int × ByteArray)) b__0 b__0h]:=Cx.start hI hS
 clear hI hS
 refine enterC (args:=[_,_,_]) gok Tryz.func15 rfl _ rfl rfl rfl ?_
 refine box_ H ?_;clear H;intro b4 w3 hx H
 clear hx
 refine box_ H ?_;clear H;intro b7 w6 hx H
 clear hx
 refine loadN [(a__0h).v] rfl (fun j u hj=>H.bx 1 rfl hj) ?_
 refine loadN [(b__0h).v] rfl (fun j u hj=>H.bx 0 rfl hj) ?_
 obtain ⟨y9,e,f0⟩:=bindS hF;clear hF
 obtain ⟨⟨y9_0_0,y9_0_1,y9_0_2⟩,⟨y9_1_0,y9_1_1,y9_1_2⟩,y9_2⟩:=y9
 have ey9:=e;clear e
 refine callS (spec_dnTwo_c p_ a__0 a__0h b__0 b__0h y9_0_0 y9_0_1 y9_0_2 y9_1_0 y9_1_1 y9_1_2 y9_2 ey9) (Γi:=[]) H [2,3] rfl (persC persS (persC persS persN)) ?_;clear H ey9
 rintro _ _ w1 ⟨h0,h1,rfl,rfl⟩ H
 refine alloc_ gok rfl H ?_;clear H;intro b0 w2 hx H
 clear hx
 refine alloc_ gok rfl H ?_;clear H;intro b1 w4 hx H
 clear hx
 replace H:=H.sel [1,0,2,3,4,5,6,7] rfl
 refine stA gok [(.int .i64 y9_0_0),(.int .i64 y9_0_1),(h0).v] rfl H rfl rfl rfl ?_;clear H;intro w5 H
 replace H:=H.sel [1,0,2,3,4,5,6,7] rfl
 refine stA gok [(.int .i64 y9_1_0),(.int .i64 y9_1_1),(h1).v] rfl H rfl rfl rfl ?_;clear H;intro w7 H
 refine sq ?_
 obtain ⟨a0,e,f1⟩:=bindS f0;clear f0
 refine boolO e ?_;clear e
 cases a0
 ·
  have f2:=condF f1;clear f1
  refine sq ?_
  refine fld gok rfl rfl rfl rfl ?_
  refine load1 (H.bx 1 rfl (j:=2) rfl) ?_
  refine lenE (H.rs (α:=List (List Int)) 2 rfl).len ?_
  have x0:=(H.rs (α:=List (List Int)) 2 rfl).max
  obtain ⟨r0,e,f3⟩:=bindS f2;clear f2
  refine loopO _ y9_0_2.length (fun (k0:Nat) (_:Unit) (_:Unit)=>[(0,(.int .i64 p_)),(9,(.pointer (some ⟨b0,0,none⟩))),(10,(.pointer (some ⟨b1,0,none⟩))),(25,(h0).v),(26,(.int .i64 ((y9_0_2.length:Nat):Int))),(27,(.int .i64 ((k0:Nat):Int)))]) (fun _ (_:Unit) (_:Unit) w'=>Cx w0 fp0 S0 w' [Bx b0 [(.int .i64 y9_0_0),(.int .i64 y9_0_1),(h0).v],Es (List (List Int)) y9_0_2 h0,Bx b1 [(.int .i64 y9_1_0),(.int .i64 y9_1_1),(h1).v],Es (List (List Int)) y9_1_2 h1]) () () e ⟨rfl,rfl,rfl,rfl,rfl,rfl,trivial⟩ (H.sel [1,2,0,3] rfl) ?_ ?_
  ·
   clear H e
   rintro T0 k0 _ _ w8 o0 hk (H:Cx w0 fp0 S0 w8 [Bx b0 [(.int .i64 y9_0_0),(.int .i64 y9_0_1),(h0).v],Es (List (List Int)) y9_0_2 h0,Bx b1 [(.int .i64 y9_1_0),(.int .i64 y9_1_1),(h1).v],Es (List (List Int)) y9_1_2 h1]) hrt f4
   refine boolE (z:=true) (ltLen hk) ?_
   refine sq ?_
   refine sq ?_
   obtain ⟨a1,e,f5⟩:=bindS f4;clear f4
   have HH:=H;clear H;obtain ⟨p0,m0,h2,c0,c1,c2,c3,H⟩:=HH.elL 1 rfl e;clear HH
   clear e
   refine idxE c0 c1 c2 ?_;clear c0 c1 c2
   refine load1 c3 ?_;clear c3
   refine fld gok rfl rfl rfl rfl ?_
   refine load1 (H.bx 3 rfl (j:=2) rfl) ?_
   obtain ⟨y3,e,f6⟩:=bindS f5;clear f5
   have ey85:=e;clear e
   refine callF (spec_spHas_c p_ y9_1_2 h1 a1 h2 y3 ey85) (Γi:=[]) H ⟨Vw.sh 4 rfl,Vw.sh 0 rfl,trivial⟩ ?_;clear H ey85
   rintro _ _ w9 ⟨rfl,rfl⟩ H
   obtain ⟨a2,e,f7⟩:=bindS f6;clear f6
   refine boolO e ?_;clear e
   cases a2
   ·
    have f8:=condF f7;clear f7
    refine arK hk x0 ?_
    have hs:=Option.some.inj f8;subst hs;clear f8
    exact ⟨(),(),rfl,⟨rfl,rfl,rfl,rfl,rfl,rfl,trivial⟩,H.sel [1,2,3,4] rfl⟩
   ·
    have f9:=condT f7;clear f7
    refine heldX H [] (.fst 0 (.fst 1 (.fst 5 (.fst 6 (.fst 2 (.fst 3 (.fst 7 (.fst 8 (.act 4 (.act 9 (.fst 10 (.fst 11 (.fst 12 .done))))))))))))) mixed [] trivial (by kernel_rfl) ?_
    clear H;intro w10 H
    have hX:Ext w10 w10:=Upd.refl _ _
    have H0:=H
    refine anyH (fun _=>fld gok rfl rfl rfl rfl ⟨rfl,rfl⟩) ?_
    refine anyH (fun _=>fld gok rfl rfl rfl rfl ⟨rfl,rfl⟩) ?_
    refine load1X (H.bx 1 rfl (j:=0) rfl) ?_
    obtain ⟨a3,e,f10⟩:=bindS f9;clear f9
    refine slSX (α:=Int) gok rfl rfl H 0 rfl e rfl rfl ?_;clear e;intro h3 HH;clear H;have H:=HH;clear HH
    refine load1X (H.bx 2 rfl (j:=0) rfl) ?_
    obtain ⟨a4,e,f11⟩:=bindS f10;clear f10
    refine slSX (α:=Int) (hi:=none) gok rfl rfl H 1 rfl e rfl (congrArg (fun n:Nat=>some (n:Int)) (H.rs (α:=List Int) 1 rfl).len) ?_;clear e;intro h4 HH;clear H;have H:=HH;clear HH
    obtain ⟨y4,e,f12⟩:=bindS f11;clear f11
    have ey101:=e;clear e
    refine callFx (spec_l1Own_c a3 h3 y4 ey101) H ⟨Vw.sh 1 rfl,trivial⟩ ?_;clear H ey101
    rintro _ _ w12 ⟨h5,rfl,rfl⟩ hx H
    replace hX:=hX.trans0 hx;clear hx
    refine hold hX ?_
    obtain ⟨y5,e,f13⟩:=bindS f12;clear f12
    have ey106:=e;clear e
    refine callFx (spec_l1Own_c a4 h4 y5 ey106) H ⟨Vw.sh 1 rfl,trivial⟩ ?_;clear H ey106
    rintro _ _ w13 ⟨h6,rfl,rfl⟩ hx H
    replace hX:=hX.trans0 hx;clear hx
    refine hold hX ?_
    have hs:=Option.some.inj f13;subst hs;clear f13
    have hr:=hrt _ rfl;subst hr
    have f14:some _ = some _:=f3
    cases f14
    exact ⟨_,_,rfl,⟨h5,h6,rfl,rfl⟩,(H.sel [1,0] rfl).close ⟨cloE,cloE,trivial⟩⟩
  ·
   clear H e
   rintro T1 _ _ w14 hr (H:Cx w0 fp0 S0 w14 [Bx b0 [(.int .i64 y9_0_0),(.int .i64 y9_0_1),(h0).v],Es (List (List Int)) y9_0_2 h0,Bx b1 [(.int .i64 y9_1_0),(.int .i64 y9_1_1),(h1).v],Es (List (List Int)) y9_1_2 h1])
   subst hr
   refine boolE (z:=false) geLen ?_
   refine sq ?_
   replace H:=H.nil (α:=Int)
   replace H:=H.nil (α:=Int)
   cases f3
   exact ⟨_,_,rfl,⟨nilH,nilH,rfl,rfl⟩,(H.sel [1,0] rfl).close ⟨cloE,cloE,trivial⟩⟩
 ·
  have f15:=condT f1;clear f1
  replace H:=H.nil (α:=Int)
  replace H:=H.nil (α:=Int)
  cases f15
  exact ⟨_,_,rfl,⟨nilH,nilH,rfl,rfl⟩,(H.sel [1,0] rfl).close ⟨cloE,cloE,trivial⟩⟩
theorem impl_isField_c (p_:Int) (y:Bool) (hF:F_impl_isField p_ = some y) :
  ConF Tryz.prog 83 #[(.int .i64 p_)] [Gl 0 [.int .i64 2,.int .i64 3,.int .i64 5,.int .i64 7]] [] (fun v Γ'=>v = (.bool y) ∧ Γ' = []):=by
 intro w0 S0 fp0 hI hS
 have H:Cx w0 fp0 S0 w0 [Gl 0 [.int .i64 2,.int .i64 3,.int .i64 5,.int .i64 7]]:=Cx.start hI hS
 clear hI hS
 refine enterC (args:=[_]) gok Tryz.func83 rfl _ rfl rfl rfl ?_
 refine sq ?_
 obtain ⟨r0,f0,f1⟩:=bindS hF;clear hF
 refine cut (fun (q0:Bool)=>[(0,(.int .i64 p_)),(10,(.bool q0))]) (fun (q0:Bool) w'=>q0 = r0 ∧ Cx w0 fp0 S0 w' [Gl 0 [.int .i64 2,.int .i64 3,.int .i64 5,.int .i64 7]]) ?_ ?_
 ·
  obtain ⟨a0,e,f2⟩:=bindS f0;clear f0
  refine boolO e ?_;clear e
  cases a0
  ·
   have f3:=condF f2;clear f2
   obtain ⟨a1,e,f4⟩:=bindS f3;clear f3
   refine boolO e ?_;clear e
   exact ⟨a1,⟨rfl,rfl,trivial⟩,Option.some.inj f4,H.sel [0] rfl⟩
  ·
   have f5:=condT f2;clear f2
   exact ⟨true,⟨rfl,rfl,trivial⟩,Option.some.inj f5,H.sel [0] rfl⟩
 ·
  clear f0 H
  rintro T0 s8 w1 ⟨hr,(H:Cx w0 fp0 S0 w1 [Gl 0 [.int .i64 2,.int .i64 3,.int .i64 5,.int .i64 7]])⟩
  subst hr
  cases s8
  ·
   have f6:=condF f1;clear f1
   refine sq ?_
   refine loadN [.int .i64 2,.int .i64 3,.int .i64 5,.int .i64 7] rfl (H.gl 0 rfl) ?_
   obtain ⟨a2,hn,f7⟩:=bindS f6;clear f6
   obtain ⟨r1,e,f8⟩:=bindS f7;clear f7
   refine loopO _ ((4:Int).toNat) (fun (k0:Nat) (_:Unit) (_:Unit)=>[(0,(.int .i64 p_)),(11,(.agg #[.int .i64 2,.int .i64 3,.int .i64 5,.int .i64 7])),(12,(.int .i64 ((k0:Nat):Int)))]) (fun _ (_:Unit) (_:Unit) w'=>Cx w0 fp0 S0 w' [Gl 0 [.int .i64 2,.int .i64 3,.int .i64 5,.int .i64 7]]) () () e ⟨rfl,rfl,rfl,trivial⟩ (H.sel [0] rfl) ?_ ?_
   ·
    clear H e
    rintro T1 k0 _ _ w2 o0 hk (H:Cx w0 fp0 S0 w2 [Gl 0 [.int .i64 2,.int .i64 3,.int .i64 5,.int .i64 7]]) hrt f9
    refine boolE (z:=true) (ltNat hk) ?_
    refine sq ?_
    refine sq ?_
    obtain ⟨a3,e,f10⟩:=bindS f9;clear f9
    refine indexI gok rfl rfl rfl rfl rfl e ?_;clear e
    obtain ⟨r2,f11,f12⟩:=bindS f10;clear f10
    refine cut (fun (q1:Bool)=>[(0,(.int .i64 p_)),(11,(.agg #[.int .i64 2,.int .i64 3,.int .i64 5,.int .i64 7])),(12,(.int .i64 ((k0:Nat):Int))),(23,(.bool q1))]) (fun (q1:Bool) w'=>q1 = r2 ∧ Cx w0 fp0 S0 w' [Gl 0 [.int .i64 2,.int .i64 3,.int .i64 5,.int .i64 7]]) ?_ ?_
    ·
     obtain ⟨a4,e,f13⟩:=bindS f11;clear f11
     refine remO_ e ?_;clear e
     obtain ⟨a5,e,f14⟩:=bindS f13;clear f13
     refine boolO e ?_;clear e
     cases a5
     ·
      have f15:=condF f14;clear f14
      exact ⟨false,⟨rfl,rfl,rfl,rfl,trivial⟩,Option.some.inj f15,H.sel [0] rfl⟩
     ·
      have f16:=condT f14;clear f14
      obtain ⟨a6,e,f17⟩:=bindS f16;clear f16
      refine boolO e ?_;clear e
      exact ⟨a6,⟨rfl,rfl,rfl,rfl,trivial⟩,Option.some.inj f17,H.sel [0] rfl⟩
    ·
     clear f11 H
     rintro T2 s0 w3 ⟨hr,(H:Cx w0 fp0 S0 w3 [Gl 0 [.int .i64 2,.int .i64 3,.int .i64 5,.int .i64 7]])⟩
     subst hr
     cases s0
     ·
      have f18:=condF f12;clear f12
      refine arK hk (maxI hn) ?_
      have hs:=Option.some.inj f18;subst hs;clear f18
      exact ⟨(),(),rfl,⟨rfl,rfl,rfl,trivial⟩,H.sel [0] rfl⟩
     ·
      have f19:=condT f12;clear f12
      have hs:=Option.some.inj f19;subst hs;clear f19
      have hr:=hrt _ rfl;subst hr
      have f20:some _ = some _:=f8
      cases f20
      exact ⟨_,_,rfl,⟨rfl,rfl⟩,(H.sel [] rfl).close trivial⟩
   ·
    clear H e
    rintro T3 _ _ w4 hr (H:Cx w0 fp0 S0 w4 [Gl 0 [.int .i64 2,.int .i64 3,.int .i64 5,.int .i64 7]])
    subst hr
    refine boolE (z:=false) geNat ?_
    refine sq ?_
    cases f8
    exact ⟨_,_,rfl,⟨rfl,rfl⟩,(H.sel [] rfl).close trivial⟩
  ·
   have f21:=condT f1;clear f1
   cases f21
   exact ⟨_,_,rfl,⟨rfl,rfl⟩,(H.sel [] rfl).close trivial⟩
theorem impl_within_c (n_:Int) (low_:Int) (high_:Int) (y:Bool) (hF:F_impl_within n_ low_ high_ = some y) :
  ConF Tryz.prog 120 #[(.int .i64 n_),(.int .i64 low_),(.int .i64 high_)] [] [] (fun v Γ'=>v = (.bool y) ∧ Γ' = []):=by
 intro w0 S0 fp0 hI hS
 have H:Cx w0 fp0 S0 w0 []:=Cx.start hI hS
 clear hI hS
 refine enterC (args:=[_,_,_]) gok Tryz.func120 rfl _ rfl rfl rfl ?_
 obtain ⟨r9,f0,f1⟩:=bindS hF;clear hF
 refine cut (fun (q0:Bool)=>[(6,(.bool q0))]) (fun (q0:Bool) w'=>q0 = r9 ∧ Cx w0 fp0 S0 w' []) ?_ ?_
 ·
  obtain ⟨a0,e,f2⟩:=bindS f0;clear f0
  refine boolO e ?_;clear e
  cases a0
  ·
   have f3:=condF f2;clear f2
   exact ⟨false,⟨rfl,trivial⟩,Option.some.inj f3,H.sel [] rfl⟩
  ·
   have f4:=condT f2;clear f2
   obtain ⟨a1,e,f5⟩:=bindS f4;clear f4
   refine boolO e ?_;clear e
   exact ⟨a1,⟨rfl,trivial⟩,Option.some.inj f5,H.sel [] rfl⟩
 ·
  clear f0 H
  rintro T0 s7 w1 ⟨hr,(H:Cx w0 fp0 S0 w1 [])⟩
  subst hr
  cases f1
  exact ⟨_,_,rfl,⟨rfl,rfl⟩,(H.sel [] rfl).close trivial⟩
theorem impl_wires_fit_c (w__0:Int) (w__1:Int) (y:Bool) (hF:F_impl_wires_fit (w__0,w__1) = some y) :
  ConF Tryz.prog 171 #[(.agg #[(.int .i64 w__0),(.int .i64 w__1)])] [] [] (fun v Γ'=>v = (.bool y) ∧ Γ' = []):=by
 intro w0 S0 fp0 hI hS
 have H:Cx w0 fp0 S0 w0 []:=Cx.start hI hS
 clear hI hS
 refine enterC (args:=[_]) gok Tryz.func171 rfl _ rfl rfl rfl ?_
 refine box_ H ?_;clear H;intro b2 w1 hx H
 clear hx
 obtain ⟨r0,f0,f1⟩:=bindS hF;clear hF
 refine cut (fun (q0:Bool)=>[(2,(.bool q0))]) (fun (q0:Bool) w'=>q0 = r0 ∧ Cx w0 fp0 S0 w' []) ?_ ?_
 ·
  refine fld gok rfl rfl rfl rfl ?_
  refine load1 (H.bx 0 rfl (j:=0) rfl) ?_
  obtain ⟨a0,e,f2⟩:=bindS f0;clear f0
  refine boolO e ?_;clear e
  cases a0
  ·
   have f3:=condF f2;clear f2
   exact ⟨false,⟨rfl,trivial⟩,Option.some.inj f3,H.sel [] rfl⟩
  ·
   have f4:=condT f2;clear f2
   refine fld gok rfl rfl rfl rfl ?_
   refine load1 (H.bx 0 rfl (j:=1) rfl) ?_
   obtain ⟨a1,e,f5⟩:=bindS f4;clear f4
   refine boolO e ?_;clear e
   exact ⟨a1,⟨rfl,trivial⟩,Option.some.inj f5,H.sel [] rfl⟩
 ·
  clear f0 H
  rintro T0 s0 w2 ⟨hr,(H:Cx w0 fp0 S0 w2 [])⟩
  subst hr
  cases f1
  exact ⟨_,_,rfl,⟨rfl,rfl⟩,(H.sel [] rfl).close trivial⟩
theorem impl_joinWires_c (kind_:Int) (a__0:Int) (a__1:Int) (b__0:Int) (b__1:Int) (y0_0:Int) (y0_1:Int) (y1:Bool) (hF:F_impl_joinWires kind_ (a__0,a__1) (b__0,b__1) = some ((y0_0,y0_1),y1)) :
  ConF Tryz.prog 152 #[(.int .i64 kind_),(.agg #[(.int .i64 a__0),(.int .i64 a__1)]),(.agg #[(.int .i64 b__0),(.int .i64 b__1)])] [] [] (fun v Γ'=>v = (.tuple #[(.agg #[(.int .i64 y0_0),(.int .i64 y0_1)]),(.bool y1)]) ∧ Γ' = []):=by
 intro w0 S0 fp0 hI hS
 have H:Cx w0 fp0 S0 w0 []:=Cx.start hI hS
 clear hI hS
 refine enterC (args:=[_,_,_]) gok Tryz.func152 rfl _ rfl rfl rfl ?_
 refine box_ H ?_;clear H;intro b2 w1 hx H
 clear hx
 refine box_ H ?_;clear H;intro b5 w4 hx H
 clear hx
 refine alloc_ gok rfl H ?_;clear H;intro b8 w7 hx H
 clear hx
 refine sq ?_
 obtain ⟨a0,e,f0⟩:=bindS hF;clear hF
 refine boolO e ?_;clear e
 cases a0
 ·
  have f1:=condF f0;clear f0
  refine fld gok rfl rfl rfl rfl ?_
  refine load1 (H.bx 2 rfl (j:=0) rfl) ?_
  refine fld gok rfl rfl rfl rfl ?_
  refine load1 (H.bx 1 rfl (j:=0) rfl) ?_
  obtain ⟨a1,e,f2⟩:=bindS f1;clear f1
  refine arO e ?_;clear e
  refine fld gok rfl rfl rfl rfl ?_
  refine load1 (H.bx 2 rfl (j:=1) rfl) ?_
  refine fld gok rfl rfl rfl rfl ?_
  refine load1 (H.bx 1 rfl (j:=1) rfl) ?_
  obtain ⟨a2,e,f3⟩:=bindS f2;clear f2
  refine arO e ?_;clear e
  refine build_ (cs:=#[(.int .i64 a1),(.int .i64 a2)]) gok rfl rfl rfl ?_
  refine alloc_ gok rfl H ?_;clear H;intro b0 w2 hx H
  clear hx
  refine stA gok [(.int .i64 a1),(.int .i64 a2)] rfl H rfl rfl rfl ?_;clear H;intro w3 H
  refine heldX H [3,4] (.fst 0 (.fst 1 (.act 2 (.act 3 (.act 4 .done))))) mixed [] trivial (by kernel_rfl) ?_
  clear H;intro w5 H
  have hX:Ext w5 w5:=Upd.refl _ _
  have H0:=H
  refine loadNX [(.int .i64 a1),(.int .i64 a2)] rfl (fun j u hj=>H.bx 0 rfl hj) ?_
  refine loadNX [(.int .i64 a1),(.int .i64 a2)] rfl (fun j u hj=>H.bx 0 rfl hj) ?_
  obtain ⟨y0,e,f4⟩:=bindS f3;clear f3
  have ey22:=e;clear e
  refine callFx (impl_wires_fit_c a1 a2 y0 ey22) H trivial ?_;clear H ey22
  rintro _ _ w6 ⟨rfl,rfl⟩ hx H
  replace hX:=hX.trans0 hx;clear hx
  refine hold hX ?_
  replace H:=H.sel [1,0,2,3] rfl
  refine stA gok [(.int .i64 a1),(.int .i64 a2)] rfl H rfl rfl rfl ?_;clear H;intro w8 H
  refine hold trivial ?_
  refine hold trivial ?_
  refine loadN [(.int .i64 a1),(.int .i64 a2)] rfl (fun j u hj=>H.bx 0 rfl hj) ?_
  cases f4
  exact ⟨_,_,rfl,⟨rfl,rfl⟩,(H.sel [] rfl).close trivial⟩
 ·
  have f5:=condT f0;clear f0
  refine heldX H [10,11,0,1,2,3,4,5,6,7,8,9] (.pure 0 (.pure 1 (.pure 2 (.pure 3 (.pure 4 (.pure 5 (.pure 6 (.pure 7 (.pure 8 (.pure 9 (.act 10 (.act 11 .done)))))))))))) mixed [((Addr.add ⟨b2,0,none⟩ 0),(.int .i64 a__0)),((Addr.add ⟨b5,0,none⟩ 1),(.int .i64 b__1)),((Addr.add ⟨b2,0,none⟩ 1),(.int .i64 a__1)),((Addr.add ⟨b5,0,none⟩ 0),(.int .i64 b__0))] ⟨H.bx 2 rfl (j:=0) rfl,H.bx 1 rfl (j:=1) rfl,H.bx 2 rfl (j:=1) rfl,H.bx 1 rfl (j:=0) rfl,trivial⟩ (by kernel_rfl) ?_
  clear H;intro w9 H
  have hX:Ext w9 w9:=Upd.refl _ _
  have H0:=H
  refine anyH (fun _=>fld gok rfl rfl rfl rfl ⟨rfl,rfl⟩) ?_
  refine load1W 0 rfl ?_
  refine anyH (fun _=>fld gok rfl rfl rfl rfl ⟨rfl,rfl⟩) ?_
  refine load1W 1 rfl ?_
  refine anyH (fun _=>build_ (cs:=#[(.int .i64 a__0),(.int .i64 b__1)]) gok rfl rfl rfl ⟨rfl,rfl⟩) ?_
  refine anyH (fun _=>fld gok rfl rfl rfl rfl ⟨rfl,rfl⟩) ?_
  refine load1W 2 rfl ?_
  refine anyH (fun _=>fld gok rfl rfl rfl rfl ⟨rfl,rfl⟩) ?_
  refine load1W 3 rfl ?_
  obtain ⟨a3,e,f6⟩:=bindS f5;clear f5
  refine boolO e ?_;clear e
  refine stA gok [(.int .i64 a__0),(.int .i64 b__1)] rfl H rfl rfl rfl ?_;clear H;intro w10 H
  refine hold ⟨H.bx 2 rfl (j:=0) rfl,H.bx 1 rfl (j:=1) rfl,H.bx 2 rfl (j:=1) rfl,H.bx 1 rfl (j:=0) rfl,trivial⟩ ?_
  refine hold ⟨H.bx 2 rfl (j:=0) rfl,H.bx 1 rfl (j:=1) rfl,H.bx 2 rfl (j:=1) rfl,H.bx 1 rfl (j:=0) rfl,trivial⟩ ?_
  refine loadN [(.int .i64 a__0),(.int .i64 b__1)] rfl (fun j u hj=>H.bx 0 rfl hj) ?_
  cases f6
  exact ⟨_,_,rfl,⟨rfl,rfl⟩,(H.sel [] rfl).close trivial⟩
theorem impl_isGenerator_c (kind_:Int) (y:Bool) (hF:F_impl_isGenerator kind_ = some y) :
  ConF Tryz.prog 153 #[(.int .i64 kind_)] [] [] (fun v Γ'=>v = (.bool y) ∧ Γ' = []):=by
 intro w0 S0 fp0 hI hS
 have H:Cx w0 fp0 S0 w0 []:=Cx.start hI hS
 clear hI hS
 refine enterC (args:=[_]) gok Tryz.func153 rfl _ rfl rfl rfl ?_
 obtain ⟨y1,e,hF2⟩:=bindS hF;clear hF
 have ey1:=e;clear e
 refine callF (impl_within_c kind_ 3 14 y1 ey1) (Γi:=[]) H trivial ?_;clear H ey1
 rintro _ _ w3 ⟨rfl,rfl⟩ H
 cases hF2
 exact ⟨_,_,rfl,⟨rfl,rfl⟩,(H.sel [] rfl).close trivial⟩
theorem impl_generatorWires_c (kind_:Int) (y_0:Int) (y_1:Int) (hF:F_impl_generatorWires kind_ = some (y_0,y_1)) :
  ConF Tryz.prog 96 #[(.int .i64 kind_)] [] [] (fun v Γ'=>v = (.agg #[(.int .i64 y_0),(.int .i64 y_1)]) ∧ Γ' = []):=by
 intro w0 S0 fp0 hI hS
 have H:Cx w0 fp0 S0 w0 []:=Cx.start hI hS
 clear hI hS
 refine enterC (args:=[_]) gok Tryz.func96 rfl _ rfl rfl rfl ?_
 refine alloc_ gok rfl H ?_;clear H;intro b2 w1 hx H
 clear hx
 refine build_ (cs:=#[(.int .i64 1),(.int .i64 2)]) gok rfl rfl rfl ?_
 refine build_ (cs:=#[(.int .i64 1),(.int .i64 0)]) gok rfl rfl rfl ?_
 refine build_ (cs:=#[(.int .i64 2),(.int .i64 1)]) gok rfl rfl rfl ?_
 refine build_ (cs:=#[(.int .i64 0),(.int .i64 1)]) gok rfl rfl rfl ?_
 refine build_ (cs:=#[(.int .i64 1),(.int .i64 1)]) gok rfl rfl rfl ?_
 refine build_ (cs:=#[(.int .i64 1),(.int .i64 1)]) gok rfl rfl rfl ?_
 refine buildAr (cs:=#[(.int .i64 1),(.int .i64 2),(.int .i64 1),(.int .i64 0),(.int .i64 2),(.int .i64 1),(.int .i64 0),(.int .i64 1),(.int .i64 1),(.int .i64 1),(.int .i64 1),(.int .i64 1)]) gok rfl rfl rfl ?_
 refine alloc_ gok rfl H ?_;clear H;intro b5 w4 hx H
 clear hx
 refine stA gok [(.int .i64 1),(.int .i64 2),(.int .i64 1),(.int .i64 0),(.int .i64 2),(.int .i64 1),(.int .i64 0),(.int .i64 1),(.int .i64 1),(.int .i64 1),(.int .i64 1),(.int .i64 1)] rfl H rfl rfl rfl ?_;clear H;intro w7 H
 refine sq ?_
 obtain ⟨a8,e,hF9⟩:=bindS hF;clear hF
 refine boolO e ?_;clear e
 cases a8
 ·
  have f0:=condF hF9;clear hF9
  obtain ⟨a0,e,f1⟩:=bindS f0;clear f0
  refine arO e ?_;clear e
  obtain ⟨a1,e,f2⟩:=bindS f1;clear f1
  obtain ⟨p0,c0,c1,c2⟩:=H.bxV (s:=2) 0 rfl [(1,2),(1,0),(2,1),(0,1),(1,1),(1,1)] (fun x=>[.int .i64 x.1,.int .i64 x.2]) rfl (fun _=>rfl) e;clear e
  obtain ⟨a1_0,a1_1⟩:=a1
  refine idxAr gok rfl rfl c0 c1 ?_;clear c0 c1
  refine loadN [(.int .i64 a1_0),(.int .i64 a1_1)] rfl c2 ?_;clear c2
  refine alloc_ gok rfl H ?_;clear H;intro b0 w2 hx H
  clear hx
  refine stA gok [(.int .i64 a1_0),(.int .i64 a1_1)] rfl H rfl rfl rfl ?_;clear H;intro w3 H
  refine fld gok rfl rfl rfl rfl ?_
  refine load1 (H.bx 0 rfl (j:=1) rfl) ?_
  refine fld gok rfl rfl rfl rfl ?_
  refine load1 (H.bx 0 rfl (j:=0) rfl) ?_
  refine build_ (cs:=#[(.int .i64 a1_1),(.int .i64 a1_0)]) gok rfl rfl rfl ?_
  replace H:=H.sel [2,0,1] rfl
  refine stA gok [(.int .i64 a1_1),(.int .i64 a1_0)] rfl H rfl rfl rfl ?_;clear H;intro w5 H
  refine loadN [(.int .i64 a1_1),(.int .i64 a1_0)] rfl (fun j u hj=>H.bx 0 rfl hj) ?_
  cases f2
  exact ⟨_,_,rfl,⟨rfl,rfl⟩,(H.sel [] rfl).close trivial⟩
 ·
  have f3:=condT hF9;clear hF9
  obtain ⟨a2,e,f4⟩:=bindS f3;clear f3
  refine arO e ?_;clear e
  obtain ⟨a3,e,f5⟩:=bindS f4;clear f4
  obtain ⟨p1,c3,c4,c5⟩:=H.bxV (s:=2) 0 rfl [(1,2),(1,0),(2,1),(0,1),(1,1),(1,1)] (fun x=>[.int .i64 x.1,.int .i64 x.2]) rfl (fun _=>rfl) e;clear e
  obtain ⟨a3_0,a3_1⟩:=a3
  refine idxAr gok rfl rfl c3 c4 ?_;clear c3 c4
  refine loadN [(.int .i64 a3_0),(.int .i64 a3_1)] rfl c5 ?_;clear c5
  replace H:=H.sel [1,0] rfl
  refine stA gok [(.int .i64 a3_0),(.int .i64 a3_1)] rfl H rfl rfl rfl ?_;clear H;intro w6 H
  refine loadN [(.int .i64 a3_0),(.int .i64 a3_1)] rfl (fun j u hj=>H.bx 0 rfl hj) ?_
  cases f5
  exact ⟨_,_,rfl,⟨rfl,rfl⟩,(H.sel [] rfl).close trivial⟩
theorem impl_hasValue_c (kind_:Int) (y:Bool) (hF:F_impl_hasValue kind_ = some y) :
  ConF Tryz.prog 85 #[(.int .i64 kind_)] [] [] (fun v Γ'=>v = (.bool y) ∧ Γ' = []):=by
 intro w0 S0 fp0 hI hS
 have H:Cx w0 fp0 S0 w0 []:=Cx.start hI hS
 clear hI hS
 refine enterC (args:=[_]) gok Tryz.func85 rfl _ rfl rfl rfl ?_
 obtain ⟨r9,f0,f1⟩:=bindS hF;clear hF
 refine cut (fun (q0:Bool)=>[(2,(.bool q0))]) (fun (q0:Bool) w'=>q0 = r9 ∧ Cx w0 fp0 S0 w' []) ?_ ?_
 ·
  obtain ⟨a0,e,f2⟩:=bindS f0;clear f0
  refine boolO e ?_;clear e
  cases a0
  ·
   have f3:=condF f2;clear f2
   obtain ⟨a1,e,f4⟩:=bindS f3;clear f3
   refine boolO e ?_;clear e
   exact ⟨a1,⟨rfl,trivial⟩,Option.some.inj f4,H.sel [] rfl⟩
  ·
   have f5:=condT f2;clear f2
   exact ⟨true,⟨rfl,trivial⟩,Option.some.inj f5,H.sel [] rfl⟩
 ·
  clear f0 H
  rintro T0 s7 w1 ⟨hr,(H:Cx w0 fp0 S0 w1 [])⟩
  subst hr
  cases f1
  exact ⟨_,_,rfl,⟨rfl,rfl⟩,(H.sel [] rfl).close trivial⟩
theorem impl_isGeneratorValue_c (kind_:Int) (value_:Int) (y:Bool) (hF:F_impl_isGeneratorValue kind_ value_ = some y) :
  ConF Tryz.prog 154 #[(.int .i64 kind_),(.int .i64 value_)] [] [] (fun v Γ'=>v = (.bool y) ∧ Γ' = []):=by
 intro w0 S0 fp0 hI hS
 have H:Cx w0 fp0 S0 w0 []:=Cx.start hI hS
 clear hI hS
 refine enterC (args:=[_,_]) gok Tryz.func154 rfl _ rfl rfl rfl ?_
 refine sq ?_
 obtain ⟨y1,e,hF2⟩:=bindS hF;clear hF
 have ey1:=e;clear e
 refine callF (impl_hasValue_c kind_ y1 ey1) (Γi:=[]) H trivial ?_;clear H ey1
 rintro _ _ w3 ⟨rfl,rfl⟩ H
 cases y1
 ·
  have hF4:=condF hF2;clear hF2
  obtain ⟨a5,e,hF6⟩:=bindS hF4;clear hF4
  refine boolO e ?_;clear e
  cases hF6
  exact ⟨_,_,rfl,⟨rfl,rfl⟩,(H.sel [] rfl).close trivial⟩
 ·
  have hF7:=condT hF2;clear hF2
  obtain ⟨y8,e,hF9⟩:=bindS hF7;clear hF7
  have ey8:=e;clear e
  refine callF (impl_within_c value_ 0 96 y8 ey8) (Γi:=[]) H trivial ?_;clear H ey8
  rintro _ _ w1 ⟨rfl,rfl⟩ H
  cases hF9
  exact ⟨_,_,rfl,⟨rfl,rfl⟩,(H.sel [] rfl).close trivial⟩
theorem impl_leafWires_c (n__0:Int) (n__1:Int) (n__2:ByteArray) (y0_0:Int) (y0_1:Int) (y1:Bool) (hF:F_impl_leafWires (n__0,n__1,n__2) = some ((y0_0,y0_1),y1)) :
  ConF Tryz.prog 126 #[(.agg #[(.int .i64 n__0),(.int .i64 n__1),(.string n__2)])] [] [] (fun v Γ'=>v = (.tuple #[(.agg #[(.int .i64 y0_0),(.int .i64 y0_1)]),(.bool y1)]) ∧ Γ' = []):=by
 intro w0 S0 fp0 hI hS
 have H:Cx w0 fp0 S0 w0 []:=Cx.start hI hS
 clear hI hS
 refine enterC (args:=[_]) gok Tryz.func126 rfl _ rfl rfl rfl ?_
 refine box_ H ?_;clear H;intro b2 w1 hx H
 clear hx
 refine alloc_ gok rfl H ?_;clear H;intro b5 w4 hx H
 clear hx
 refine sq ?_
 refine fld gok rfl rfl rfl rfl ?_
 refine load1 (H.bx 1 rfl (j:=2) rfl) ?_
 obtain ⟨a7,e,hF8⟩:=bindS hF;clear hF
 refine neqZ e ?_;clear e
 cases a7
 ·
  have hF9:=condF hF8;clear hF8
  refine fld gok rfl rfl rfl rfl ?_
  refine load1 (H.bx 1 rfl (j:=0) rfl) ?_
  obtain ⟨a0,e,f0⟩:=bindS hF9;clear hF9
  refine boolO e ?_;clear e
  cases a0
  ·
   have f1:=condF f0;clear f0
   refine fld gok rfl rfl rfl rfl ?_
   refine load1 (H.bx 1 rfl (j:=0) rfl) ?_
   obtain ⟨a1,e,f2⟩:=bindS f1;clear f1
   refine boolO e ?_;clear e
   cases a1
   ·
    have f3:=condF f2;clear f2
    refine fld gok rfl rfl rfl rfl ?_
    refine load1 (H.bx 1 rfl (j:=0) rfl) ?_
    obtain ⟨y0,e,f4⟩:=bindS f3;clear f3
    have ey16:=e;clear e
    refine callF (impl_isGenerator_c n__0 y0 ey16) (Γi:=[]) H trivial ?_;clear H ey16
    rintro _ _ w2 ⟨rfl,rfl⟩ H
    cases y0
    ·
     have f5:=condF f4;clear f4
     refine build_ (cs:=#[(.int .i64 0),(.int .i64 0)]) gok rfl rfl rfl ?_
     refine stA gok [(.int .i64 0),(.int .i64 0)] rfl H rfl rfl rfl ?_;clear H;intro w3 H
     refine loadN [(.int .i64 0),(.int .i64 0)] rfl (fun j u hj=>H.bx 0 rfl hj) ?_
     cases f5
     exact ⟨_,_,rfl,⟨rfl,rfl⟩,(H.sel [] rfl).close trivial⟩
    ·
     have f6:=condT f4;clear f4
     refine heldX H [8,9] (.fst 0 (.fst 3 (.fst 5 (.fst 1 (.fst 4 (.fst 6 (.act 2 (.act 7 (.act 8 (.act 9 .done)))))))))) mixed [] trivial (by kernel_rfl) ?_
     clear H;intro w5 H
     have hX:Ext w5 w5:=Upd.refl _ _
     have H0:=H
     refine anyH (fun _=>fld gok rfl rfl rfl rfl ⟨rfl,rfl⟩) ?_
     refine anyH (fun _=>fld gok rfl rfl rfl rfl ⟨rfl,rfl⟩) ?_
     refine anyH (fun _=>fld gok rfl rfl rfl rfl ⟨rfl,rfl⟩) ?_
     refine load1X (H.bx 1 rfl (j:=0) rfl) ?_
     refine load1X (H.bx 1 rfl (j:=0) rfl) ?_
     refine load1X (H.bx 1 rfl (j:=1) rfl) ?_
     obtain ⟨y2,e,f7⟩:=bindS f6;clear f6
     obtain ⟨y2_0,y2_1⟩:=y2
     have ey23:=e;clear e
     refine callFx (impl_generatorWires_c n__0 y2_0 y2_1 ey23) H trivial ?_;clear H ey23
     rintro _ _ w6 ⟨rfl,rfl⟩ hx H
     replace hX:=hX.trans0 hx;clear hx
     refine hold hX ?_
     obtain ⟨y3,e,f8⟩:=bindS f7;clear f7
     have ey26:=e;clear e
     refine callFx (impl_isGeneratorValue_c n__0 n__1 y3 ey26) H trivial ?_;clear H ey26
     rintro _ _ w7 ⟨rfl,rfl⟩ hx H
     replace hX:=hX.trans0 hx;clear hx
     refine hold hX ?_
     refine stA gok [(.int .i64 y2_0),(.int .i64 y2_1)] rfl H rfl rfl rfl ?_;clear H;intro w8 H
     refine hold trivial ?_
     refine hold trivial ?_
     refine loadN [(.int .i64 y2_0),(.int .i64 y2_1)] rfl (fun j u hj=>H.bx 0 rfl hj) ?_
     cases f8
     exact ⟨_,_,rfl,⟨rfl,rfl⟩,(H.sel [] rfl).close trivial⟩
   ·
    have f9:=condT f2;clear f2
    refine heldX H [4,5,0,1,2,3] (.pure 0 (.pure 1 (.pure 2 (.pure 3 (.act 4 (.act 5 .done)))))) mixed [((Addr.add ⟨b2,0,none⟩ 1),(.int .i64 n__1))] ⟨H.bx 1 rfl (j:=1) rfl,trivial⟩ (by kernel_rfl) ?_
    clear H;intro w9 H
    have hX:Ext w9 w9:=Upd.refl _ _
    have H0:=H
    refine anyH (fun _=>build_ (cs:=#[(.int .i64 2),(.int .i64 2)]) gok rfl rfl rfl ⟨rfl,rfl⟩) ?_
    refine anyH (fun _=>fld gok rfl rfl rfl rfl ⟨rfl,rfl⟩) ?_
    refine load1W 0 rfl ?_
    obtain ⟨a2,e,f10⟩:=bindS f9;clear f9
    refine boolO e ?_;clear e
    refine stA gok [(.int .i64 2),(.int .i64 2)] rfl H rfl rfl rfl ?_;clear H;intro w10 H
    refine hold ⟨H.bx 1 rfl (j:=1) rfl,trivial⟩ ?_
    refine hold ⟨H.bx 1 rfl (j:=1) rfl,trivial⟩ ?_
    refine loadN [(.int .i64 2),(.int .i64 2)] rfl (fun j u hj=>H.bx 0 rfl hj) ?_
    cases f10
    exact ⟨_,_,rfl,⟨rfl,rfl⟩,(H.sel [] rfl).close trivial⟩
  ·
   have f11:=condT f0;clear f0
   refine heldX H [8,9] (.fst 0 (.fst 2 (.fst 5 (.fst 1 (.fst 3 (.fst 4 (.fst 6 (.act 7 (.act 8 (.act 9 .done)))))))))) mixed [] trivial (by kernel_rfl) ?_
   clear H;intro w11 H
   have hX:Ext w11 w11:=Upd.refl _ _
   have H0:=H
   refine anyH (fun _=>fld gok rfl rfl rfl rfl ⟨rfl,rfl⟩) ?_
   refine anyH (fun _=>fld gok rfl rfl rfl rfl ⟨rfl,rfl⟩) ?_
   refine anyH (fun _=>fld gok rfl rfl rfl rfl ⟨rfl,rfl⟩) ?_
   refine load1X (H.bx 1 rfl (j:=1) rfl) ?_
   refine load1X (H.bx 1 rfl (j:=1) rfl) ?_
   refine anyH (fun _=>build_ (cs:=#[(.int .i64 n__1),(.int .i64 n__1)]) gok rfl rfl rfl ⟨rfl,rfl⟩) ?_
   refine load1X (H.bx 1 rfl (j:=1) rfl) ?_
   obtain ⟨y4,e,f12⟩:=bindS f11;clear f11
   have ey37:=e;clear e
   refine callFx (impl_within_c n__1 0 12 y4 ey37) H trivial ?_;clear H ey37
   rintro _ _ w12 ⟨rfl,rfl⟩ hx H
   replace hX:=hX.trans0 hx;clear hx
   refine hold hX ?_
   refine stA gok [(.int .i64 n__1),(.int .i64 n__1)] rfl H rfl rfl rfl ?_;clear H;intro w13 H
   refine hold trivial ?_
   refine hold trivial ?_
   refine loadN [(.int .i64 n__1),(.int .i64 n__1)] rfl (fun j u hj=>H.bx 0 rfl hj) ?_
   cases f12
   exact ⟨_,_,rfl,⟨rfl,rfl⟩,(H.sel [] rfl).close trivial⟩
 ·
  have f13:=condT hF8;clear hF8
  refine build_ (cs:=#[(.int .i64 0),(.int .i64 0)]) gok rfl rfl rfl ?_
  refine stA gok [(.int .i64 0),(.int .i64 0)] rfl H rfl rfl rfl ?_;clear H;intro w14 H
  refine loadN [(.int .i64 0),(.int .i64 0)] rfl (fun j u hj=>H.bx 0 rfl hj) ?_
  cases f13
  exact ⟨_,_,rfl,⟨rfl,rfl⟩,(H.sel [] rfl).close trivial⟩
theorem impl_typed_impl_leafWires_c (nodes_:List (Int × Int × ByteArray)) (nodes_h:Hd) (y0_0:Int) (y0_1:Int) (y1:Bool) (hF:F_impl_typed_impl_leafWires nodes_ = some ((y0_0,y0_1),y1)) :
  ConF Tryz.prog 125 #[(nodes_h).v,(.func (.func 126) #[] #[])] [Es (List (Int × Int × ByteArray)) nodes_ nodes_h] [] (fun v Γ'=>v = (.tuple #[(.agg #[(.int .i64 y0_0),(.int .i64 y0_1)]),(.bool y1)]) ∧ Γ' = []):=by
 intro w0 S0 fp0 hI hS
 have H:Cx w0 fp0 S0 w0 [Es (List (Int × Int × ByteArray)) nodes_ nodes_h]:=Cx.start hI hS
 clear hI hS
 refine enterC (args:=[_,_]) gok Tryz.func125 rfl _ rfl rfl rfl ?_
 refine alloc_ gok rfl H ?_;clear H;intro b3 w2 hx H
 clear hx
 refine sq ?_
 refine lenE (H.rs (α:=List (Int × Int × ByteArray)) 1 rfl).len ?_
 obtain ⟨y5,e,hF6⟩:=bindS hF;clear hF
 have ey5:=e;clear e
 refine callF (impl_within_c ((nodes_.length:Nat):Int) 1 400 y5 ey5) (Γi:=[]) H trivial ?_;clear H ey5
 rintro _ _ w7 ⟨rfl,rfl⟩ H
 obtain ⟨a8,e,hF9⟩:=bindS hF6;clear hF6
 refine boolO e ?_;clear e
 cases a8
 ·
  have f0:=condF hF9;clear hF9
  refine lit0 (α:=Int × Int) gok rfl rfl H ?_;clear H;intro h0 w1 hx H
  clear hx
  refine sq ?_
  refine lenE (H.rs (α:=List (Int × Int × ByteArray)) 2 rfl).len ?_
  have x0:=(H.rs (α:=List (Int × Int × ByteArray)) 2 rfl).max
  obtain ⟨r0,e,f1⟩:=bindS f0;clear f0
  refine loopO _ nodes_.length (fun (k0:Nat) (s0:List (Int × Int)) (g0:Hd)=>[(1,(.func (.func 126) #[] #[])),(4,(.pointer (some ⟨b3,0,none⟩))),(6,(g0).v),(20,(nodes_h).v),(21,(.int .i64 ((nodes_.length:Nat):Int))),(22,(.int .i64 ((k0:Nat):Int)))]) (fun _ (s0:List (Int × Int)) (g0:Hd) w'=>Cx w0 fp0 S0 w' [Bx b3 [(.int .i64 0),(.int .i64 0)],E (List (Int × Int)) s0 g0,Es (List (Int × Int × ByteArray)) nodes_ nodes_h]) ([]:List (Int × Int)) h0 e ⟨rfl,rfl,rfl,rfl,rfl,rfl,trivial⟩ (H.sel [1,0,2] rfl) ?_ ?_
  ·
   clear H e
   rintro T0 k0 s0 g0 w3 o0 hk (H:Cx w0 fp0 S0 w3 [Bx b3 [(.int .i64 0),(.int .i64 0)],E (List (Int × Int)) s0 g0,Es (List (Int × Int × ByteArray)) nodes_ nodes_h]) hrt f2
   refine boolE (z:=true) (ltLen hk) ?_
   refine sq ?_
   obtain ⟨r1,f3,f4⟩:=bindS f2;clear f2
   refine cut (fun (q0:(List (Int × Int)) × Hd)=>[(1,(.func (.func 126) #[] #[])),(4,(.pointer (some ⟨b3,0,none⟩))),(6,(q0.2).v),(20,(nodes_h).v),(21,(.int .i64 ((nodes_.length:Nat):Int))),(22,(.int .i64 ((k0:Nat):Int)))]) (fun (q0:(List (Int × Int)) × Hd) w'=>.inl q0.1 = r1 ∧ Cx w0 fp0 S0 w' [Bx b3 [(.int .i64 0),(.int .i64 0)],E (List (Int × Int)) q0.1 q0.2,Es (List (Int × Int × ByteArray)) nodes_ nodes_h]) ?_ ?_
   ·
    obtain ⟨a0,e,f5⟩:=bindS f3;clear f3
    have HH:=H;clear H;obtain ⟨p0,m0,g1,c0,c1,c2,c3,H⟩:=HH.el (α:=Int × Int × ByteArray) 2 rfl e;clear HH
    clear e
    obtain ⟨a0_0,a0_1,a0_2⟩:=a0
    obtain ⟨_,_,_⟩:=g1
    replace H:=H.sel [1,2,3] rfl
    refine idxE c0 c1 c2 ?_;clear c0 c1 c2
    refine loadN [(.int .i64 a0_0),(.int .i64 a0_1),(.string a0_2)] rfl c3 ?_;clear c3
    refine alloc_ gok rfl H ?_;clear H;intro b0 w4 hx H
    clear hx
    refine stA gok [(.int .i64 a0_0),(.int .i64 a0_1),(.string a0_2)] rfl H rfl rfl rfl ?_;clear H;intro w5 H
    refine sq ?_
    obtain ⟨r2,f6,f7⟩:=bindS f5;clear f5
    refine cut (fun (q1:Bool)=>[(1,(.func (.func 126) #[] #[])),(4,(.pointer (some ⟨b3,0,none⟩))),(6,(g0).v),(8,(.pointer (some ⟨b0,0,none⟩))),(20,(nodes_h).v),(21,(.int .i64 ((nodes_.length:Nat):Int))),(22,(.int .i64 ((k0:Nat):Int))),(33,(.bool q1))]) (fun (q1:Bool) w'=>q1 = r2 ∧ Cx w0 fp0 S0 w' [Bx b3 [(.int .i64 0),(.int .i64 0)],E (List (Int × Int)) s0 g0,Bx b0 [(.int .i64 a0_0),(.int .i64 a0_1),(.string a0_2)],Es (List (Int × Int × ByteArray)) nodes_ nodes_h]) ?_ ?_
    ·
     refine fld gok rfl rfl rfl rfl ?_
     refine load1 (H.bx 0 rfl (j:=0) rfl) ?_
     obtain ⟨a1,e,f8⟩:=bindS f6;clear f6
     refine boolO e ?_;clear e
     cases a1
     ·
      have f9:=condF f8;clear f8
      exact ⟨false,⟨rfl,rfl,rfl,rfl,rfl,rfl,rfl,rfl,trivial⟩,Option.some.inj f9,H.sel [1,2,0,3] rfl⟩
     ·
      have f10:=condT f8;clear f8
      refine fld gok rfl rfl rfl rfl ?_
      refine load1 (H.bx 0 rfl (j:=0) rfl) ?_
      obtain ⟨a2,e,f11⟩:=bindS f10;clear f10
      refine boolO e ?_;clear e
      exact ⟨a2,⟨rfl,rfl,rfl,rfl,rfl,rfl,rfl,rfl,trivial⟩,Option.some.inj f11,H.sel [1,2,0,3] rfl⟩
    ·
     clear f6 H
     rintro T1 s1 w6 ⟨hr,(H:Cx w0 fp0 S0 w6 [Bx b3 [(.int .i64 0),(.int .i64 0)],E (List (Int × Int)) s0 g0,Bx b0 [(.int .i64 a0_0),(.int .i64 a0_1),(.string a0_2)],Es (List (Int × Int × ByteArray)) nodes_ nodes_h])⟩
     subst hr
     cases s1
     ·
      have f12:=condF f7;clear f7
      refine sq ?_
      obtain ⟨r3,f13,f14⟩:=bindS f12;clear f12
      refine cut (fun (q2:Bool)=>[(1,(.func (.func 126) #[] #[])),(4,(.pointer (some ⟨b3,0,none⟩))),(6,(g0).v),(8,(.pointer (some ⟨b0,0,none⟩))),(20,(nodes_h).v),(21,(.int .i64 ((nodes_.length:Nat):Int))),(22,(.int .i64 ((k0:Nat):Int))),(59,(.bool q2))]) (fun (q2:Bool) w'=>q2 = r3 ∧ Cx w0 fp0 S0 w' [Bx b3 [(.int .i64 0),(.int .i64 0)],E (List (Int × Int)) s0 g0,Bx b0 [(.int .i64 a0_0),(.int .i64 a0_1),(.string a0_2)],Es (List (Int × Int × ByteArray)) nodes_ nodes_h]) ?_ ?_
      ·
       refine fld gok rfl rfl rfl rfl ?_
       refine load1 (H.bx 2 rfl (j:=1) rfl) ?_
       obtain ⟨a3,e,f15⟩:=bindS f13;clear f13
       refine boolO e ?_;clear e
       cases a3
       ·
        have f16:=condF f15;clear f15
        refine fld gok rfl rfl rfl rfl ?_
        refine load1 (H.bx 2 rfl (j:=2) rfl) ?_
        obtain ⟨a4,e,f17⟩:=bindS f16;clear f16
        refine neqZ e ?_;clear e
        cases a4
        ·
         have f18:=condF f17;clear f17
         refine lenE (H.ro (α:=List (Int × Int)) 1 rfl).len ?_
         obtain ⟨a5,e,f19⟩:=bindS f18;clear f18
         refine boolO e ?_;clear e
         exact ⟨a5,⟨rfl,rfl,rfl,rfl,rfl,rfl,rfl,rfl,trivial⟩,Option.some.inj f19,H.sel [0,1,2,3] rfl⟩
        ·
         have f20:=condT f17;clear f17
         exact ⟨true,⟨rfl,rfl,rfl,rfl,rfl,rfl,rfl,rfl,trivial⟩,Option.some.inj f20,H.sel [0,1,2,3] rfl⟩
       ·
        have f21:=condT f15;clear f15
        exact ⟨true,⟨rfl,rfl,rfl,rfl,rfl,rfl,rfl,rfl,trivial⟩,Option.some.inj f21,H.sel [0,1,2,3] rfl⟩
      ·
       clear f13 H
       rintro T2 s2 w8 ⟨hr,(H:Cx w0 fp0 S0 w8 [Bx b3 [(.int .i64 0),(.int .i64 0)],E (List (Int × Int)) s0 g0,Bx b0 [(.int .i64 a0_0),(.int .i64 a0_1),(.string a0_2)],Es (List (Int × Int × ByteArray)) nodes_ nodes_h])⟩
       subst hr
       cases s2
       ·
        have f22:=condF f14;clear f14
        refine lenE (H.ro (α:=List (Int × Int)) 1 rfl).len ?_
        obtain ⟨a6,e,f23⟩:=bindS f22;clear f22
        refine arO e ?_;clear e
        obtain ⟨r4,f24,f25⟩:=bindS f23;clear f23
        refine heldJ H [] (.fst 0 (.fst 2 (.fst 3 (.fst 4 (.fst 5 (.fst 7 (.fst 8 (.fst 9 (.fst 1 (.fst 6 (.fst 10 (.alts (.alt 11 (.fst 12 (.fst 13 (.fst 14 (.act 15 (.act 16 (.fst 17 .done)))))) (.alt 15 (.act 11 (.fst 12 (.fst 13 (.fst 14 (.act 16 (.fst 17 .done)))))) .no)))))))))))))) mixed [] trivial (by kernel_rfl) (fun (q3:(Int × Int × Bool) × Nat)=>[(1,(.func (.func 126) #[] #[])),(4,(.pointer (some ⟨b3,0,none⟩))),(6,(g0).v),(11,(.int .i64 a6)),(12,(.pointer (some ⟨q3.2,0,none⟩))),(13,(.bool q3.1.2.2)),(20,(nodes_h).v),(21,(.int .i64 ((nodes_.length:Nat):Int))),(22,(.int .i64 ((k0:Nat):Int)))]) (fun (q3:(Int × Int × Bool) × Nat) w'=>(q3.1.1,q3.1.2.1,q3.1.2.2) = r4 ∧ Cx w0 fp0 S0 w' [Bx b3 [(.int .i64 0),(.int .i64 0)],E (List (Int × Int)) s0 g0,Bx q3.2 [(.int .i64 q3.1.1),(.int .i64 q3.1.2.1)],Es (List (Int × Int × ByteArray)) nodes_ nodes_h]) ?_ ?_
        ·
         clear H;intro w9 H
         have hX:Ext w9 w9:=Upd.refl _ _
         have H0:=H
         refine anyH (fun _=>fld gok rfl rfl rfl rfl ⟨rfl,rfl⟩) ?_
         obtain ⟨a7,e,f26⟩:=bindS f24;clear f24
         refine arO e ?_;clear e
         obtain ⟨a9,e,f27⟩:=bindS f26;clear f26
         replace H:=H.sel [1,0,2,3] rfl
         replace H:=H.toEH (α:=Int × Int)
         have HH:=H;clear H;obtain ⟨p1,m1,g2,c4,c5,c6,c7,H⟩:=HH.peek e;clear HH
         clear e
         obtain ⟨a9_0,a9_1⟩:=a9
         obtain ⟨_,_⟩:=g2
         refine idxE c4 c5 c6 ?_
         obtain ⟨a10,e,f28⟩:=bindS f27;clear f27
         have HH:=H;clear H;obtain ⟨p2,m2,g3,c8,c9,c10,c11,H⟩:=HH.peek e;clear HH
         clear e
         obtain ⟨a10_0,a10_1⟩:=a10
         obtain ⟨_,_⟩:=g3
         refine idxE c8 c9 c10 ?_
         refine load1X (H.bx 2 rfl (j:=0) rfl) ?_
         refine loadNX [(.int .i64 a9_0),(.int .i64 a9_1)] rfl c7 ?_;clear c7
         refine loadNX [(.int .i64 a10_0),(.int .i64 a10_1)] rfl c11 ?_;clear c11
         refine both ?_ ?_
         ·
          obtain ⟨y0,e,f29⟩:=bindS f28;clear f28
          obtain ⟨⟨y0_0_0,y0_0_1⟩,y0_1⟩:=y0
          have ey1289:=e;clear e
          refine callFx (impl_joinWires_c a0_0 a9_0 a9_1 a10_0 a10_1 y0_0_0 y0_0_1 y0_1 ey1289) H trivial ?_;clear H ey1289
          rintro _ _ w10 ⟨rfl,rfl⟩ hx H
          replace hX:=hX.trans0 hx;clear hx
          refine hold hX ?_
          refine allocX gok rfl H ?_;clear H;intro b1 w12 hx v0 H;replace v0:=Nat.le_trans hX.size v0
          replace hX:=hX.trans0 hx;clear hx
          refine hold hX ?_
          refine stAX gok [(.int .i64 y0_0_0),(.int .i64 y0_0_1)] rfl H rfl rfl rfl ?_;clear H;intro w13 hu H
          replace hX:=hX.fresh hu v0;clear hu
          refine hold hX ?_
          replace H:=H.sel [1,0,2,3,4] rfl
          replace H:=H.ofEH
          exact ⟨((y0_0_0,y0_0_1,y0_1),b1),⟨rfl,rfl,rfl,rfl,rfl,rfl,rfl,rfl,rfl,trivial⟩,Option.some.inj f29,H.sel [2,0,1,4] rfl⟩
         ·
          refine both ?_ ?_
          ·
           obtain ⟨a11,o1,f30⟩:=bindS f28;clear f28
           refine allocX gok rfl H ?_;clear H;intro b2 w14 hx v1 H;replace v1:=Nat.le_trans hX.size v1
           replace hX:=hX.trans0 hx;clear hx
           refine hold hX ?_
           have e:=o1;clear o1
           obtain ⟨⟨a11_0_0,a11_0_1⟩,a11_1⟩:=a11
           have ea1297:=e;clear e
           refine callFx (impl_joinWires_c a0_0 a9_0 a9_1 a10_0 a10_1 a11_0_0 a11_0_1 a11_1 ea1297) H trivial ?_;clear H ea1297
           rintro _ _ w15 ⟨rfl,rfl⟩ hx H
           replace hX:=hX.trans0 hx;clear hx
           refine hold hX ?_
           refine stAX gok [(.int .i64 a11_0_0),(.int .i64 a11_0_1)] rfl H rfl rfl rfl ?_;clear H;intro w16 hu H
           replace hX:=hX.fresh hu v1;clear hu
           refine hold hX ?_
           replace H:=H.sel [1,0,2,3,4] rfl
           replace H:=H.ofEH
           exact ⟨((a11_0_0,a11_0_1,a11_1),b2),⟨rfl,rfl,rfl,rfl,rfl,rfl,rfl,rfl,rfl,trivial⟩,Option.some.inj f30,H.sel [2,0,1,4] rfl⟩
          ·
           exact trivial
        ·
         clear f24 H
         rintro T3 ⟨⟨s3_0,s3_1,s3_2⟩,g4⟩ w17 ⟨hr,(H:Cx w0 fp0 S0 w17 [Bx b3 [(.int .i64 0),(.int .i64 0)],E (List (Int × Int)) s0 g0,Bx g4 [(.int .i64 s3_0),(.int .i64 s3_1)],Es (List (Int × Int × ByteArray)) nodes_ nodes_h])⟩
         subst hr
         refine sq ?_
         obtain ⟨a12,e,f31⟩:=bindS f25;clear f25
         refine boolO e ?_;clear e
         cases a12
         ·
          have f32:=condF f31;clear f31
          refine heldX H [6,7] (.fst 0 (.fst 1 (.fst 2 (.fst 3 (.fst 4 (.act 5 (.act 6 (.act 7 .done)))))))) mixed [] trivial (by kernel_rfl) ?_
          clear H;intro w18 H
          have hX:Ext w18 w18:=Upd.refl _ _
          have H0:=H
          obtain ⟨a13,e,f33⟩:=bindS f32;clear f32
          refine arO e ?_;clear e
          obtain ⟨a14,e,f34⟩:=bindS f33;clear f33
          replace H:=H.sel [1,0,2,3] rfl
          refine slOX (α:=Int × Int) gok rfl rfl H e rfl rfl ?_;clear e;intro h1 HH;clear H;have H:=HH;clear HH
          refine loadNX [(.int .i64 s3_0),(.int .i64 s3_1)] rfl (fun j u hj=>H.bx 2 rfl hj) ?_
          replace H:=H.sc (α:=Int) s3_1
          replace H:=H.sc (α:=Int) s3_0
          replace H:=H.join (α:=Int) (β:=Int)
          refine lit1 (α:=Int × Int) (g:=((),())) gok rfl rfl rfl rfl rfl H ?_;clear H;intro h2 w19 hx H
          replace hX:=hX.trans0 hx;clear hx
          refine hold hX ?_
          obtain ⟨a15,e,f35⟩:=bindS f34;clear f34
          replace H:=H.sel [1,0,2,3,4] rfl
          refine append_ (α:=Int × Int) gok rfl rfl rfl rfl H e ?_;clear e H;intro h3 w20 H
          refine hold trivial ?_
          refine hold trivial ?_
          exact ⟨(a15,h3),⟨rfl,rfl,rfl,rfl,rfl,rfl,trivial⟩,Option.some.inj f35,H.sel [1,0,3] rfl⟩
         ·
          have f36:=condT f31;clear f31
          refine build_ (cs:=#[(.int .i64 0),(.int .i64 0)]) gok rfl rfl rfl ?_
          refine stA gok [(.int .i64 0),(.int .i64 0)] rfl H rfl rfl rfl ?_;clear H;intro w21 H
          have hs:=Option.some.inj f36;subst hs;clear f36
          have f37:some _ = some _:=f4;clear f4
          have hs:=Option.some.inj f37;subst hs;clear f37
          have hr:=hrt _ rfl;subst hr
          have f38:some _ = some _:=f1
          refine loadN [(.int .i64 0),(.int .i64 0)] rfl (fun j u hj=>H.bx 0 rfl hj) ?_
          cases f38
          exact ⟨_,_,rfl,⟨rfl,rfl⟩,(H.sel [] rfl).close trivial⟩
       ·
        have f39:=condT f14;clear f14
        refine build_ (cs:=#[(.int .i64 0),(.int .i64 0)]) gok rfl rfl rfl ?_
        refine stA gok [(.int .i64 0),(.int .i64 0)] rfl H rfl rfl rfl ?_;clear H;intro w22 H
        have hs:=Option.some.inj f39;subst hs;clear f39
        have f40:some _ = some _:=f4;clear f4
        have hs:=Option.some.inj f40;subst hs;clear f40
        have hr:=hrt _ rfl;subst hr
        have f41:some _ = some _:=f1
        refine loadN [(.int .i64 0),(.int .i64 0)] rfl (fun j u hj=>H.bx 0 rfl hj) ?_
        cases f41
        exact ⟨_,_,rfl,⟨rfl,rfl⟩,(H.sel [] rfl).close trivial⟩
     ·
      have f42:=condT f7;clear f7
      refine loadN [(.int .i64 a0_0),(.int .i64 a0_1),(.string a0_2)] rfl (fun j u hj=>H.bx 2 rfl hj) ?_
      obtain ⟨y2,e,f43⟩:=bindS f42;clear f42
      obtain ⟨⟨y2_0_0,y2_0_1⟩,y2_1⟩:=y2
      have ey1338:=e;clear e
      refine callF (impl_leafWires_c a0_0 a0_1 a0_2 y2_0_0 y2_0_1 y2_1 ey1338) (Γi:=[]) H trivial ?_;clear H ey1338
      rintro _ _ w23 ⟨rfl,rfl⟩ H
      refine alloc_ gok rfl H ?_;clear H;intro b4 w24 hx H
      clear hx
      refine stA gok [(.int .i64 y2_0_0),(.int .i64 y2_0_1)] rfl H rfl rfl rfl ?_;clear H;intro w25 H
      refine sq ?_
      obtain ⟨a16,e,f44⟩:=bindS f43;clear f43
      refine boolO e ?_;clear e
      cases a16
      ·
       have f45:=condF f44;clear f44
       refine loadN [(.int .i64 y2_0_0),(.int .i64 y2_0_1)] rfl (fun j u hj=>H.bx 0 rfl hj) ?_
       replace H:=H.sc (α:=Int) y2_0_1
       replace H:=H.sc (α:=Int) y2_0_0
       replace H:=H.join (α:=Int) (β:=Int)
       refine lit1 (α:=Int × Int) (g:=((),())) gok rfl rfl rfl rfl rfl H ?_;clear H;intro h4 w26 hx H
       clear hx
       obtain ⟨a17,e,f46⟩:=bindS f45;clear f45
       replace H:=H.sel [3,0,1,2,4,5] rfl
       refine append_ (α:=Int × Int) gok rfl rfl rfl rfl H e ?_;clear e H;intro h5 w27 H
       exact ⟨(a17,h5),⟨rfl,rfl,rfl,rfl,rfl,rfl,trivial⟩,Option.some.inj f46,H.sel [2,0,4] rfl⟩
      ·
       have f47:=condT f44;clear f44
       refine build_ (cs:=#[(.int .i64 0),(.int .i64 0)]) gok rfl rfl rfl ?_
       replace H:=H.sel [1,0,2,3,4] rfl
       refine stA gok [(.int .i64 0),(.int .i64 0)] rfl H rfl rfl rfl ?_;clear H;intro w28 H
       have hs:=Option.some.inj f47;subst hs;clear f47
       have f48:some _ = some _:=f4;clear f4
       have hs:=Option.some.inj f48;subst hs;clear f48
       have hr:=hrt _ rfl;subst hr
       have f49:some _ = some _:=f1
       refine loadN [(.int .i64 0),(.int .i64 0)] rfl (fun j u hj=>H.bx 0 rfl hj) ?_
       cases f49
       exact ⟨_,_,rfl,⟨rfl,rfl⟩,(H.sel [] rfl).close trivial⟩
   ·
    clear f3 H
    rintro T4 ⟨s4,g5⟩ w29 ⟨hr,(H:Cx w0 fp0 S0 w29 [Bx b3 [(.int .i64 0),(.int .i64 0)],E (List (Int × Int)) s4 g5,Es (List (Int × Int × ByteArray)) nodes_ nodes_h])⟩
    subst hr
    refine arK hk x0 ?_
    have hs:=Option.some.inj f4;subst hs;clear f4
    exact ⟨s4,g5,rfl,⟨rfl,rfl,rfl,rfl,rfl,rfl,trivial⟩,H.sel [0,1,2] rfl⟩
  ·
   clear H e
   rintro T5 s5 g6 w30 hr (H:Cx w0 fp0 S0 w30 [Bx b3 [(.int .i64 0),(.int .i64 0)],E (List (Int × Int)) s5 g6,Es (List (Int × Int × ByteArray)) nodes_ nodes_h])
   subst hr
   refine boolE (z:=false) geLen ?_
   refine sq ?_
   obtain ⟨a18,e,f50⟩:=bindS f1;clear f1
   replace H:=H.sel [1,0,2] rfl
   replace H:=H.toEH (α:=Int × Int)
   have HH:=H;clear H;obtain ⟨p3,m3,g7,c12,c13,c14,c15,H⟩:=HH.peek e;clear HH
   clear e
   obtain ⟨a18_0,a18_1⟩:=a18
   obtain ⟨_,_⟩:=g7
   refine idxE c12 c13 c14 ?_
   refine loadN [(.int .i64 a18_0),(.int .i64 a18_1)] rfl c15 ?_;clear c15
   refine lenE (H.rohd (α:=Int × Int) 0 rfl).len ?_
   obtain ⟨a19,e,f51⟩:=bindS f50;clear f50
   refine boolO e ?_;clear e
   replace H:=H.sel [1,0,2] rfl
   refine stA gok [(.int .i64 a18_0),(.int .i64 a18_1)] rfl H rfl rfl rfl ?_;clear H;intro w31 H
   replace H:=H.sel [1,0,2] rfl
   replace H:=H.ofEH
   refine loadN [(.int .i64 a18_0),(.int .i64 a18_1)] rfl (fun j u hj=>H.bx 1 rfl hj) ?_
   cases f51
   exact ⟨_,_,rfl,⟨rfl,rfl⟩,(H.sel [] rfl).close trivial⟩
 ·
  have f52:=condT hF9;clear hF9
  refine build_ (cs:=#[(.int .i64 0),(.int .i64 0)]) gok rfl rfl rfl ?_
  refine stA gok [(.int .i64 0),(.int .i64 0)] rfl H rfl rfl rfl ?_;clear H;intro w32 H
  refine loadN [(.int .i64 0),(.int .i64 0)] rfl (fun j u hj=>H.bx 0 rfl hj) ?_
  cases f52
  exact ⟨_,_,rfl,⟨rfl,rfl⟩,(H.sel [] rfl).close trivial⟩
theorem impl_Term_wires_c (t__0:List (Int × Int × ByteArray)) (t__0h:Hd) (y0_0:Int) (y0_1:Int) (y1:Bool) (hF:F_impl_Term_wires t__0 = some ((y0_0,y0_1),y1)) :
  ConF Tryz.prog 103 #[(.agg #[(t__0h).v])] [Es (List (Int × Int × ByteArray)) t__0 t__0h] [] (fun v Γ'=>v = (.tuple #[(.agg #[(.int .i64 y0_0),(.int .i64 y0_1)]),(.bool y1)]) ∧ Γ' = []):=by
 intro w0 S0 fp0 hI hS
 have H:Cx w0 fp0 S0 w0 [Es (List (Int × Int × ByteArray)) t__0 t__0h]:=Cx.start hI hS
 clear hI hS
 refine enterC (args:=[_]) gok Tryz.func103 rfl _ rfl rfl rfl ?_
 refine box_ H ?_;clear H;intro b3 w2 hx H
 clear hx
 refine alloc_ gok rfl H ?_;clear H;intro b6 w5 hx H
 clear hx
 refine fld gok rfl rfl rfl rfl ?_
 refine load1 (H.bx 1 rfl (j:=0) rfl) ?_
 obtain ⟨y8,e,hF9⟩:=bindS hF;clear hF
 obtain ⟨⟨y8_0_0,y8_0_1⟩,y8_1⟩:=y8
 have ey8:=e;clear e
 refine callF (impl_typed_impl_leafWires_c t__0 t__0h y8_0_0 y8_0_1 y8_1 ey8) (Γi:=[]) H ⟨Vw.sh 2 rfl,trivial⟩ ?_;clear H ey8
 rintro _ _ w1 ⟨rfl,rfl⟩ H
 refine stA gok [(.int .i64 y8_0_0),(.int .i64 y8_0_1)] rfl H rfl rfl rfl ?_;clear H;intro w3 H
 refine loadN [(.int .i64 y8_0_0),(.int .i64 y8_0_1)] rfl (fun j u hj=>H.bx 0 rfl hj) ?_
 cases hF9
 exact ⟨_,_,rfl,⟨rfl,rfl⟩,(H.sel [] rfl).close trivial⟩
theorem impl_Term_isValid_c (t__0:List (Int × Int × ByteArray)) (t__0h:Hd) (y:Bool) (hF:F_impl_Term_isValid t__0 = some y) :
  ConF Tryz.prog 84 #[(.agg #[(t__0h).v])] [Es (List (Int × Int × ByteArray)) t__0 t__0h] [] (fun v Γ'=>v = (.bool y) ∧ Γ' = []):=by
 intro w0 S0 fp0 hI hS
 have H:Cx w0 fp0 S0 w0 [Es (List (Int × Int × ByteArray)) t__0 t__0h]:=Cx.start hI hS
 clear hI hS
 refine enterC (args:=[_]) gok Tryz.func84 rfl _ rfl rfl rfl ?_
 refine box_ H ?_;clear H;intro b3 w2 hx H
 clear hx
 refine loadN [(t__0h).v] rfl (fun j u hj=>H.bx 0 rfl hj) ?_
 obtain ⟨y5,e,hF6⟩:=bindS hF;clear hF
 obtain ⟨⟨y5_0_0,y5_0_1⟩,y5_1⟩:=y5
 have ey5:=e;clear e
 refine callF (impl_Term_wires_c t__0 t__0h y5_0_0 y5_0_1 y5_1 ey5) (Γi:=[]) H ⟨Vw.sh 1 rfl,trivial⟩ ?_;clear H ey5
 rintro _ _ w7 ⟨rfl,rfl⟩ H
 refine alloc_ gok rfl H ?_;clear H;intro b9 w8 hx H
 clear hx
 refine stA gok [(.int .i64 y5_0_0),(.int .i64 y5_0_1)] rfl H rfl rfl rfl ?_;clear H;intro w1 H
 cases hF6
 exact ⟨_,_,rfl,⟨rfl,rfl⟩,(H.sel [] rfl).close trivial⟩
theorem impl_Term_isOver_c (t__0:List (Int × Int × ByteArray)) (t__0h:Hd) (p_:Int) (y:Bool) (hF:F_impl_Term_isOver t__0 p_ = some y) :
  ConF Tryz.prog 67 #[(.agg #[(t__0h).v]),(.int .i64 p_)] [Es (List (Int × Int × ByteArray)) t__0 t__0h,Gl 0 [.int .i64 2,.int .i64 3,.int .i64 5,.int .i64 7]] [] (fun v Γ'=>v = (.bool y) ∧ Γ' = []):=by
 intro w0 S0 fp0 hI hS
 have H:Cx w0 fp0 S0 w0 [Es (List (Int × Int × ByteArray)) t__0 t__0h,Gl 0 [.int .i64 2,.int .i64 3,.int .i64 5,.int .i64 7]]:=Cx.start hI hS
 clear hI hS
 refine enterC (args:=[_,_]) gok Tryz.func67 rfl _ rfl rfl rfl ?_
 refine box_ H ?_;clear H;intro b4 w3 hx H
 clear hx
 refine sq ?_
 obtain ⟨r0,f0,f1⟩:=bindS hF;clear hF
 refine cut (fun (q0:Bool)=>[(1,(.int .i64 p_)),(2,(.pointer (some ⟨b4,0,none⟩))),(14,(.bool q0))]) (fun (q0:Bool) w'=>q0 = r0 ∧ Cx w0 fp0 S0 w' [Bx b4 [(t__0h).v],Es (List (Int × Int × ByteArray)) t__0 t__0h,Gl 0 [.int .i64 2,.int .i64 3,.int .i64 5,.int .i64 7]]) ?_ ?_
 ·
  obtain ⟨y0,e,f2⟩:=bindS f0;clear f0
  have ey24:=e;clear e
  refine callF (impl_isField_c p_ y0 ey24) (Γi:=[]) H ⟨Vw.gl 2 rfl,trivial⟩ ?_;clear H ey24
  rintro _ _ w1 ⟨rfl,rfl⟩ H
  obtain ⟨a0,e,f3⟩:=bindS f2;clear f2
  refine boolO e ?_;clear e
  cases a0
  ·
   have f4:=condF f3;clear f3
   refine loadN [(t__0h).v] rfl (fun j u hj=>H.bx 0 rfl hj) ?_
   obtain ⟨y1,e,f5⟩:=bindS f4;clear f4
   have ey30:=e;clear e
   refine callF (impl_Term_isValid_c t__0 t__0h y1 ey30) (Γi:=[]) H ⟨Vw.sh 1 rfl,trivial⟩ ?_;clear H ey30
   rintro _ _ w2 ⟨rfl,rfl⟩ H
   obtain ⟨a1,e,f6⟩:=bindS f5;clear f5
   refine boolO e ?_;clear e
   exact ⟨a1,⟨rfl,rfl,rfl,trivial⟩,Option.some.inj f6,H.sel [0,1,2] rfl⟩
  ·
   have f7:=condT f3;clear f3
   exact ⟨true,⟨rfl,rfl,rfl,trivial⟩,Option.some.inj f7,H.sel [0,1,2] rfl⟩
 ·
  clear f0 H
  rintro T0 s0 w4 ⟨hr,(H:Cx w0 fp0 S0 w4 [Bx b4 [(t__0h).v],Es (List (Int × Int × ByteArray)) t__0 t__0h,Gl 0 [.int .i64 2,.int .i64 3,.int .i64 5,.int .i64 7]])⟩
  subst hr
  cases s0
  ·
   have f8:=condF f1;clear f1
   refine sq ?_
   refine fld gok rfl rfl rfl rfl ?_
   refine load1 (H.bx 0 rfl (j:=0) rfl) ?_
   refine lenE (H.rs (α:=List (Int × Int × ByteArray)) 1 rfl).len ?_
   have x0:=(H.rs (α:=List (Int × Int × ByteArray)) 1 rfl).max
   obtain ⟨r1,e,f9⟩:=bindS f8;clear f8
   refine loopO _ t__0.length (fun (k0:Nat) (_:Unit) (_:Unit)=>[(1,(.int .i64 p_)),(16,(t__0h).v),(17,(.int .i64 ((t__0.length:Nat):Int))),(18,(.int .i64 ((k0:Nat):Int)))]) (fun _ (_:Unit) (_:Unit) w'=>Cx w0 fp0 S0 w' [Es (List (Int × Int × ByteArray)) t__0 t__0h,Gl 0 [.int .i64 2,.int .i64 3,.int .i64 5,.int .i64 7]]) () () e ⟨rfl,rfl,rfl,rfl,trivial⟩ (H.sel [1,2] rfl) ?_ ?_
   ·
    clear H e
    rintro T1 k0 _ _ w5 o0 hk (H:Cx w0 fp0 S0 w5 [Es (List (Int × Int × ByteArray)) t__0 t__0h,Gl 0 [.int .i64 2,.int .i64 3,.int .i64 5,.int .i64 7]]) hrt f10
    refine boolE (z:=true) (ltLen hk) ?_
    refine sq ?_
    refine sq ?_
    obtain ⟨a2,e,f11⟩:=bindS f10;clear f10
    have HH:=H;clear H;obtain ⟨p0,m0,g0,c0,c1,c2,c3,H⟩:=HH.el (α:=Int × Int × ByteArray) 0 rfl e;clear HH
    clear e
    obtain ⟨a2_0,a2_1,a2_2⟩:=a2
    obtain ⟨_,_,_⟩:=g0
    replace H:=H.sel [1,2] rfl
    refine idxE c0 c1 c2 ?_;clear c0 c1 c2
    refine loadN [(.int .i64 a2_0),(.int .i64 a2_1),(.string a2_2)] rfl c3 ?_;clear c3
    refine alloc_ gok rfl H ?_;clear H;intro b0 w6 hx H
    clear hx
    refine stA gok [(.int .i64 a2_0),(.int .i64 a2_1),(.string a2_2)] rfl H rfl rfl rfl ?_;clear H;intro w7 H
    obtain ⟨r2,f12,f13⟩:=bindS f11;clear f11
    refine cut (fun (q1:Bool)=>[(1,(.int .i64 p_)),(16,(t__0h).v),(17,(.int .i64 ((t__0.length:Nat):Int))),(18,(.int .i64 ((k0:Nat):Int))),(30,(.bool q1))]) (fun (q1:Bool) w'=>q1 = r2 ∧ Cx w0 fp0 S0 w' [Es (List (Int × Int × ByteArray)) t__0 t__0h,Gl 0 [.int .i64 2,.int .i64 3,.int .i64 5,.int .i64 7]]) ?_ ?_
    ·
     refine fld gok rfl rfl rfl rfl ?_
     refine load1 (H.bx 0 rfl (j:=0) rfl) ?_
     obtain ⟨y2,e,f14⟩:=bindS f12;clear f12
     have ey116:=e;clear e
     refine callF (impl_hasValue_c a2_0 y2 ey116) (Γi:=[]) H trivial ?_;clear H ey116
     rintro _ _ w8 ⟨rfl,rfl⟩ H
     cases y2
     ·
      have f15:=condF f14;clear f14
      exact ⟨false,⟨rfl,rfl,rfl,rfl,rfl,trivial⟩,Option.some.inj f15,H.sel [1,2] rfl⟩
     ·
      have f16:=condT f14;clear f14
      refine fld gok rfl rfl rfl rfl ?_
      refine load1 (H.bx 0 rfl (j:=1) rfl) ?_
      obtain ⟨a3,e,f17⟩:=bindS f16;clear f16
      refine boolO e ?_;clear e
      exact ⟨a3,⟨rfl,rfl,rfl,rfl,rfl,trivial⟩,Option.some.inj f17,H.sel [1,2] rfl⟩
    ·
     clear f12 H
     rintro T2 s1 w9 ⟨hr,(H:Cx w0 fp0 S0 w9 [Es (List (Int × Int × ByteArray)) t__0 t__0h,Gl 0 [.int .i64 2,.int .i64 3,.int .i64 5,.int .i64 7]])⟩
     subst hr
     cases s1
     ·
      have f18:=condF f13;clear f13
      refine arK hk x0 ?_
      have hs:=Option.some.inj f18;subst hs;clear f18
      exact ⟨(),(),rfl,⟨rfl,rfl,rfl,rfl,trivial⟩,H.sel [0,1] rfl⟩
     ·
      have f19:=condT f13;clear f13
      have hs:=Option.some.inj f19;subst hs;clear f19
      have hr:=hrt _ rfl;subst hr
      have f20:some _ = some _:=f9
      cases f20
      exact ⟨_,_,rfl,⟨rfl,rfl⟩,(H.sel [] rfl).close trivial⟩
   ·
    clear H e
    rintro T3 _ _ w10 hr (H:Cx w0 fp0 S0 w10 [Es (List (Int × Int × ByteArray)) t__0 t__0h,Gl 0 [.int .i64 2,.int .i64 3,.int .i64 5,.int .i64 7]])
    subst hr
    refine boolE (z:=false) geLen ?_
    refine sq ?_
    cases f9
    exact ⟨_,_,rfl,⟨rfl,rfl⟩,(H.sel [] rfl).close trivial⟩
  ·
   have f21:=condT f1;clear f1
   cases f21
   exact ⟨_,_,rfl,⟨rfl,rfl⟩,(H.sel [] rfl).close trivial⟩
theorem impl_isDelay_c (kind_:Int) (y:Bool) (hF:F_impl_isDelay kind_ = some y) :
  ConF Tryz.prog 68 #[(.int .i64 kind_)] [] [] (fun v Γ'=>v = (.bool y) ∧ Γ' = []):=by
 intro w0 S0 fp0 hI hS
 have H:Cx w0 fp0 S0 w0 []:=Cx.start hI hS
 clear hI hS
 refine enterC (args:=[_]) gok Tryz.func68 rfl _ rfl rfl rfl ?_
 obtain ⟨r9,f0,f1⟩:=bindS hF;clear hF
 refine cut (fun (q0:Bool)=>[(2,(.bool q0))]) (fun (q0:Bool) w'=>q0 = r9 ∧ Cx w0 fp0 S0 w' []) ?_ ?_
 ·
  obtain ⟨a0,e,f2⟩:=bindS f0;clear f0
  refine boolO e ?_;clear e
  cases a0
  ·
   have f3:=condF f2;clear f2
   obtain ⟨a1,e,f4⟩:=bindS f3;clear f3
   refine boolO e ?_;clear e
   exact ⟨a1,⟨rfl,trivial⟩,Option.some.inj f4,H.sel [] rfl⟩
  ·
   have f5:=condT f2;clear f2
   exact ⟨true,⟨rfl,trivial⟩,Option.some.inj f5,H.sel [] rfl⟩
 ·
  clear f0 H
  rintro T0 s7 w1 ⟨hr,(H:Cx w0 fp0 S0 w1 [])⟩
  subst hr
  cases f1
  exact ⟨_,_,rfl,⟨rfl,rfl⟩,(H.sel [] rfl).close trivial⟩
theorem impl_Term_isStatic_c (t__0:List (Int × Int × ByteArray)) (t__0h:Hd) (p_:Int) (y:Bool) (hF:F_impl_Term_isStatic t__0 p_ = some y) :
  ConF Tryz.prog 51 #[(.agg #[(t__0h).v]),(.int .i64 p_)] [Es (List (Int × Int × ByteArray)) t__0 t__0h,Gl 0 [.int .i64 2,.int .i64 3,.int .i64 5,.int .i64 7]] [] (fun v Γ'=>v = (.bool y) ∧ Γ' = []):=by
 intro w0 S0 fp0 hI hS
 have H:Cx w0 fp0 S0 w0 [Es (List (Int × Int × ByteArray)) t__0 t__0h,Gl 0 [.int .i64 2,.int .i64 3,.int .i64 5,.int .i64 7]]:=Cx.start hI hS
 clear hI hS
 refine enterC (args:=[_,_]) gok Tryz.func51 rfl _ rfl rfl rfl ?_
 refine box_ H ?_;clear H;intro b4 w3 hx H
 clear hx
 refine sq ?_
 refine loadN [(t__0h).v] rfl (fun j u hj=>H.bx 0 rfl hj) ?_
 obtain ⟨y6,e,hF7⟩:=bindS hF;clear hF
 have ey6:=e;clear e
 refine callF (impl_Term_isOver_c t__0 t__0h p_ y6 ey6) (Γi:=[]) H ⟨Vw.sh 1 rfl,Vw.gl 2 rfl,trivial⟩ ?_;clear H ey6
 rintro _ _ w8 ⟨rfl,rfl⟩ H
 obtain ⟨a9,e,f0⟩:=bindS hF7;clear hF7
 refine boolO e ?_;clear e
 cases a9
 ·
  have f1:=condF f0;clear f0
  refine sq ?_
  refine fld gok rfl rfl rfl rfl ?_
  refine load1 (H.bx 0 rfl (j:=0) rfl) ?_
  refine lenE (H.rs (α:=List (Int × Int × ByteArray)) 1 rfl).len ?_
  have x0:=(H.rs (α:=List (Int × Int × ByteArray)) 1 rfl).max
  obtain ⟨r0,e,f2⟩:=bindS f1;clear f1
  refine loopO _ t__0.length (fun (k0:Nat) (_:Unit) (_:Unit)=>[(12,(t__0h).v),(13,(.int .i64 ((t__0.length:Nat):Int))),(14,(.int .i64 ((k0:Nat):Int)))]) (fun _ (_:Unit) (_:Unit) w'=>Cx w0 fp0 S0 w' [Es (List (Int × Int × ByteArray)) t__0 t__0h,Gl 0 [.int .i64 2,.int .i64 3,.int .i64 5,.int .i64 7]]) () () e ⟨rfl,rfl,rfl,trivial⟩ (H.sel [1,2] rfl) ?_ ?_
  ·
   clear H e
   rintro T0 k0 _ _ w1 o0 hk (H:Cx w0 fp0 S0 w1 [Es (List (Int × Int × ByteArray)) t__0 t__0h,Gl 0 [.int .i64 2,.int .i64 3,.int .i64 5,.int .i64 7]]) hrt f3
   refine boolE (z:=true) (ltLen hk) ?_
   refine sq ?_
   refine sq ?_
   obtain ⟨a0,e,f4⟩:=bindS f3;clear f3
   have HH:=H;clear H;obtain ⟨p0,m0,g0,c0,c1,c2,c3,H⟩:=HH.el (α:=Int × Int × ByteArray) 0 rfl e;clear HH
   clear e
   obtain ⟨a0_0,a0_1,a0_2⟩:=a0
   obtain ⟨_,_,_⟩:=g0
   replace H:=H.sel [1,2] rfl
   refine idxE c0 c1 c2 ?_;clear c0 c1 c2
   refine loadN [(.int .i64 a0_0),(.int .i64 a0_1),(.string a0_2)] rfl c3 ?_;clear c3
   refine alloc_ gok rfl H ?_;clear H;intro b0 w2 hx H
   clear hx
   refine stA gok [(.int .i64 a0_0),(.int .i64 a0_1),(.string a0_2)] rfl H rfl rfl rfl ?_;clear H;intro w4 H
   refine fld gok rfl rfl rfl rfl ?_
   refine load1 (H.bx 0 rfl (j:=0) rfl) ?_
   obtain ⟨y0,e,f5⟩:=bindS f4;clear f4
   have ey57:=e;clear e
   refine callF (impl_isDelay_c a0_0 y0 ey57) (Γi:=[]) H trivial ?_;clear H ey57
   rintro _ _ w5 ⟨rfl,rfl⟩ H
   cases y0
   ·
    have f6:=condF f5;clear f5
    refine arK hk x0 ?_
    have hs:=Option.some.inj f6;subst hs;clear f6
    exact ⟨(),(),rfl,⟨rfl,rfl,rfl,trivial⟩,H.sel [1,2] rfl⟩
   ·
    have f7:=condT f5;clear f5
    have hs:=Option.some.inj f7;subst hs;clear f7
    have hr:=hrt _ rfl;subst hr
    have f8:some _ = some _:=f2
    cases f8
    exact ⟨_,_,rfl,⟨rfl,rfl⟩,(H.sel [] rfl).close trivial⟩
  ·
   clear H e
   rintro T1 _ _ w6 hr (H:Cx w0 fp0 S0 w6 [Es (List (Int × Int × ByteArray)) t__0 t__0h,Gl 0 [.int .i64 2,.int .i64 3,.int .i64 5,.int .i64 7]])
   subst hr
   refine boolE (z:=false) geLen ?_
   refine sq ?_
   cases f2
   exact ⟨_,_,rfl,⟨rfl,rfl⟩,(H.sel [] rfl).close trivial⟩
 ·
  have f9:=condT f0;clear f0
  cases f9
  exact ⟨_,_,rfl,⟨rfl,rfl⟩,(H.sel [] rfl).close trivial⟩
theorem impl_Relation_second_c (r__0:Int) (r__1:Int) (r__2:List (List Int)) (r__2h:Hd) (row_:List Int) (row_h:Hd) (y:List Int) (hF:F_impl_Relation_second (r__0,r__1,r__2) row_ = some y) :
  ConS Tryz.prog 41 #[(.agg #[(.int .i64 r__0),(.int .i64 r__1),(r__2h).v]),(row_h).v] [Es (List (List Int)) r__2 r__2h,Es (List Int) row_ row_h] [] (fun v Γ'=>∃ z0:Hd,v = (z0).v ∧ Γ' = [Es (List Int) y z0]):=by
 intro w0 S0 fp0 hI hS
 have H:Cx w0 fp0 S0 w0 [Es (List (List Int)) r__2 r__2h,Es (List Int) row_ row_h]:=Cx.start hI hS
 clear hI hS
 refine enterC (args:=[_,_]) gok Tryz.func41 rfl _ rfl rfl rfl ?_
 refine box_ H ?_;clear H;intro b4 w3 hx H
 clear hx
 refine fld gok rfl rfl rfl rfl ?_
 refine load1 (H.bx 0 rfl (j:=0) rfl) ?_
 obtain ⟨a6,e,hF7⟩:=bindS hF;clear hF
 refine slS (α:=Int) (hi:=none) gok rfl rfl H 2 rfl e rfl (congrArg (fun n:Nat=>some (n:Int)) (H.rs (α:=List Int) 2 rfl).len) ?_;clear e H;intro h8 H
 cases hF7
 exact ⟨_,_,rfl,⟨h8,rfl,rfl⟩,(H.sel [0] rfl)⟩
theorem impl_Relation_first_c (r__0:Int) (r__1:Int) (r__2:List (List Int)) (r__2h:Hd) (row_:List Int) (row_h:Hd) (y:List Int) (hF:F_impl_Relation_first (r__0,r__1,r__2) row_ = some y) :
  ConS Tryz.prog 40 #[(.agg #[(.int .i64 r__0),(.int .i64 r__1),(r__2h).v]),(row_h).v] [Es (List (List Int)) r__2 r__2h,Es (List Int) row_ row_h] [] (fun v Γ'=>∃ z0:Hd,v = (z0).v ∧ Γ' = [Es (List Int) y z0]):=by
 intro w0 S0 fp0 hI hS
 have H:Cx w0 fp0 S0 w0 [Es (List (List Int)) r__2 r__2h,Es (List Int) row_ row_h]:=Cx.start hI hS
 clear hI hS
 refine enterC (args:=[_,_]) gok Tryz.func40 rfl _ rfl rfl rfl ?_
 refine box_ H ?_;clear H;intro b4 w3 hx H
 clear hx
 refine fld gok rfl rfl rfl rfl ?_
 refine load1 (H.bx 0 rfl (j:=0) rfl) ?_
 obtain ⟨a6,e,hF7⟩:=bindS hF;clear hF
 refine slS (α:=Int) gok rfl rfl H 2 rfl e rfl rfl ?_;clear e H;intro h8 H
 cases hF7
 exact ⟨_,_,rfl,⟨h8,rfl,rfl⟩,(H.sel [0] rfl)⟩
theorem impl_zeros_c (n_:Int) (y:List Int) (hF:F_impl_zeros n_ = some y) :
  ConF Tryz.prog 87 #[(.int .i64 n_)] [] [] (fun v Γ'=>∃ z0:Hd,v = (z0).v ∧ Γ' = [E (List Int) y z0]):=by
 intro w0 S0 fp0 hI hS
 have H:Cx w0 fp0 S0 w0 []:=Cx.start hI hS
 clear hI hS
 refine enterC (args:=[_]) gok Tryz.func87 rfl _ rfl rfl rfl ?_
 obtain ⟨a1,e,hF2⟩:=bindS hF;clear hF
 refine make_ (α:=Int) gok rfl rfl rfl rfl (makeCO_of e) H ?_;clear e H;intro h4 w3 hx H
 clear hx
 cases hF2
 exact ⟨_,_,rfl,⟨h4,rfl,rfl⟩,(H.sel [0] rfl).close ⟨cloE,trivial⟩⟩
theorem impl_mod_c (p_:Int) (a_:Int) (y:Int) (hF:F_impl_mod p_ a_ = some y) :
  ConF Tryz.prog 114 #[(.int .i64 p_),(.int .i64 a_)] [] [] (fun v Γ'=>v = (.int .i64 y) ∧ Γ' = []):=by
 intro w0 S0 fp0 hI hS
 have H:Cx w0 fp0 S0 w0 []:=Cx.start hI hS
 clear hI hS
 refine enterC (args:=[_,_]) gok Tryz.func114 rfl _ rfl rfl rfl ?_
 obtain ⟨a1,e,hF2⟩:=bindS hF;clear hF
 refine remO_ e ?_;clear e
 refine sq ?_
 obtain ⟨a3,e,hF4⟩:=bindS hF2;clear hF2
 refine boolO e ?_;clear e
 cases a3
 ·
  have hF5:=condF hF4;clear hF4
  cases hF5
  exact ⟨_,_,rfl,⟨rfl,rfl⟩,(H.sel [] rfl).close trivial⟩
 ·
  have hF6:=condT hF4;clear hF4
  obtain ⟨a7,e,hF8⟩:=bindS hF6;clear hF6
  refine arO e ?_;clear e
  cases hF8
  exact ⟨_,_,rfl,⟨rfl,rfl⟩,(H.sel [] rfl).close trivial⟩
theorem impl_addTimes_c (p_:Int) (v_:List Int) (v_h:Hd) (by_:Int) (w_:List Int) (w_h:Hd) (y:List Int) (hF:F_impl_addTimes p_ v_ by_ w_ = some y) :
  ConF Tryz.prog 88 #[(.int .i64 p_),(v_h).v,(.int .i64 by_),(w_h).v] [Es (List Int) w_ w_h] [E (List Int) v_ v_h] (fun v Γ'=>v = (.tuple #[]) ∧ Γ' = [E (List Int) y v_h]):=by
 intro w0 S0 fp0 hI hS
 have H:Cx w0 fp0 S0 w0 [Es (List Int) w_ w_h,E (List Int) v_ v_h]:=Cx.start hI hS
 clear hI hS
 refine enterC (args:=[_,_,_,_]) gok Tryz.func88 rfl _ rfl rfl rfl ?_
 refine lenE (H.rs (α:=List Int) 0 rfl).len ?_
 have x0:=(H.rs (α:=List Int) 0 rfl).max
 obtain ⟨r0,e,f0⟩:=bindS hF;clear hF
 refine loopS _ w_.length (fun (k3:Nat) (s0:List Int) (_:Unit)=>[(0,(.int .i64 p_)),(1,(v_h).v),(2,(.int .i64 by_)),(10,(w_h).v),(11,(.int .i64 ((w_.length:Nat):Int))),(12,(.int .i64 ((k3:Nat):Int)))]) (fun _ (s0:List Int) (_:Unit) w'=>Cx w0 fp0 S0 w' [E (List Int) s0 v_h,Es (List Int) w_ w_h]) v_ () e ⟨rfl,rfl,rfl,rfl,rfl,rfl,trivial⟩ (H.sel [1,0] rfl) ?_ ?_
 ·
  clear H e
  rintro T0 k3 s0 _ w1 o0 hk (H:Cx w0 fp0 S0 w1 [E (List Int) s0 v_h,Es (List Int) w_ w_h]) f1
  refine boolE (z:=true) (ltLen hk) ?_
  refine sq ?_
  refine sq ?_
  obtain ⟨a0,e,f2⟩:=bindS f1;clear f1
  obtain ⟨p0,m0,c0,c1,c2,c3⟩:=(H.rs (α:=List Int) 1 rfl).at1 e;clear e
  refine idxE c0 c1 c2 ?_;clear c0 c1 c2
  refine load1 c3 ?_;clear c3
  obtain ⟨a1,e,f3⟩:=bindS f2;clear f2
  obtain ⟨p1,m1,c4,c5,c6,c7⟩:=(H.ro (α:=List Int) 0 rfl).at1 e;clear e
  refine idxE c4 c5 c6 ?_;clear c4 c5 c6
  refine load1 c7 ?_;clear c7
  obtain ⟨a2,e,f4⟩:=bindS f3;clear f3
  refine arO e ?_;clear e
  obtain ⟨a3,e,f5⟩:=bindS f4;clear f4
  refine arO e ?_;clear e
  obtain ⟨y0,e,f6⟩:=bindS f5;clear f5
  have ey101:=e;clear e
  refine callF (impl_mod_c p_ a3 y0 ey101) (Γi:=[]) H trivial ?_;clear H ey101
  rintro _ _ w2 ⟨rfl,rfl⟩ H
  obtain ⟨a4,e,f7⟩:=bindS f6;clear f6
  have ea110:=e;clear e
  obtain ⟨p2,m2,c8,c9,c10⟩:=(H.ro (α:=List Int) 0 rfl).setp ea110
  refine idxE c8 c9 c10 ?_
  refine setS (α:=Int) H c8 c9 ea110 ?_;clear H c8 c9 c10 ea110;intro w3 H
  refine arK hk x0 ?_
  have hs:=Option.some.inj f7;subst hs;clear f7
  exact ⟨(),⟨rfl,rfl,rfl,rfl,rfl,rfl,trivial⟩,H.sel [0,1] rfl⟩
 ·
  clear H e
  rintro T1 _ w4 (H:Cx w0 fp0 S0 w4 [E (List Int) r0 v_h,Es (List Int) w_ w_h])
  refine boolE (z:=false) geLen ?_
  refine sq ?_
  cases f0
  exact ⟨_,_,rfl,⟨rfl,rfl⟩,(H.sel [0] rfl).close ⟨cloE,trivial⟩⟩
theorem impl_clone_c (list_:List Int) (list_h:Hd) (y:List Int) (hF:F_impl_clone list_ = some y) :
  ConF Tryz.prog 39 #[(list_h).v] [Es (List Int) list_ list_h] [] (fun v Γ'=>∃ z0:Hd,v = (z0).v ∧ Γ' = [E (List Int) y z0]):=by
 intro w0 S0 fp0 hI hS
 have H:Cx w0 fp0 S0 w0 [Es (List Int) list_ list_h]:=Cx.start hI hS
 clear hI hS
 refine enterC (args:=[_]) gok Tryz.func39 rfl _ rfl rfl rfl ?_
 refine lit0 (α:=Int) gok rfl rfl H ?_;clear H;intro h3 w2 hx H
 clear hx
 obtain ⟨a5,e,hF6⟩:=bindS hF;clear hF
 refine appendS (α:=Int) gok rfl rfl rfl rfl H (Vw.sh 0 rfl) e ?_;clear e H;intro h8 w7 H
 cases hF6
 exact ⟨_,_,rfl,⟨h8,rfl,rfl⟩,(H.sel [0] rfl).close ⟨cloE,trivial⟩⟩
theorem impl_clones_c (list_:List (List Int)) (list_h:Hd) (y:List (List Int)) (hF:F_impl_clones list_ = some y) :
  ConF Tryz.prog 115 #[(list_h).v] [Es (List (List Int)) list_ list_h] [] (fun v Γ'=>∃ z0:Hd,v = (z0).v ∧ Γ' = [E (List (List Int)) y z0]):=by
 intro w0 S0 fp0 hI hS
 have H:Cx w0 fp0 S0 w0 [Es (List (List Int)) list_ list_h]:=Cx.start hI hS
 clear hI hS
 refine enterC (args:=[_]) gok Tryz.func115 rfl _ rfl rfl rfl ?_
 refine lenE (H.rs (α:=List (List Int)) 0 rfl).len ?_
 obtain ⟨a2,e,hF3⟩:=bindS hF;clear hF
 refine make_ (α:=List Int) gok rfl rfl rfl rfl e H ?_;clear e H;intro h5 w4 hx H
 clear hx
 refine sq ?_
 refine lenE (H.rs (α:=List (List Int)) 1 rfl).len ?_
 have x0:=(H.rs (α:=List (List Int)) 1 rfl).max
 obtain ⟨r0,e,f0⟩:=bindS hF3;clear hF3
 refine loopS _ list_.length (fun (k7:Nat) (s0:List (List Int)) (g0:Hd)=>[(3,(g0).v),(9,(list_h).v),(10,(.int .i64 ((list_.length:Nat):Int))),(11,(.int .i64 ((k7:Nat):Int)))]) (fun _ (s0:List (List Int)) (g0:Hd) w'=>Cx w0 fp0 S0 w' [E (List (List Int)) s0 g0,Es (List (List Int)) list_ list_h]) a2 h5 e ⟨rfl,rfl,rfl,rfl,trivial⟩ (H.sel [0,1] rfl) ?_ ?_
 ·
  clear H e
  rintro T0 k7 s0 g0 w1 o0 hk (H:Cx w0 fp0 S0 w1 [E (List (List Int)) s0 g0,Es (List (List Int)) list_ list_h]) f1
  refine boolE (z:=true) (ltLen hk) ?_
  refine sq ?_
  refine sq ?_
  obtain ⟨a0,e,f2⟩:=bindS f1;clear f1
  have HH:=H;clear H;obtain ⟨p0,m0,h0,c0,c1,c2,c3,H⟩:=HH.elL 1 rfl e;clear HH
  clear e
  refine idxE c0 c1 c2 ?_;clear c0 c1 c2
  refine load1 c3 ?_;clear c3
  obtain ⟨y0,e,f3⟩:=bindS f2;clear f2
  have ey79:=e;clear e
  refine callF (impl_clone_c a0 h0 y0 ey79) (Γi:=[]) H ⟨Vw.sh 0 rfl,trivial⟩ ?_;clear H ey79
  rintro _ _ w2 ⟨h1,rfl,rfl⟩ H
  refine lit1 (α:=List Int) (g:=h1) gok rfl rfl rfl rfl rfl H ?_;clear H;intro h2 w3 hx H
  clear hx
  obtain ⟨a1,e,f4⟩:=bindS f3;clear f3
  replace H:=H.sel [2,0,1,3] rfl
  refine append_ (α:=List Int) gok rfl rfl rfl rfl H e ?_;clear e H;intro h3 w5 H
  refine arK hk x0 ?_
  have hs:=Option.some.inj f4;subst hs;clear f4
  exact ⟨h3,⟨rfl,rfl,rfl,rfl,trivial⟩,H.sel [0,2] rfl⟩
 ·
  clear H e
  rintro T1 g1 w6 (H:Cx w0 fp0 S0 w6 [E (List (List Int)) r0 g1,Es (List (List Int)) list_ list_h])
  refine boolE (z:=false) geLen ?_
  refine sq ?_
  cases f0
  exact ⟨_,_,rfl,⟨g1,rfl,rfl⟩,(H.sel [0] rfl).close ⟨cloE,trivial⟩⟩
theorem impl_unit_c (n_:Int) (at_:Int) (y:List Int) (hF:F_impl_unit n_ at_ = some y) :
  ConF Tryz.prog 119 #[(.int .i64 n_),(.int .i64 at_)] [] [] (fun v Γ'=>∃ z0:Hd,v = (z0).v ∧ Γ' = [E (List Int) y z0]):=by
 intro w0 S0 fp0 hI hS
 have H:Cx w0 fp0 S0 w0 []:=Cx.start hI hS
 clear hI hS
 refine enterC (args:=[_,_]) gok Tryz.func119 rfl _ rfl rfl rfl ?_
 obtain ⟨y1,e,hF2⟩:=bindS hF;clear hF
 have ey1:=e;clear e
 refine callF (impl_zeros_c n_ y1 ey1) (Γi:=[]) H trivial ?_;clear H ey1
 rintro _ _ w3 ⟨h4,rfl,rfl⟩ H
 obtain ⟨a0,e,f0⟩:=bindS hF2;clear hF2
 have ea12:=e;clear e
 obtain ⟨p0,m0,c6,c7,c8⟩:=(H.ro (α:=List Int) 0 rfl).setp ea12
 refine idxE c6 c7 c8 ?_
 refine setS (α:=Int) H c6 c7 ea12 ?_;clear H c6 c7 c8 ea12;intro w1 H
 cases f0
 exact ⟨_,_,rfl,⟨h4,rfl,rfl⟩,(H.sel [0] rfl).close ⟨cloE,trivial⟩⟩
theorem impl_identityRows_c (n_:Int) (y:List (List Int)) (hF:F_impl_identityRows n_ = some y) :
  ConF Tryz.prog 116 #[(.int .i64 n_)] [] [] (fun v Γ'=>∃ z0:Hd,v = (z0).v ∧ Γ' = [E (List (List Int)) y z0]):=by
 intro w0 S0 fp0 hI hS
 have H:Cx w0 fp0 S0 w0 []:=Cx.start hI hS
 clear hI hS
 refine enterC (args:=[_]) gok Tryz.func116 rfl _ rfl rfl rfl ?_
 refine lit0 (α:=List Int) gok rfl rfl H ?_;clear H;intro h2 w1 hx H
 clear hx
 refine sq ?_
 obtain ⟨a0,hn,f0⟩:=bindS hF;clear hF
 obtain ⟨r0,e,f1⟩:=bindS f0;clear f0
 refine loopS _ n_.toNat (fun (k4:Nat) (s0:List (List Int)) (g0:Hd)=>[(0,(.int .i64 n_)),(3,(g0).v),(6,(.int .i64 n_)),(7,(.int .i64 ((k4:Nat):Int)))]) (fun _ (s0:List (List Int)) (g0:Hd) w'=>Cx w0 fp0 S0 w' [E (List (List Int)) s0 g0]) ([]:List (List Int)) h2 e ⟨rfl,rfl,rfl,rfl,trivial⟩ (H.sel [0] rfl) ?_ ?_
 ·
  clear H e
  rintro T0 k4 s0 g0 w2 o0 hk (H:Cx w0 fp0 S0 w2 [E (List (List Int)) s0 g0]) f2
  refine boolE (z:=true) (ltNat hk) ?_
  refine sq ?_
  refine sq ?_
  obtain ⟨y0,e,f3⟩:=bindS f2;clear f2
  have ey48:=e;clear e
  refine callF (impl_unit_c n_ ((k4:Nat):Int) y0 ey48) (Γi:=[]) H trivial ?_;clear H ey48
  rintro _ _ w3 ⟨h0,rfl,rfl⟩ H
  refine lit1 (α:=List Int) (g:=h0) gok rfl rfl rfl rfl rfl H ?_;clear H;intro h1 w4 hx H
  clear hx
  obtain ⟨a1,e,f4⟩:=bindS f3;clear f3
  replace H:=H.sel [1,0] rfl
  refine append_ (α:=List Int) gok rfl rfl rfl rfl H e ?_;clear e H;intro h3 w5 H
  refine arK hk (maxI hn) ?_
  have hs:=Option.some.inj f4;subst hs;clear f4
  exact ⟨h3,⟨rfl,rfl,rfl,rfl,trivial⟩,H.sel [0] rfl⟩
 ·
  clear H e
  rintro T1 g1 w6 (H:Cx w0 fp0 S0 w6 [E (List (List Int)) r0 g1])
  refine boolE (z:=false) geNat ?_
  refine sq ?_
  cases f1
  exact ⟨_,_,rfl,⟨g1,rfl,rfl⟩,(H.sel [0] rfl).close ⟨cloE,trivial⟩⟩
theorem impl_bit_c (yes_:Bool) (y:Int) (hF:F_impl_bit yes_ = some y) :
  ConF Tryz.prog 182 #[(.bool yes_)] [] [] (fun v Γ'=>v = (.int .i64 y) ∧ Γ' = []):=by
 intro w0 S0 fp0 hI hS
 have H:Cx w0 fp0 S0 w0 []:=Cx.start hI hS
 clear hI hS
 refine enterC (args:=[_]) gok Tryz.func182 rfl _ rfl rfl rfl ?_
 refine sq ?_
 cases yes_
 ·
  have hF1:=condF hF;clear hF
  cases hF1
  exact ⟨_,_,rfl,⟨rfl,rfl⟩,(H.sel [] rfl).close trivial⟩
 ·
  have hF2:=condT hF;clear hF
  cases hF2
  exact ⟨_,_,rfl,⟨rfl,rfl⟩,(H.sel [] rfl).close trivial⟩
theorem impl_power_c (p_:Int) (a_:Int) (n_:Int) (y:Int) (hF:F_impl_power p_ a_ n_ = some y) :
  ConF Tryz.prog 181 #[(.int .i64 p_),(.int .i64 a_),(.int .i64 n_)] [] [] (fun v Γ'=>v = (.int .i64 y) ∧ Γ' = []):=by
 intro w0 S0 fp0 hI hS
 have H:Cx w0 fp0 S0 w0 []:=Cx.start hI hS
 clear hI hS
 refine enterC (args:=[_,_,_]) gok Tryz.func181 rfl _ rfl rfl rfl ?_
 obtain ⟨a1,e,hF2⟩:=bindS hF;clear hF
 refine remO_ e ?_;clear e
 obtain ⟨r0,f0,f1⟩:=bindS hF2;clear hF2
 refine cut (fun (q0:Int)=>[(7,(.int .i64 q0))]) (fun (q0:Int) w'=>q0 = r0 ∧ Cx w0 fp0 S0 w' []) ?_ ?_
 ·
  refine loopW _ (fun (s0:Int × Int × Int) (_:Unit)=>[(0,(.int .i64 p_)),(1,(.int .i64 s0.1)),(2,(.int .i64 s0.2.1)),(7,(.int .i64 s0.2.2))]) (fun (s0:Int × Int × Int) (_:Unit) w'=>Cx w0 fp0 S0 w' []) (a_,n_,a1) () f0 ⟨rfl,rfl,rfl,rfl,trivial⟩ (H.sel [] rfl) ?_
  ·
   clear H
   rintro T0 ⟨s0_0,s0_1,s0_2⟩ _ w1 o0 (H:Cx w0 fp0 S0 w1 []) hrt f2
   refine sq ?_
   obtain ⟨a0,e,f3⟩:=bindS f2;clear f2
   refine boolO e ?_;clear e
   cases a0
   ·
    have f4:=condF f3;clear f3
    have hs:=Option.some.inj f4;subst hs;clear f4
    have f5:some _ = some _:=congrArg some (hrt _ rfl).symm
    exact ⟨s0_2,⟨rfl,trivial⟩,Option.some.inj f5,H.sel [] rfl⟩
   ·
    have f6:=condT f3;clear f3
    refine sq ?_
    obtain ⟨r1,f7,f8⟩:=bindS f6;clear f6
    refine cut (fun (q1:Int)=>[(0,(.int .i64 p_)),(1,(.int .i64 s0_0)),(2,(.int .i64 s0_1)),(7,(.int .i64 q1))]) (fun (q1:Int) w'=>q1 = r1 ∧ Cx w0 fp0 S0 w' []) ?_ ?_
    ·
     obtain ⟨a2,e,f9⟩:=bindS f7;clear f7
     refine remO_ e ?_;clear e
     obtain ⟨a3,e,f10⟩:=bindS f9;clear f9
     refine boolO e ?_;clear e
     cases a3
     ·
      have f11:=condF f10;clear f10
      exact ⟨s0_2,⟨rfl,rfl,rfl,rfl,trivial⟩,Option.some.inj f11,H.sel [] rfl⟩
     ·
      have f12:=condT f10;clear f10
      obtain ⟨a4,e,f13⟩:=bindS f12;clear f12
      refine arO e ?_;clear e
      obtain ⟨a5,e,f14⟩:=bindS f13;clear f13
      refine remO_ e ?_;clear e
      exact ⟨a5,⟨rfl,rfl,rfl,rfl,trivial⟩,Option.some.inj f14,H.sel [] rfl⟩
    ·
     clear f7 H
     rintro T1 s1 w2 ⟨hr,(H:Cx w0 fp0 S0 w2 [])⟩
     subst hr
     obtain ⟨a6,e,f15⟩:=bindS f8;clear f8
     refine arO e ?_;clear e
     obtain ⟨a7,e,f16⟩:=bindS f15;clear f15
     refine remO_ e ?_;clear e
     obtain ⟨a8,e,f17⟩:=bindS f16;clear f16
     refine quoO_ e ?_;clear e
     have hs:=Option.some.inj f17;subst hs;clear f17
     exact ⟨(a7,a8,s1),(),rfl,⟨rfl,rfl,rfl,rfl,trivial⟩,H.sel [] rfl⟩
 ·
  clear f0 H
  rintro T2 s2 w3 ⟨hr,(H:Cx w0 fp0 S0 w3 [])⟩
  subst hr
  cases f1
  exact ⟨_,_,rfl,⟨rfl,rfl⟩,(H.sel [] rfl).close trivial⟩
theorem impl_inverse_c (p_:Int) (a_:Int) (y:Int) (hF:F_impl_inverse p_ a_ = some y) :
  ConF Tryz.prog 167 #[(.int .i64 p_),(.int .i64 a_)] [] [] (fun v Γ'=>v = (.int .i64 y) ∧ Γ' = []):=by
 intro w0 S0 fp0 hI hS
 have H:Cx w0 fp0 S0 w0 []:=Cx.start hI hS
 clear hI hS
 refine enterC (args:=[_,_]) gok Tryz.func167 rfl _ rfl rfl rfl ?_
 obtain ⟨a1,e,hF2⟩:=bindS hF;clear hF
 refine arO e ?_;clear e
 obtain ⟨a3,e,hF4⟩:=bindS hF2;clear hF2
 refine boolO e ?_;clear e
 obtain ⟨y5,e,hF6⟩:=bindS hF4;clear hF4
 have ey5:=e;clear e
 refine callF (impl_bit_c a3 y5 ey5) (Γi:=[]) H trivial ?_;clear H ey5
 rintro _ _ w7 ⟨rfl,rfl⟩ H
 obtain ⟨a8,e,hF9⟩:=bindS hF6;clear hF6
 refine arO e ?_;clear e
 obtain ⟨y0,e,f0⟩:=bindS hF9;clear hF9
 have ey10:=e;clear e
 refine callF (impl_power_c p_ a_ a8 y0 ey10) (Γi:=[]) H trivial ?_;clear H ey10
 rintro _ _ w1 ⟨rfl,rfl⟩ H
 cases f0
 exact ⟨_,_,rfl,⟨rfl,rfl⟩,(H.sel [] rfl).close trivial⟩
theorem impl_rowOperation_apply_c (o__0:Int) (o__1:Int) (o__2:Int) (o__3:Int) (p_:Int) (rows_:List (List Int)) (rows_h:Hd) (y:List (List Int)) (hF:F_impl_rowOperation_apply (o__0,o__1,o__2,o__3) p_ rows_ = some y) :
  ConF Tryz.prog 143 #[(.agg #[(.int .i64 o__0),(.int .i64 o__1),(.int .i64 o__2),(.int .i64 o__3)]),(.int .i64 p_),(rows_h).v] [] [E (List (List Int)) rows_ rows_h] (fun v Γ'=>v = (.tuple #[]) ∧ Γ' = [E (List (List Int)) y rows_h]):=by
 intro w0 S0 fp0 hI hS
 have H:Cx w0 fp0 S0 w0 [E (List (List Int)) rows_ rows_h]:=Cx.start hI hS
 clear hI hS
 refine enterC (args:=[_,_,_]) gok Tryz.func143 rfl _ rfl rfl rfl ?_
 refine box_ H ?_;clear H;intro b3 w2 hx H
 clear hx
 refine fld gok rfl rfl rfl rfl ?_
 refine load1 (H.bx 0 rfl (j:=0) rfl) ?_
 obtain ⟨a5,e,hF6⟩:=bindS hF;clear hF
 refine boolO e ?_;clear e
 cases a5
 ·
  have hF7:=condF hF6;clear hF6
  obtain ⟨a8,e,hF9⟩:=bindS hF7;clear hF7
  refine boolO e ?_;clear e
  cases a8
  ·
   have f0:=condF hF9;clear hF9
   obtain ⟨a0,e,f1⟩:=bindS f0;clear f0
   refine boolO e ?_;clear e
   cases a0
   ·
    have f2:=condF f1;clear f1
    cases f2
    exact ⟨_,_,rfl,⟨rfl,rfl⟩,(H.sel [1] rfl).close ⟨cloE,trivial⟩⟩
   ·
    have f3:=condT f1;clear f1
    refine heldX H [14] (.fst 0 (.fst 1 (.fst 2 (.fst 6 (.fst 9 (.fst 10 (.fst 3 (.fst 4 (.fst 5 (.fst 7 (.fst 8 (.fst 11 (.fst 12 (.fst 13 (.act 14 .done))))))))))))))) mixed [] trivial (by kernel_rfl) ?_
    clear H;intro w1 H
    have hX:Ext w1 w1:=Upd.refl _ _
    have H0:=H
    refine anyH (fun _=>fld gok rfl rfl rfl rfl ⟨rfl,rfl⟩) ?_
    refine anyH (fun _=>fld gok rfl rfl rfl rfl ⟨rfl,rfl⟩) ?_
    refine anyH (fun _=>fld gok rfl rfl rfl rfl ⟨rfl,rfl⟩) ?_
    refine load1X (H.bx 0 rfl (j:=1) rfl) ?_
    obtain ⟨a1,e,f4⟩:=bindS f3;clear f3
    replace H:=H.sel [1,0] rfl
    replace H:=H.toEH (α:=List Int)
    have HH:=H;clear H;obtain ⟨p0,m0,h0,c0,c1,c2,c3,H⟩:=HH.peekL e;clear HH
    clear e
    refine idxE c0 c1 c2 ?_
    refine load1X c3 ?_;clear c3
    refine load1X (H.bx 1 rfl (j:=3) rfl) ?_
    obtain ⟨a2,e,f5⟩:=bindS f4;clear f4
    refine arO e ?_;clear e
    refine load1X (H.bx 1 rfl (j:=2) rfl) ?_
    obtain ⟨a3,e,f6⟩:=bindS f5;clear f5
    have HH:=H;clear H;obtain ⟨p1,m1,h1,c4,c5,c6,c7,H⟩:=HH.peekL e;clear HH
    clear e
    refine idxE c4 c5 c6 ?_
    refine load1X c7 ?_;clear c7
    obtain ⟨y0,e,f7⟩:=bindS f6;clear f6
    have ey36:=e;clear e
    have u0:=H.kn 0 rfl 0 rfl
    obtain ⟨u1,n0,f8⟩:=bindS f7;clear f7
    have q0:m1 ≠ m0:=fun q=>neqO_some n0 (by omega)
    replace H:=H.takeK 1 rfl
    refine callF (impl_addTimes_c p_ a1 h0 a2 a3 h1 y0 ey36) (Γi:=[E (List Int) a1 h0]) H ⟨Vw.ex (α:=List Int) (k:=⟨m1,a3,h1⟩) 0 rfl u0 q0,trivial⟩ ?_;clear H ey36
    rintro _ _ w3 ⟨rfl,rfl⟩ H
    obtain ⟨a4,e,f9⟩:=bindS f8;clear f8
    replace H:=H.put c1 e;clear e
    refine hold trivial ?_
    cases f9
    exact ⟨_,_,rfl,⟨rfl,rfl⟩,(H.sel [0] rfl).close ⟨cloE,trivial⟩⟩
  ·
   have f10:=condT hF9;clear hF9
   refine fld gok rfl rfl rfl rfl ?_
   refine load1 (H.bx 0 rfl (j:=3) rfl) ?_
   obtain ⟨y1,e,f11⟩:=bindS f10;clear f10
   have ey48:=e;clear e
   refine callF (impl_inverse_c p_ o__3 y1 ey48) (Γi:=[]) H trivial ?_;clear H ey48
   rintro _ _ w4 ⟨rfl,rfl⟩ H
   refine fld gok rfl rfl rfl rfl ?_
   refine load1 (H.bx 0 rfl (j:=1) rfl) ?_
   obtain ⟨a6,e,f12⟩:=bindS f11;clear f11
   replace H:=H.sel [1,0] rfl
   have HH:=H;clear H;obtain ⟨p2,m2,h2,c8,c9,c10,H⟩:=HH.take e;clear HH
   clear e
   have c11:=H.hx0 1 rfl c8 rfl
   refine idxE c8 c9 c10 ?_
   refine load1 c11 ?_;clear c11
   refine lenE (H.ro (α:=List Int) 0 rfl).len ?_
   have x0:=(H.ro (α:=List Int) 0 rfl).max
   obtain ⟨r0,e,f13⟩:=bindS f12;clear f12
   refine loopS _ a6.length (fun (k0:Nat) (s0:List Int) (_:Unit)=>[(1,(.int .i64 p_)),(2,(rows_h).v),(3,(.pointer (some ⟨b3,0,none⟩))),(6,(.int .i64 y1)),(41,(h2).v),(42,(.int .i64 ((a6.length:Nat):Int))),(43,(.int .i64 ((k0:Nat):Int)))]) (fun _ (s0:List Int) (_:Unit) w'=>Cx w0 fp0 S0 w' [EX (List Int) m2 [(h2).v] rows_ rows_h,Bx b3 [(.int .i64 o__0),(.int .i64 o__1),(.int .i64 o__2),(.int .i64 o__3)],E (List Int) s0 h2]) a6 () e ⟨rfl,rfl,rfl,rfl,rfl,rfl,rfl,trivial⟩ (H.sel [1,2,0] rfl) ?_ ?_
   ·
    clear H e
    rintro T0 k0 s0 _ w5 o0 hk (H:Cx w0 fp0 S0 w5 [EX (List Int) m2 [(h2).v] rows_ rows_h,Bx b3 [(.int .i64 o__0),(.int .i64 o__1),(.int .i64 o__2),(.int .i64 o__3)],E (List Int) s0 h2]) f14
    refine boolE (z:=true) (ltLen hk) ?_
    refine sq ?_
    refine sq ?_
    obtain ⟨a7,e,f15⟩:=bindS f14;clear f14
    obtain ⟨p3,m3,c12,c13,c14,c15⟩:=(H.ro (α:=List Int) 2 rfl).at1 e;clear e
    refine idxE c12 c13 c14 ?_;clear c12 c13 c14
    refine load1 c15 ?_;clear c15
    refine heldX H [12] (.fst 0 (.fst 1 (.fst 5 (.fst 6 (.fst 7 (.fst 8 (.fst 9 (.fst 10 (.fst 2 (.fst 3 (.fst 4 (.fst 11 (.act 12 .done))))))))))))) mixed [] trivial (by kernel_rfl) ?_
    clear H;intro w6 H
    have hX:Ext w6 w6:=Upd.refl _ _
    have H0:=H
    refine anyH (fun _=>fld gok rfl rfl rfl rfl ⟨rfl,rfl⟩) ?_
    obtain ⟨a9,e,f16⟩:=bindS f15;clear f15
    refine arO e ?_;clear e
    obtain ⟨a10,e,f17⟩:=bindS f16;clear f16
    refine remO_ e ?_;clear e
    refine load1X (H.bx 1 rfl (j:=1) rfl) ?_
    have c20:=H.hx0 0 rfl c8 rfl
    refine idxE c8 c9 c10 ?_
    refine load1X c20 ?_;clear c20
    obtain ⟨a12,e,f18⟩:=bindS f17;clear f17
    have ea156:=e;clear e
    obtain ⟨p4,m4,c21,c22,c23⟩:=(H.ro (α:=List Int) 2 rfl).setp ea156
    refine idxE c21 c22 c23 ?_
    replace H:=H.sel [2,0,1] rfl
    refine setS (α:=Int) H c21 c22 ea156 ?_;clear H c21 c22 c23 ea156;intro w7 H
    refine hold trivial ?_
    refine arK hk x0 ?_
    have hs:=Option.some.inj f18;subst hs;clear f18
    exact ⟨(),⟨rfl,rfl,rfl,rfl,rfl,rfl,rfl,trivial⟩,H.sel [1,2,0] rfl⟩
   ·
    clear H e
    rintro T1 _ w8 (H:Cx w0 fp0 S0 w8 [EX (List Int) m2 [(h2).v] rows_ rows_h,Bx b3 [(.int .i64 o__0),(.int .i64 o__1),(.int .i64 o__2),(.int .i64 o__3)],E (List Int) r0 h2])
    refine boolE (z:=false) geLen ?_
    refine sq ?_
    obtain ⟨a13,e,f19⟩:=bindS f13;clear f13
    replace H:=H.sel [2,0,1] rfl
    replace H:=H.put c9 e;clear e
    cases f19
    exact ⟨_,_,rfl,⟨rfl,rfl⟩,(H.sel [0] rfl).close ⟨cloE,trivial⟩⟩
 ·
  have f20:=condT hF6;clear hF6
  refine heldX H [17,19,18,0,1,2,3,4,5] (.pure 0 (.pure 1 (.pure 2 (.pure 3 (.pure 4 (.pure 5 (.fst 6 (.fst 7 (.fst 11 (.fst 12 (.fst 8 (.fst 9 (.fst 10 (.fst 13 (.fst 14 (.fst 15 (.fst 16 (.act 17 (.act 18 (.act 19 .done)))))))))))))))))))) mixed [((Addr.add ⟨b3,0,none⟩ 1),(.int .i64 o__1)),((Addr.add ⟨b3,0,none⟩ 2),(.int .i64 o__2))] ⟨H.bx 0 rfl (j:=1) rfl,H.bx 0 rfl (j:=2) rfl,trivial⟩ (by kernel_rfl) ?_
  clear H;intro w9 H
  have hX:Ext w9 w9:=Upd.refl _ _
  have H0:=H
  refine anyH (fun _=>fld gok rfl rfl rfl rfl ⟨rfl,rfl⟩) ?_
  refine load1W 0 rfl ?_
  refine anyH (fun _=>fld gok rfl rfl rfl rfl ⟨rfl,rfl⟩) ?_
  refine load1W 1 rfl ?_
  refine anyH (fun _=>fld gok rfl rfl rfl rfl ⟨rfl,rfl⟩) ?_
  refine anyH (fun _=>fld gok rfl rfl rfl rfl ⟨rfl,rfl⟩) ?_
  refine load1X (H.bx 0 rfl (j:=2) rfl) ?_
  obtain ⟨a14,e,f21⟩:=bindS f20;clear f20
  replace H:=H.sel [1,0] rfl
  replace H:=H.toEH (α:=List Int)
  have HH:=H;clear H;obtain ⟨p5,m5,h3,c24,c25,c26,c31,H⟩:=HH.peekL e;clear HH
  clear e
  refine idxE c24 c25 c26 ?_
  refine load1X c31 ?_;clear c31
  refine load1X (H.bx 1 rfl (j:=1) rfl) ?_
  obtain ⟨a15,e,f22⟩:=bindS f21;clear f21
  have HH:=H;clear H;obtain ⟨p6,m6,h4,c32,c33,c34,c35,H⟩:=HH.peekL e;clear HH
  clear e
  refine idxE c32 c33 c34 ?_
  refine load1X c35 ?_;clear c35
  refine idxE c32 c33 c34 ?_
  refine stZ1 (ki:=0) (kj:=1) H rfl rfl c32 ?_;clear H;intro w10 H
  refine hold ⟨H.bx 1 rfl (j:=1) rfl,H.bx 1 rfl (j:=2) rfl,trivial⟩ ?_
  refine idxE c24 c25 c26 ?_
  refine hold ⟨H.bx 1 rfl (j:=1) rfl,H.bx 1 rfl (j:=2) rfl,trivial⟩ ?_
  obtain ⟨a16,e,f23⟩:=bindS f22;clear f22
  refine stZ2 H c33 c25 c24 e ?_;clear H e;intro w11 H
  refine hold ⟨H.bx 1 rfl (j:=1) rfl,H.bx 1 rfl (j:=2) rfl,trivial⟩ ?_
  cases f23
  exact ⟨_,_,rfl,⟨rfl,rfl⟩,(H.sel [0] rfl).close ⟨cloE,trivial⟩⟩
theorem impl_reduction_1_c (o__0:Int) (o__1:Int) (o__2:Int) (o__3:Int) (c0_b:Nat) (c0_:Int) (c1_b:Nat) (c1_:List (List Int)) (c1_h:Hd) (c2_b:Nat) (c2_:List (List Int)) (c2_h:Hd) (y0:List (List Int)) (y1:List (List Int)) (hF:F_impl_reduction_1 (o__0,o__1,o__2,o__3) c0_ c1_ c2_ = some (y0,y1)) :
  ConF Tryz.prog 142 #[(.agg #[(.int .i64 o__0),(.int .i64 o__1),(.int .i64 o__2),(.int .i64 o__3)]),(.pointer (some ⟨c0_b,0,none⟩)),(.pointer (some ⟨c1_b,0,none⟩)),(.pointer (some ⟨c2_b,0,none⟩))] [] [Bx c0_b [(.int .i64 c0_)],Bx c1_b [(c1_h).v],E (List (List Int)) c1_ c1_h,Bx c2_b [(c2_h).v],E (List (List Int)) c2_ c2_h] (fun v Γ'=>v = (.tuple #[]) ∧ Γ' = [Bx c0_b [(.int .i64 c0_)],Bx c1_b [(c1_h).v],E (List (List Int)) y0 c1_h,Bx c2_b [(c2_h).v],E (List (List Int)) y1 c2_h]):=by
 intro w0 S0 fp0 hI hS
 have H:Cx w0 fp0 S0 w0 [Bx c0_b [(.int .i64 c0_)],Bx c1_b [(c1_h).v],E (List (List Int)) c1_ c1_h,Bx c2_b [(c2_h).v],E (List (List Int)) c2_ c2_h]:=Cx.start hI hS
 clear hI hS
 refine enterC (args:=[_,_,_,_]) gok Tryz.func142 rfl _ rfl rfl rfl ?_
 refine box_ H ?_;clear H;intro b7 w6 hx H
 clear hx
 refine sq ?_
 refine loadN [(.int .i64 o__0),(.int .i64 o__1),(.int .i64 o__2),(.int .i64 o__3)] rfl (fun j u hj=>H.bx 0 rfl hj) ?_
 refine fld gok rfl rfl rfl rfl ?_
 refine load1 (H.bx 0 rfl (j:=1) rfl) ?_
 refine fld gok rfl rfl rfl rfl ?_
 refine load1 (H.bx 0 rfl (j:=1) rfl) ?_
 refine build_ (cs:=#[(.int .i64 0),(.int .i64 o__1),(.int .i64 o__1),(.int .i64 0)]) gok rfl rfl rfl ?_
 obtain ⟨a9,e,f0⟩:=bindS hF;clear hF
 refine eqA gok rfl Tryz.underlying160 (by kernel_rfl) (by kernel_rfl) (by kernel_rfl) (by refine ⟨rfl,⟨_,_,rfl⟩,rfl,⟨_,_,rfl⟩,rfl,⟨_,_,rfl⟩,rfl,⟨_,_,rfl⟩,trivial⟩) (ls:=[o__0,o__1,o__2,o__3]) (bs:=[0,o__1,o__1,0]) rfl rfl rfl rfl e ?_;clear e
 cases a9
 ·
  have f1:=condF f0;clear f0
  refine loadN [(.int .i64 o__0),(.int .i64 o__1),(.int .i64 o__2),(.int .i64 o__3)] rfl (fun j u hj=>H.bx 0 rfl hj) ?_
  refine load1 (H.bx0 1 rfl) ?_
  refine load1 (H.bx0 2 rfl) ?_
  obtain ⟨y2,e,f2⟩:=bindS f1;clear f1
  have ey12:=e;clear e
  replace H:=H.sel [3,0,1,2,4,5] rfl
  refine callF (impl_rowOperation_apply_c o__0 o__1 o__2 o__3 c0_ c1_ c1_h y2 ey12) (Γi:=[E (List (List Int)) c1_ c1_h]) H trivial ?_;clear H ey12
  rintro _ _ w1 ⟨rfl,rfl⟩ H
  refine loadN [(.int .i64 o__0),(.int .i64 o__1),(.int .i64 o__2),(.int .i64 o__3)] rfl (fun j u hj=>H.bx 1 rfl hj) ?_
  refine load1 (H.bx0 2 rfl) ?_
  refine load1 (H.bx0 4 rfl) ?_
  obtain ⟨y3,e,f3⟩:=bindS f2;clear f2
  have ey15:=e;clear e
  replace H:=H.sel [5,0,1,2,3,4] rfl
  refine callF (impl_rowOperation_apply_c o__0 o__1 o__2 o__3 c0_ c2_ c2_h y3 ey15) (Γi:=[E (List (List Int)) c2_ c2_h]) H trivial ?_;clear H ey15
  rintro _ _ w2 ⟨rfl,rfl⟩ H
  cases f3
  exact ⟨_,_,rfl,⟨rfl,rfl⟩,(H.sel [3,4,1,5,0] rfl).close ⟨cloB,cloB,cloE,cloB,cloE,trivial⟩⟩
 ·
  have f4:=condT f0;clear f0
  cases f4
  exact ⟨_,_,rfl,⟨rfl,rfl⟩,(H.sel [1,2,3,4,5] rfl).close ⟨cloB,cloB,cloE,cloB,cloE,trivial⟩⟩
theorem impl_reduction_c (p_:Int) (rows_:List (List Int)) (rows_h:Hd) (n_:Int) (also_:List (List Int)) (also_h:Hd) (y0:List (List Int)) (y1:List (List Int)) (y2:Int) (hF:F_impl_reduction p_ rows_ n_ also_ = some (y0,y1,y2)) :
  ConF Tryz.prog 117 #[(.int .i64 p_),(rows_h).v,(.int .i64 n_),(also_h).v] [] [E (List (List Int)) rows_ rows_h,E (List (List Int)) also_ also_h] (fun v Γ'=>v = (.int .i64 y2) ∧ Γ' = [E (List (List Int)) y0 rows_h,E (List (List Int)) y1 also_h]):=by
 intro w0 S0 fp0 hI hS
 have H:Cx w0 fp0 S0 w0 [E (List (List Int)) rows_ rows_h,E (List (List Int)) also_ also_h]:=Cx.start hI hS
 clear hI hS
 refine enterC (args:=[_,_,_,_]) gok Tryz.func117 rfl _ rfl rfl rfl ?_
 refine box_ H ?_;clear H;intro b4 w3 hx H
 clear hx
 refine box_ H ?_;clear H;intro b7 w6 hx H
 clear hx
 refine box_ H ?_;clear H;intro b0 w9 hx H
 clear hx
 obtain ⟨r0,f0,f1⟩:=bindS hF;clear hF
 refine cut (fun (q0:List (List Int) × List (List Int) × Int)=>[(9,(.int .i64 q0.2.2))]) (fun (q0:List (List Int) × List (List Int) × Int) w'=>(q0.1,q0.2.1,q0.2.2) = r0 ∧ Cx w0 fp0 S0 w' [E (List (List Int)) q0.1 rows_h,E (List (List Int)) q0.2.1 also_h]) ?_ ?_
 ·
  refine loopW _ (fun (s0:List (List Int) × List (List Int) × Int × Int) (_:Unit)=>[(2,(.int .i64 n_)),(5,(.pointer (some ⟨b7,0,none⟩))),(9,(.int .i64 s0.2.2.2)),(10,(.func (.func 142) #[] #[(.pointer (some ⟨b4,0,none⟩)),(.pointer (some ⟨b7,0,none⟩)),(.pointer (some ⟨b0,0,none⟩))])),(11,(.int .i64 s0.2.2.1))]) (fun (s0:List (List Int) × List (List Int) × Int × Int) (_:Unit) w'=>Cx w0 fp0 S0 w' [Bx b7 [(rows_h).v],E (List (List Int)) s0.1 rows_h,Bx b4 [(.int .i64 p_)],Bx b0 [(also_h).v],E (List (List Int)) s0.2.1 also_h]) (rows_,also_,0,0) () f0 ⟨rfl,rfl,rfl,rfl,rfl,trivial⟩ (H.sel [1,3,2,0,4] rfl) ?_
  ·
   clear H
   rintro T0 ⟨s0_0,s0_1,s0_2,s0_3⟩ _ w1 o0 (H:Cx w0 fp0 S0 w1 [Bx b7 [(rows_h).v],E (List (List Int)) s0_0 rows_h,Bx b4 [(.int .i64 p_)],Bx b0 [(also_h).v],E (List (List Int)) s0_1 also_h]) hrt f2
   refine sq ?_
   obtain ⟨r1,f3,f4⟩:=bindS f2;clear f2
   refine cut (fun (q1:Bool)=>[(2,(.int .i64 n_)),(5,(.pointer (some ⟨b7,0,none⟩))),(9,(.int .i64 s0_3)),(10,(.func (.func 142) #[] #[(.pointer (some ⟨b4,0,none⟩)),(.pointer (some ⟨b7,0,none⟩)),(.pointer (some ⟨b0,0,none⟩))])),(11,(.int .i64 s0_2)),(23,(.bool q1))]) (fun (q1:Bool) w'=>q1 = r1 ∧ Cx w0 fp0 S0 w' [Bx b7 [(rows_h).v],E (List (List Int)) s0_0 rows_h,Bx b4 [(.int .i64 p_)],Bx b0 [(also_h).v],E (List (List Int)) s0_1 also_h]) ?_ ?_
   ·
    obtain ⟨a0,e,f5⟩:=bindS f3;clear f3
    refine boolO e ?_;clear e
    cases a0
    ·
     have f6:=condF f5;clear f5
     exact ⟨false,⟨rfl,rfl,rfl,rfl,rfl,rfl,trivial⟩,Option.some.inj f6,H.sel [0,1,2,3,4] rfl⟩
    ·
     have f7:=condT f5;clear f5
     refine load1 (H.bx0 0 rfl) ?_
     refine lenE (H.ro (α:=List (List Int)) 1 rfl).len ?_
     obtain ⟨a1,e,f8⟩:=bindS f7;clear f7
     refine boolO e ?_;clear e
     exact ⟨a1,⟨rfl,rfl,rfl,rfl,rfl,rfl,trivial⟩,Option.some.inj f8,H.sel [0,1,2,3,4] rfl⟩
   ·
    clear f3 H
    rintro T1 s1 w2 ⟨hr,(H:Cx w0 fp0 S0 w2 [Bx b7 [(rows_h).v],E (List (List Int)) s0_0 rows_h,Bx b4 [(.int .i64 p_)],Bx b0 [(also_h).v],E (List (List Int)) s0_1 also_h])⟩
    subst hr
    cases s1
    ·
     have f9:=condF f4;clear f4
     have hs:=Option.some.inj f9;subst hs;clear f9
     have f10:some _ = some _:=congrArg some (hrt _ rfl).symm
     exact ⟨(s0_0,s0_1,s0_3),⟨rfl,trivial⟩,Option.some.inj f10,H.sel [1,4] rfl⟩
    ·
     have f11:=condT f4;clear f4
     obtain ⟨r2,f12,f13⟩:=bindS f11;clear f11
     refine cut (fun (q2:List (List Int) × List (List Int) × Int)=>[(2,(.int .i64 n_)),(5,(.pointer (some ⟨b7,0,none⟩))),(9,(.int .i64 q2.2.2)),(10,(.func (.func 142) #[] #[(.pointer (some ⟨b4,0,none⟩)),(.pointer (some ⟨b7,0,none⟩)),(.pointer (some ⟨b0,0,none⟩))])),(11,(.int .i64 s0_2))]) (fun (q2:List (List Int) × List (List Int) × Int) w'=>(q2.1,q2.2.1,q2.2.2) = r2 ∧ Cx w0 fp0 S0 w' [Bx b7 [(rows_h).v],E (List (List Int)) q2.1 rows_h,Bx b4 [(.int .i64 p_)],Bx b0 [(also_h).v],E (List (List Int)) q2.2.1 also_h]) ?_ ?_
     ·
      obtain ⟨r3,f14,f15⟩:=bindS f12;clear f12
      refine cut (fun (q3:Int)=>[(2,(.int .i64 n_)),(5,(.pointer (some ⟨b7,0,none⟩))),(9,(.int .i64 s0_3)),(10,(.func (.func 142) #[] #[(.pointer (some ⟨b4,0,none⟩)),(.pointer (some ⟨b7,0,none⟩)),(.pointer (some ⟨b0,0,none⟩))])),(11,(.int .i64 s0_2)),(12,(.int .i64 q3))]) (fun (q3:Int) w'=>q3 = r3 ∧ Cx w0 fp0 S0 w' [Bx b7 [(rows_h).v],E (List (List Int)) s0_0 rows_h,Bx b4 [(.int .i64 p_)],Bx b0 [(also_h).v],E (List (List Int)) s0_1 also_h]) ?_ ?_
      ·
       refine loopW _ (fun (s2:Int) (_:Unit)=>[(2,(.int .i64 n_)),(5,(.pointer (some ⟨b7,0,none⟩))),(9,(.int .i64 s0_3)),(10,(.func (.func 142) #[] #[(.pointer (some ⟨b4,0,none⟩)),(.pointer (some ⟨b7,0,none⟩)),(.pointer (some ⟨b0,0,none⟩))])),(11,(.int .i64 s0_2)),(12,(.int .i64 s2))]) (fun (s2:Int) (_:Unit) w'=>Cx w0 fp0 S0 w' [Bx b7 [(rows_h).v],E (List (List Int)) s0_0 rows_h,Bx b4 [(.int .i64 p_)],Bx b0 [(also_h).v],E (List (List Int)) s0_1 also_h]) s0_3 () f14 ⟨rfl,rfl,rfl,rfl,rfl,rfl,trivial⟩ (H.sel [0,1,2,3,4] rfl) ?_
       ·
        clear H
        rintro T2 s2 _ w4 o1 (H:Cx w0 fp0 S0 w4 [Bx b7 [(rows_h).v],E (List (List Int)) s0_0 rows_h,Bx b4 [(.int .i64 p_)],Bx b0 [(also_h).v],E (List (List Int)) s0_1 also_h]) hrt f16
        refine sq ?_
        obtain ⟨r4,f17,f18⟩:=bindS f16;clear f16
        refine cut (fun (q4:Bool)=>[(2,(.int .i64 n_)),(5,(.pointer (some ⟨b7,0,none⟩))),(9,(.int .i64 s0_3)),(10,(.func (.func 142) #[] #[(.pointer (some ⟨b4,0,none⟩)),(.pointer (some ⟨b7,0,none⟩)),(.pointer (some ⟨b0,0,none⟩))])),(11,(.int .i64 s0_2)),(12,(.int .i64 s2)),(40,(.bool q4))]) (fun (q4:Bool) w'=>q4 = r4 ∧ Cx w0 fp0 S0 w' [Bx b7 [(rows_h).v],E (List (List Int)) s0_0 rows_h,Bx b4 [(.int .i64 p_)],Bx b0 [(also_h).v],E (List (List Int)) s0_1 also_h]) ?_ ?_
        ·
         refine load1 (H.bx0 0 rfl) ?_
         refine lenE (H.ro (α:=List (List Int)) 1 rfl).len ?_
         obtain ⟨a2,e,f19⟩:=bindS f17;clear f17
         refine boolO e ?_;clear e
         cases a2
         ·
          have f20:=condF f19;clear f19
          exact ⟨false,⟨rfl,rfl,rfl,rfl,rfl,rfl,rfl,trivial⟩,Option.some.inj f20,H.sel [0,1,2,3,4] rfl⟩
         ·
          have f21:=condT f19;clear f19
          refine load1 (H.bx0 0 rfl) ?_
          obtain ⟨a3,e,f22⟩:=bindS f21;clear f21
          replace H:=H.sel [1,0,2,3,4] rfl
          replace H:=H.toEH (α:=List Int)
          have HH:=H;clear H;obtain ⟨p0,m0,h0,c0,c1,c2,c3,H⟩:=HH.peekL e;clear HH
          clear e
          refine idxE c0 c1 c2 ?_
          refine load1 c3 ?_;clear c3
          obtain ⟨a4,e,f23⟩:=bindS f22;clear f22
          obtain ⟨p1,m1,c4,c5,c6,c7⟩:=(H.rh (α:=List Int) 0 rfl 0 rfl).at1 e;clear e
          refine idxE c4 c5 c6 ?_;clear c4 c5 c6
          refine load1 c7 ?_;clear c7
          obtain ⟨a5,e,f24⟩:=bindS f23;clear f23
          refine boolO e ?_;clear e
          replace H:=H.ofEH
          exact ⟨a5,⟨rfl,rfl,rfl,rfl,rfl,rfl,rfl,trivial⟩,Option.some.inj f24,H.sel [1,0,2,3,4] rfl⟩
        ·
         clear f17 H
         rintro T3 s3 w5 ⟨hr,(H:Cx w0 fp0 S0 w5 [Bx b7 [(rows_h).v],E (List (List Int)) s0_0 rows_h,Bx b4 [(.int .i64 p_)],Bx b0 [(also_h).v],E (List (List Int)) s0_1 also_h])⟩
         subst hr
         cases s3
         ·
          have f25:=condF f18;clear f18
          have hs:=Option.some.inj f25;subst hs;clear f25
          have f26:some _ = some _:=congrArg some (hrt _ rfl).symm
          exact ⟨s2,⟨rfl,rfl,rfl,rfl,rfl,rfl,trivial⟩,Option.some.inj f26,H.sel [0,1,2,3,4] rfl⟩
         ·
          have f27:=condT f18;clear f18
          obtain ⟨a6,e,f28⟩:=bindS f27;clear f27
          refine arO e ?_;clear e
          have hs:=Option.some.inj f28;subst hs;clear f28
          exact ⟨a6,(),rfl,⟨rfl,rfl,rfl,rfl,rfl,rfl,trivial⟩,H.sel [0,1,2,3,4] rfl⟩
      ·
       clear f14 H
       rintro T4 s4 w7 ⟨hr,(H:Cx w0 fp0 S0 w7 [Bx b7 [(rows_h).v],E (List (List Int)) s0_0 rows_h,Bx b4 [(.int .i64 p_)],Bx b0 [(also_h).v],E (List (List Int)) s0_1 also_h])⟩
       subst hr
       refine sq ?_
       refine load1 (H.bx0 0 rfl) ?_
       refine lenE (H.ro (α:=List (List Int)) 1 rfl).len ?_
       obtain ⟨a7,e,f29⟩:=bindS f15;clear f15
       refine boolO e ?_;clear e
       cases a7
       ·
        have f30:=condF f29;clear f29
        refine build_ (cs:=#[(.int .i64 0),(.int .i64 s0_3),(.int .i64 s4),(.int .i64 0)]) gok rfl rfl rfl ?_
        obtain ⟨y3,e,f31⟩:=bindS f30;clear f30
        obtain ⟨y3_0,y3_1⟩:=y3
        have ey7870:=e;clear e
        replace H:=H.sel [2,0,1,3,4] rfl
        refine callF (impl_reduction_1_c 0 s0_3 s4 0 b4 p_ b7 s0_0 rows_h b0 s0_1 also_h y3_0 y3_1 ey7870) (Γi:=[Bx b4 [(.int .i64 p_)],Bx b7 [(rows_h).v],E (List (List Int)) s0_0 rows_h,Bx b0 [(also_h).v],E (List (List Int)) s0_1 also_h]) H trivial ?_;clear H ey7870
        rintro _ _ w8 ⟨rfl,rfl⟩ H
        refine load1 (H.bx0 1 rfl) ?_
        obtain ⟨a8,e,f32⟩:=bindS f31;clear f31
        replace H:=H.sel [2,0,1,3,4] rfl
        replace H:=H.toEH (α:=List Int)
        have HH:=H;clear H;obtain ⟨p2,m2,h1,c8,c9,c10,c11,H⟩:=HH.peekL e;clear HH
        clear e
        refine idxE c8 c9 c10 ?_
        refine load1 c11 ?_;clear c11
        obtain ⟨a9,e,f33⟩:=bindS f32;clear f32
        obtain ⟨p3,m3,c12,c13,c14,c15⟩:=(H.rh (α:=List Int) 0 rfl 0 rfl).at1 e;clear e
        refine idxE c12 c13 c14 ?_;clear c12 c13 c14
        refine load1 c15 ?_;clear c15
        refine build_ (cs:=#[(.int .i64 1),(.int .i64 s0_3),(.int .i64 0),(.int .i64 a9)]) gok rfl rfl rfl ?_
        replace H:=H.ofEH
        obtain ⟨y4,e,f34⟩:=bindS f33;clear f33
        obtain ⟨y4_0,y4_1⟩:=y4
        have ey7890:=e;clear e
        replace H:=H.sel [1,2,0,3,4] rfl
        refine callF (impl_reduction_1_c 1 s0_3 0 a9 b4 p_ b7 y3_0 rows_h b0 y3_1 also_h y4_0 y4_1 ey7890) (Γi:=[Bx b4 [(.int .i64 p_)],Bx b7 [(rows_h).v],E (List (List Int)) y3_0 rows_h,Bx b0 [(also_h).v],E (List (List Int)) y3_1 also_h]) H trivial ?_;clear H ey7890
        rintro _ _ w10 ⟨rfl,rfl⟩ H
        refine sq ?_
        refine load1 (H.bx0 1 rfl) ?_
        refine lenE (H.ro (α:=List (List Int)) 2 rfl).len ?_
        have x0:=(H.ro (α:=List (List Int)) 2 rfl).max
        obtain ⟨r5,e,f35⟩:=bindS f34;clear f34
        refine loopS _ y4_0.length (fun (k0:Nat) (s5:List (List Int) × List (List Int)) (_:Unit)=>[(2,(.int .i64 n_)),(5,(.pointer (some ⟨b7,0,none⟩))),(9,(.int .i64 s0_3)),(10,(.func (.func 142) #[] #[(.pointer (some ⟨b4,0,none⟩)),(.pointer (some ⟨b7,0,none⟩)),(.pointer (some ⟨b0,0,none⟩))])),(11,(.int .i64 s0_2)),(64,(.int .i64 ((y4_0.length:Nat):Int))),(65,(.int .i64 ((k0:Nat):Int)))]) (fun _ (s5:List (List Int) × List (List Int)) (_:Unit) w'=>Cx w0 fp0 S0 w' [Bx b7 [(rows_h).v],E (List (List Int)) s5.1 rows_h,Bx b4 [(.int .i64 p_)],Bx b0 [(also_h).v],E (List (List Int)) s5.2 also_h]) (y4_0,y4_1) () e ⟨rfl,rfl,rfl,rfl,rfl,rfl,rfl,trivial⟩ (H.sel [1,2,0,3,4] rfl) ?_ ?_
        ·
         clear H e
         rintro T5 k0 ⟨s5_0,s5_1⟩ _ w11 o2 hk (H:Cx w0 fp0 S0 w11 [Bx b7 [(rows_h).v],E (List (List Int)) s5_0 rows_h,Bx b4 [(.int .i64 p_)],Bx b0 [(also_h).v],E (List (List Int)) s5_1 also_h]) f36
         refine boolE (z:=true) (ltLen hk) ?_
         refine sq ?_
         refine sq ?_
         obtain ⟨r6,f37,f38⟩:=bindS f36;clear f36
         refine cut (fun (q5:Bool)=>[(2,(.int .i64 n_)),(5,(.pointer (some ⟨b7,0,none⟩))),(9,(.int .i64 s0_3)),(10,(.func (.func 142) #[] #[(.pointer (some ⟨b4,0,none⟩)),(.pointer (some ⟨b7,0,none⟩)),(.pointer (some ⟨b0,0,none⟩))])),(11,(.int .i64 s0_2)),(13,(.int .i64 ((k0:Nat):Int))),(64,(.int .i64 ((y4_0.length:Nat):Int))),(65,(.int .i64 ((k0:Nat):Int))),(80,(.bool q5))]) (fun (q5:Bool) w'=>q5 = r6 ∧ Cx w0 fp0 S0 w' [Bx b7 [(rows_h).v],E (List (List Int)) s5_0 rows_h,Bx b4 [(.int .i64 p_)],Bx b0 [(also_h).v],E (List (List Int)) s5_1 also_h]) ?_ ?_
         ·
          obtain ⟨a10,e,f39⟩:=bindS f37;clear f37
          refine boolO e ?_;clear e
          cases a10
          ·
           have f40:=condF f39;clear f39
           exact ⟨false,⟨rfl,rfl,rfl,rfl,rfl,rfl,rfl,rfl,rfl,trivial⟩,Option.some.inj f40,H.sel [0,1,2,3,4] rfl⟩
          ·
           have f41:=condT f39;clear f39
           refine load1 (H.bx0 0 rfl) ?_
           obtain ⟨a11,e,f42⟩:=bindS f41;clear f41
           replace H:=H.sel [1,0,2,3,4] rfl
           replace H:=H.toEH (α:=List Int)
           have HH:=H;clear H;obtain ⟨p4,m4,h2,c16,c17,c18,c19,H⟩:=HH.peekL e;clear HH
           clear e
           refine idxE c16 c17 c18 ?_
           refine load1 c19 ?_;clear c19
           obtain ⟨a12,e,f43⟩:=bindS f42;clear f42
           obtain ⟨p5,m5,c20,c21,c22,c23⟩:=(H.rh (α:=List Int) 0 rfl 0 rfl).at1 e;clear e
           refine idxE c20 c21 c22 ?_;clear c20 c21 c22
           refine load1 c23 ?_;clear c23
           obtain ⟨a13,e,f44⟩:=bindS f43;clear f43
           refine boolO e ?_;clear e
           replace H:=H.ofEH
           exact ⟨a13,⟨rfl,rfl,rfl,rfl,rfl,rfl,rfl,rfl,rfl,trivial⟩,Option.some.inj f44,H.sel [1,0,2,3,4] rfl⟩
         ·
          clear f37 H
          rintro T6 s6 w12 ⟨hr,(H:Cx w0 fp0 S0 w12 [Bx b7 [(rows_h).v],E (List (List Int)) s5_0 rows_h,Bx b4 [(.int .i64 p_)],Bx b0 [(also_h).v],E (List (List Int)) s5_1 also_h])⟩
          subst hr
          cases s6
          ·
           have f45:=condF f38;clear f38
           refine arK hk x0 ?_
           have hs:=Option.some.inj f45;subst hs;clear f45
           exact ⟨(),⟨rfl,rfl,rfl,rfl,rfl,rfl,rfl,trivial⟩,H.sel [0,1,2,3,4] rfl⟩
          ·
           have f46:=condT f38;clear f38
           refine load1 (H.bx0 0 rfl) ?_
           obtain ⟨a14,e,f47⟩:=bindS f46;clear f46
           replace H:=H.sel [1,0,2,3,4] rfl
           replace H:=H.toEH (α:=List Int)
           have HH:=H;clear H;obtain ⟨p6,m6,h3,c24,c25,c26,c27,H⟩:=HH.peekL e;clear HH
           clear e
           refine idxE c24 c25 c26 ?_
           refine load1 c27 ?_;clear c27
           obtain ⟨a15,e,f48⟩:=bindS f47;clear f47
           obtain ⟨p7,m7,c28,c29,c30,c31⟩:=(H.rh (α:=List Int) 0 rfl 0 rfl).at1 e;clear e
           refine idxE c28 c29 c30 ?_;clear c28 c29 c30
           refine load1 c31 ?_;clear c31
           refine build_ (cs:=#[(.int .i64 2),(.int .i64 ((k0:Nat):Int)),(.int .i64 s0_3),(.int .i64 a15)]) gok rfl rfl rfl ?_
           replace H:=H.ofEH
           obtain ⟨y5,e,f49⟩:=bindS f48;clear f48
           obtain ⟨y5_0,y5_1⟩:=y5
           have ey8132:=e;clear e
           replace H:=H.sel [2,1,0,3,4] rfl
           refine callF (impl_reduction_1_c 2 ((k0:Nat):Int) s0_3 a15 b4 p_ b7 s5_0 rows_h b0 s5_1 also_h y5_0 y5_1 ey8132) (Γi:=[Bx b4 [(.int .i64 p_)],Bx b7 [(rows_h).v],E (List (List Int)) s5_0 rows_h,Bx b0 [(also_h).v],E (List (List Int)) s5_1 also_h]) H trivial ?_;clear H ey8132
           rintro _ _ w13 ⟨rfl,rfl⟩ H
           refine arK hk x0 ?_
           have hs:=Option.some.inj f49;subst hs;clear f49
           exact ⟨(),⟨rfl,rfl,rfl,rfl,rfl,rfl,rfl,trivial⟩,H.sel [1,2,0,3,4] rfl⟩
        ·
         clear H e
         obtain ⟨s7_0,s7_1⟩:=r5
         rintro T7 _ w14 (H:Cx w0 fp0 S0 w14 [Bx b7 [(rows_h).v],E (List (List Int)) s7_0 rows_h,Bx b4 [(.int .i64 p_)],Bx b0 [(also_h).v],E (List (List Int)) s7_1 also_h])
         refine boolE (z:=false) geLen ?_
         refine sq ?_
         obtain ⟨a16,e,f50⟩:=bindS f35;clear f35
         refine arO e ?_;clear e
         exact ⟨(s7_0,s7_1,a16),⟨rfl,rfl,rfl,rfl,rfl,trivial⟩,Option.some.inj f50,H.sel [0,1,2,3,4] rfl⟩
       ·
        have f51:=condT f29;clear f29
        exact ⟨(s0_0,s0_1,s0_3),⟨rfl,rfl,rfl,rfl,rfl,trivial⟩,Option.some.inj f51,H.sel [0,1,2,3,4] rfl⟩
     ·
      clear f12 H
      rintro T8 ⟨s8_0,s8_1,s8_2⟩ w15 ⟨hr,(H:Cx w0 fp0 S0 w15 [Bx b7 [(rows_h).v],E (List (List Int)) s8_0 rows_h,Bx b4 [(.int .i64 p_)],Bx b0 [(also_h).v],E (List (List Int)) s8_1 also_h])⟩
      subst hr
      obtain ⟨a17,e,f52⟩:=bindS f13;clear f13
      refine arO e ?_;clear e
      have hs:=Option.some.inj f52;subst hs;clear f52
      exact ⟨(s8_0,s8_1,a17,s8_2),(),rfl,⟨rfl,rfl,rfl,rfl,rfl,trivial⟩,H.sel [0,1,2,3,4] rfl⟩
 ·
  clear f0 H
  rintro T9 ⟨s9_0,s9_1,s9_2⟩ w16 ⟨hr,(H:Cx w0 fp0 S0 w16 [E (List (List Int)) s9_0 rows_h,E (List (List Int)) s9_1 also_h])⟩
  subst hr
  cases f1
  exact ⟨_,_,rfl,⟨rfl,rfl⟩,(H.sel [0,1] rfl).close ⟨cloE,cloE,trivial⟩⟩
theorem impl_reduced_c (p_:Int) (rows_:List (List Int)) (rows_h:Hd) (n_:Int) (y:List (List Int)) (hF:F_impl_reduced p_ rows_ n_ = some y) :
  ConF Tryz.prog 118 #[(.int .i64 p_),(rows_h).v,(.int .i64 n_)] [Es (List (List Int)) rows_ rows_h] [] (fun v Γ'=>∃ z0:Hd,v = (z0).v ∧ Γ' = [E (List (List Int)) y z0]):=by
 intro w0 S0 fp0 hI hS
 have H:Cx w0 fp0 S0 w0 [Es (List (List Int)) rows_ rows_h]:=Cx.start hI hS
 clear hI hS
 refine enterC (args:=[_,_,_]) gok Tryz.func118 rfl _ rfl rfl rfl ?_
 obtain ⟨y2,e,hF3⟩:=bindS hF;clear hF
 have ey2:=e;clear e
 refine callF (impl_clones_c rows_ rows_h y2 ey2) (Γi:=[]) H ⟨Vw.sh 0 rfl,trivial⟩ ?_;clear H ey2
 rintro _ _ w4 ⟨h5,rfl,rfl⟩ H
 refine lenE (H.ro (α:=List (List Int)) 0 rfl).len ?_
 obtain ⟨a7,e,hF8⟩:=bindS hF3;clear hF3
 refine make_ (α:=List Int) gok rfl rfl rfl rfl (makeCO_of e) H ?_;clear e H;intro h0 w9 hx H
 clear hx
 obtain ⟨y0,e,f0⟩:=bindS hF8;clear hF8
 obtain ⟨y0_0,y0_1,y0_2⟩:=y0
 have ey12:=e;clear e
 replace H:=H.sel [1,0,2] rfl
 refine callF (impl_reduction_c p_ y2 h5 n_ a7 h0 y0_0 y0_1 y0_2 ey12) (Γi:=[E (List (List Int)) y2 h5,E (List (List Int)) a7 h0]) H trivial ?_;clear H ey12
 rintro _ _ w1 ⟨rfl,rfl⟩ H
 obtain ⟨a0,e,f1⟩:=bindS f0;clear f0
 refine slO3 (α:=List Int) gok rfl rfl H e ?_;clear e H;intro h1 H
 cases f1
 exact ⟨_,_,rfl,⟨h1,rfl,rfl⟩,(H.sel [0] rfl).close ⟨cloE,trivial⟩⟩
theorem impl_kernel_c (p_:Int) (rows_:List (List Int)) (rows_h:Hd) (n_:Int) (y:List (List Int)) (hF:F_impl_kernel p_ rows_ n_ = some y) :
  ConF Tryz.prog 89 #[(.int .i64 p_),(rows_h).v,(.int .i64 n_)] [Es (List (List Int)) rows_ rows_h] [] (fun v Γ'=>∃ z0:Hd,v = (z0).v ∧ Γ' = [E (List (List Int)) y z0]):=by
 intro w0 S0 fp0 hI hS
 have H:Cx w0 fp0 S0 w0 [Es (List (List Int)) rows_ rows_h]:=Cx.start hI hS
 clear hI hS
 refine enterC (args:=[_,_,_]) gok Tryz.func89 rfl _ rfl rfl rfl ?_
 obtain ⟨y2,e,hF3⟩:=bindS hF;clear hF
 have ey2:=e;clear e
 refine callF (impl_clones_c rows_ rows_h y2 ey2) (Γi:=[]) H ⟨Vw.sh 0 rfl,trivial⟩ ?_;clear H ey2
 rintro _ _ w4 ⟨h5,rfl,rfl⟩ H
 refine lenE (H.rs (α:=List (List Int)) 1 rfl).len ?_
 obtain ⟨y7,e,hF8⟩:=bindS hF3;clear hF3
 have ey7:=e;clear e
 refine callF (impl_identityRows_c ((rows_.length:Nat):Int) y7 ey7) (Γi:=[]) H trivial ?_;clear H ey7
 rintro _ _ w9 ⟨h0,rfl,rfl⟩ H
 obtain ⟨y0,e,f0⟩:=bindS hF8;clear hF8
 obtain ⟨y0_0,y0_1,y0_2⟩:=y0
 have ey12:=e;clear e
 replace H:=H.sel [1,0,2] rfl
 refine callF (impl_reduction_c p_ y2 h5 n_ y7 h0 y0_0 y0_1 y0_2 ey12) (Γi:=[E (List (List Int)) y2 h5,E (List (List Int)) y7 h0]) H trivial ?_;clear H ey12
 rintro _ _ w1 ⟨rfl,rfl⟩ H
 obtain ⟨a0,e,f1⟩:=bindS f0;clear f0
 replace H:=H.sel [1,0,2] rfl
 replace H:=H.frz
 refine slS (α:=List Int) (hi:=none) gok rfl rfl H 0 rfl e rfl (congrArg (fun n:Nat=>some (n:Int)) (H.rs (α:=List (List Int)) 0 rfl).len) ?_;clear e H;intro h1 H
 refine lenE (H.rs (α:=List (List Int)) 3 rfl).len ?_
 obtain ⟨y1,e,f2⟩:=bindS f1;clear f1
 have ey19:=e;clear e
 refine callF (impl_reduced_c p_ a0 h1 ((rows_.length:Nat):Int) y1 ey19) (Γi:=[]) H ⟨Vw.sh 0 rfl,trivial⟩ ?_;clear H ey19
 rintro _ _ w2 ⟨h2,rfl,rfl⟩ H
 cases f2
 exact ⟨_,_,rfl,⟨h2,rfl,rfl⟩,(H.sel [0] rfl).close ⟨cloE,trivial⟩⟩
theorem impl_combine_c (p_:Int) (x_:List Int) (x_h:Hd) (rows_:List (List Int)) (rows_h:Hd) (n_:Int) (y:List Int) (hF:F_impl_combine p_ x_ rows_ n_ = some y) :
  ConF Tryz.prog 90 #[(.int .i64 p_),(x_h).v,(rows_h).v,(.int .i64 n_)] [Es (List Int) x_ x_h,Es (List (List Int)) rows_ rows_h] [] (fun v Γ'=>∃ z0:Hd,v = (z0).v ∧ Γ' = [E (List Int) y z0]):=by
 intro w0 S0 fp0 hI hS
 have H:Cx w0 fp0 S0 w0 [Es (List Int) x_ x_h,Es (List (List Int)) rows_ rows_h]:=Cx.start hI hS
 clear hI hS
 refine enterC (args:=[_,_,_,_]) gok Tryz.func90 rfl _ rfl rfl rfl ?_
 obtain ⟨y3,e,hF4⟩:=bindS hF;clear hF
 have ey3:=e;clear e
 refine callF (impl_zeros_c n_ y3 ey3) (Γi:=[]) H trivial ?_;clear H ey3
 rintro _ _ w5 ⟨h6,rfl,rfl⟩ H
 refine sq ?_
 refine lenE (H.rs (α:=List (List Int)) 2 rfl).len ?_
 have x0:=(H.rs (α:=List (List Int)) 2 rfl).max
 obtain ⟨r0,e,f0⟩:=bindS hF4;clear hF4
 refine loopS _ rows_.length (fun (k8:Nat) (s0:List Int) (_:Unit)=>[(0,(.int .i64 p_)),(1,(x_h).v),(9,(h6).v),(14,(rows_h).v),(15,(.int .i64 ((rows_.length:Nat):Int))),(16,(.int .i64 ((k8:Nat):Int)))]) (fun _ (s0:List Int) (_:Unit) w'=>Cx w0 fp0 S0 w' [Es (List Int) x_ x_h,E (List Int) s0 h6,Es (List (List Int)) rows_ rows_h]) y3 () e ⟨rfl,rfl,rfl,rfl,rfl,rfl,trivial⟩ (H.sel [1,0,2] rfl) ?_ ?_
 ·
  clear H e
  rintro T0 k8 s0 _ w1 o0 hk (H:Cx w0 fp0 S0 w1 [Es (List Int) x_ x_h,E (List Int) s0 h6,Es (List (List Int)) rows_ rows_h]) f1
  refine boolE (z:=true) (ltLen hk) ?_
  refine sq ?_
  refine sq ?_
  obtain ⟨a0,e,f2⟩:=bindS f1;clear f1
  have HH:=H;clear H;obtain ⟨p0,m0,h0,c0,c1,c2,c3,H⟩:=HH.elL 2 rfl e;clear HH
  clear e
  refine idxE c0 c1 c2 ?_;clear c0 c1 c2
  refine load1 c3 ?_;clear c3
  obtain ⟨a1,e,f3⟩:=bindS f2;clear f2
  obtain ⟨p1,m1,c4,c5,c6,c7⟩:=(H.rs (α:=List Int) 1 rfl).at1 e;clear e
  refine idxE c4 c5 c6 ?_;clear c4 c5 c6
  refine load1 c7 ?_;clear c7
  obtain ⟨y0,e,f4⟩:=bindS f3;clear f3
  have ey82:=e;clear e
  replace H:=H.sel [2,0,1,3] rfl
  refine callF (impl_addTimes_c p_ s0 h6 a1 a0 h0 y0 ey82) (Γi:=[E (List Int) s0 h6]) H ⟨Vw.sh 0 rfl,trivial⟩ ?_;clear H ey82
  rintro _ _ w2 ⟨rfl,rfl⟩ H
  refine arK hk x0 ?_
  have hs:=Option.some.inj f4;subst hs;clear f4
  exact ⟨(),⟨rfl,rfl,rfl,rfl,rfl,rfl,trivial⟩,H.sel [2,0,3] rfl⟩
 ·
  clear H e
  rintro T1 _ w3 (H:Cx w0 fp0 S0 w3 [Es (List Int) x_ x_h,E (List Int) r0 h6,Es (List (List Int)) rows_ rows_h])
  refine boolE (z:=false) geLen ?_
  refine sq ?_
  cases f0
  exact ⟨_,_,rfl,⟨h6,rfl,rfl⟩,(H.sel [1] rfl).close ⟨cloE,trivial⟩⟩
theorem impl_joined_c (lists_:List (List Int)) (lists_h:Hd) (y:List Int) (hF:F_impl_joined lists_ = some y) :
  ConF Tryz.prog 91 #[(lists_h).v] [Es (List (List Int)) lists_ lists_h] [] (fun v Γ'=>∃ z0:Hd,v = (z0).v ∧ Γ' = [E (List Int) y z0]):=by
 intro w0 S0 fp0 hI hS
 have H:Cx w0 fp0 S0 w0 [Es (List (List Int)) lists_ lists_h]:=Cx.start hI hS
 clear hI hS
 refine enterC (args:=[_]) gok Tryz.func91 rfl _ rfl rfl rfl ?_
 refine lit0 (α:=Int) gok rfl rfl H ?_;clear H;intro h3 w2 hx H
 clear hx
 refine sq ?_
 refine lenE (H.rs (α:=List (List Int)) 1 rfl).len ?_
 have x0:=(H.rs (α:=List (List Int)) 1 rfl).max
 obtain ⟨r0,e,f0⟩:=bindS hF;clear hF
 refine loopS _ lists_.length (fun (k5:Nat) (s0:List Int) (g0:Hd)=>[(3,(g0).v),(7,(lists_h).v),(8,(.int .i64 ((lists_.length:Nat):Int))),(9,(.int .i64 ((k5:Nat):Int)))]) (fun _ (s0:List Int) (g0:Hd) w'=>Cx w0 fp0 S0 w' [E (List Int) s0 g0,Es (List (List Int)) lists_ lists_h]) ([]:List Int) h3 e ⟨rfl,rfl,rfl,rfl,trivial⟩ (H.sel [0,1] rfl) ?_ ?_
 ·
  clear H e
  rintro T0 k5 s0 g0 w1 o0 hk (H:Cx w0 fp0 S0 w1 [E (List Int) s0 g0,Es (List (List Int)) lists_ lists_h]) f1
  refine boolE (z:=true) (ltLen hk) ?_
  refine sq ?_
  refine sq ?_
  obtain ⟨a0,e,f2⟩:=bindS f1;clear f1
  have HH:=H;clear H;obtain ⟨p0,m0,h0,c0,c1,c2,c3,H⟩:=HH.elL 1 rfl e;clear HH
  clear e
  refine idxE c0 c1 c2 ?_;clear c0 c1 c2
  refine load1 c3 ?_;clear c3
  obtain ⟨a1,e,f3⟩:=bindS f2;clear f2
  replace H:=H.sel [1,0,2] rfl
  refine appendS (α:=Int) gok rfl rfl rfl rfl H (Vw.sh 0 rfl) e ?_;clear e H;intro h1 w3 H
  refine arK hk x0 ?_
  have hs:=Option.some.inj f3;subst hs;clear f3
  exact ⟨h1,⟨rfl,rfl,rfl,rfl,trivial⟩,H.sel [0,2] rfl⟩
 ·
  clear H e
  rintro T1 g1 w4 (H:Cx w0 fp0 S0 w4 [E (List Int) r0 g1,Es (List (List Int)) lists_ lists_h])
  refine boolE (z:=false) geLen ?_
  refine sq ?_
  cases f0
  exact ⟨_,_,rfl,⟨g1,rfl,rfl⟩,(H.sel [0] rfl).close ⟨cloE,trivial⟩⟩
theorem impl_relation_c (p_:Int) (left_:Int) (right_:Int) (rows_:List (List Int)) (rows_h:Hd) (y_0:Int) (y_1:Int) (y_2:List (List Int)) (hF:F_impl_relation p_ left_ right_ rows_ = some (y_0,y_1,y_2)) :
  ConF Tryz.prog 92 #[(.int .i64 p_),(.int .i64 left_),(.int .i64 right_),(rows_h).v] [Es (List (List Int)) rows_ rows_h] [] (fun v Γ'=>∃ z0:Hd,v = (.agg #[(.int .i64 y_0),(.int .i64 y_1),(z0).v]) ∧ Γ' = [E (List (List Int)) y_2 z0]):=by
 intro w0 S0 fp0 hI hS
 have H:Cx w0 fp0 S0 w0 [Es (List (List Int)) rows_ rows_h]:=Cx.start hI hS
 clear hI hS
 refine enterC (args:=[_,_,_,_]) gok Tryz.func92 rfl _ rfl rfl rfl ?_
 refine alloc_ gok rfl H ?_;clear H;intro b3 w2 hx H
 clear hx
 obtain ⟨a5,e,hF6⟩:=bindS hF;clear hF
 refine arO e ?_;clear e
 obtain ⟨y7,e,hF8⟩:=bindS hF6;clear hF6
 have ey7:=e;clear e
 refine callF (impl_reduced_c p_ rows_ rows_h a5 y7 ey7) (Γi:=[]) H ⟨Vw.sh 1 rfl,trivial⟩ ?_;clear H ey7
 rintro _ _ w9 ⟨h0,rfl,rfl⟩ H
 refine build_ (cs:=#[(.int .i64 left_),(.int .i64 right_),(h0).v]) gok rfl rfl rfl ?_
 replace H:=H.sel [1,0,2] rfl
 refine stA gok [(.int .i64 left_),(.int .i64 right_),(h0).v] rfl H rfl rfl rfl ?_;clear H;intro w1 H
 refine loadN [(.int .i64 left_),(.int .i64 right_),(h0).v] rfl (fun j u hj=>H.bx 0 rfl hj) ?_
 cases hF8
 exact ⟨_,_,rfl,⟨h0,rfl,rfl⟩,(H.sel [1] rfl).close ⟨cloE,trivial⟩⟩
end Go.Proofs.YtlggnmkelgplnaaGreatDoor
