/-
 Contracts, printed by a program (wip/y/gen.py): each function of Go computes its partial function. Condition of each: its partial function yields a value.
-/
import Derived.Test.YtlggnmkelgplnaaGreatDoorZCall3
namespace Go.Proofs.YtlggnmkelgplnaaGreatDoor
open Go Go.Proofs.YtlggnmkelgplnaaGreatDoor.RW
set_option maxRecDepth 100000
set_option linter.unusedVariables false
theorem impl_Relation_each_impl_Relation_second_c (r__0:Int) (r__1:Int) (r__2:List (List Int)) (r__2h:Hd) (d0__0:Int) (d0__1:Int) (d0__2:List (List Int)) (d0__2h:Hd) (y:List (List Int)) (hF:F_impl_Relation_each_impl_Relation_second (r__0,r__1,r__2) (d0__0,d0__1,d0__2) = some y) :
  ConS Tryz.prog 86 #[(.agg #[(.int .i64 r__0),(.int .i64 r__1),(r__2h).v]),(.func (.func 41) #[(.agg #[(.int .i64 d0__0),(.int .i64 d0__1),(d0__2h).v])] #[])] [Es (List (List Int)) r__2 r__2h,Es (List (List Int)) d0__2 d0__2h] [] (fun v Γ'=>∃ z0:Hd,v = (z0).v ∧ Γ' = [E (List (Sh (List Int))) y z0]):=by
 intro w0 S0 fp0 hI hS
 have H:Cx w0 fp0 S0 w0 [Es (List (List Int)) r__2 r__2h,Es (List (List Int)) d0__2 d0__2h]:=Cx.start hI hS
 clear hI hS
 refine enterC (args:=[_,_]) gok Tryz.func86 rfl _ rfl rfl rfl ?_
 refine box_ H ?_;clear H;intro b4 w3 hx H
 clear hx
 refine lit0 (α:=List Int) gok rfl rfl H ?_;clear H;intro h7 w6 hx H
 clear hx
 refine sq ?_
 refine fld gok rfl rfl rfl rfl ?_
 refine load1 (H.bx 1 rfl (j:=2) rfl) ?_
 refine lenE (H.rs (α:=List (List Int)) 2 rfl).len ?_
 have x0:=(H.rs (α:=List (List Int)) 2 rfl).max
 obtain ⟨r0,e,f0⟩:=bindS hF;clear hF
 replace H:=H.frzE (α:=List Int)
 refine loopS _ r__2.length (fun (k9:Nat) (s0:List (List Int)) (g0:Hd)=>[(1,(.func (.func 41) #[(.agg #[(.int .i64 d0__0),(.int .i64 d0__1),(d0__2h).v])] #[])),(5,(g0).v),(10,(r__2h).v),(11,(.int .i64 ((r__2.length:Nat):Int))),(12,(.int .i64 ((k9:Nat):Int)))]) (fun _ (s0:List (List Int)) (g0:Hd) w'=>Cx w0 fp0 S0 w' [Es (List (List Int)) d0__2 d0__2h,E (List (Sh (List Int))) s0 g0,Es (List (List Int)) r__2 r__2h]) ([]:List (List Int)) h7 e ⟨rfl,rfl,rfl,rfl,rfl,trivial⟩ (H.sel [3,0,2] rfl) ?_ ?_
 ·
  clear H e
  rintro T0 k9 s0 g0 w1 o0 hk (H:Cx w0 fp0 S0 w1 [Es (List (List Int)) d0__2 d0__2h,E (List (Sh (List Int))) s0 g0,Es (List (List Int)) r__2 r__2h]) f1
  refine boolE (z:=true) (ltLen hk) ?_
  refine sq ?_
  refine sq ?_
  obtain ⟨a0,e,f2⟩:=bindS f1;clear f1
  have HH:=H;clear H;obtain ⟨p0,m0,h0,c0,c1,c2,c3,H⟩:=HH.elL 2 rfl e;clear HH
  clear e
  refine idxE c0 c1 c2 ?_;clear c0 c1 c2
  refine load1 c3 ?_;clear c3
  obtain ⟨y0,e,f3⟩:=bindS f2;clear f2
  have ey83:=e;clear e
  refine callS (impl_Relation_second_c d0__0 d0__1 d0__2 d0__2h a0 h0 y0 ey83) (Γi:=[]) H [1,0] rfl (persC persS (persC persS persN)) ?_;clear H ey83
  rintro _ _ w2 ⟨h1,rfl,rfl⟩ H
  replace H:=H.dup 0 rfl persS
  refine lit1 (α:=Sh (List Int)) (g:=h1) gok rfl rfl rfl rfl rfl H ?_;clear H;intro h2 w4 hx H
  clear hx
  obtain ⟨a1,e,f4⟩:=bindS f3;clear f3
  replace H:=H.sel [4,0,1,2,3,5] rfl
  refine append_ (α:=Sh (List Int)) gok rfl rfl rfl rfl H e ?_;clear e H;intro h3 w5 H
  refine arK hk x0 ?_
  have hs:=Option.some.inj f4;subst hs;clear f4
  exact ⟨h3,⟨rfl,rfl,rfl,rfl,rfl,trivial⟩,H.sel [3,0,4] rfl⟩
 ·
  clear H e
  rintro T1 g1 w7 (H:Cx w0 fp0 S0 w7 [Es (List (List Int)) d0__2 d0__2h,E (List (Sh (List Int))) r0 g1,Es (List (List Int)) r__2 r__2h])
  refine boolE (z:=false) geLen ?_
  refine sq ?_
  cases f0
  exact ⟨_,_,rfl,⟨g1,rfl,rfl⟩,(H.sel [1] rfl)⟩
theorem impl_Relation_each_impl_Relation_first_c (r__0:Int) (r__1:Int) (r__2:List (List Int)) (r__2h:Hd) (d0__0:Int) (d0__1:Int) (d0__2:List (List Int)) (d0__2h:Hd) (y:List (List Int)) (hF:F_impl_Relation_each_impl_Relation_first (r__0,r__1,r__2) (d0__0,d0__1,d0__2) = some y) :
  ConS Tryz.prog 86 #[(.agg #[(.int .i64 r__0),(.int .i64 r__1),(r__2h).v]),(.func (.func 40) #[(.agg #[(.int .i64 d0__0),(.int .i64 d0__1),(d0__2h).v])] #[])] [Es (List (List Int)) r__2 r__2h,Es (List (List Int)) d0__2 d0__2h] [] (fun v Γ'=>∃ z0:Hd,v = (z0).v ∧ Γ' = [E (List (Sh (List Int))) y z0]):=by
 intro w0 S0 fp0 hI hS
 have H:Cx w0 fp0 S0 w0 [Es (List (List Int)) r__2 r__2h,Es (List (List Int)) d0__2 d0__2h]:=Cx.start hI hS
 clear hI hS
 refine enterC (args:=[_,_]) gok Tryz.func86 rfl _ rfl rfl rfl ?_
 refine box_ H ?_;clear H;intro b4 w3 hx H
 clear hx
 refine lit0 (α:=List Int) gok rfl rfl H ?_;clear H;intro h7 w6 hx H
 clear hx
 refine sq ?_
 refine fld gok rfl rfl rfl rfl ?_
 refine load1 (H.bx 1 rfl (j:=2) rfl) ?_
 refine lenE (H.rs (α:=List (List Int)) 2 rfl).len ?_
 have x0:=(H.rs (α:=List (List Int)) 2 rfl).max
 obtain ⟨r0,e,f0⟩:=bindS hF;clear hF
 replace H:=H.frzE (α:=List Int)
 refine loopS _ r__2.length (fun (k9:Nat) (s0:List (List Int)) (g0:Hd)=>[(1,(.func (.func 40) #[(.agg #[(.int .i64 d0__0),(.int .i64 d0__1),(d0__2h).v])] #[])),(5,(g0).v),(10,(r__2h).v),(11,(.int .i64 ((r__2.length:Nat):Int))),(12,(.int .i64 ((k9:Nat):Int)))]) (fun _ (s0:List (List Int)) (g0:Hd) w'=>Cx w0 fp0 S0 w' [Es (List (List Int)) d0__2 d0__2h,E (List (Sh (List Int))) s0 g0,Es (List (List Int)) r__2 r__2h]) ([]:List (List Int)) h7 e ⟨rfl,rfl,rfl,rfl,rfl,trivial⟩ (H.sel [3,0,2] rfl) ?_ ?_
 ·
  clear H e
  rintro T0 k9 s0 g0 w1 o0 hk (H:Cx w0 fp0 S0 w1 [Es (List (List Int)) d0__2 d0__2h,E (List (Sh (List Int))) s0 g0,Es (List (List Int)) r__2 r__2h]) f1
  refine boolE (z:=true) (ltLen hk) ?_
  refine sq ?_
  refine sq ?_
  obtain ⟨a0,e,f2⟩:=bindS f1;clear f1
  have HH:=H;clear H;obtain ⟨p0,m0,h0,c0,c1,c2,c3,H⟩:=HH.elL 2 rfl e;clear HH
  clear e
  refine idxE c0 c1 c2 ?_;clear c0 c1 c2
  refine load1 c3 ?_;clear c3
  obtain ⟨y0,e,f3⟩:=bindS f2;clear f2
  have ey83:=e;clear e
  refine callS (impl_Relation_first_c d0__0 d0__1 d0__2 d0__2h a0 h0 y0 ey83) (Γi:=[]) H [1,0] rfl (persC persS (persC persS persN)) ?_;clear H ey83
  rintro _ _ w2 ⟨h1,rfl,rfl⟩ H
  replace H:=H.dup 0 rfl persS
  refine lit1 (α:=Sh (List Int)) (g:=h1) gok rfl rfl rfl rfl rfl H ?_;clear H;intro h2 w4 hx H
  clear hx
  obtain ⟨a1,e,f4⟩:=bindS f3;clear f3
  replace H:=H.sel [4,0,1,2,3,5] rfl
  refine append_ (α:=Sh (List Int)) gok rfl rfl rfl rfl H e ?_;clear e H;intro h3 w5 H
  refine arK hk x0 ?_
  have hs:=Option.some.inj f4;subst hs;clear f4
  exact ⟨h3,⟨rfl,rfl,rfl,rfl,rfl,trivial⟩,H.sel [3,0,4] rfl⟩
 ·
  clear H e
  rintro T1 g1 w7 (H:Cx w0 fp0 S0 w7 [Es (List (List Int)) d0__2 d0__2h,E (List (Sh (List Int))) r0 g1,Es (List (List Int)) r__2 r__2h])
  refine boolE (z:=false) geLen ?_
  refine sq ?_
  cases f0
  exact ⟨_,_,rfl,⟨g1,rfl,rfl⟩,(H.sel [1] rfl)⟩
theorem impl_composed_c (p_:Int) (a__0:Int) (a__1:Int) (a__2:List (List Int)) (a__2h:Hd) (b__0:Int) (b__1:Int) (b__2:List (List Int)) (b__2h:Hd) (y_0:Int) (y_1:Int) (y_2:List (List Int)) (hF:F_impl_composed p_ (a__0,a__1,a__2) (b__0,b__1,b__2) = some (y_0,y_1,y_2)) :
  ConF Tryz.prog 69 #[(.int .i64 p_),(.agg #[(.int .i64 a__0),(.int .i64 a__1),(a__2h).v]),(.agg #[(.int .i64 b__0),(.int .i64 b__1),(b__2h).v])] [Es (List (List Int)) a__2 a__2h,Es (List (List Int)) b__2 b__2h] [] (fun v Γ'=>∃ z0:Hd,v = (.agg #[(.int .i64 y_0),(.int .i64 y_1),(z0).v]) ∧ Γ' = [E (List (List Int)) y_2 z0]):=by
 intro w0 S0 fp0 hI hS
 have H:Cx w0 fp0 S0 w0 [Es (List (List Int)) a__2 a__2h,Es (List (List Int)) b__2 b__2h]:=Cx.start hI hS
 clear hI hS
 refine enterC (args:=[_,_,_]) gok Tryz.func69 rfl _ rfl rfl rfl ?_
 refine box_ H ?_;clear H;intro b4 w3 hx H
 clear hx
 refine box_ H ?_;clear H;intro b7 w6 hx H
 clear hx
 refine alloc_ gok rfl H ?_;clear H;intro b0 w9 hx H
 clear hx
 refine loadN [(.int .i64 a__0),(.int .i64 a__1),(a__2h).v] rfl (fun j u hj=>H.bx 2 rfl hj) ?_
 refine loadN [(.int .i64 a__0),(.int .i64 a__1),(a__2h).v] rfl (fun j u hj=>H.bx 2 rfl hj) ?_
 obtain ⟨y0,e,f0⟩:=bindS hF;clear hF
 have ey12:=e;clear e
 refine callS (impl_Relation_each_impl_Relation_second_c a__0 a__1 a__2 a__2h a__0 a__1 a__2 a__2h y0 ey12) (Γi:=[]) H [3,3] rfl (persC persS (persC persS persN)) ?_;clear H ey12
 rintro _ _ w1 ⟨h0,rfl,rfl⟩ H
 refine sq ?_
 refine loadN [(.int .i64 b__0),(.int .i64 b__1),(b__2h).v] rfl (fun j u hj=>H.bx 2 rfl hj) ?_
 refine loadN [(.int .i64 b__0),(.int .i64 b__1),(b__2h).v] rfl (fun j u hj=>H.bx 2 rfl hj) ?_
 obtain ⟨y1,e,f1⟩:=bindS f0;clear f0
 have ey17:=e;clear e
 refine callS (impl_Relation_each_impl_Relation_first_c b__0 b__1 b__2 b__2h b__0 b__1 b__2 b__2h y1 ey17) (Γi:=[]) H [5,5] rfl (persC persS (persC persS persN)) ?_;clear H ey17
 rintro _ _ w2 ⟨h1,rfl,rfl⟩ H
 refine lenE (Rdb.len (α:=Sh (List Int)) (H.ro (α:=List (Sh (List Int))) 0 rfl)) ?_
 have x0:=(Rdb.max (α:=Sh (List Int)) (H.ro (α:=List (Sh (List Int))) 0 rfl))
 obtain ⟨r0,e,f2⟩:=bindS f1;clear f1
 refine loopS _ y1.length (fun (k0:Nat) (s0:List (List Int)) (g0:Hd)=>[(0,(.int .i64 p_)),(4,(.pointer (some ⟨b4,0,none⟩))),(5,(.pointer (some ⟨b7,0,none⟩))),(6,(.pointer (some ⟨b0,0,none⟩))),(7,(g0).v),(25,(h1).v),(26,(.int .i64 ((y1.length:Nat):Int))),(27,(.int .i64 ((k0:Nat):Int)))]) (fun _ (s0:List (List Int)) (g0:Hd) w'=>Cx w0 fp0 S0 w' [Bx b4 [(.int .i64 a__0),(.int .i64 a__1),(a__2h).v],Es (List (List Int)) a__2 a__2h,Bx b7 [(.int .i64 b__0),(.int .i64 b__1),(b__2h).v],Es (List (List Int)) b__2 b__2h,Bx b0 [(.int .i64 0),(.int .i64 0),(.slice none 0 0)],E (List (Sh (List Int))) s0 g0,E (List (Sh (List Int))) y1 h1]) y0 h0 e ⟨rfl,rfl,rfl,rfl,rfl,rfl,rfl,rfl,trivial⟩ (H.sel [4,5,3,6,2,1,0] rfl) ?_ ?_
 ·
  clear H e
  rintro T0 k0 s0 g0 w4 o0 hk (H:Cx w0 fp0 S0 w4 [Bx b4 [(.int .i64 a__0),(.int .i64 a__1),(a__2h).v],Es (List (List Int)) a__2 a__2h,Bx b7 [(.int .i64 b__0),(.int .i64 b__1),(b__2h).v],Es (List (List Int)) b__2 b__2h,Bx b0 [(.int .i64 0),(.int .i64 0),(.slice none 0 0)],E (List (Sh (List Int))) s0 g0,E (List (Sh (List Int))) y1 h1]) f3
  refine boolE (z:=true) (ltLen hk) ?_
  refine sq ?_
  refine sq ?_
  obtain ⟨a0,e,f4⟩:=bindS f3;clear f3
  have HH:=H;clear H;obtain ⟨p0,m0,h2,c0,c1,c2,c3,H⟩:=HH.exL 6 rfl e;clear HH
  clear e
  refine idxE c0 c1 c2 ?_;clear c0 c1 c2
  refine load1 c3 ?_;clear c3
  refine lenE (H.rs (α:=List Int) 0 rfl).len ?_
  obtain ⟨y2,e,f5⟩:=bindS f4;clear f4
  have ey100:=e;clear e
  refine callF (impl_zeros_c ((a0.length:Nat):Int) y2 ey100) (Γi:=[]) H trivial ?_;clear H ey100
  rintro _ _ w5 ⟨h3,rfl,rfl⟩ H
  obtain ⟨y3,e,f6⟩:=bindS f5;clear f5
  have ey105:=e;clear e
  refine callF (impl_addTimes_c p_ y2 h3 (-1) a0 h2 y3 ey105) (Γi:=[E (List Int) y2 h3]) H ⟨Vw.sh 0 rfl,trivial⟩ ?_;clear H ey105
  rintro _ _ w7 ⟨rfl,rfl⟩ H
  refine lit1 (α:=List Int) (g:=h3) gok rfl rfl rfl rfl rfl H ?_;clear H;intro h4 w8 hx H
  clear hx
  obtain ⟨a1,e,f7⟩:=bindS f6;clear f6
  replace H:=H.frzE (α:=List Int)
  replace H:=H.sel [7,0,1,2,3,4,5,6,8] rfl
  refine append_ (α:=Sh (List Int)) gok rfl rfl rfl rfl H e ?_;clear e H;intro h5 w10 H
  refine arK hk x0 ?_
  have hs:=Option.some.inj f7;subst hs;clear f7
  exact ⟨h5,⟨rfl,rfl,rfl,rfl,rfl,rfl,rfl,rfl,trivial⟩,H.sel [2,3,4,5,6,0,7] rfl⟩
 ·
  clear H e
  rintro T1 g1 w11 (H:Cx w0 fp0 S0 w11 [Bx b4 [(.int .i64 a__0),(.int .i64 a__1),(a__2h).v],Es (List (List Int)) a__2 a__2h,Bx b7 [(.int .i64 b__0),(.int .i64 b__1),(b__2h).v],Es (List (List Int)) b__2 b__2h,Bx b0 [(.int .i64 0),(.int .i64 0),(.slice none 0 0)],E (List (Sh (List Int))) r0 g1,E (List (Sh (List Int))) y1 h1])
  refine boolE (z:=false) geLen ?_
  refine sq ?_
  obtain ⟨r1,f8,f9⟩:=bindS f2;clear f2
  refine heldJ H [] (.fst 0 (.fst 1 (.fst 4 (.fst 5 (.alts (.alt 2 (.alts (.alt 3 (.act 6 (.act 7 (.fst 8 (.fst 9 .done)))) (.alt 6 (.act 3 (.act 7 (.fst 8 (.fst 9 .done)))) .no))) (.alt 6 (.act 2 (.act 3 (.act 7 (.fst 8 (.fst 9 .done))))) .no))))))) mixed [] trivial (by kernel_rfl) (fun (q0:(List (List Int) × List (List Int)) × (Hd × Hd))=>[(0,(.int .i64 p_)),(4,(.pointer (some ⟨b4,0,none⟩))),(5,(.pointer (some ⟨b7,0,none⟩))),(6,(.pointer (some ⟨b0,0,none⟩))),(7,(g1).v),(11,(q0.2.1).v),(12,(q0.2.2).v)]) (fun (q0:(List (List Int) × List (List Int)) × (Hd × Hd)) w'=>(q0.1.1,q0.1.2) = r1 ∧ Cx w0 fp0 S0 w' [Bx b4 [(.int .i64 a__0),(.int .i64 a__1),(a__2h).v],Es (List (List Int)) a__2 a__2h,Bx b7 [(.int .i64 b__0),(.int .i64 b__1),(b__2h).v],Es (List (List Int)) b__2 b__2h,Bx b0 [(.int .i64 0),(.int .i64 0),(.slice none 0 0)],E (List (Sh (List Int))) r0 g1,E (List (Sh (List Int))) q0.1.1 q0.2.1,E (List (Sh (List Int))) q0.1.2 q0.2.2]) ?_ ?_
  ·
   clear H;intro w12 H
   have hX:Ext w12 w12:=Upd.refl _ _
   have H0:=H
   refine loadNX [(.int .i64 a__0),(.int .i64 a__1),(a__2h).v] rfl (fun j u hj=>H.bx 0 rfl hj) ?_
   refine loadNX [(.int .i64 a__0),(.int .i64 a__1),(a__2h).v] rfl (fun j u hj=>H.bx 0 rfl hj) ?_
   refine loadNX [(.int .i64 b__0),(.int .i64 b__1),(b__2h).v] rfl (fun j u hj=>H.bx 2 rfl hj) ?_
   refine loadNX [(.int .i64 b__0),(.int .i64 b__1),(b__2h).v] rfl (fun j u hj=>H.bx 2 rfl hj) ?_
   refine both ?_ ?_
   ·
    refine hold hX ?_
    refine both ?_ ?_
    ·
     obtain ⟨y4,e,f10⟩:=bindS f8;clear f8
     have ey205:=e;clear e
     refine callSx (impl_Relation_each_impl_Relation_first_c a__0 a__1 a__2 a__2h a__0 a__1 a__2 a__2h y4 ey205) H [1,1] rfl (persC persS (persC persS persN)) ?_;clear H ey205
     rintro _ _ w13 ⟨h6,rfl,rfl⟩ hx H
     replace hX:=hX.trans0 hx;clear hx
     refine hold hX ?_
     refine hold hX ?_
     obtain ⟨y5,e,f11⟩:=bindS f10;clear f10
     have ey210:=e;clear e
     refine callSx (impl_Relation_each_impl_Relation_second_c b__0 b__1 b__2 b__2h b__0 b__1 b__2 b__2h y5 ey210) H [4,4] rfl (persC persS (persC persS persN)) ?_;clear H ey210
     rintro _ _ w15 ⟨h7,rfl,rfl⟩ hx H
     replace hX:=hX.trans0 hx;clear hx
     refine hold hX ?_
     exact ⟨((y4,y5),(h6,h7)),⟨rfl,rfl,rfl,rfl,rfl,rfl,rfl,trivial⟩,Option.some.inj f11,H.sel [2,3,4,5,6,7,1,0] rfl⟩
    ·
     refine both ?_ ?_
     ·
      obtain ⟨a2,o1,f12⟩:=bindS f8;clear f8
      obtain ⟨a3,o2,f13⟩:=bindS f12;clear f12
      refine hold hX ?_
      have e:=o1;clear o1
      have ea215:=e;clear e
      refine callSx (impl_Relation_each_impl_Relation_first_c a__0 a__1 a__2 a__2h a__0 a__1 a__2 a__2h a2 ea215) H [1,1] rfl (persC persS (persC persS persN)) ?_;clear H ea215
      rintro _ _ w16 ⟨h8,rfl,rfl⟩ hx H
      replace hX:=hX.trans0 hx;clear hx
      refine hold hX ?_
      have e:=o2;clear o2
      have ea218:=e;clear e
      refine callSx (impl_Relation_each_impl_Relation_second_c b__0 b__1 b__2 b__2h b__0 b__1 b__2 b__2h a3 ea218) H [4,4] rfl (persC persS (persC persS persN)) ?_;clear H ea218
      rintro _ _ w17 ⟨h9,rfl,rfl⟩ hx H
      replace hX:=hX.trans0 hx;clear hx
      refine hold hX ?_
      exact ⟨((a2,a3),(h8,h9)),⟨rfl,rfl,rfl,rfl,rfl,rfl,rfl,trivial⟩,Option.some.inj f13,H.sel [2,3,4,5,6,7,1,0] rfl⟩
     ·
      exact trivial
   ·
    refine both ?_ ?_
    ·
     obtain ⟨a4,o3,f14⟩:=bindS f8;clear f8
     obtain ⟨a5,o4,f15⟩:=bindS f14;clear f14
     refine hold hX ?_
     refine hold hX ?_
     have e:=o3;clear o3
     have ea227:=e;clear e
     refine callSx (impl_Relation_each_impl_Relation_first_c a__0 a__1 a__2 a__2h a__0 a__1 a__2 a__2h a4 ea227) H [1,1] rfl (persC persS (persC persS persN)) ?_;clear H ea227
     rintro _ _ w18 ⟨h10,rfl,rfl⟩ hx H
     replace hX:=hX.trans0 hx;clear hx
     refine hold hX ?_
     have e:=o4;clear o4
     have ea230:=e;clear e
     refine callSx (impl_Relation_each_impl_Relation_second_c b__0 b__1 b__2 b__2h b__0 b__1 b__2 b__2h a5 ea230) H [4,4] rfl (persC persS (persC persS persN)) ?_;clear H ea230
     rintro _ _ w20 ⟨h11,rfl,rfl⟩ hx H
     replace hX:=hX.trans0 hx;clear hx
     refine hold hX ?_
     exact ⟨((a4,a5),(h10,h11)),⟨rfl,rfl,rfl,rfl,rfl,rfl,rfl,trivial⟩,Option.some.inj f15,H.sel [2,3,4,5,6,7,1,0] rfl⟩
    ·
     exact trivial
  ·
   clear f8 H
   rintro T2 ⟨⟨s1_0,s1_1⟩,⟨g2_0,g2_1⟩⟩ w21 ⟨hr,(H:Cx w0 fp0 S0 w21 [Bx b4 [(.int .i64 a__0),(.int .i64 a__1),(a__2h).v],Es (List (List Int)) a__2 a__2h,Bx b7 [(.int .i64 b__0),(.int .i64 b__1),(b__2h).v],Es (List (List Int)) b__2 b__2h,Bx b0 [(.int .i64 0),(.int .i64 0),(.slice none 0 0)],E (List (Sh (List Int))) r0 g1,E (List (Sh (List Int))) s1_0 g2_0,E (List (Sh (List Int))) s1_1 g2_1])⟩
   subst hr
   refine lit0 (α:=List Int) gok rfl rfl H ?_;clear H;intro h12 w22 hx H
   clear hx
   refine sq ?_
   refine fld gok rfl rfl rfl rfl ?_
   refine load1 (H.bx 1 rfl (j:=1) rfl) ?_
   obtain ⟨y6,e,f16⟩:=bindS f9;clear f9
   have ey244:=e;clear e
   refine callF (impl_kernel_c p_ r0 g1 a__1 y6 ey244) (Γi:=[]) H ⟨Vw.part (β:=List (List Int)) (Vw.own (α:=List (Sh (List Int))) 6 rfl) r0 g1 (fun S h=>h),trivial⟩ ?_;clear H ey244
   rintro _ _ w23 ⟨h13,rfl,rfl⟩ H
   refine lenE (H.ro (α:=List (List Int)) 0 rfl).len ?_
   replace H:=H.frz
   have x1:=(H.rs (α:=List (List Int)) 0 rfl).max
   obtain ⟨r2,e,f17⟩:=bindS f16;clear f16
   refine loopS _ y6.length (fun (k1:Nat) (s2:List (List Int)) (g3:Hd)=>[(0,(.int .i64 p_)),(4,(.pointer (some ⟨b4,0,none⟩))),(5,(.pointer (some ⟨b7,0,none⟩))),(6,(.pointer (some ⟨b0,0,none⟩))),(11,(g2_0).v),(12,(g2_1).v),(13,(g3).v),(56,(h13).v),(57,(.int .i64 ((y6.length:Nat):Int))),(58,(.int .i64 ((k1:Nat):Int)))]) (fun _ (s2:List (List Int)) (g3:Hd) w'=>Cx w0 fp0 S0 w' [Bx b4 [(.int .i64 a__0),(.int .i64 a__1),(a__2h).v],Es (List (List Int)) a__2 a__2h,Bx b7 [(.int .i64 b__0),(.int .i64 b__1),(b__2h).v],Es (List (List Int)) b__2 b__2h,Bx b0 [(.int .i64 0),(.int .i64 0),(.slice none 0 0)],E (List (Sh (List Int))) s1_0 g2_0,E (List (Sh (List Int))) s1_1 g2_1,E (List (List Int)) s2 g3,Es (List (List Int)) y6 h13]) ([]:List (List Int)) h12 e ⟨rfl,rfl,rfl,rfl,rfl,rfl,rfl,rfl,rfl,rfl,trivial⟩ (H.sel [2,3,4,5,6,8,9,1,0] rfl) ?_ ?_
   ·
    clear H e
    rintro T3 k1 s2 g3 w24 o5 hk (H:Cx w0 fp0 S0 w24 [Bx b4 [(.int .i64 a__0),(.int .i64 a__1),(a__2h).v],Es (List (List Int)) a__2 a__2h,Bx b7 [(.int .i64 b__0),(.int .i64 b__1),(b__2h).v],Es (List (List Int)) b__2 b__2h,Bx b0 [(.int .i64 0),(.int .i64 0),(.slice none 0 0)],E (List (Sh (List Int))) s1_0 g2_0,E (List (Sh (List Int))) s1_1 g2_1,E (List (List Int)) s2 g3,Es (List (List Int)) y6 h13]) f18
    refine boolE (z:=true) (ltLen hk) ?_
    refine sq ?_
    refine sq ?_
    obtain ⟨a6,e,f19⟩:=bindS f18;clear f18
    have HH:=H;clear H;obtain ⟨p1,m1,h14,c4,c5,c6,c7,H⟩:=HH.elL 8 rfl e;clear HH
    clear e
    refine idxE c4 c5 c6 ?_;clear c4 c5 c6
    refine load1 c7 ?_;clear c7
    refine heldX H [] (.fst 0 (.fst 1 (.fst 2 (.fst 3 (.fst 4 (.fst 5 (.fst 6 (.fst 7 (.act 8 (.fst 9 .done)))))))))) mixed [] trivial (by kernel_rfl) ?_
    clear H;intro w25 H
    have hX:Ext w25 w25:=Upd.refl _ _
    have H0:=H
    refine lenE (Rdb.len (α:=Sh (List Int)) (H.ro (α:=List (Sh (List Int))) 6 rfl)) ?_
    obtain ⟨a7,e,f20⟩:=bindS f19;clear f19
    refine slSX (α:=Int) gok rfl rfl H 0 rfl e rfl rfl ?_;clear e;intro h16 HH;clear H;have H:=HH;clear HH
    refine anyH (fun _=>fld gok rfl rfl rfl rfl ⟨rfl,rfl⟩) ?_
    refine load1X (H.bx 2 rfl (j:=0) rfl) ?_
    obtain ⟨y7,e,f21⟩:=bindS f20;clear f20
    have ey426:=e;clear e
    refine callFx (impl_combine_c p_ a7 h16 s1_0 g2_0 a__0 y7 ey426) H ⟨Vw.sh 0 rfl,Vw.part (β:=List (List Int)) (Vw.own (α:=List (Sh (List Int))) 7 rfl) s1_0 g2_0 (fun S h=>h),trivial⟩ ?_;clear H ey426
    rintro _ _ w26 ⟨h17,rfl,rfl⟩ hx H
    replace hX:=hX.trans0 hx;clear hx
    refine hold hX ?_
    refine heldX H [] (.fst 0 (.fst 1 (.fst 2 (.fst 3 (.fst 4 (.fst 5 (.fst 6 (.fst 7 (.act 8 (.fst 9 .done)))))))))) mixed [] trivial (by kernel_rfl) ?_
    clear H;intro w27 H
    have hX:Ext w27 w27:=Upd.refl _ _
    have H0:=H
    refine lenE (Rdb.len (α:=Sh (List Int)) (H.ro (α:=List (Sh (List Int))) 8 rfl)) ?_
    obtain ⟨a8,e,f22⟩:=bindS f21;clear f21
    refine slSX (α:=Int) (hi:=none) gok rfl rfl H 2 rfl e rfl (congrArg (fun n:Nat=>some (n:Int)) (H.rs (α:=List Int) 2 rfl).len) ?_;clear e;intro h18 HH;clear H;have H:=HH;clear HH
    refine anyH (fun _=>fld gok rfl rfl rfl rfl ⟨rfl,rfl⟩) ?_
    refine load1X (H.bx 6 rfl (j:=1) rfl) ?_
    obtain ⟨y8,e,f23⟩:=bindS f22;clear f22
    have ey436:=e;clear e
    refine callFx (impl_combine_c p_ a8 h18 s1_1 g2_1 b__1 y8 ey436) H ⟨Vw.sh 0 rfl,Vw.part (β:=List (List Int)) (Vw.own (α:=List (Sh (List Int))) 10 rfl) s1_1 g2_1 (fun S h=>h),trivial⟩ ?_;clear H ey436
    rintro _ _ w28 ⟨h19,rfl,rfl⟩ hx H
    replace hX:=hX.trans0 hx;clear hx
    refine hold hX ?_
    replace H:=H.sel [2,0,1,3,4,5,6,7,8,9,10,11,12,13] rfl
    replace H:=H.frz
    replace H:=H.sel [1,0,2,3,4,5,6,7,8,9,10,11,12,13] rfl
    replace H:=H.frz
    replace H:=H.dup 0 rfl persS
    replace H:=H.dup 2 rfl persS
    refine litN (α:=Sh (List Int)) (us:=[(h17).v,(h19).v]) (xs:=[y7,y8]) (gs:=[h17,h19]) gok rfl rfl rfl ⟨rfl,rfl,trivial⟩ rfl rfl H ?_;clear H;intro h21 w29 hx H
    clear hx
    obtain ⟨y9,e,f24⟩:=bindS f23;clear f23
    have ey446:=e;clear e
    refine callF (impl_joined_c [y7,y8] h21 y9 ey446) (Γi:=[]) H ⟨Vw.part (β:=List (List Int)) (Vw.own (α:=List (Sh (List Int))) 0 rfl) [y7,y8] h21 (fun S h=>h),trivial⟩ ?_;clear H ey446
    rintro _ _ w30 ⟨h22,rfl,rfl⟩ H
    refine lit1 (α:=List Int) (g:=h22) gok rfl rfl rfl rfl rfl H ?_;clear H;intro h23 w31 hx H
    clear hx
    obtain ⟨a9,e,f25⟩:=bindS f24;clear f24
    replace H:=H.sel [14,0,1,2,3,4,5,6,7,8,9,10,11,12,13,15] rfl
    refine append_ (α:=List Int) gok rfl rfl rfl rfl H e ?_;clear e H;intro h24 w32 H
    refine arK hk x1 ?_
    have hs:=Option.some.inj f25;subst hs;clear f25
    exact ⟨h24,⟨rfl,rfl,rfl,rfl,rfl,rfl,rfl,rfl,rfl,rfl,trivial⟩,H.sel [7,8,9,10,11,12,13,0,14] rfl⟩
   ·
    clear H e
    rintro T4 g4 w33 (H:Cx w0 fp0 S0 w33 [Bx b4 [(.int .i64 a__0),(.int .i64 a__1),(a__2h).v],Es (List (List Int)) a__2 a__2h,Bx b7 [(.int .i64 b__0),(.int .i64 b__1),(b__2h).v],Es (List (List Int)) b__2 b__2h,Bx b0 [(.int .i64 0),(.int .i64 0),(.slice none 0 0)],E (List (Sh (List Int))) s1_0 g2_0,E (List (Sh (List Int))) s1_1 g2_1,E (List (List Int)) r2 g4,Es (List (List Int)) y6 h13])
    refine boolE (z:=false) geLen ?_
    refine sq ?_
    refine fld gok rfl rfl rfl rfl ?_
    refine load1 (H.bx 0 rfl (j:=0) rfl) ?_
    refine fld gok rfl rfl rfl rfl ?_
    refine load1 (H.bx 2 rfl (j:=1) rfl) ?_
    obtain ⟨y10,e,f26⟩:=bindS f17;clear f17
    obtain ⟨y10_0,y10_1,y10_2⟩:=y10
    have ey464:=e;clear e
    refine callF (impl_relation_c p_ a__0 b__1 r2 g4 y10_0 y10_1 y10_2 ey464) (Γi:=[]) H ⟨Vw.own 7 rfl,trivial⟩ ?_;clear H ey464
    rintro _ _ w34 ⟨h25,rfl,rfl⟩ H
    replace H:=H.sel [5,0,1,2,3,4,6,7,8,9] rfl
    refine stA gok [(.int .i64 y10_0),(.int .i64 y10_1),(h25).v] rfl H rfl rfl rfl ?_;clear H;intro w35 H
    refine loadN [(.int .i64 y10_0),(.int .i64 y10_1),(h25).v] rfl (fun j u hj=>H.bx 0 rfl hj) ?_
    cases f26
    exact ⟨_,_,rfl,⟨h25,rfl,rfl⟩,(H.sel [1] rfl).close ⟨cloE,trivial⟩⟩
theorem impl_tensor_1_c (row_:List Int) (row_h:Hd) (c0_b:Nat) (c0__0:Int) (c0__1:Int) (c0__2:List (List Int)) (c0__2h:Hd) (c1_b:Nat) (c1__0:Int) (c1__1:Int) (c1__2:List (List Int)) (c1__2h:Hd) (y:List Int) (hF:F_impl_tensor_1 row_ (c0__0,c0__1,c0__2) (c1__0,c1__1,c1__2) = some y) :
  ConF Tryz.prog 93 #[(row_h).v,(.pointer (some ⟨c0_b,0,none⟩)),(.pointer (some ⟨c1_b,0,none⟩))] [Es (List Int) row_ row_h,Es (List (List Int)) c0__2 c0__2h,Es (List (List Int)) c1__2 c1__2h] [Bx c0_b [(.int .i64 c0__0),(.int .i64 c0__1),(c0__2h).v],Bx c1_b [(.int .i64 c1__0),(.int .i64 c1__1),(c1__2h).v]] (fun v Γ'=>∃ z0:Hd,v = (z0).v ∧ Γ' = [Bx c0_b [(.int .i64 c0__0),(.int .i64 c0__1),(c0__2h).v],Bx c1_b [(.int .i64 c1__0),(.int .i64 c1__1),(c1__2h).v],E (List Int) y z0]):=by
 intro w0 S0 fp0 hI hS
 have H:Cx w0 fp0 S0 w0 [Es (List Int) row_ row_h,Es (List (List Int)) c0__2 c0__2h,Es (List (List Int)) c1__2 c1__2h,Bx c0_b [(.int .i64 c0__0),(.int .i64 c0__1),(c0__2h).v],Bx c1_b [(.int .i64 c1__0),(.int .i64 c1__1),(c1__2h).v]]:=Cx.start hI hS
 clear hI hS
 refine enterC (args:=[_,_,_]) gok Tryz.func93 rfl _ rfl rfl rfl ?_
 refine heldX H [] (.fst 1 (.fst 3 (.fst 7 (.fst 9 (.fst 0 (.fst 4 (.fst 6 (.fst 10 (.act 2 (.act 5 (.act 8 (.act 11 (.act 12 (.act 13 (.fst 14 .done))))))))))))))) mixed [] trivial (by kernel_rfl) ?_
 clear H;intro w6 H
 have hX:Ext w6 w6:=Upd.refl _ _
 have H0:=H
 refine anyH (fun _=>fld gok rfl rfl rfl rfl ⟨rfl,rfl⟩) ?_
 refine anyH (fun _=>fld gok rfl rfl rfl rfl ⟨rfl,rfl⟩) ?_
 refine loadNX [(.int .i64 c0__0),(.int .i64 c0__1),(c0__2h).v] rfl (fun j u hj=>H.bx 3 rfl hj) ?_
 refine load1X (H.bx 4 rfl (j:=0) rfl) ?_
 refine loadNX [(.int .i64 c0__0),(.int .i64 c0__1),(c0__2h).v] rfl (fun j u hj=>H.bx 3 rfl hj) ?_
 refine load1X (H.bx 4 rfl (j:=1) rfl) ?_
 obtain ⟨y7,e,hF8⟩:=bindS hF;clear hF
 have ey7:=e;clear e
 refine callSx (impl_Relation_first_c c0__0 c0__1 c0__2 c0__2h row_ row_h y7 ey7) H [1,0] rfl (persC persS (persC persS persN)) ?_;clear H ey7
 rintro _ _ w9 ⟨h0,rfl,rfl⟩ hx H
 replace hX:=hX.trans0 hx;clear hx
 refine hold hX ?_
 obtain ⟨y0,e,f0⟩:=bindS hF8;clear hF8
 have ey12:=e;clear e
 refine callFx (impl_zeros_c c1__0 y0 ey12) H trivial ?_;clear H ey12
 rintro _ _ w1 ⟨h1,rfl,rfl⟩ hx H
 replace hX:=hX.trans0 hx;clear hx
 refine hold hX ?_
 obtain ⟨y1,e,f1⟩:=bindS f0;clear f0
 have ey17:=e;clear e
 refine callSx (impl_Relation_second_c c0__0 c0__1 c0__2 c0__2h row_ row_h y1 ey17) H [3,2] rfl (persC persS (persC persS persN)) ?_;clear H ey17
 rintro _ _ w2 ⟨h2,rfl,rfl⟩ hx H
 replace hX:=hX.trans0 hx;clear hx
 refine hold hX ?_
 obtain ⟨y2,e,f2⟩:=bindS f1;clear f1
 have ey22:=e;clear e
 refine callFx (impl_zeros_c c1__1 y2 ey22) H trivial ?_;clear H ey22
 rintro _ _ w3 ⟨h3,rfl,rfl⟩ hx H
 replace hX:=hX.trans0 hx;clear hx
 refine hold hX ?_
 replace H:=H.sel [2,0,1,3,4,5,6,7,8] rfl
 replace H:=H.frz
 replace H:=H.sel [1,0,2,3,4,5,6,7,8] rfl
 replace H:=H.frz
 replace H:=H.dup 0 rfl persS
 replace H:=H.dup 3 rfl persS
 replace H:=H.dup 3 rfl persS
 replace H:=H.dup 6 rfl persS
 refine litN (α:=Sh (List Int)) (us:=[(h0).v,(h1).v,(h2).v,(h3).v]) (xs:=[y7,y0,y1,y2]) (gs:=[h0,h1,h2,h3]) gok rfl rfl rfl ⟨rfl,rfl,rfl,rfl,trivial⟩ rfl rfl H ?_;clear H;intro h4 w4 hx H
 replace hX:=hX.trans0 hx;clear hx
 refine hold hX ?_
 obtain ⟨y3,e,f3⟩:=bindS f2;clear f2
 have ey34:=e;clear e
 refine callFx (impl_joined_c [y7,y0,y1,y2] h4 y3 ey34) H ⟨Vw.part (β:=List (List Int)) (Vw.own (α:=List (Sh (List Int))) 0 rfl) [y7,y0,y1,y2] h4 (fun S h=>h),trivial⟩ ?_;clear H ey34
 rintro _ _ w5 ⟨h5,rfl,rfl⟩ hx H
 replace hX:=hX.trans0 hx;clear hx
 refine hold hX ?_
 cases f3
 exact ⟨_,_,rfl,⟨h5,rfl,rfl⟩,(H.sel [9,10,0] rfl).close ⟨cloB,cloB,cloE,trivial⟩⟩
theorem impl_Relation_each_impl_tensor_1_c (r__0:Int) (r__1:Int) (r__2:List (List Int)) (r__2h:Hd) (d0_b:Nat) (d0__0:Int) (d0__1:Int) (d0__2:List (List Int)) (d0__2h:Hd) (d1_b:Nat) (d1__0:Int) (d1__1:Int) (d1__2:List (List Int)) (d1__2h:Hd) (y:List (List Int)) (hF:F_impl_Relation_each_impl_tensor_1 (r__0,r__1,r__2) (d0__0,d0__1,d0__2) (d1__0,d1__1,d1__2) = some y) :
  ConF Tryz.prog 86 #[(.agg #[(.int .i64 r__0),(.int .i64 r__1),(r__2h).v]),(.func (.func 93) #[] #[(.pointer (some ⟨d0_b,0,none⟩)),(.pointer (some ⟨d1_b,0,none⟩))])] [Es (List (List Int)) r__2 r__2h,Es (List (List Int)) d0__2 d0__2h,Es (List (List Int)) d1__2 d1__2h] [Bx d0_b [(.int .i64 d0__0),(.int .i64 d0__1),(d0__2h).v],Bx d1_b [(.int .i64 d1__0),(.int .i64 d1__1),(d1__2h).v]] (fun v Γ'=>∃ z0:Hd,v = (z0).v ∧ Γ' = [Bx d0_b [(.int .i64 d0__0),(.int .i64 d0__1),(d0__2h).v],Bx d1_b [(.int .i64 d1__0),(.int .i64 d1__1),(d1__2h).v],E (List (List Int)) y z0]):=by
 intro w0 S0 fp0 hI hS
 have H:Cx w0 fp0 S0 w0 [Es (List (List Int)) r__2 r__2h,Es (List (List Int)) d0__2 d0__2h,Es (List (List Int)) d1__2 d1__2h,Bx d0_b [(.int .i64 d0__0),(.int .i64 d0__1),(d0__2h).v],Bx d1_b [(.int .i64 d1__0),(.int .i64 d1__1),(d1__2h).v]]:=Cx.start hI hS
 clear hI hS
 refine enterC (args:=[_,_]) gok Tryz.func86 rfl _ rfl rfl rfl ?_
 refine box_ H ?_;clear H;intro b7 w6 hx H
 clear hx
 refine lit0 (α:=List Int) gok rfl rfl H ?_;clear H;intro h0 w9 hx H
 clear hx
 refine sq ?_
 refine fld gok rfl rfl rfl rfl ?_
 refine load1 (H.bx 1 rfl (j:=2) rfl) ?_
 refine lenE (H.rs (α:=List (List Int)) 2 rfl).len ?_
 have x0:=(H.rs (α:=List (List Int)) 2 rfl).max
 obtain ⟨r0,e,f0⟩:=bindS hF;clear hF
 refine loopS _ r__2.length (fun (k0:Nat) (s0:List (List Int)) (g0:Hd)=>[(1,(.func (.func 93) #[] #[(.pointer (some ⟨d0_b,0,none⟩)),(.pointer (some ⟨d1_b,0,none⟩))])),(5,(g0).v),(10,(r__2h).v),(11,(.int .i64 ((r__2.length:Nat):Int))),(12,(.int .i64 ((k0:Nat):Int)))]) (fun _ (s0:List (List Int)) (g0:Hd) w'=>Cx w0 fp0 S0 w' [Bx d0_b [(.int .i64 d0__0),(.int .i64 d0__1),(d0__2h).v],Es (List (List Int)) d0__2 d0__2h,Bx d1_b [(.int .i64 d1__0),(.int .i64 d1__1),(d1__2h).v],Es (List (List Int)) d1__2 d1__2h,E (List (List Int)) s0 g0,Es (List (List Int)) r__2 r__2h]) ([]:List (List Int)) h0 e ⟨rfl,rfl,rfl,rfl,rfl,trivial⟩ (H.sel [5,3,6,4,0,2] rfl) ?_ ?_
 ·
  clear H e
  rintro T0 k0 s0 g0 w1 o0 hk (H:Cx w0 fp0 S0 w1 [Bx d0_b [(.int .i64 d0__0),(.int .i64 d0__1),(d0__2h).v],Es (List (List Int)) d0__2 d0__2h,Bx d1_b [(.int .i64 d1__0),(.int .i64 d1__1),(d1__2h).v],Es (List (List Int)) d1__2 d1__2h,E (List (List Int)) s0 g0,Es (List (List Int)) r__2 r__2h]) f1
  refine boolE (z:=true) (ltLen hk) ?_
  refine sq ?_
  refine sq ?_
  obtain ⟨a0,e,f2⟩:=bindS f1;clear f1
  have HH:=H;clear H;obtain ⟨p0,m0,h1,c0,c1,c2,c3,H⟩:=HH.elL 5 rfl e;clear HH
  clear e
  refine idxE c0 c1 c2 ?_;clear c0 c1 c2
  refine load1 c3 ?_;clear c3
  obtain ⟨y0,e,f3⟩:=bindS f2;clear f2
  have ey84:=e;clear e
  replace H:=H.sel [1,3,0,2,4,5,6] rfl
  refine callF (impl_tensor_1_c a0 h1 d0_b d0__0 d0__1 d0__2 d0__2h d1_b d1__0 d1__1 d1__2 d1__2h y0 ey84) (Γi:=[Bx d0_b [(.int .i64 d0__0),(.int .i64 d0__1),(d0__2h).v],Bx d1_b [(.int .i64 d1__0),(.int .i64 d1__1),(d1__2h).v]]) H ⟨Vw.sh 0 rfl,Vw.sh 1 rfl,Vw.sh 2 rfl,trivial⟩ ?_;clear H ey84
  rintro _ _ w2 ⟨h2,rfl,rfl⟩ H
  replace H:=H.sel [2,0,1,3,4,5,6,7] rfl
  refine lit1 (α:=List Int) (g:=h2) gok rfl rfl rfl rfl rfl H ?_;clear H;intro h3 w3 hx H
  clear hx
  obtain ⟨a1,e,f4⟩:=bindS f3;clear f3
  replace H:=H.sel [6,0,1,2,3,4,5,7] rfl
  refine append_ (α:=List Int) gok rfl rfl rfl rfl H e ?_;clear e H;intro h4 w4 H
  refine arK hk x0 ?_
  have hs:=Option.some.inj f4;subst hs;clear f4
  exact ⟨h4,⟨rfl,rfl,rfl,rfl,rfl,trivial⟩,H.sel [1,4,2,5,0,6] rfl⟩
 ·
  clear H e
  rintro T1 g1 w5 (H:Cx w0 fp0 S0 w5 [Bx d0_b [(.int .i64 d0__0),(.int .i64 d0__1),(d0__2h).v],Es (List (List Int)) d0__2 d0__2h,Bx d1_b [(.int .i64 d1__0),(.int .i64 d1__1),(d1__2h).v],Es (List (List Int)) d1__2 d1__2h,E (List (List Int)) r0 g1,Es (List (List Int)) r__2 r__2h])
  refine boolE (z:=false) geLen ?_
  refine sq ?_
  cases f0
  exact ⟨_,_,rfl,⟨g1,rfl,rfl⟩,(H.sel [0,2,4] rfl).close ⟨cloB,cloB,cloE,trivial⟩⟩
theorem impl_tensor_2_c (row_:List Int) (row_h:Hd) (c0_b:Nat) (c0__0:Int) (c0__1:Int) (c0__2:List (List Int)) (c0__2h:Hd) (c1_b:Nat) (c1__0:Int) (c1__1:Int) (c1__2:List (List Int)) (c1__2h:Hd) (y:List Int) (hF:F_impl_tensor_2 row_ (c0__0,c0__1,c0__2) (c1__0,c1__1,c1__2) = some y) :
  ConF Tryz.prog 94 #[(row_h).v,(.pointer (some ⟨c0_b,0,none⟩)),(.pointer (some ⟨c1_b,0,none⟩))] [Es (List Int) row_ row_h,Es (List (List Int)) c0__2 c0__2h,Es (List (List Int)) c1__2 c1__2h] [Bx c0_b [(.int .i64 c0__0),(.int .i64 c0__1),(c0__2h).v],Bx c1_b [(.int .i64 c1__0),(.int .i64 c1__1),(c1__2h).v]] (fun v Γ'=>∃ z0:Hd,v = (z0).v ∧ Γ' = [Bx c0_b [(.int .i64 c0__0),(.int .i64 c0__1),(c0__2h).v],Bx c1_b [(.int .i64 c1__0),(.int .i64 c1__1),(c1__2h).v],E (List Int) y z0]):=by
 intro w0 S0 fp0 hI hS
 have H:Cx w0 fp0 S0 w0 [Es (List Int) row_ row_h,Es (List (List Int)) c0__2 c0__2h,Es (List (List Int)) c1__2 c1__2h,Bx c0_b [(.int .i64 c0__0),(.int .i64 c0__1),(c0__2h).v],Bx c1_b [(.int .i64 c1__0),(.int .i64 c1__1),(c1__2h).v]]:=Cx.start hI hS
 clear hI hS
 refine enterC (args:=[_,_,_]) gok Tryz.func94 rfl _ rfl rfl rfl ?_
 refine heldX H [] (.fst 0 (.fst 4 (.fst 6 (.fst 10 (.fst 1 (.fst 3 (.fst 7 (.fst 9 (.act 2 (.act 5 (.act 8 (.act 11 (.act 12 (.act 13 (.fst 14 .done))))))))))))))) mixed [] trivial (by kernel_rfl) ?_
 clear H;intro w6 H
 have hX:Ext w6 w6:=Upd.refl _ _
 have H0:=H
 refine anyH (fun _=>fld gok rfl rfl rfl rfl ⟨rfl,rfl⟩) ?_
 refine anyH (fun _=>fld gok rfl rfl rfl rfl ⟨rfl,rfl⟩) ?_
 refine load1X (H.bx 3 rfl (j:=0) rfl) ?_
 refine loadNX [(.int .i64 c1__0),(.int .i64 c1__1),(c1__2h).v] rfl (fun j u hj=>H.bx 4 rfl hj) ?_
 refine load1X (H.bx 3 rfl (j:=1) rfl) ?_
 refine loadNX [(.int .i64 c1__0),(.int .i64 c1__1),(c1__2h).v] rfl (fun j u hj=>H.bx 4 rfl hj) ?_
 obtain ⟨y7,e,hF8⟩:=bindS hF;clear hF
 have ey7:=e;clear e
 refine callFx (impl_zeros_c c0__0 y7 ey7) H trivial ?_;clear H ey7
 rintro _ _ w9 ⟨h0,rfl,rfl⟩ hx H
 replace hX:=hX.trans0 hx;clear hx
 refine hold hX ?_
 obtain ⟨y0,e,f0⟩:=bindS hF8;clear hF8
 have ey12:=e;clear e
 refine callSx (impl_Relation_first_c c1__0 c1__1 c1__2 c1__2h row_ row_h y0 ey12) H [3,1] rfl (persC persS (persC persS persN)) ?_;clear H ey12
 rintro _ _ w1 ⟨h1,rfl,rfl⟩ hx H
 replace hX:=hX.trans0 hx;clear hx
 refine hold hX ?_
 obtain ⟨y1,e,f1⟩:=bindS f0;clear f0
 have ey17:=e;clear e
 refine callFx (impl_zeros_c c0__1 y1 ey17) H trivial ?_;clear H ey17
 rintro _ _ w2 ⟨h2,rfl,rfl⟩ hx H
 replace hX:=hX.trans0 hx;clear hx
 refine hold hX ?_
 obtain ⟨y2,e,f2⟩:=bindS f1;clear f1
 have ey22:=e;clear e
 refine callSx (impl_Relation_second_c c1__0 c1__1 c1__2 c1__2h row_ row_h y2 ey22) H [5,3] rfl (persC persS (persC persS persN)) ?_;clear H ey22
 rintro _ _ w3 ⟨h3,rfl,rfl⟩ hx H
 replace hX:=hX.trans0 hx;clear hx
 refine hold hX ?_
 replace H:=H.sel [3,0,1,2,4,5,6,7,8] rfl
 replace H:=H.frz
 replace H:=H.sel [2,0,1,3,4,5,6,7,8] rfl
 replace H:=H.frz
 replace H:=H.dup 2 rfl persS
 replace H:=H.dup 1 rfl persS
 replace H:=H.dup 5 rfl persS
 replace H:=H.dup 4 rfl persS
 refine litN (α:=Sh (List Int)) (us:=[(h0).v,(h1).v,(h2).v,(h3).v]) (xs:=[y7,y0,y1,y2]) (gs:=[h0,h1,h2,h3]) gok rfl rfl rfl ⟨rfl,rfl,rfl,rfl,trivial⟩ rfl rfl H ?_;clear H;intro h4 w4 hx H
 replace hX:=hX.trans0 hx;clear hx
 refine hold hX ?_
 obtain ⟨y3,e,f3⟩:=bindS f2;clear f2
 have ey34:=e;clear e
 refine callFx (impl_joined_c [y7,y0,y1,y2] h4 y3 ey34) H ⟨Vw.part (β:=List (List Int)) (Vw.own (α:=List (Sh (List Int))) 0 rfl) [y7,y0,y1,y2] h4 (fun S h=>h),trivial⟩ ?_;clear H ey34
 rintro _ _ w5 ⟨h5,rfl,rfl⟩ hx H
 replace hX:=hX.trans0 hx;clear hx
 refine hold hX ?_
 cases f3
 exact ⟨_,_,rfl,⟨h5,rfl,rfl⟩,(H.sel [9,10,0] rfl).close ⟨cloB,cloB,cloE,trivial⟩⟩
theorem impl_Relation_each_impl_tensor_2_c (r__0:Int) (r__1:Int) (r__2:List (List Int)) (r__2h:Hd) (d0_b:Nat) (d0__0:Int) (d0__1:Int) (d0__2:List (List Int)) (d0__2h:Hd) (d1_b:Nat) (d1__0:Int) (d1__1:Int) (d1__2:List (List Int)) (d1__2h:Hd) (y:List (List Int)) (hF:F_impl_Relation_each_impl_tensor_2 (r__0,r__1,r__2) (d0__0,d0__1,d0__2) (d1__0,d1__1,d1__2) = some y) :
  ConF Tryz.prog 86 #[(.agg #[(.int .i64 r__0),(.int .i64 r__1),(r__2h).v]),(.func (.func 94) #[] #[(.pointer (some ⟨d0_b,0,none⟩)),(.pointer (some ⟨d1_b,0,none⟩))])] [Es (List (List Int)) r__2 r__2h,Es (List (List Int)) d0__2 d0__2h,Es (List (List Int)) d1__2 d1__2h] [Bx d0_b [(.int .i64 d0__0),(.int .i64 d0__1),(d0__2h).v],Bx d1_b [(.int .i64 d1__0),(.int .i64 d1__1),(d1__2h).v]] (fun v Γ'=>∃ z0:Hd,v = (z0).v ∧ Γ' = [Bx d0_b [(.int .i64 d0__0),(.int .i64 d0__1),(d0__2h).v],Bx d1_b [(.int .i64 d1__0),(.int .i64 d1__1),(d1__2h).v],E (List (List Int)) y z0]):=by
 intro w0 S0 fp0 hI hS
 have H:Cx w0 fp0 S0 w0 [Es (List (List Int)) r__2 r__2h,Es (List (List Int)) d0__2 d0__2h,Es (List (List Int)) d1__2 d1__2h,Bx d0_b [(.int .i64 d0__0),(.int .i64 d0__1),(d0__2h).v],Bx d1_b [(.int .i64 d1__0),(.int .i64 d1__1),(d1__2h).v]]:=Cx.start hI hS
 clear hI hS
 refine enterC (args:=[_,_]) gok Tryz.func86 rfl _ rfl rfl rfl ?_
 refine box_ H ?_;clear H;intro b7 w6 hx H
 clear hx
 refine lit0 (α:=List Int) gok rfl rfl H ?_;clear H;intro h0 w9 hx H
 clear hx
 refine sq ?_
 refine fld gok rfl rfl rfl rfl ?_
 refine load1 (H.bx 1 rfl (j:=2) rfl) ?_
 refine lenE (H.rs (α:=List (List Int)) 2 rfl).len ?_
 have x0:=(H.rs (α:=List (List Int)) 2 rfl).max
 obtain ⟨r0,e,f0⟩:=bindS hF;clear hF
 refine loopS _ r__2.length (fun (k0:Nat) (s0:List (List Int)) (g0:Hd)=>[(1,(.func (.func 94) #[] #[(.pointer (some ⟨d0_b,0,none⟩)),(.pointer (some ⟨d1_b,0,none⟩))])),(5,(g0).v),(10,(r__2h).v),(11,(.int .i64 ((r__2.length:Nat):Int))),(12,(.int .i64 ((k0:Nat):Int)))]) (fun _ (s0:List (List Int)) (g0:Hd) w'=>Cx w0 fp0 S0 w' [Bx d0_b [(.int .i64 d0__0),(.int .i64 d0__1),(d0__2h).v],Es (List (List Int)) d0__2 d0__2h,Bx d1_b [(.int .i64 d1__0),(.int .i64 d1__1),(d1__2h).v],Es (List (List Int)) d1__2 d1__2h,E (List (List Int)) s0 g0,Es (List (List Int)) r__2 r__2h]) ([]:List (List Int)) h0 e ⟨rfl,rfl,rfl,rfl,rfl,trivial⟩ (H.sel [5,3,6,4,0,2] rfl) ?_ ?_
 ·
  clear H e
  rintro T0 k0 s0 g0 w1 o0 hk (H:Cx w0 fp0 S0 w1 [Bx d0_b [(.int .i64 d0__0),(.int .i64 d0__1),(d0__2h).v],Es (List (List Int)) d0__2 d0__2h,Bx d1_b [(.int .i64 d1__0),(.int .i64 d1__1),(d1__2h).v],Es (List (List Int)) d1__2 d1__2h,E (List (List Int)) s0 g0,Es (List (List Int)) r__2 r__2h]) f1
  refine boolE (z:=true) (ltLen hk) ?_
  refine sq ?_
  refine sq ?_
  obtain ⟨a0,e,f2⟩:=bindS f1;clear f1
  have HH:=H;clear H;obtain ⟨p0,m0,h1,c0,c1,c2,c3,H⟩:=HH.elL 5 rfl e;clear HH
  clear e
  refine idxE c0 c1 c2 ?_;clear c0 c1 c2
  refine load1 c3 ?_;clear c3
  obtain ⟨y0,e,f3⟩:=bindS f2;clear f2
  have ey84:=e;clear e
  replace H:=H.sel [1,3,0,2,4,5,6] rfl
  refine callF (impl_tensor_2_c a0 h1 d0_b d0__0 d0__1 d0__2 d0__2h d1_b d1__0 d1__1 d1__2 d1__2h y0 ey84) (Γi:=[Bx d0_b [(.int .i64 d0__0),(.int .i64 d0__1),(d0__2h).v],Bx d1_b [(.int .i64 d1__0),(.int .i64 d1__1),(d1__2h).v]]) H ⟨Vw.sh 0 rfl,Vw.sh 1 rfl,Vw.sh 2 rfl,trivial⟩ ?_;clear H ey84
  rintro _ _ w2 ⟨h2,rfl,rfl⟩ H
  replace H:=H.sel [2,0,1,3,4,5,6,7] rfl
  refine lit1 (α:=List Int) (g:=h2) gok rfl rfl rfl rfl rfl H ?_;clear H;intro h3 w3 hx H
  clear hx
  obtain ⟨a1,e,f4⟩:=bindS f3;clear f3
  replace H:=H.sel [6,0,1,2,3,4,5,7] rfl
  refine append_ (α:=List Int) gok rfl rfl rfl rfl H e ?_;clear e H;intro h4 w4 H
  refine arK hk x0 ?_
  have hs:=Option.some.inj f4;subst hs;clear f4
  exact ⟨h4,⟨rfl,rfl,rfl,rfl,rfl,trivial⟩,H.sel [1,4,2,5,0,6] rfl⟩
 ·
  clear H e
  rintro T1 g1 w5 (H:Cx w0 fp0 S0 w5 [Bx d0_b [(.int .i64 d0__0),(.int .i64 d0__1),(d0__2h).v],Es (List (List Int)) d0__2 d0__2h,Bx d1_b [(.int .i64 d1__0),(.int .i64 d1__1),(d1__2h).v],Es (List (List Int)) d1__2 d1__2h,E (List (List Int)) r0 g1,Es (List (List Int)) r__2 r__2h])
  refine boolE (z:=false) geLen ?_
  refine sq ?_
  cases f0
  exact ⟨_,_,rfl,⟨g1,rfl,rfl⟩,(H.sel [0,2,4] rfl).close ⟨cloB,cloB,cloE,trivial⟩⟩
theorem impl_tensor_c (p_:Int) (a__0:Int) (a__1:Int) (a__2:List (List Int)) (a__2h:Hd) (b__0:Int) (b__1:Int) (b__2:List (List Int)) (b__2h:Hd) (y_0:Int) (y_1:Int) (y_2:List (List Int)) (hF:F_impl_tensor p_ (a__0,a__1,a__2) (b__0,b__1,b__2) = some (y_0,y_1,y_2)) :
  ConF Tryz.prog 70 #[(.int .i64 p_),(.agg #[(.int .i64 a__0),(.int .i64 a__1),(a__2h).v]),(.agg #[(.int .i64 b__0),(.int .i64 b__1),(b__2h).v])] [Es (List (List Int)) a__2 a__2h,Es (List (List Int)) b__2 b__2h] [] (fun v Γ'=>∃ z0:Hd,v = (.agg #[(.int .i64 y_0),(.int .i64 y_1),(z0).v]) ∧ Γ' = [E (List (List Int)) y_2 z0]):=by
 intro w0 S0 fp0 hI hS
 have H:Cx w0 fp0 S0 w0 [Es (List (List Int)) a__2 a__2h,Es (List (List Int)) b__2 b__2h]:=Cx.start hI hS
 clear hI hS
 refine enterC (args:=[_,_,_]) gok Tryz.func70 rfl _ rfl rfl rfl ?_
 refine box_ H ?_;clear H;intro b4 w3 hx H
 clear hx
 refine box_ H ?_;clear H;intro b7 w6 hx H
 clear hx
 refine alloc_ gok rfl H ?_;clear H;intro b0 w9 hx H
 clear hx
 refine loadN [(.int .i64 a__0),(.int .i64 a__1),(a__2h).v] rfl (fun j u hj=>H.bx 2 rfl hj) ?_
 obtain ⟨y0,e,f0⟩:=bindS hF;clear hF
 have ey12:=e;clear e
 replace H:=H.sel [2,1,0,3,4] rfl
 refine callF (impl_Relation_each_impl_tensor_1_c a__0 a__1 a__2 a__2h b4 a__0 a__1 a__2 a__2h b7 b__0 b__1 b__2 b__2h y0 ey12) (Γi:=[Bx b4 [(.int .i64 a__0),(.int .i64 a__1),(a__2h).v],Bx b7 [(.int .i64 b__0),(.int .i64 b__1),(b__2h).v]]) H ⟨Vw.sh 1 rfl,Vw.sh 1 rfl,Vw.sh 2 rfl,trivial⟩ ?_;clear H ey12
 rintro _ _ w1 ⟨h0,rfl,rfl⟩ H
 refine loadN [(.int .i64 b__0),(.int .i64 b__1),(b__2h).v] rfl (fun j u hj=>H.bx 1 rfl hj) ?_
 obtain ⟨y1,e,f1⟩:=bindS f0;clear f0
 have ey17:=e;clear e
 refine callF (impl_Relation_each_impl_tensor_2_c b__0 b__1 b__2 b__2h b4 a__0 a__1 a__2 a__2h b7 b__0 b__1 b__2 b__2h y1 ey17) (Γi:=[Bx b4 [(.int .i64 a__0),(.int .i64 a__1),(a__2h).v],Bx b7 [(.int .i64 b__0),(.int .i64 b__1),(b__2h).v]]) H ⟨Vw.sh 3 rfl,Vw.sh 2 rfl,Vw.sh 3 rfl,trivial⟩ ?_;clear H ey17
 rintro _ _ w2 ⟨h1,rfl,rfl⟩ H
 obtain ⟨a0,e,f2⟩:=bindS f1;clear f1
 replace H:=H.sel [3,2,0,1,4,5,6] rfl
 refine append_ (α:=List Int) gok rfl rfl rfl rfl H e ?_;clear e H;intro h2 w4 H
 refine fld gok rfl rfl rfl rfl ?_
 refine load1 (H.bx 1 rfl (j:=0) rfl) ?_
 refine fld gok rfl rfl rfl rfl ?_
 refine load1 (H.bx 2 rfl (j:=0) rfl) ?_
 obtain ⟨a1,e,f3⟩:=bindS f2;clear f2
 refine arO e ?_;clear e
 refine fld gok rfl rfl rfl rfl ?_
 refine load1 (H.bx 1 rfl (j:=1) rfl) ?_
 refine fld gok rfl rfl rfl rfl ?_
 refine load1 (H.bx 2 rfl (j:=1) rfl) ?_
 obtain ⟨a2,e,f4⟩:=bindS f3;clear f3
 refine arO e ?_;clear e
 obtain ⟨y2,e,f5⟩:=bindS f4;clear f4
 obtain ⟨y2_0,y2_1,y2_2⟩:=y2
 have ey31:=e;clear e
 refine callF (impl_relation_c p_ a1 a2 a0 h2 y2_0 y2_1 y2_2 ey31) (Γi:=[]) H ⟨Vw.own 0 rfl,trivial⟩ ?_;clear H ey31
 rintro _ _ w5 ⟨h3,rfl,rfl⟩ H
 replace H:=H.sel [4,0,1,2,3,5,6] rfl
 refine stA gok [(.int .i64 y2_0),(.int .i64 y2_1),(h3).v] rfl H rfl rfl rfl ?_;clear H;intro w7 H
 refine loadN [(.int .i64 y2_0),(.int .i64 y2_1),(h3).v] rfl (fun j u hj=>H.bx 0 rfl hj) ?_
 cases f5
 exact ⟨_,_,rfl,⟨h3,rfl,rfl⟩,(H.sel [1] rfl).close ⟨cloE,trivial⟩⟩
theorem impl_identityRelation_c (n_:Int) (y_0:Int) (y_1:Int) (y_2:List (List Int)) (hF:F_impl_identityRelation n_ = some (y_0,y_1,y_2)) :
  ConF Tryz.prog 95 #[(.int .i64 n_)] [] [] (fun v Γ'=>∃ z0:Hd,v = (.agg #[(.int .i64 y_0),(.int .i64 y_1),(z0).v]) ∧ Γ' = [E (List (List Int)) y_2 z0]):=by
 intro w0 S0 fp0 hI hS
 have H:Cx w0 fp0 S0 w0 []:=Cx.start hI hS
 clear hI hS
 refine enterC (args:=[_]) gok Tryz.func95 rfl _ rfl rfl rfl ?_
 refine alloc_ gok rfl H ?_;clear H;intro b2 w1 hx H
 clear hx
 refine build_ (cs:=#[(.int .i64 n_),(.int .i64 n_),(.slice none 0 0)]) gok rfl rfl rfl ?_
 refine alloc_ gok rfl H ?_;clear H;intro b5 w4 hx H
 clear hx
 refine stA gok [(.int .i64 n_),(.int .i64 n_),(.slice none 0 0)] rfl H rfl rfl rfl ?_;clear H;intro w7 H
 refine sq ?_
 obtain ⟨a0,hn,f0⟩:=bindS hF;clear hF
 obtain ⟨r0,e,f1⟩:=bindS f0;clear f0
 replace H:=H.nil (α:=List Int)
 refine loopS _ n_.toNat (fun (k8:Nat) (s0:List (List Int)) (g0:Hd)=>[(0,(.int .i64 n_)),(2,(.pointer (some ⟨b2,0,none⟩))),(3,(.pointer (some ⟨b5,0,none⟩))),(8,(.int .i64 n_)),(9,(.int .i64 ((k8:Nat):Int)))]) (fun _ (s0:List (List Int)) (g0:Hd) w'=>Cx w0 fp0 S0 w' [Bx b2 [(.int .i64 0),(.int .i64 0),(.slice none 0 0)],Bx b5 [(.int .i64 n_),(.int .i64 n_),(g0).v],E (List (List Int)) s0 g0]) [] nilH e ⟨rfl,rfl,rfl,rfl,rfl,trivial⟩ (H.sel [2,1,0] rfl) ?_ ?_
 ·
  clear H e
  rintro T0 k8 s0 g0 w2 o0 hk (H:Cx w0 fp0 S0 w2 [Bx b2 [(.int .i64 0),(.int .i64 0),(.slice none 0 0)],Bx b5 [(.int .i64 n_),(.int .i64 n_),(g0).v],E (List (List Int)) s0 g0]) f2
  refine boolE (z:=true) (ltNat hk) ?_
  refine sq ?_
  refine sq ?_
  refine heldX H [11,13,12] (.fst 0 (.fst 2 (.fst 3 (.fst 5 (.fst 6 (.fst 1 (.act 4 (.act 7 (.act 8 (.act 9 (.act 10 (.act 11 (.act 12 (.act 13 .done)))))))))))))) mixed [] trivial (by kernel_rfl) ?_
  clear H;intro w3 H
  have hX:Ext w3 w3:=Upd.refl _ _
  have H0:=H
  refine anyH (fun _=>fld gok rfl rfl rfl rfl ⟨rfl,rfl⟩) ?_
  refine load1X (H.bx 1 rfl (j:=2) rfl) ?_
  obtain ⟨y0,e,f3⟩:=bindS f2;clear f2
  have ey85:=e;clear e
  refine callFx (impl_unit_c n_ ((k8:Nat):Int) y0 ey85) H trivial ?_;clear H ey85
  rintro _ _ w5 ⟨h0,rfl,rfl⟩ hx H
  replace hX:=hX.trans0 hx;clear hx
  refine hold hX ?_
  obtain ⟨y1,e,f4⟩:=bindS f3;clear f3
  have ey90:=e;clear e
  refine callFx (impl_unit_c n_ ((k8:Nat):Int) y1 ey90) H trivial ?_;clear H ey90
  rintro _ _ w6 ⟨h1,rfl,rfl⟩ hx H
  replace hX:=hX.trans0 hx;clear hx
  refine hold hX ?_
  replace H:=H.sel [1,0,2,3,4] rfl
  refine litN (α:=List Int) (us:=[(h0).v,(h1).v]) (xs:=[y0,y1]) (gs:=[h0,h1]) gok rfl rfl rfl ⟨rfl,rfl,trivial⟩ rfl rfl H ?_;clear H;intro h2 w8 hx H
  replace hX:=hX.trans0 hx;clear hx
  refine hold hX ?_
  obtain ⟨y2,e,f5⟩:=bindS f4;clear f4
  have ey98:=e;clear e
  refine callFx (impl_joined_c [y0,y1] h2 y2 ey98) H ⟨Vw.own 0 rfl,trivial⟩ ?_;clear H ey98
  rintro _ _ w9 ⟨h3,rfl,rfl⟩ hx H
  replace hX:=hX.trans0 hx;clear hx
  refine hold hX ?_
  refine lit1 (α:=List Int) (g:=h3) gok rfl rfl rfl rfl rfl H ?_;clear H;intro h4 w10 hx H
  replace hX:=hX.trans0 hx;clear hx
  refine hold hX ?_
  obtain ⟨a1,e,f6⟩:=bindS f5;clear f5
  replace H:=H.sel [4,0,1,2,3] rfl
  refine append_ (α:=List Int) gok rfl rfl rfl rfl H e ?_;clear e H;intro h5 w11 H
  refine hold trivial ?_
  refine fld gok rfl rfl rfl rfl ?_
  refine hold trivial ?_
  replace H:=H.sel [3,0,1,2] rfl
  refine stB (j:=2) H rfl rfl ?_;clear H;intro w12 H
  refine hold trivial ?_
  refine arK hk (maxI hn) ?_
  have hs:=Option.some.inj f6;subst hs;clear f6
  exact ⟨h5,⟨rfl,rfl,rfl,rfl,rfl,trivial⟩,H.sel [3,0,1] rfl⟩
 ·
  clear H e
  rintro T1 g1 w13 (H:Cx w0 fp0 S0 w13 [Bx b2 [(.int .i64 0),(.int .i64 0),(.slice none 0 0)],Bx b5 [(.int .i64 n_),(.int .i64 n_),(g1).v],E (List (List Int)) r0 g1])
  refine boolE (z:=false) geNat ?_
  refine sq ?_
  refine loadN [(.int .i64 n_),(.int .i64 n_),(g1).v] rfl (fun j u hj=>H.bx 1 rfl hj) ?_
  refine stA gok [(.int .i64 n_),(.int .i64 n_),(g1).v] rfl H rfl rfl rfl ?_;clear H;intro w14 H
  refine loadN [(.int .i64 n_),(.int .i64 n_),(g1).v] rfl (fun j u hj=>H.bx 0 rfl hj) ?_
  cases f1
  exact ⟨_,_,rfl,⟨g1,rfl,rfl⟩,(H.sel [2] rfl).close ⟨cloE,trivial⟩⟩
theorem impl_mirrorKind_c (kind_:Int) (y:Int) (hF:F_impl_mirrorKind kind_ = some y) :
  ConF Tryz.prog 97 #[(.int .i64 kind_)] [] [] (fun v Γ'=>v = (.int .i64 y) ∧ Γ' = []):=by
 intro w0 S0 fp0 hI hS
 have H:Cx w0 fp0 S0 w0 []:=Cx.start hI hS
 clear hI hS
 refine enterC (args:=[_]) gok Tryz.func97 rfl _ rfl rfl rfl ?_
 refine sq ?_
 obtain ⟨y1,e,hF2⟩:=bindS hF;clear hF
 have ey1:=e;clear e
 refine callF (impl_within_c kind_ 3 8 y1 ey1) (Γi:=[]) H trivial ?_;clear H ey1
 rintro _ _ w3 ⟨rfl,rfl⟩ H
 cases y1
 ·
  have hF4:=condF hF2;clear hF2
  obtain ⟨y5,e,hF6⟩:=bindS hF4;clear hF4
  have ey5:=e;clear e
  refine callF (impl_within_c kind_ 9 14 y5 ey5) (Γi:=[]) H trivial ?_;clear H ey5
  rintro _ _ w7 ⟨rfl,rfl⟩ H
  cases y5
  ·
   have hF8:=condF hF6;clear hF6
   cases hF8
   exact ⟨_,_,rfl,⟨rfl,rfl⟩,(H.sel [] rfl).close trivial⟩
  ·
   have hF9:=condT hF6;clear hF6
   obtain ⟨a0,e,f0⟩:=bindS hF9;clear hF9
   refine arO e ?_;clear e
   obtain ⟨a1,e,f1⟩:=bindS f0;clear f0
   refine arO e ?_;clear e
   cases f1
   exact ⟨_,_,rfl,⟨rfl,rfl⟩,(H.sel [] rfl).close trivial⟩
 ·
  have f2:=condT hF2;clear hF2
  obtain ⟨a2,e,f3⟩:=bindS f2;clear f2
  refine arO e ?_;clear e
  obtain ⟨a3,e,f4⟩:=bindS f3;clear f3
  refine arO e ?_;clear e
  cases f4
  exact ⟨_,_,rfl,⟨rfl,rfl⟩,(H.sel [] rfl).close trivial⟩
theorem impl_generatorRows_c (kind_:Int) (value_:Int) (y:List (List Int)) (hF:F_impl_generatorRows kind_ value_ = some y) :
  ConF Tryz.prog 99 #[(.int .i64 kind_),(.int .i64 value_)] [] [] (fun v Γ'=>∃ z0:Hd,v = (z0).v ∧ Γ' = [E (List (List Int)) y z0]):=by
 intro w0 S0 fp0 hI hS
 have H:Cx w0 fp0 S0 w0 []:=Cx.start hI hS
 clear hI hS
 refine enterC (args:=[_,_]) gok Tryz.func99 rfl _ rfl rfl rfl ?_
 refine sq ?_
 obtain ⟨a1,e,hF2⟩:=bindS hF;clear hF
 refine boolO e ?_;clear e
 cases a1
 ·
  have hF3:=condF hF2;clear hF2
  obtain ⟨a4,e,hF5⟩:=bindS hF3;clear hF3
  refine boolO e ?_;clear e
  cases a4
  ·
   have hF6:=condF hF5;clear hF5
   obtain ⟨a7,e,hF8⟩:=bindS hF6;clear hF6
   refine boolO e ?_;clear e
   cases a7
   ·
    have hF9:=condF hF8;clear hF8
    obtain ⟨a0,e,f0⟩:=bindS hF9;clear hF9
    refine boolO e ?_;clear e
    cases a0
    ·
     have f1:=condF f0;clear f0
     replace H:=H.nil (α:=List Int)
     cases f1
     exact ⟨_,_,rfl,⟨nilH,rfl,rfl⟩,(H.sel [0] rfl).close ⟨cloE,trivial⟩⟩
    ·
     have f2:=condT f0;clear f0
     replace H:=H.sc (α:=Int) value_
     replace H:=H.sc (α:=Int) 1
     refine litN (α:=Int) (us:=[(.int .i64 1),(.int .i64 value_)]) (xs:=[1,value_]) (gs:=[(),()]) gok rfl rfl rfl ⟨rfl,rfl,trivial⟩ rfl rfl H ?_;clear H;intro h0 w1 hx H
     clear hx
     refine lit1 (α:=List Int) (g:=h0) gok rfl rfl rfl rfl rfl H ?_;clear H;intro h1 w2 hx H
     clear hx
     cases f2
     exact ⟨_,_,rfl,⟨h1,rfl,rfl⟩,(H.sel [0] rfl).close ⟨cloE,trivial⟩⟩
   ·
    have f3:=condT hF8;clear hF8
    replace H:=H.sc (α:=Int) 1
    replace H:=H.sc (α:=Int) 0
    replace H:=H.sc (α:=Int) 1
    refine litN (α:=Int) (us:=[(.int .i64 1),(.int .i64 0),(.int .i64 1)]) (xs:=[1,0,1]) (gs:=[(),(),()]) gok rfl rfl rfl ⟨rfl,rfl,rfl,trivial⟩ rfl rfl H ?_;clear H;intro h2 w3 hx H
    clear hx
    replace H:=H.sc (α:=Int) 1
    replace H:=H.sc (α:=Int) 1
    replace H:=H.sc (α:=Int) 0
    refine litN (α:=Int) (us:=[(.int .i64 0),(.int .i64 1),(.int .i64 1)]) (xs:=[0,1,1]) (gs:=[(),(),()]) gok rfl rfl rfl ⟨rfl,rfl,rfl,trivial⟩ rfl rfl H ?_;clear H;intro h3 w4 hx H
    clear hx
    replace H:=H.sel [1,0] rfl
    refine litN (α:=List Int) (us:=[(h2).v,(h3).v]) (xs:=[[1,0,1],[0,1,1]]) (gs:=[h2,h3]) gok rfl rfl rfl ⟨rfl,rfl,trivial⟩ rfl rfl H ?_;clear H;intro h4 w5 hx H
    clear hx
    cases f3
    exact ⟨_,_,rfl,⟨h4,rfl,rfl⟩,(H.sel [0] rfl).close ⟨cloE,trivial⟩⟩
  ·
   have f4:=condT hF5;clear hF5
   refine lit1S (α:=Int) gok rfl rfl rfl rfl H ?_;clear H;intro h5 w6 hx H
   clear hx
   refine lit1 (α:=List Int) (g:=h5) gok rfl rfl rfl rfl rfl H ?_;clear H;intro h6 w7 hx H
   clear hx
   cases f4
   exact ⟨_,_,rfl,⟨h6,rfl,rfl⟩,(H.sel [0] rfl).close ⟨cloE,trivial⟩⟩
 ·
  have f5:=condT hF2;clear hF2
  replace H:=H.sc (α:=Int) 1
  replace H:=H.sc (α:=Int) 1
  replace H:=H.sc (α:=Int) 1
  refine litN (α:=Int) (us:=[(.int .i64 1),(.int .i64 1),(.int .i64 1)]) (xs:=[1,1,1]) (gs:=[(),(),()]) gok rfl rfl rfl ⟨rfl,rfl,rfl,trivial⟩ rfl rfl H ?_;clear H;intro h7 w8 hx H
  clear hx
  refine lit1 (α:=List Int) (g:=h7) gok rfl rfl rfl rfl rfl H ?_;clear H;intro h8 w9 hx H
  clear hx
  cases f5
  exact ⟨_,_,rfl,⟨h8,rfl,rfl⟩,(H.sel [0] rfl).close ⟨cloE,trivial⟩⟩
theorem impl_converse_1_c (row_:List Int) (row_h:Hd) (c0_b:Nat) (c0__0:Int) (c0__1:Int) (c0__2:List (List Int)) (c0__2h:Hd) (y:List Int) (hF:F_impl_converse_1 row_ (c0__0,c0__1,c0__2) = some y) :
  ConF Tryz.prog 121 #[(row_h).v,(.pointer (some ⟨c0_b,0,none⟩))] [Es (List Int) row_ row_h,Gl c0_b [(.int .i64 c0__0),(.int .i64 c0__1),(c0__2h).v],Es (List (List Int)) c0__2 c0__2h] [] (fun v Γ'=>∃ z0:Hd,v = (z0).v ∧ Γ' = [E (List Int) y z0]):=by
 intro w0 S0 fp0 hI hS
 have H:Cx w0 fp0 S0 w0 [Es (List Int) row_ row_h,Gl c0_b [(.int .i64 c0__0),(.int .i64 c0__1),(c0__2h).v],Es (List (List Int)) c0__2 c0__2h]:=Cx.start hI hS
 clear hI hS
 refine enterC (args:=[_,_]) gok Tryz.func121 rfl _ rfl rfl rfl ?_
 refine heldX H [] (.fst 1 (.fst 4 (.fst 0 (.fst 3 (.act 2 (.act 5 (.act 6 (.act 7 (.fst 8 .done))))))))) mixed [] trivial (by kernel_rfl) ?_
 clear H;intro w4 H
 have hX:Ext w4 w4:=Upd.refl _ _
 have H0:=H
 refine loadNX [(.int .i64 c0__0),(.int .i64 c0__1),(c0__2h).v] rfl (fun j u hj=>H.glx 1 rfl hj) ?_
 refine loadNX [(.int .i64 c0__0),(.int .i64 c0__1),(c0__2h).v] rfl (fun j u hj=>H.glx 1 rfl hj) ?_
 obtain ⟨y5,e,hF6⟩:=bindS hF;clear hF
 have ey5:=e;clear e
 refine callSx (impl_Relation_second_c c0__0 c0__1 c0__2 c0__2h row_ row_h y5 ey5) H [2,0] rfl (persC persS (persC persS persN)) ?_;clear H ey5
 rintro _ _ w7 ⟨h8,rfl,rfl⟩ hx H
 replace hX:=hX.trans0 hx;clear hx
 refine hold hX ?_
 obtain ⟨y0,e,f0⟩:=bindS hF6;clear hF6
 have ey10:=e;clear e
 refine callSx (impl_Relation_first_c c0__0 c0__1 c0__2 c0__2h row_ row_h y0 ey10) H [3,1] rfl (persC persS (persC persS persN)) ?_;clear H ey10
 rintro _ _ w1 ⟨h0,rfl,rfl⟩ hx H
 replace hX:=hX.trans0 hx;clear hx
 refine hold hX ?_
 replace H:=H.dup 0 rfl persS
 replace H:=H.dup 2 rfl persS
 refine litN (α:=Sh (List Int)) (us:=[(h8).v,(h0).v]) (xs:=[y5,y0]) (gs:=[h8,h0]) gok rfl rfl rfl ⟨rfl,rfl,trivial⟩ rfl rfl H ?_;clear H;intro h1 w2 hx H
 replace hX:=hX.trans0 hx;clear hx
 refine hold hX ?_
 obtain ⟨y1,e,f1⟩:=bindS f0;clear f0
 have ey20:=e;clear e
 refine callFx (impl_joined_c [y5,y0] h1 y1 ey20) H ⟨Vw.part (β:=List (List Int)) (Vw.own (α:=List (Sh (List Int))) 0 rfl) [y5,y0] h1 (fun S h=>h),trivial⟩ ?_;clear H ey20
 rintro _ _ w3 ⟨h2,rfl,rfl⟩ hx H
 replace hX:=hX.trans0 hx;clear hx
 refine hold hX ?_
 cases f1
 exact ⟨_,_,rfl,⟨h2,rfl,rfl⟩,(H.sel [0] rfl).close ⟨cloE,trivial⟩⟩
theorem impl_Relation_each_impl_converse_1_c (r__0:Int) (r__1:Int) (r__2:List (List Int)) (r__2h:Hd) (d0_b:Nat) (d0__0:Int) (d0__1:Int) (d0__2:List (List Int)) (d0__2h:Hd) (y:List (List Int)) (hF:F_impl_Relation_each_impl_converse_1 (r__0,r__1,r__2) (d0__0,d0__1,d0__2) = some y) :
  ConF Tryz.prog 86 #[(.agg #[(.int .i64 r__0),(.int .i64 r__1),(r__2h).v]),(.func (.func 121) #[] #[(.pointer (some ⟨d0_b,0,none⟩))])] [Es (List (List Int)) r__2 r__2h,Gl d0_b [(.int .i64 d0__0),(.int .i64 d0__1),(d0__2h).v],Es (List (List Int)) d0__2 d0__2h] [] (fun v Γ'=>∃ z0:Hd,v = (z0).v ∧ Γ' = [E (List (List Int)) y z0]):=by
 intro w0 S0 fp0 hI hS
 have H:Cx w0 fp0 S0 w0 [Es (List (List Int)) r__2 r__2h,Gl d0_b [(.int .i64 d0__0),(.int .i64 d0__1),(d0__2h).v],Es (List (List Int)) d0__2 d0__2h]:=Cx.start hI hS
 clear hI hS
 refine enterC (args:=[_,_]) gok Tryz.func86 rfl _ rfl rfl rfl ?_
 refine box_ H ?_;clear H;intro b5 w4 hx H
 clear hx
 refine lit0 (α:=List Int) gok rfl rfl H ?_;clear H;intro h8 w7 hx H
 clear hx
 refine sq ?_
 refine fld gok rfl rfl rfl rfl ?_
 refine load1 (H.bx 1 rfl (j:=2) rfl) ?_
 refine lenE (H.rs (α:=List (List Int)) 2 rfl).len ?_
 have x0:=(H.rs (α:=List (List Int)) 2 rfl).max
 obtain ⟨r0,e,f0⟩:=bindS hF;clear hF
 refine loopS _ r__2.length (fun (k0:Nat) (s0:List (List Int)) (g0:Hd)=>[(1,(.func (.func 121) #[] #[(.pointer (some ⟨d0_b,0,none⟩))])),(5,(g0).v),(10,(r__2h).v),(11,(.int .i64 ((r__2.length:Nat):Int))),(12,(.int .i64 ((k0:Nat):Int)))]) (fun _ (s0:List (List Int)) (g0:Hd) w'=>Cx w0 fp0 S0 w' [Gl d0_b [(.int .i64 d0__0),(.int .i64 d0__1),(d0__2h).v],Es (List (List Int)) d0__2 d0__2h,E (List (List Int)) s0 g0,Es (List (List Int)) r__2 r__2h]) ([]:List (List Int)) h8 e ⟨rfl,rfl,rfl,rfl,rfl,trivial⟩ (H.sel [3,4,0,2] rfl) ?_ ?_
 ·
  clear H e
  rintro T0 k0 s0 g0 w1 o0 hk (H:Cx w0 fp0 S0 w1 [Gl d0_b [(.int .i64 d0__0),(.int .i64 d0__1),(d0__2h).v],Es (List (List Int)) d0__2 d0__2h,E (List (List Int)) s0 g0,Es (List (List Int)) r__2 r__2h]) f1
  refine boolE (z:=true) (ltLen hk) ?_
  refine sq ?_
  refine sq ?_
  obtain ⟨a0,e,f2⟩:=bindS f1;clear f1
  have HH:=H;clear H;obtain ⟨p0,m0,h0,c0,c1,c2,c3,H⟩:=HH.elL 3 rfl e;clear HH
  clear e
  refine idxE c0 c1 c2 ?_;clear c0 c1 c2
  refine load1 c3 ?_;clear c3
  obtain ⟨y0,e,f3⟩:=bindS f2;clear f2
  have ey82:=e;clear e
  refine callF (impl_converse_1_c a0 h0 d0_b d0__0 d0__1 d0__2 d0__2h y0 ey82) (Γi:=[]) H ⟨Vw.sh 0 rfl,Vw.gl 1 rfl,Vw.sh 2 rfl,trivial⟩ ?_;clear H ey82
  rintro _ _ w2 ⟨h1,rfl,rfl⟩ H
  refine lit1 (α:=List Int) (g:=h1) gok rfl rfl rfl rfl rfl H ?_;clear H;intro h2 w3 hx H
  clear hx
  obtain ⟨a1,e,f4⟩:=bindS f3;clear f3
  replace H:=H.sel [4,0,1,2,3,5] rfl
  refine append_ (α:=List Int) gok rfl rfl rfl rfl H e ?_;clear e H;intro h3 w5 H
  refine arK hk x0 ?_
  have hs:=Option.some.inj f4;subst hs;clear f4
  exact ⟨h3,⟨rfl,rfl,rfl,rfl,rfl,trivial⟩,H.sel [2,3,0,4] rfl⟩
 ·
  clear H e
  rintro T1 g1 w6 (H:Cx w0 fp0 S0 w6 [Gl d0_b [(.int .i64 d0__0),(.int .i64 d0__1),(d0__2h).v],Es (List (List Int)) d0__2 d0__2h,E (List (List Int)) r0 g1,Es (List (List Int)) r__2 r__2h])
  refine boolE (z:=false) geLen ?_
  refine sq ?_
  cases f0
  exact ⟨_,_,rfl,⟨g1,rfl,rfl⟩,(H.sel [2] rfl).close ⟨cloE,trivial⟩⟩
theorem impl_converse_c (p_:Int) (r__0:Int) (r__1:Int) (r__2:List (List Int)) (r__2h:Hd) (y_0:Int) (y_1:Int) (y_2:List (List Int)) (hF:F_impl_converse p_ (r__0,r__1,r__2) = some (y_0,y_1,y_2)) :
  ConF Tryz.prog 98 #[(.int .i64 p_),(.agg #[(.int .i64 r__0),(.int .i64 r__1),(r__2h).v])] [Es (List (List Int)) r__2 r__2h] [] (fun v Γ'=>∃ z0:Hd,v = (.agg #[(.int .i64 y_0),(.int .i64 y_1),(z0).v]) ∧ Γ' = [E (List (List Int)) y_2 z0]):=by
 intro w0 S0 fp0 hI hS
 have H:Cx w0 fp0 S0 w0 [Es (List (List Int)) r__2 r__2h]:=Cx.start hI hS
 clear hI hS
 refine enterC (args:=[_,_]) gok Tryz.func98 rfl _ rfl rfl rfl ?_
 refine box_ H ?_;clear H;intro b3 w2 hx H
 clear hx
 refine alloc_ gok rfl H ?_;clear H;intro b6 w5 hx H
 clear hx
 refine heldX H [9] (.fst 0 (.fst 1 (.fst 3 (.fst 2 (.fst 4 (.fst 5 (.act 6 (.act 7 (.act 8 (.act 9 .done)))))))))) mixed [] trivial (by kernel_rfl) ?_
 clear H;intro w8 H
 have hX:Ext w8 w8:=Upd.refl _ _
 have H0:=H
 refine anyH (fun _=>fld gok rfl rfl rfl rfl ⟨rfl,rfl⟩) ?_
 refine anyH (fun _=>fld gok rfl rfl rfl rfl ⟨rfl,rfl⟩) ?_
 refine load1X (H.bx 1 rfl (j:=1) rfl) ?_
 refine load1X (H.bx 1 rfl (j:=0) rfl) ?_
 refine loadNX [(.int .i64 r__0),(.int .i64 r__1),(r__2h).v] rfl (fun j u hj=>H.bx 1 rfl hj) ?_
 refine hold hX ?_
 obtain ⟨y9,e,f0⟩:=bindS hF;clear hF
 have ey9:=e;clear e
 refine callFx (impl_Relation_each_impl_converse_1_c r__0 r__1 r__2 r__2h b3 r__0 r__1 r__2 r__2h y9 ey9) H ⟨Vw.sh 2 rfl,Vw.bxg 1 rfl,Vw.sh 2 rfl,trivial⟩ ?_;clear H ey9
 rintro _ _ w1 ⟨h0,rfl,rfl⟩ hx H
 replace hX:=hX.trans0 hx;clear hx
 refine hold hX ?_
 obtain ⟨y0,e,f1⟩:=bindS f0;clear f0
 obtain ⟨y0_0,y0_1,y0_2⟩:=y0
 have ey14:=e;clear e
 refine callFx (impl_relation_c p_ r__1 r__0 y9 h0 y0_0 y0_1 y0_2 ey14) H ⟨Vw.own 0 rfl,trivial⟩ ?_;clear H ey14
 rintro _ _ w3 ⟨h1,rfl,rfl⟩ hx H
 replace hX:=hX.trans0 hx;clear hx
 refine hold hX ?_
 replace H:=H.sel [2,0,1,3,4] rfl
 refine stA gok [(.int .i64 y0_0),(.int .i64 y0_1),(h1).v] rfl H rfl rfl rfl ?_;clear H;intro w4 H
 refine hold trivial ?_
 refine loadN [(.int .i64 y0_0),(.int .i64 y0_1),(h1).v] rfl (fun j u hj=>H.bx 0 rfl hj) ?_
 cases f1
 exact ⟨_,_,rfl,⟨h1,rfl,rfl⟩,(H.sel [1] rfl).close ⟨cloE,trivial⟩⟩
theorem impl_leafRelation_c (p_:Int) (n__0:Int) (n__1:Int) (n__2:ByteArray) (y_0:Int) (y_1:Int) (y_2:List (List Int)) (hF:F_impl_leafRelation p_ (n__0,n__1,n__2) = some (y_0,y_1,y_2)) :
  ConF Tryz.prog 71 #[(.int .i64 p_),(.agg #[(.int .i64 n__0),(.int .i64 n__1),(.string n__2)])] [] [] (fun v Γ'=>∃ z0:Hd,v = (.agg #[(.int .i64 y_0),(.int .i64 y_1),(z0).v]) ∧ Γ' = [E (List (List Int)) y_2 z0]):=by
 intro w0 S0 fp0 hI hS
 have H:Cx w0 fp0 S0 w0 []:=Cx.start hI hS
 clear hI hS
 refine enterC (args:=[_,_]) gok Tryz.func71 rfl _ rfl rfl rfl ?_
 refine box_ H ?_;clear H;intro b2 w1 hx H
 clear hx
 refine alloc_ gok rfl H ?_;clear H;intro b5 w4 hx H
 clear hx
 refine sq ?_
 refine fld gok rfl rfl rfl rfl ?_
 refine load1 (H.bx 1 rfl (j:=0) rfl) ?_
 obtain ⟨a7,e,hF8⟩:=bindS hF;clear hF
 refine boolO e ?_;clear e
 cases a7
 ·
  have hF9:=condF hF8;clear hF8
  refine fld gok rfl rfl rfl rfl ?_
  refine load1 (H.bx 1 rfl (j:=0) rfl) ?_
  obtain ⟨a0,e,f0⟩:=bindS hF9;clear hF9
  refine boolO e ?_;clear e
  cases a0
  ·
   have f1:=condF f0;clear f0
   refine fld gok rfl rfl rfl rfl ?_
   refine load1 (H.bx 1 rfl (j:=0) rfl) ?_
   obtain ⟨a1,e,f2⟩:=bindS f1;clear f1
   refine boolO e ?_;clear e
   cases a1
   ·
    have f3:=condF f2;clear f2
    refine fld gok rfl rfl rfl rfl ?_
    refine load1 (H.bx 1 rfl (j:=0) rfl) ?_
    obtain ⟨y0,e,f4⟩:=bindS f3;clear f3
    obtain ⟨y0_0,y0_1⟩:=y0
    have ey16:=e;clear e
    refine callF (impl_generatorWires_c n__0 y0_0 y0_1 ey16) (Γi:=[]) H trivial ?_;clear H ey16
    rintro _ _ w2 ⟨rfl,rfl⟩ H
    refine alloc_ gok rfl H ?_;clear H;intro b0 w3 hx H
    clear hx
    refine stA gok [(.int .i64 y0_0),(.int .i64 y0_1)] rfl H rfl rfl rfl ?_;clear H;intro w5 H
    refine heldX H [11] (.fst 0 (.fst 1 (.fst 3 (.fst 5 (.fst 7 (.fst 2 (.fst 4 (.fst 6 (.fst 8 (.act 9 (.act 10 (.act 11 .done)))))))))))) mixed [] trivial (by kernel_rfl) ?_
    clear H;intro w6 H
    have hX:Ext w6 w6:=Upd.refl _ _
    have H0:=H
    refine anyH (fun _=>fld gok rfl rfl rfl rfl ⟨rfl,rfl⟩) ?_
    refine anyH (fun _=>fld gok rfl rfl rfl rfl ⟨rfl,rfl⟩) ?_
    refine anyH (fun _=>fld gok rfl rfl rfl rfl ⟨rfl,rfl⟩) ?_
    refine anyH (fun _=>fld gok rfl rfl rfl rfl ⟨rfl,rfl⟩) ?_
    refine load1X (H.bx 0 rfl (j:=0) rfl) ?_
    refine load1X (H.bx 0 rfl (j:=1) rfl) ?_
    refine load1X (H.bx 2 rfl (j:=0) rfl) ?_
    refine load1X (H.bx 2 rfl (j:=1) rfl) ?_
    obtain ⟨y1,e,f5⟩:=bindS f4;clear f4
    have ey24:=e;clear e
    refine callFx (impl_generatorRows_c n__0 n__1 y1 ey24) H trivial ?_;clear H ey24
    rintro _ _ w7 ⟨h0,rfl,rfl⟩ hx H
    replace hX:=hX.trans0 hx;clear hx
    refine hold hX ?_
    obtain ⟨y2,e,f6⟩:=bindS f5;clear f5
    obtain ⟨y2_0,y2_1,y2_2⟩:=y2
    have ey29:=e;clear e
    refine callFx (impl_relation_c p_ y0_0 y0_1 y1 h0 y2_0 y2_1 y2_2 ey29) H ⟨Vw.own 0 rfl,trivial⟩ ?_;clear H ey29
    rintro _ _ w8 ⟨h1,rfl,rfl⟩ hx H
    replace hX:=hX.trans0 hx;clear hx
    refine hold hX ?_
    replace H:=H.sel [3,0,1,2,4] rfl
    refine stA gok [(.int .i64 y2_0),(.int .i64 y2_1),(h1).v] rfl H rfl rfl rfl ?_;clear H;intro w9 H
    refine hold trivial ?_
    refine loadN [(.int .i64 y2_0),(.int .i64 y2_1),(h1).v] rfl (fun j u hj=>H.bx 0 rfl hj) ?_
    cases f6
    exact ⟨_,_,rfl,⟨h1,rfl,rfl⟩,(H.sel [1] rfl).close ⟨cloE,trivial⟩⟩
   ·
    have f7:=condT f2;clear f2
    refine fld gok rfl rfl rfl rfl ?_
    refine load1 (H.bx 1 rfl (j:=0) rfl) ?_
    obtain ⟨y3,e,f8⟩:=bindS f7;clear f7
    have ey36:=e;clear e
    refine callF (impl_mirrorKind_c n__0 y3 ey36) (Γi:=[]) H trivial ?_;clear H ey36
    rintro _ _ w10 ⟨rfl,rfl⟩ H
    obtain ⟨y4,e,f9⟩:=bindS f8;clear f8
    obtain ⟨y4_0,y4_1⟩:=y4
    have ey39:=e;clear e
    refine callF (impl_generatorWires_c y3 y4_0 y4_1 ey39) (Γi:=[]) H trivial ?_;clear H ey39
    rintro _ _ w11 ⟨rfl,rfl⟩ H
    refine alloc_ gok rfl H ?_;clear H;intro b1 w12 hx H
    clear hx
    refine stA gok [(.int .i64 y4_0),(.int .i64 y4_1)] rfl H rfl rfl rfl ?_;clear H;intro w13 H
    refine heldX H [14] (.fst 0 (.fst 1 (.fst 2 (.fst 4 (.fst 6 (.fst 9 (.fst 3 (.fst 5 (.fst 7 (.fst 10 (.act 8 (.act 11 (.act 12 (.act 13 (.act 14 .done))))))))))))))) mixed [] trivial (by kernel_rfl) ?_
    clear H;intro w14 H
    have hX:Ext w14 w14:=Upd.refl _ _
    have H0:=H
    refine anyH (fun _=>fld gok rfl rfl rfl rfl ⟨rfl,rfl⟩) ?_
    refine anyH (fun _=>fld gok rfl rfl rfl rfl ⟨rfl,rfl⟩) ?_
    refine anyH (fun _=>fld gok rfl rfl rfl rfl ⟨rfl,rfl⟩) ?_
    refine anyH (fun _=>fld gok rfl rfl rfl rfl ⟨rfl,rfl⟩) ?_
    refine load1X (H.bx 0 rfl (j:=0) rfl) ?_
    refine load1X (H.bx 0 rfl (j:=1) rfl) ?_
    refine load1X (H.bx 2 rfl (j:=0) rfl) ?_
    refine load1X (H.bx 2 rfl (j:=1) rfl) ?_
    obtain ⟨y5,e,f10⟩:=bindS f9;clear f9
    have ey47:=e;clear e
    refine callFx (impl_mirrorKind_c n__0 y5 ey47) H trivial ?_;clear H ey47
    rintro _ _ w15 ⟨rfl,rfl⟩ hx H
    replace hX:=hX.trans0 hx;clear hx
    refine hold hX ?_
    obtain ⟨y6,e,f11⟩:=bindS f10;clear f10
    have ey50:=e;clear e
    refine callFx (impl_generatorRows_c y5 n__1 y6 ey50) H trivial ?_;clear H ey50
    rintro _ _ w16 ⟨h2,rfl,rfl⟩ hx H
    replace hX:=hX.trans0 hx;clear hx
    refine hold hX ?_
    obtain ⟨y7,e,f12⟩:=bindS f11;clear f11
    obtain ⟨y7_0,y7_1,y7_2⟩:=y7
    have ey55:=e;clear e
    refine callFx (impl_relation_c p_ y4_0 y4_1 y6 h2 y7_0 y7_1 y7_2 ey55) H ⟨Vw.own 0 rfl,trivial⟩ ?_;clear H ey55
    rintro _ _ w17 ⟨h3,rfl,rfl⟩ hx H
    replace hX:=hX.trans0 hx;clear hx
    refine hold hX ?_
    obtain ⟨y8,e,f13⟩:=bindS f12;clear f12
    obtain ⟨y8_0,y8_1,y8_2⟩:=y8
    have ey60:=e;clear e
    refine callFx (impl_converse_c p_ y7_0 y7_1 y7_2 h3 y8_0 y8_1 y8_2 ey60) H ⟨Vw.own 0 rfl,trivial⟩ ?_;clear H ey60
    rintro _ _ w20 ⟨h4,rfl,rfl⟩ hx H
    replace hX:=hX.trans0 hx;clear hx
    refine hold hX ?_
    replace H:=H.sel [4,0,1,2,3,5] rfl
    refine stA gok [(.int .i64 y8_0),(.int .i64 y8_1),(h4).v] rfl H rfl rfl rfl ?_;clear H;intro w21 H
    refine hold trivial ?_
    refine loadN [(.int .i64 y8_0),(.int .i64 y8_1),(h4).v] rfl (fun j u hj=>H.bx 0 rfl hj) ?_
    cases f13
    exact ⟨_,_,rfl,⟨h4,rfl,rfl⟩,(H.sel [1] rfl).close ⟨cloE,trivial⟩⟩
  ·
   have f14:=condT f0;clear f0
   replace H:=H.sc (α:=Int) 1
   replace H:=H.sc (α:=Int) 0
   replace H:=H.sc (α:=Int) 0
   replace H:=H.sc (α:=Int) 1
   refine litN (α:=Int) (us:=[(.int .i64 1),(.int .i64 0),(.int .i64 0),(.int .i64 1)]) (xs:=[1,0,0,1]) (gs:=[(),(),(),()]) gok rfl rfl rfl ⟨rfl,rfl,rfl,rfl,trivial⟩ rfl rfl H ?_;clear H;intro h5 w24 hx H
   clear hx
   replace H:=H.sc (α:=Int) 0
   replace H:=H.sc (α:=Int) 1
   replace H:=H.sc (α:=Int) 1
   replace H:=H.sc (α:=Int) 0
   refine litN (α:=Int) (us:=[(.int .i64 0),(.int .i64 1),(.int .i64 1),(.int .i64 0)]) (xs:=[0,1,1,0]) (gs:=[(),(),(),()]) gok rfl rfl rfl ⟨rfl,rfl,rfl,rfl,trivial⟩ rfl rfl H ?_;clear H;intro h6 w25 hx H
   clear hx
   replace H:=H.sel [1,0,2,3] rfl
   refine litN (α:=List Int) (us:=[(h5).v,(h6).v]) (xs:=[[1,0,0,1],[0,1,1,0]]) (gs:=[h5,h6]) gok rfl rfl rfl ⟨rfl,rfl,trivial⟩ rfl rfl H ?_;clear H;intro h7 w27 hx H
   clear hx
   obtain ⟨y9,e,f15⟩:=bindS f14;clear f14
   obtain ⟨y9_0,y9_1,y9_2⟩:=y9
   have ey76:=e;clear e
   refine callF (impl_relation_c p_ 2 2 [[1,0,0,1],[0,1,1,0]] h7 y9_0 y9_1 y9_2 ey76) (Γi:=[]) H ⟨Vw.own 0 rfl,trivial⟩ ?_;clear H ey76
   rintro _ _ w28 ⟨h8,rfl,rfl⟩ H
   replace H:=H.sel [2,0,1,3] rfl
   refine stA gok [(.int .i64 y9_0),(.int .i64 y9_1),(h8).v] rfl H rfl rfl rfl ?_;clear H;intro w29 H
   refine loadN [(.int .i64 y9_0),(.int .i64 y9_1),(h8).v] rfl (fun j u hj=>H.bx 0 rfl hj) ?_
   cases f15
   exact ⟨_,_,rfl,⟨h8,rfl,rfl⟩,(H.sel [1] rfl).close ⟨cloE,trivial⟩⟩
 ·
  have f16:=condT hF8;clear hF8
  refine fld gok rfl rfl rfl rfl ?_
  refine load1 (H.bx 1 rfl (j:=1) rfl) ?_
  obtain ⟨y10,e,f17⟩:=bindS f16;clear f16
  obtain ⟨y10_0,y10_1,y10_2⟩:=y10
  have ey83:=e;clear e
  refine callF (impl_identityRelation_c n__1 y10_0 y10_1 y10_2 ey83) (Γi:=[]) H trivial ?_;clear H ey83
  rintro _ _ w30 ⟨h9,rfl,rfl⟩ H
  replace H:=H.sel [1,0,2] rfl
  refine stA gok [(.int .i64 y10_0),(.int .i64 y10_1),(h9).v] rfl H rfl rfl rfl ?_;clear H;intro w32 H
  refine loadN [(.int .i64 y10_0),(.int .i64 y10_1),(h9).v] rfl (fun j u hj=>H.bx 0 rfl hj) ?_
  cases f17
  exact ⟨_,_,rfl,⟨h9,rfl,rfl⟩,(H.sel [1] rfl).close ⟨cloE,trivial⟩⟩
theorem impl_denote_c (p_:Int) (t__0:List (Int × Int × ByteArray)) (t__0h:Hd) (y_0:Int) (y_1:Int) (y_2:List (List Int)) (hF:F_impl_denote p_ t__0 = some (y_0,y_1,y_2)) :
  ConS Tryz.prog 52 #[(.int .i64 p_),(.agg #[(t__0h).v])] [Es (List (Int × Int × ByteArray)) t__0 t__0h] [] (fun v Γ'=>∃ z0:Hd,v = (.agg #[(.int .i64 y_0),(.int .i64 y_1),(z0).v]) ∧ Γ' = [Es (List (List Int)) y_2 z0]):=by
 intro w0 S0 fp0 hI hS
 have H:Cx w0 fp0 S0 w0 [Es (List (Int × Int × ByteArray)) t__0 t__0h]:=Cx.start hI hS
 clear hI hS
 refine enterC (args:=[_,_]) gok Tryz.func52 rfl _ rfl rfl rfl ?_
 refine box_ H ?_;clear H;intro b3 w2 hx H
 clear hx
 refine alloc_ gok rfl H ?_;clear H;intro b6 w5 hx H
 clear hx
 refine lit0 (α:=Int × Int × List (List Int)) gok rfl rfl H ?_;clear H;intro h9 w8 hx H
 clear hx
 refine sq ?_
 refine fld gok rfl rfl rfl rfl ?_
 refine load1 (H.bx 2 rfl (j:=0) rfl) ?_
 refine lenE (H.rs (α:=List (Int × Int × ByteArray)) 3 rfl).len ?_
 have x0:=(H.rs (α:=List (Int × Int × ByteArray)) 3 rfl).max
 obtain ⟨r0,e,f0⟩:=bindS hF;clear hF
 replace H:=H.frzE (α:=Int × Int × List (List Int))
 refine loopS _ t__0.length (fun (k0:Nat) (s0:List (Int × Int × List (List Int))) (g0:Hd)=>[(0,(.int .i64 p_)),(4,(.pointer (some ⟨b6,0,none⟩))),(5,(g0).v),(11,(t__0h).v),(12,(.int .i64 ((t__0.length:Nat):Int))),(13,(.int .i64 ((k0:Nat):Int)))]) (fun _ (s0:List (Int × Int × List (List Int))) (g0:Hd) w'=>Cx w0 fp0 S0 w' [Bx b6 [(.int .i64 0),(.int .i64 0),(.slice none 0 0)],E (List (Sh (Int × Int × List (List Int)))) s0 g0,Es (List (Int × Int × ByteArray)) t__0 t__0h]) ([]:List (Int × Int × List (List Int))) h9 e ⟨rfl,rfl,rfl,rfl,rfl,rfl,trivial⟩ (H.sel [1,0,3] rfl) ?_ ?_
 ·
  clear H e
  rintro T0 k0 s0 g0 w1 o0 hk (H:Cx w0 fp0 S0 w1 [Bx b6 [(.int .i64 0),(.int .i64 0),(.slice none 0 0)],E (List (Sh (Int × Int × List (List Int)))) s0 g0,Es (List (Int × Int × ByteArray)) t__0 t__0h]) f1
  refine boolE (z:=true) (ltLen hk) ?_
  refine sq ?_
  refine sq ?_
  obtain ⟨a0,e,f2⟩:=bindS f1;clear f1
  have HH:=H;clear H;obtain ⟨p0,m0,g1,c0,c1,c2,c3,H⟩:=HH.el (α:=Int × Int × ByteArray) 2 rfl e;clear HH
  clear e
  obtain ⟨a0_0,a0_1,a0_2⟩:=a0
  obtain ⟨_,_,_⟩:=g1
  replace H:=H.sel [1,2,3] rfl
  refine idxE c0 c1 c2 ?_;clear c0 c1 c2
  refine loadN [(.int .i64 a0_0),(.int .i64 a0_1),(.string a0_2)] rfl c3 ?_;clear c3
  refine alloc_ gok rfl H ?_;clear H;intro b0 w3 hx H
  clear hx
  refine stA gok [(.int .i64 a0_0),(.int .i64 a0_1),(.string a0_2)] rfl H rfl rfl rfl ?_;clear H;intro w4 H
  refine lenE (Rdb.len (α:=Sh (Int × Int × List (List Int))) (H.ro (α:=List (Sh (Int × Int × List (List Int)))) 2 rfl)) ?_
  obtain ⟨a1,e,f3⟩:=bindS f2;clear f2
  refine arO e ?_;clear e
  refine fld gok rfl rfl rfl rfl ?_
  refine load1 (H.bx 0 rfl (j:=0) rfl) ?_
  obtain ⟨a2,e,f4⟩:=bindS f3;clear f3
  refine boolO e ?_;clear e
  cases a2
  ·
   have f5:=condF f4;clear f4
   obtain ⟨a3,e,f6⟩:=bindS f5;clear f5
   refine boolO e ?_;clear e
   cases a3
   ·
    have f7:=condF f6;clear f6
    refine loadN [(.int .i64 a0_0),(.int .i64 a0_1),(.string a0_2)] rfl (fun j u hj=>H.bx 0 rfl hj) ?_
    obtain ⟨y0,e,f8⟩:=bindS f7;clear f7
    obtain ⟨y0_0,y0_1,y0_2⟩:=y0
    have ey331:=e;clear e
    refine callF (impl_leafRelation_c p_ a0_0 a0_1 a0_2 y0_0 y0_1 y0_2 ey331) (Γi:=[]) H trivial ?_;clear H ey331
    rintro _ _ w6 ⟨h0,rfl,rfl⟩ H
    replace H:=H.sc (α:=Int) y0_1
    replace H:=H.join (α:=Int) (β:=List (List Int))
    replace H:=H.sc (α:=Int) y0_0
    replace H:=H.join (α:=Int) (β:=Int × List (List Int))
    refine lit1 (α:=Int × Int × List (List Int)) (g:=((),(),h0)) gok rfl rfl rfl rfl rfl H ?_;clear H;intro h1 w7 hx H
    clear hx
    obtain ⟨a4,e,f9⟩:=bindS f8;clear f8
    replace H:=H.frzE (α:=Int × Int × List (List Int))
    replace H:=H.sel [3,0,1,2,4] rfl
    refine append_ (α:=Sh (Int × Int × List (List Int))) gok rfl rfl rfl rfl H e ?_;clear e H;intro h2 w9 H
    refine arK hk x0 ?_
    have hs:=Option.some.inj f9;subst hs;clear f9
    exact ⟨h2,⟨rfl,rfl,rfl,rfl,rfl,rfl,trivial⟩,H.sel [2,0,3] rfl⟩
   ·
    have f10:=condT f6;clear f6
    refine heldX H [16,17] (.fst 0 (.fst 1 (.fst 2 (.fst 4 (.fst 5 (.fst 6 (.fst 7 (.fst 8 (.fst 10 (.fst 11 (.fst 12 (.fst 9 (.fst 13 (.fst 3 (.act 14 (.act 15 (.act 16 (.act 17 .done)))))))))))))))))) mixed [] trivial (by kernel_rfl) ?_
    clear H;intro w10 H
    have hX:Ext w10 w10:=Upd.refl _ _
    have H0:=H
    obtain ⟨a5,e,f11⟩:=bindS f10;clear f10
    refine arO e ?_;clear e
    obtain ⟨a6,e,f12⟩:=bindS f11;clear f11
    refine arO e ?_;clear e
    obtain ⟨a7,e,f13⟩:=bindS f12;clear f12
    have HH:=H;clear H;obtain ⟨p1,m1,g2,c4,c5,c6,c7,H⟩:=HH.ex (α:=Int × Int × List (List Int)) 2 rfl e;clear HH
    clear e
    obtain ⟨a7_0,a7_1,a7_2⟩:=a7
    obtain ⟨_,_,h3⟩:=g2
    replace H:=H.part (β:=List (List Int)) a7_2 (h3:Hd) 0 rfl (fun S h=>(And.right (And.right h)))
    replace H:=H.sel [0,2,3,4,5] rfl
    refine idxE c4 c5 c6 ?_;clear c4 c5 c6
    obtain ⟨a8,e,f14⟩:=bindS f13;clear f13
    have HH:=H;clear H;obtain ⟨p2,m2,g3,c8,c9,c10,c11,H⟩:=HH.ex (α:=Int × Int × List (List Int)) 3 rfl e;clear HH
    clear e
    obtain ⟨a8_0,a8_1,a8_2⟩:=a8
    obtain ⟨_,_,h4⟩:=g3
    replace H:=H.part (β:=List (List Int)) a8_2 (h4:Hd) 0 rfl (fun S h=>(And.right (And.right h)))
    replace H:=H.sel [0,2,3,4,5,6] rfl
    refine idxE c8 c9 c10 ?_;clear c8 c9 c10
    refine loadNX [(.int .i64 a7_0),(.int .i64 a7_1),(h3).v] rfl c7 ?_;clear c7
    refine loadNX [(.int .i64 a8_0),(.int .i64 a8_1),(h4).v] rfl c11 ?_;clear c11
    obtain ⟨a9,e,f15⟩:=bindS f14;clear f14
    replace H:=H.sel [4,0,1,2,3,5] rfl
    refine slOX (α:=Sh (Int × Int × List (List Int))) gok rfl rfl H e rfl rfl ?_;clear e;intro h5 HH;clear H;have H:=HH;clear HH
    obtain ⟨y1,e,f16⟩:=bindS f15;clear f15
    obtain ⟨y1_0,y1_1,y1_2⟩:=y1
    have ey382:=e;clear e
    refine callFx (impl_tensor_c p_ a7_0 a7_1 a7_2 h3 a8_0 a8_1 a8_2 h4 y1_0 y1_1 y1_2 ey382) H ⟨Vw.sh 2 rfl,Vw.sh 1 rfl,trivial⟩ ?_;clear H ey382
    rintro _ _ w11 ⟨h6,rfl,rfl⟩ hx H
    replace hX:=hX.trans0 hx;clear hx
    refine hold hX ?_
    replace H:=H.sc (α:=Int) y1_1
    replace H:=H.join (α:=Int) (β:=List (List Int))
    replace H:=H.sc (α:=Int) y1_0
    replace H:=H.join (α:=Int) (β:=Int × List (List Int))
    refine lit1 (α:=Int × Int × List (List Int)) (g:=((),(),h6)) gok rfl rfl rfl rfl rfl H ?_;clear H;intro h7 w12 hx H
    replace hX:=hX.trans0 hx;clear hx
    refine hold hX ?_
    obtain ⟨a10,e,f17⟩:=bindS f16;clear f16
    replace H:=H.frzE (α:=Int × Int × List (List Int))
    replace H:=H.sel [1,0,2,3,4,5,6] rfl
    refine append_ (α:=Sh (Int × Int × List (List Int))) gok rfl rfl rfl rfl H e ?_;clear e H;intro h8 w13 H
    refine hold trivial ?_
    refine hold trivial ?_
    refine arK hk x0 ?_
    have hs:=Option.some.inj f17;subst hs;clear f17
    exact ⟨h8,⟨rfl,rfl,rfl,rfl,rfl,rfl,trivial⟩,H.sel [4,0,5] rfl⟩
  ·
   have f18:=condT f4;clear f4
   refine heldX H [16,17] (.fst 0 (.fst 1 (.fst 2 (.fst 4 (.fst 5 (.fst 6 (.fst 7 (.fst 8 (.fst 10 (.fst 11 (.fst 12 (.fst 9 (.fst 13 (.fst 3 (.act 14 (.act 15 (.act 16 (.act 17 .done)))))))))))))))))) mixed [] trivial (by kernel_rfl) ?_
   clear H;intro w14 H
   have hX:Ext w14 w14:=Upd.refl _ _
   have H0:=H
   obtain ⟨a11,e,f19⟩:=bindS f18;clear f18
   refine arO e ?_;clear e
   obtain ⟨a12,e,f20⟩:=bindS f19;clear f19
   refine arO e ?_;clear e
   obtain ⟨a13,e,f21⟩:=bindS f20;clear f20
   have HH:=H;clear H;obtain ⟨p3,m3,g4,c12,c13,c14,c15,H⟩:=HH.ex (α:=Int × Int × List (List Int)) 2 rfl e;clear HH
   clear e
   obtain ⟨a13_0,a13_1,a13_2⟩:=a13
   obtain ⟨_,_,h10⟩:=g4
   replace H:=H.part (β:=List (List Int)) a13_2 (h10:Hd) 0 rfl (fun S h=>(And.right (And.right h)))
   replace H:=H.sel [0,2,3,4,5] rfl
   refine idxE c12 c13 c14 ?_;clear c12 c13 c14
   obtain ⟨a14,e,f22⟩:=bindS f21;clear f21
   have HH:=H;clear H;obtain ⟨p4,m4,g5,c16,c17,c18,c19,H⟩:=HH.ex (α:=Int × Int × List (List Int)) 3 rfl e;clear HH
   clear e
   obtain ⟨a14_0,a14_1,a14_2⟩:=a14
   obtain ⟨_,_,h11⟩:=g5
   replace H:=H.part (β:=List (List Int)) a14_2 (h11:Hd) 0 rfl (fun S h=>(And.right (And.right h)))
   replace H:=H.sel [0,2,3,4,5,6] rfl
   refine idxE c16 c17 c18 ?_;clear c16 c17 c18
   refine loadNX [(.int .i64 a13_0),(.int .i64 a13_1),(h10).v] rfl c15 ?_;clear c15
   refine loadNX [(.int .i64 a14_0),(.int .i64 a14_1),(h11).v] rfl c19 ?_;clear c19
   obtain ⟨a15,e,f23⟩:=bindS f22;clear f22
   replace H:=H.sel [4,0,1,2,3,5] rfl
   refine slOX (α:=Sh (Int × Int × List (List Int))) gok rfl rfl H e rfl rfl ?_;clear e;intro h12 HH;clear H;have H:=HH;clear HH
   obtain ⟨y2,e,f24⟩:=bindS f23;clear f23
   obtain ⟨y2_0,y2_1,y2_2⟩:=y2
   have ey433:=e;clear e
   refine callFx (impl_composed_c p_ a13_0 a13_1 a13_2 h10 a14_0 a14_1 a14_2 h11 y2_0 y2_1 y2_2 ey433) H ⟨Vw.sh 2 rfl,Vw.sh 1 rfl,trivial⟩ ?_;clear H ey433
   rintro _ _ w15 ⟨h13,rfl,rfl⟩ hx H
   replace hX:=hX.trans0 hx;clear hx
   refine hold hX ?_
   replace H:=H.sc (α:=Int) y2_1
   replace H:=H.join (α:=Int) (β:=List (List Int))
   replace H:=H.sc (α:=Int) y2_0
   replace H:=H.join (α:=Int) (β:=Int × List (List Int))
   refine lit1 (α:=Int × Int × List (List Int)) (g:=((),(),h13)) gok rfl rfl rfl rfl rfl H ?_;clear H;intro h14 w16 hx H
   replace hX:=hX.trans0 hx;clear hx
   refine hold hX ?_
   obtain ⟨a16,e,f25⟩:=bindS f24;clear f24
   replace H:=H.frzE (α:=Int × Int × List (List Int))
   replace H:=H.sel [1,0,2,3,4,5,6] rfl
   refine append_ (α:=Sh (Int × Int × List (List Int))) gok rfl rfl rfl rfl H e ?_;clear e H;intro h15 w17 H
   refine hold trivial ?_
   refine hold trivial ?_
   refine arK hk x0 ?_
   have hs:=Option.some.inj f25;subst hs;clear f25
   exact ⟨h15,⟨rfl,rfl,rfl,rfl,rfl,rfl,trivial⟩,H.sel [4,0,5] rfl⟩
 ·
  clear H e
  rintro T1 g6 w18 (H:Cx w0 fp0 S0 w18 [Bx b6 [(.int .i64 0),(.int .i64 0),(.slice none 0 0)],E (List (Sh (Int × Int × List (List Int)))) r0 g6,Es (List (Int × Int × ByteArray)) t__0 t__0h])
  refine boolE (z:=false) geLen ?_
  refine sq ?_
  obtain ⟨a17,e,f26⟩:=bindS f0;clear f0
  have HH:=H;clear H;obtain ⟨p5,m5,g7,c20,c21,c22,c23,H⟩:=HH.ex (α:=Int × Int × List (List Int)) 1 rfl e;clear HH
  clear e
  obtain ⟨a17_0,a17_1,a17_2⟩:=a17
  obtain ⟨_,_,h16⟩:=g7
  replace H:=H.part (β:=List (List Int)) a17_2 (h16:Hd) 0 rfl (fun S h=>(And.right (And.right h)))
  replace H:=H.sel [0,2,3,4] rfl
  refine idxE c20 c21 c22 ?_;clear c20 c21 c22
  refine loadN [(.int .i64 a17_0),(.int .i64 a17_1),(h16).v] rfl c23 ?_;clear c23
  replace H:=H.sel [1,0,2,3] rfl
  refine stA gok [(.int .i64 a17_0),(.int .i64 a17_1),(h16).v] rfl H rfl rfl rfl ?_;clear H;intro w19 H
  refine loadN [(.int .i64 a17_0),(.int .i64 a17_1),(h16).v] rfl (fun j u hj=>H.bx 0 rfl hj) ?_
  cases f26
  exact ⟨_,_,rfl,⟨h16,rfl,rfl⟩,(H.sel [1] rfl)⟩
theorem impl_twoTerms_c (p_:Int) (a__0:List (Int × Int × ByteArray)) (a__0h:Hd) (b__0:List (Int × Int × ByteArray)) (b__0h:Hd) (y0_0:Int) (y0_1:Int) (y0_2:List (List Int)) (y1_0:Int) (y1_1:Int) (y1_2:List (List Int)) (y2:Bool) (hF:F_impl_twoTerms p_ a__0 b__0 = some ((y0_0,y0_1,y0_2),(y1_0,y1_1,y1_2),y2)) :
  ConS Tryz.prog 33 #[(.int .i64 p_),(.agg #[(a__0h).v]),(.agg #[(b__0h).v])] [Es (List (Int × Int × ByteArray)) a__0 a__0h,Es (List (Int × Int × ByteArray)) b__0 b__0h,Gl 0 [.int .i64 2,.int .i64 3,.int .i64 5,.int .i64 7]] [] (fun v Γ'=>∃ z0 z1:Hd,v = (.tuple #[(.agg #[(.int .i64 y0_0),(.int .i64 y0_1),(z0).v]),(.agg #[(.int .i64 y1_0),(.int .i64 y1_1),(z1).v]),(.bool y2)]) ∧ Γ' = [Es (List (List Int)) y0_2 z0,Es (List (List Int)) y1_2 z1]):=by
 intro w0 S0 fp0 hI hS
 have H:Cx w0 fp0 S0 w0 [Es (List (Int × Int × ByteArray)) a__0 a__0h,Es (List (Int × Int × ByteArray)) b__0 b__0h,Gl 0 [.int .i64 2,.int .i64 3,.int .i64 5,.int .i64 7]]:=Cx.start hI hS
 clear hI hS
 refine enterC (args:=[_,_,_]) gok Tryz.func33 rfl _ rfl rfl rfl ?_
 refine box_ H ?_;clear H;intro b5 w4 hx H
 clear hx
 refine box_ H ?_;clear H;intro b8 w7 hx H
 clear hx
 refine alloc_ gok rfl H ?_;clear H;intro b0 w1 hx H
 clear hx
 refine alloc_ gok rfl H ?_;clear H;intro b1 w2 hx H
 clear hx
 refine sq ?_
 obtain ⟨r0,f0,f1⟩:=bindS hF;clear hF
 refine cut (fun (q0:Bool)=>[(0,(.int .i64 p_)),(4,(.pointer (some ⟨b5,0,none⟩))),(5,(.pointer (some ⟨b8,0,none⟩))),(6,(.pointer (some ⟨b0,0,none⟩))),(7,(.pointer (some ⟨b1,0,none⟩))),(20,(.bool q0))]) (fun (q0:Bool) w'=>q0 = r0 ∧ Cx w0 fp0 S0 w' [Bx b5 [(a__0h).v],Es (List (Int × Int × ByteArray)) a__0 a__0h,Bx b8 [(b__0h).v],Es (List (Int × Int × ByteArray)) b__0 b__0h,Bx b0 [(.int .i64 0),(.int .i64 0),(.slice none 0 0)],Bx b1 [(.int .i64 0),(.int .i64 0),(.slice none 0 0)],Gl 0 [.int .i64 2,.int .i64 3,.int .i64 5,.int .i64 7]]) ?_ ?_
 ·
  refine loadN [(a__0h).v] rfl (fun j u hj=>H.bx 3 rfl hj) ?_
  obtain ⟨y0,e,f2⟩:=bindS f0;clear f0
  have ey34:=e;clear e
  refine callF (impl_Term_isStatic_c a__0 a__0h p_ y0 ey34) (Γi:=[]) H ⟨Vw.sh 4 rfl,Vw.gl 6 rfl,trivial⟩ ?_;clear H ey34
  rintro _ _ w3 ⟨rfl,rfl⟩ H
  obtain ⟨a0,e,f3⟩:=bindS f2;clear f2
  refine boolO e ?_;clear e
  cases a0
  ·
   have f4:=condF f3;clear f3
   refine loadN [(b__0h).v] rfl (fun j u hj=>H.bx 2 rfl hj) ?_
   obtain ⟨y1,e,f5⟩:=bindS f4;clear f4
   have ey40:=e;clear e
   refine callF (impl_Term_isStatic_c b__0 b__0h p_ y1 ey40) (Γi:=[]) H ⟨Vw.sh 5 rfl,Vw.gl 6 rfl,trivial⟩ ?_;clear H ey40
   rintro _ _ w5 ⟨rfl,rfl⟩ H
   obtain ⟨a1,e,f6⟩:=bindS f5;clear f5
   refine boolO e ?_;clear e
   exact ⟨a1,⟨rfl,rfl,rfl,rfl,rfl,rfl,trivial⟩,Option.some.inj f6,H.sel [3,4,2,5,1,0,6] rfl⟩
  ·
   have f7:=condT f3;clear f3
   exact ⟨true,⟨rfl,rfl,rfl,rfl,rfl,rfl,trivial⟩,Option.some.inj f7,H.sel [3,4,2,5,1,0,6] rfl⟩
 ·
  clear f0 H
  rintro T0 s0 w6 ⟨hr,(H:Cx w0 fp0 S0 w6 [Bx b5 [(a__0h).v],Es (List (Int × Int × ByteArray)) a__0 a__0h,Bx b8 [(b__0h).v],Es (List (Int × Int × ByteArray)) b__0 b__0h,Bx b0 [(.int .i64 0),(.int .i64 0),(.slice none 0 0)],Bx b1 [(.int .i64 0),(.int .i64 0),(.slice none 0 0)],Gl 0 [.int .i64 2,.int .i64 3,.int .i64 5,.int .i64 7]])⟩
  subst hr
  cases s0
  ·
   have f8:=condF f1;clear f1
   obtain ⟨r1,f9,f10⟩:=bindS f8;clear f8
   refine heldJ H [] (.fst 0 (.fst 3 (.fst 1 (.fst 4 (.alts (.alt 2 (.alts (.alt 5 (.alts (.alt 6 (.act 7 (.act 8 (.act 9 .done))) (.alt 7 (.act 6 (.act 8 (.act 9 .done))) .no))) (.alt 6 (.alts (.alt 5 (.act 7 (.act 8 (.act 9 .done))) (.alt 7 (.act 5 (.act 8 (.act 9 .done))) .no))) (.alt 7 (.alts (.alt 5 (.act 6 (.act 8 (.act 9 .done))) (.alt 6 (.act 5 (.act 8 (.act 9 .done))) .no))) .no)))) (.alt 6 (.alts (.alt 2 (.alts (.alt 5 (.act 7 (.act 8 (.act 9 .done))) (.alt 7 (.act 5 (.act 8 (.act 9 .done))) .no))) (.alt 7 (.act 2 (.act 5 (.act 8 (.act 9 .done)))) .no))) (.alt 7 (.alts (.alt 2 (.alts (.alt 5 (.act 6 (.act 8 (.act 9 .done))) (.alt 6 (.act 5 (.act 8 (.act 9 .done))) .no))) (.alt 6 (.act 2 (.act 5 (.act 8 (.act 9 .done)))) .no))) .no)))))))) mixed [] trivial (by kernel_rfl) (fun (q1:(Int × Int × List (List Int) × Int × Int × List (List Int)) × (Hd × Hd × Nat × Nat))=>[(6,(.pointer (some ⟨b0,0,none⟩))),(7,(.pointer (some ⟨b1,0,none⟩))),(9,(.pointer (some ⟨q1.2.2.2.2,0,none⟩))),(10,(.pointer (some ⟨q1.2.2.2.1,0,none⟩)))]) (fun (q1:(Int × Int × List (List Int) × Int × Int × List (List Int)) × (Hd × Hd × Nat × Nat)) w'=>(q1.1.1,q1.1.2.1,q1.1.2.2.1,q1.1.2.2.2.1,q1.1.2.2.2.2.1,q1.1.2.2.2.2.2) = r1 ∧ Cx w0 fp0 S0 w' [Bx b0 [(.int .i64 0),(.int .i64 0),(.slice none 0 0)],Bx b1 [(.int .i64 0),(.int .i64 0),(.slice none 0 0)],Bx q1.2.2.2.2 [(.int .i64 q1.1.2.2.2.1),(.int .i64 q1.1.2.2.2.2.1),(q1.2.2.1).v],Es (List (List Int)) q1.1.2.2.2.2.2 q1.2.2.1,Bx q1.2.2.2.1 [(.int .i64 q1.1.1),(.int .i64 q1.1.2.1),(q1.2.1).v],Es (List (List Int)) q1.1.2.2.1 q1.2.1,Gl 0 [.int .i64 2,.int .i64 3,.int .i64 5,.int .i64 7]]) ?_ ?_
   ·
    clear H;intro w8 H
    have hX:Ext w8 w8:=Upd.refl _ _
    have H0:=H
    refine loadNX [(a__0h).v] rfl (fun j u hj=>H.bx 0 rfl hj) ?_
    refine loadNX [(b__0h).v] rfl (fun j u hj=>H.bx 2 rfl hj) ?_
    refine both ?_ ?_
    ·
     obtain ⟨y3,e,f11⟩:=bindS f9;clear f9
     obtain ⟨y3_0,y3_1,y3_2⟩:=y3
     have ey292:=e;clear e
     refine callSx (impl_denote_c p_ a__0 a__0h y3_0 y3_1 y3_2 ey292) H [1] rfl (persC persS persN) ?_;clear H ey292
     rintro _ _ w9 ⟨h0,rfl,rfl⟩ hx H
     replace hX:=hX.trans0 hx;clear hx
     refine hold hX ?_
     refine both ?_ ?_
     ·
      obtain ⟨y4,e,f12⟩:=bindS f11;clear f11
      obtain ⟨y4_0,y4_1,y4_2⟩:=y4
      have ey312:=e;clear e
      refine callSx (impl_denote_c p_ b__0 b__0h y4_0 y4_1 y4_2 ey312) H [4] rfl (persC persS persN) ?_;clear H ey312
      rintro _ _ w11 ⟨h1,rfl,rfl⟩ hx H
      replace hX:=hX.trans0 hx;clear hx
      refine hold hX ?_
      refine both ?_ ?_
      ·
       refine allocX gok rfl H ?_;clear H;intro b2 w12 hx v0 H;replace v0:=Nat.le_trans hX.size v0
       replace hX:=hX.trans0 hx;clear hx
       refine hold hX ?_
       refine allocX gok rfl H ?_;clear H;intro b3 w14 hx v1 H;replace v1:=Nat.le_trans hX.size v1
       replace hX:=hX.trans0 hx;clear hx
       refine hold hX ?_
       replace H:=H.sel [1,0,2,3,4,5,6,7,8,9,10] rfl
       refine stAX gok [(.int .i64 y3_0),(.int .i64 y3_1),(h0).v] rfl H rfl rfl rfl ?_;clear H;intro w15 hu H
       replace hX:=hX.fresh hu v0;clear hu
       refine hold hX ?_
       replace H:=H.sel [1,0,2,3,4,5,6,7,8,9,10] rfl
       refine stAX gok [(.int .i64 y4_0),(.int .i64 y4_1),(h1).v] rfl H rfl rfl rfl ?_;clear H;intro w16 hu H
       replace hX:=hX.fresh hu v1;clear hu
       refine hold hX ?_
       exact ⟨((y4_0,y4_1,y4_2,y3_0,y3_1,y3_2),(h1,h0,b3,b2)),⟨rfl,rfl,rfl,rfl,trivial⟩,Option.some.inj f12,H.sel [8,9,1,3,0,2,10] rfl⟩
      ·
       refine both ?_ ?_
       ·
        refine allocX gok rfl H ?_;clear H;intro b4 w17 hx v2 H;replace v2:=Nat.le_trans hX.size v2
        replace hX:=hX.trans0 hx;clear hx
        refine hold hX ?_
        refine allocX gok rfl H ?_;clear H;intro b6 w18 hx v3 H;replace v3:=Nat.le_trans hX.size v3
        replace hX:=hX.trans0 hx;clear hx
        refine hold hX ?_
        refine stAX gok [(.int .i64 y3_0),(.int .i64 y3_1),(h0).v] rfl H rfl rfl rfl ?_;clear H;intro w19 hu H
        replace hX:=hX.fresh hu v3;clear hu
        refine hold hX ?_
        replace H:=H.sel [1,0,2,3,4,5,6,7,8,9,10] rfl
        refine stAX gok [(.int .i64 y4_0),(.int .i64 y4_1),(h1).v] rfl H rfl rfl rfl ?_;clear H;intro w20 hu H
        replace hX:=hX.fresh hu v2;clear hu
        refine hold hX ?_
        exact ⟨((y4_0,y4_1,y4_2,y3_0,y3_1,y3_2),(h1,h0,b4,b6)),⟨rfl,rfl,rfl,rfl,trivial⟩,Option.some.inj f12,H.sel [8,9,1,3,0,2,10] rfl⟩
       ·
        exact trivial
     ·
      refine both ?_ ?_
      ·
       obtain ⟨a2,o0,f13⟩:=bindS f11;clear f11
       refine allocX gok rfl H ?_;clear H;intro b7 w21 hx v4 H;replace v4:=Nat.le_trans hX.size v4
       replace hX:=hX.trans0 hx;clear hx
       refine hold hX ?_
       refine both ?_ ?_
       ·
        have e:=o0;clear o0
        obtain ⟨a2_0,a2_1,a2_2⟩:=a2
        have ea347:=e;clear e
        refine callSx (impl_denote_c p_ b__0 b__0h a2_0 a2_1 a2_2 ea347) H [5] rfl (persC persS persN) ?_;clear H ea347
        rintro _ _ w22 ⟨h2,rfl,rfl⟩ hx H
        replace hX:=hX.trans0 hx;clear hx
        refine hold hX ?_
        refine allocX gok rfl H ?_;clear H;intro b9 w23 hx v5 H;replace v5:=Nat.le_trans hX.size v5
        replace hX:=hX.trans0 hx;clear hx
        refine hold hX ?_
        replace H:=H.sel [2,0,1,3,4,5,6,7,8,9,10] rfl
        refine stAX gok [(.int .i64 y3_0),(.int .i64 y3_1),(h0).v] rfl H rfl rfl rfl ?_;clear H;intro w24 hu H
        replace hX:=hX.fresh hu v4;clear hu
        refine hold hX ?_
        replace H:=H.sel [1,0,2,3,4,5,6,7,8,9,10] rfl
        refine stAX gok [(.int .i64 a2_0),(.int .i64 a2_1),(h2).v] rfl H rfl rfl rfl ?_;clear H;intro w25 hu H
        replace hX:=hX.fresh hu v5;clear hu
        refine hold hX ?_
        exact ⟨((a2_0,a2_1,a2_2,y3_0,y3_1,y3_2),(h2,h0,b9,b7)),⟨rfl,rfl,rfl,rfl,trivial⟩,Option.some.inj f13,H.sel [8,9,1,3,0,2,10] rfl⟩
       ·
        refine both ?_ ?_
        ·
         refine allocX gok rfl H ?_;clear H;intro b10 w26 hx v6 H;replace v6:=Nat.le_trans hX.size v6
         replace hX:=hX.trans0 hx;clear hx
         refine hold hX ?_
         have e:=o0;clear o0
         obtain ⟨a2_0,a2_1,a2_2⟩:=a2
         have ea347:=e;clear e
         refine callSx (impl_denote_c p_ b__0 b__0h a2_0 a2_1 a2_2 ea347) H [6] rfl (persC persS persN) ?_;clear H ea347
         rintro _ _ w27 ⟨h3,rfl,rfl⟩ hx H
         replace hX:=hX.trans0 hx;clear hx
         refine hold hX ?_
         replace H:=H.sel [2,0,1,3,4,5,6,7,8,9,10] rfl
         refine stAX gok [(.int .i64 y3_0),(.int .i64 y3_1),(h0).v] rfl H rfl rfl rfl ?_;clear H;intro w28 hu H
         replace hX:=hX.fresh hu v4;clear hu
         refine hold hX ?_
         replace H:=H.sel [2,0,1,3,4,5,6,7,8,9,10] rfl
         refine stAX gok [(.int .i64 a2_0),(.int .i64 a2_1),(h3).v] rfl H rfl rfl rfl ?_;clear H;intro w29 hu H
         replace hX:=hX.fresh hu v6;clear hu
         refine hold hX ?_
         exact ⟨((a2_0,a2_1,a2_2,y3_0,y3_1,y3_2),(h3,h0,b10,b7)),⟨rfl,rfl,rfl,rfl,trivial⟩,Option.some.inj f13,H.sel [8,9,1,3,0,2,10] rfl⟩
        ·
         exact trivial
      ·
       refine both ?_ ?_
       ·
        obtain ⟨a3,o1,f14⟩:=bindS f11;clear f11
        refine allocX gok rfl H ?_;clear H;intro b12 w30 hx v7 H;replace v7:=Nat.le_trans hX.size v7
        replace hX:=hX.trans0 hx;clear hx
        refine hold hX ?_
        refine both ?_ ?_
        ·
         have e:=o1;clear o1
         obtain ⟨a3_0,a3_1,a3_2⟩:=a3
         have ea372:=e;clear e
         refine callSx (impl_denote_c p_ b__0 b__0h a3_0 a3_1 a3_2 ea372) H [5] rfl (persC persS persN) ?_;clear H ea372
         rintro _ _ w31 ⟨h4,rfl,rfl⟩ hx H
         replace hX:=hX.trans0 hx;clear hx
         refine hold hX ?_
         refine allocX gok rfl H ?_;clear H;intro b13 w32 hx v8 H;replace v8:=Nat.le_trans hX.size v8
         replace hX:=hX.trans0 hx;clear hx
         refine hold hX ?_
         refine stAX gok [(.int .i64 y3_0),(.int .i64 y3_1),(h0).v] rfl H rfl rfl rfl ?_;clear H;intro w33 hu H
         replace hX:=hX.fresh hu v8;clear hu
         refine hold hX ?_
         replace H:=H.sel [2,0,1,3,4,5,6,7,8,9,10] rfl
         refine stAX gok [(.int .i64 a3_0),(.int .i64 a3_1),(h4).v] rfl H rfl rfl rfl ?_;clear H;intro w34 hu H
         replace hX:=hX.fresh hu v7;clear hu
         refine hold hX ?_
         exact ⟨((a3_0,a3_1,a3_2,y3_0,y3_1,y3_2),(h4,h0,b12,b13)),⟨rfl,rfl,rfl,rfl,trivial⟩,Option.some.inj f14,H.sel [8,9,1,3,0,2,10] rfl⟩
        ·
         refine both ?_ ?_
         ·
          refine allocX gok rfl H ?_;clear H;intro b15 w35 hx v9 H;replace v9:=Nat.le_trans hX.size v9
          replace hX:=hX.trans0 hx;clear hx
          refine hold hX ?_
          have e:=o1;clear o1
          obtain ⟨a3_0,a3_1,a3_2⟩:=a3
          have ea372:=e;clear e
          refine callSx (impl_denote_c p_ b__0 b__0h a3_0 a3_1 a3_2 ea372) H [6] rfl (persC persS persN) ?_;clear H ea372
          rintro _ _ w37 ⟨h5,rfl,rfl⟩ hx H
          replace hX:=hX.trans0 hx;clear hx
          refine hold hX ?_
          replace H:=H.sel [1,0,2,3,4,5,6,7,8,9,10] rfl
          refine stAX gok [(.int .i64 y3_0),(.int .i64 y3_1),(h0).v] rfl H rfl rfl rfl ?_;clear H;intro w38 hu H
          replace hX:=hX.fresh hu v9;clear hu
          refine hold hX ?_
          replace H:=H.sel [2,0,1,3,4,5,6,7,8,9,10] rfl
          refine stAX gok [(.int .i64 a3_0),(.int .i64 a3_1),(h5).v] rfl H rfl rfl rfl ?_;clear H;intro w39 hu H
          replace hX:=hX.fresh hu v7;clear hu
          refine hold hX ?_
          exact ⟨((a3_0,a3_1,a3_2,y3_0,y3_1,y3_2),(h5,h0,b12,b15)),⟨rfl,rfl,rfl,rfl,trivial⟩,Option.some.inj f14,H.sel [8,9,1,3,0,2,10] rfl⟩
         ·
          exact trivial
       ·
        exact trivial
    ·
     refine both ?_ ?_
     ·
      obtain ⟨a4,o2,f15⟩:=bindS f9;clear f9
      obtain ⟨a5,o3,f16⟩:=bindS f15;clear f15
      refine allocX gok rfl H ?_;clear H;intro b16 w40 hx v10 H;replace v10:=Nat.le_trans hX.size v10
      replace hX:=hX.trans0 hx;clear hx
      refine hold hX ?_
      refine both ?_ ?_
      ·
       have e:=o2;clear o2
       obtain ⟨a4_0,a4_1,a4_2⟩:=a4
       have ea397:=e;clear e
       refine callSx (impl_denote_c p_ a__0 a__0h a4_0 a4_1 a4_2 ea397) H [2] rfl (persC persS persN) ?_;clear H ea397
       rintro _ _ w41 ⟨h6,rfl,rfl⟩ hx H
       replace hX:=hX.trans0 hx;clear hx
       refine hold hX ?_
       refine both ?_ ?_
       ·
        have e:=o3;clear o3
        obtain ⟨a5_0,a5_1,a5_2⟩:=a5
        have ea400:=e;clear e
        refine callSx (impl_denote_c p_ b__0 b__0h a5_0 a5_1 a5_2 ea400) H [5] rfl (persC persS persN) ?_;clear H ea400
        rintro _ _ w43 ⟨h7,rfl,rfl⟩ hx H
        replace hX:=hX.trans0 hx;clear hx
        refine hold hX ?_
        refine allocX gok rfl H ?_;clear H;intro b17 w44 hx v11 H;replace v11:=Nat.le_trans hX.size v11
        replace hX:=hX.trans0 hx;clear hx
        refine hold hX ?_
        replace H:=H.sel [3,0,1,2,4,5,6,7,8,9,10] rfl
        refine stAX gok [(.int .i64 a4_0),(.int .i64 a4_1),(h6).v] rfl H rfl rfl rfl ?_;clear H;intro w45 hu H
        replace hX:=hX.fresh hu v10;clear hu
        refine hold hX ?_
        replace H:=H.sel [1,0,2,3,4,5,6,7,8,9,10] rfl
        refine stAX gok [(.int .i64 a5_0),(.int .i64 a5_1),(h7).v] rfl H rfl rfl rfl ?_;clear H;intro w47 hu H
        replace hX:=hX.fresh hu v11;clear hu
        refine hold hX ?_
        exact ⟨((a5_0,a5_1,a5_2,a4_0,a4_1,a4_2),(h7,h6,b17,b16)),⟨rfl,rfl,rfl,rfl,trivial⟩,Option.some.inj f16,H.sel [8,9,1,3,0,2,10] rfl⟩
       ·
        refine both ?_ ?_
        ·
         refine allocX gok rfl H ?_;clear H;intro b18 w48 hx v12 H;replace v12:=Nat.le_trans hX.size v12
         replace hX:=hX.trans0 hx;clear hx
         refine hold hX ?_
         have e:=o3;clear o3
         obtain ⟨a5_0,a5_1,a5_2⟩:=a5
         have ea400:=e;clear e
         refine callSx (impl_denote_c p_ b__0 b__0h a5_0 a5_1 a5_2 ea400) H [6] rfl (persC persS persN) ?_;clear H ea400
         rintro _ _ w49 ⟨h8,rfl,rfl⟩ hx H
         replace hX:=hX.trans0 hx;clear hx
         refine hold hX ?_
         replace H:=H.sel [3,0,1,2,4,5,6,7,8,9,10] rfl
         refine stAX gok [(.int .i64 a4_0),(.int .i64 a4_1),(h6).v] rfl H rfl rfl rfl ?_;clear H;intro w50 hu H
         replace hX:=hX.fresh hu v10;clear hu
         refine hold hX ?_
         replace H:=H.sel [2,0,1,3,4,5,6,7,8,9,10] rfl
         refine stAX gok [(.int .i64 a5_0),(.int .i64 a5_1),(h8).v] rfl H rfl rfl rfl ?_;clear H;intro w51 hu H
         replace hX:=hX.fresh hu v12;clear hu
         refine hold hX ?_
         exact ⟨((a5_0,a5_1,a5_2,a4_0,a4_1,a4_2),(h8,h6,b18,b16)),⟨rfl,rfl,rfl,rfl,trivial⟩,Option.some.inj f16,H.sel [8,9,1,3,0,2,10] rfl⟩
        ·
         exact trivial
      ·
       refine both ?_ ?_
       ·
        refine allocX gok rfl H ?_;clear H;intro b19 w52 hx v13 H;replace v13:=Nat.le_trans hX.size v13
        replace hX:=hX.trans0 hx;clear hx
        refine hold hX ?_
        have e:=o2;clear o2
        obtain ⟨a4_0,a4_1,a4_2⟩:=a4
        have ea397:=e;clear e
        refine callSx (impl_denote_c p_ a__0 a__0h a4_0 a4_1 a4_2 ea397) H [3] rfl (persC persS persN) ?_;clear H ea397
        rintro _ _ w53 ⟨h9,rfl,rfl⟩ hx H
        replace hX:=hX.trans0 hx;clear hx
        refine hold hX ?_
        have e:=o3;clear o3
        obtain ⟨a5_0,a5_1,a5_2⟩:=a5
        have ea400:=e;clear e
        refine callSx (impl_denote_c p_ b__0 b__0h a5_0 a5_1 a5_2 ea400) H [6] rfl (persC persS persN) ?_;clear H ea400
        rintro _ _ w54 ⟨h10,rfl,rfl⟩ hx H
        replace hX:=hX.trans0 hx;clear hx
        refine hold hX ?_
        replace H:=H.sel [3,0,1,2,4,5,6,7,8,9,10] rfl
        refine stAX gok [(.int .i64 a4_0),(.int .i64 a4_1),(h9).v] rfl H rfl rfl rfl ?_;clear H;intro w55 hu H
        replace hX:=hX.fresh hu v10;clear hu
        refine hold hX ?_
        replace H:=H.sel [3,0,1,2,4,5,6,7,8,9,10] rfl
        refine stAX gok [(.int .i64 a5_0),(.int .i64 a5_1),(h10).v] rfl H rfl rfl rfl ?_;clear H;intro w56 hu H
        replace hX:=hX.fresh hu v13;clear hu
        refine hold hX ?_
        exact ⟨((a5_0,a5_1,a5_2,a4_0,a4_1,a4_2),(h10,h9,b19,b16)),⟨rfl,rfl,rfl,rfl,trivial⟩,Option.some.inj f16,H.sel [8,9,1,3,0,2,10] rfl⟩
       ·
        exact trivial
     ·
      refine both ?_ ?_
      ·
       obtain ⟨a6,o4,f17⟩:=bindS f9;clear f9
       obtain ⟨a7,o5,f18⟩:=bindS f17;clear f17
       refine allocX gok rfl H ?_;clear H;intro b20 w57 hx v14 H;replace v14:=Nat.le_trans hX.size v14
       replace hX:=hX.trans0 hx;clear hx
       refine hold hX ?_
       refine both ?_ ?_
       ·
        have e:=o4;clear o4
        obtain ⟨a6_0,a6_1,a6_2⟩:=a6
        have ea440:=e;clear e
        refine callSx (impl_denote_c p_ a__0 a__0h a6_0 a6_1 a6_2 ea440) H [2] rfl (persC persS persN) ?_;clear H ea440
        rintro _ _ w58 ⟨h11,rfl,rfl⟩ hx H
        replace hX:=hX.trans0 hx;clear hx
        refine hold hX ?_
        refine both ?_ ?_
        ·
         have e:=o5;clear o5
         obtain ⟨a7_0,a7_1,a7_2⟩:=a7
         have ea443:=e;clear e
         refine callSx (impl_denote_c p_ b__0 b__0h a7_0 a7_1 a7_2 ea443) H [5] rfl (persC persS persN) ?_;clear H ea443
         rintro _ _ w59 ⟨h12,rfl,rfl⟩ hx H
         replace hX:=hX.trans0 hx;clear hx
         refine hold hX ?_
         refine allocX gok rfl H ?_;clear H;intro b21 w60 hx v15 H;replace v15:=Nat.le_trans hX.size v15
         replace hX:=hX.trans0 hx;clear hx
         refine hold hX ?_
         refine stAX gok [(.int .i64 a6_0),(.int .i64 a6_1),(h11).v] rfl H rfl rfl rfl ?_;clear H;intro w61 hu H
         replace hX:=hX.fresh hu v15;clear hu
         refine hold hX ?_
         replace H:=H.sel [3,0,1,2,4,5,6,7,8,9,10] rfl
         refine stAX gok [(.int .i64 a7_0),(.int .i64 a7_1),(h12).v] rfl H rfl rfl rfl ?_;clear H;intro w62 hu H
         replace hX:=hX.fresh hu v14;clear hu
         refine hold hX ?_
         exact ⟨((a7_0,a7_1,a7_2,a6_0,a6_1,a6_2),(h12,h11,b20,b21)),⟨rfl,rfl,rfl,rfl,trivial⟩,Option.some.inj f18,H.sel [8,9,1,3,0,2,10] rfl⟩
        ·
         refine both ?_ ?_
         ·
          refine allocX gok rfl H ?_;clear H;intro b22 w63 hx v16 H;replace v16:=Nat.le_trans hX.size v16
          replace hX:=hX.trans0 hx;clear hx
          refine hold hX ?_
          have e:=o5;clear o5
          obtain ⟨a7_0,a7_1,a7_2⟩:=a7
          have ea443:=e;clear e
          refine callSx (impl_denote_c p_ b__0 b__0h a7_0 a7_1 a7_2 ea443) H [6] rfl (persC persS persN) ?_;clear H ea443
          rintro _ _ w64 ⟨h13,rfl,rfl⟩ hx H
          replace hX:=hX.trans0 hx;clear hx
          refine hold hX ?_
          replace H:=H.sel [1,0,2,3,4,5,6,7,8,9,10] rfl
          refine stAX gok [(.int .i64 a6_0),(.int .i64 a6_1),(h11).v] rfl H rfl rfl rfl ?_;clear H;intro w65 hu H
          replace hX:=hX.fresh hu v16;clear hu
          refine hold hX ?_
          replace H:=H.sel [3,0,1,2,4,5,6,7,8,9,10] rfl
          refine stAX gok [(.int .i64 a7_0),(.int .i64 a7_1),(h13).v] rfl H rfl rfl rfl ?_;clear H;intro w66 hu H
          replace hX:=hX.fresh hu v14;clear hu
          refine hold hX ?_
          exact ⟨((a7_0,a7_1,a7_2,a6_0,a6_1,a6_2),(h13,h11,b20,b22)),⟨rfl,rfl,rfl,rfl,trivial⟩,Option.some.inj f18,H.sel [8,9,1,3,0,2,10] rfl⟩
         ·
          exact trivial
       ·
        refine both ?_ ?_
        ·
         refine allocX gok rfl H ?_;clear H;intro b23 w67 hx v17 H;replace v17:=Nat.le_trans hX.size v17
         replace hX:=hX.trans0 hx;clear hx
         refine hold hX ?_
         have e:=o4;clear o4
         obtain ⟨a6_0,a6_1,a6_2⟩:=a6
         have ea440:=e;clear e
         refine callSx (impl_denote_c p_ a__0 a__0h a6_0 a6_1 a6_2 ea440) H [3] rfl (persC persS persN) ?_;clear H ea440
         rintro _ _ w68 ⟨h14,rfl,rfl⟩ hx H
         replace hX:=hX.trans0 hx;clear hx
         refine hold hX ?_
         have e:=o5;clear o5
         obtain ⟨a7_0,a7_1,a7_2⟩:=a7
         have ea443:=e;clear e
         refine callSx (impl_denote_c p_ b__0 b__0h a7_0 a7_1 a7_2 ea443) H [6] rfl (persC persS persN) ?_;clear H ea443
         rintro _ _ w69 ⟨h15,rfl,rfl⟩ hx H
         replace hX:=hX.trans0 hx;clear hx
         refine hold hX ?_
         replace H:=H.sel [2,0,1,3,4,5,6,7,8,9,10] rfl
         refine stAX gok [(.int .i64 a6_0),(.int .i64 a6_1),(h14).v] rfl H rfl rfl rfl ?_;clear H;intro w70 hu H
         replace hX:=hX.fresh hu v17;clear hu
         refine hold hX ?_
         replace H:=H.sel [3,0,1,2,4,5,6,7,8,9,10] rfl
         refine stAX gok [(.int .i64 a7_0),(.int .i64 a7_1),(h15).v] rfl H rfl rfl rfl ?_;clear H;intro w71 hu H
         replace hX:=hX.fresh hu v14;clear hu
         refine hold hX ?_
         exact ⟨((a7_0,a7_1,a7_2,a6_0,a6_1,a6_2),(h15,h14,b20,b23)),⟨rfl,rfl,rfl,rfl,trivial⟩,Option.some.inj f18,H.sel [8,9,1,3,0,2,10] rfl⟩
        ·
         exact trivial
      ·
       exact trivial
   ·
    clear f9 H
    rintro T1 ⟨⟨s1_0,s1_1,s1_2,s1_3,s1_4,s1_5⟩,⟨g0_0,g0_1,g0_2,g0_3⟩⟩ w72 ⟨hr,(H:Cx w0 fp0 S0 w72 [Bx b0 [(.int .i64 0),(.int .i64 0),(.slice none 0 0)],Bx b1 [(.int .i64 0),(.int .i64 0),(.slice none 0 0)],Bx g0_3 [(.int .i64 s1_3),(.int .i64 s1_4),(g0_1).v],Es (List (List Int)) s1_5 g0_1,Bx g0_2 [(.int .i64 s1_0),(.int .i64 s1_1),(g0_0).v],Es (List (List Int)) s1_2 g0_0,Gl 0 [.int .i64 2,.int .i64 3,.int .i64 5,.int .i64 7]])⟩
    subst hr
    obtain ⟨r2,f19,f20⟩:=bindS f10;clear f10
    refine cut (fun (q2:(Int × Int × List (List Int) × Int × Int × List (List Int) × Bool) × (Hd × Hd))=>[(6,(.pointer (some ⟨b0,0,none⟩))),(7,(.pointer (some ⟨b1,0,none⟩))),(8,(.bool q2.1.2.2.2.2.2.2))]) (fun (q2:(Int × Int × List (List Int) × Int × Int × List (List Int) × Bool) × (Hd × Hd)) w'=>(q2.1.1,q2.1.2.1,q2.1.2.2.1,q2.1.2.2.2.1,q2.1.2.2.2.2.1,q2.1.2.2.2.2.2.1,q2.1.2.2.2.2.2.2) = r2 ∧ Cx w0 fp0 S0 w' [Bx b0 [(.int .i64 q2.1.1),(.int .i64 q2.1.2.1),(q2.2.1).v],Es (List (List Int)) q2.1.2.2.1 q2.2.1,Bx b1 [(.int .i64 q2.1.2.2.2.1),(.int .i64 q2.1.2.2.2.2.1),(q2.2.2).v],Es (List (List Int)) q2.1.2.2.2.2.2.1 q2.2.2,Gl 0 [.int .i64 2,.int .i64 3,.int .i64 5,.int .i64 7]]) ?_ ?_
    ·
     refine heldX H [14,15,16,0,1,8,9,10,11,12,13] (.pure 0 (.pure 1 (.fst 2 (.fst 4 (.fst 3 (.fst 5 (.fst 6 (.fst 7 (.pure 8 (.pure 9 (.pure 10 (.pure 11 (.pure 12 (.pure 13 (.act 14 (.act 15 (.act 16 .done))))))))))))))))) mixed [((Addr.add ⟨g0_3,0,none⟩ 0),(.int .i64 s1_3)),((Addr.add ⟨g0_3,0,none⟩ 1),(.int .i64 s1_4)),((Addr.add ⟨g0_3,0,none⟩ 2),(g0_1).v),((Addr.add ⟨g0_2,0,none⟩ 0),(.int .i64 s1_0)),((Addr.add ⟨g0_2,0,none⟩ 1),(.int .i64 s1_1)),((Addr.add ⟨g0_2,0,none⟩ 2),(g0_0).v),((Addr.add ⟨g0_3,0,none⟩ 1),(.int .i64 s1_4)),((Addr.add ⟨g0_2,0,none⟩ 1),(.int .i64 s1_1))] ⟨H.bx 2 rfl (j:=0) rfl,H.bx 2 rfl (j:=1) rfl,H.bx 2 rfl (j:=2) rfl,H.bx 4 rfl (j:=0) rfl,H.bx 4 rfl (j:=1) rfl,H.bx 4 rfl (j:=2) rfl,H.bx 2 rfl (j:=1) rfl,H.bx 4 rfl (j:=1) rfl,trivial⟩ (by kernel_rfl) ?_
     clear H;intro w73 H
     have hX:Ext w73 w73:=Upd.refl _ _
     have H0:=H
     refine loadNW 0 [(.int .i64 s1_3),(.int .i64 s1_4),(g0_1).v] rfl ⟨rfl,rfl,rfl,trivial⟩ ?_
     refine loadNW 3 [(.int .i64 s1_0),(.int .i64 s1_1),(g0_0).v] rfl ⟨rfl,rfl,rfl,trivial⟩ ?_
     refine anyH (fun _=>fld gok rfl rfl rfl rfl ⟨rfl,rfl⟩) ?_
     refine anyH (fun _=>fld gok rfl rfl rfl rfl ⟨rfl,rfl⟩) ?_
     refine load1X (H.bx 2 rfl (j:=0) rfl) ?_
     refine load1X (H.bx 4 rfl (j:=0) rfl) ?_
     obtain ⟨a8,e,f21⟩:=bindS f19;clear f19
     refine boolO e ?_;clear e
     cases a8
     ·
      have f22:=condF f21;clear f21
      refine stA gok [(.int .i64 s1_3),(.int .i64 s1_4),(g0_1).v] rfl H rfl rfl rfl ?_;clear H;intro w74 H
      refine hold ⟨H.bx 2 rfl (j:=0) rfl,H.bx 2 rfl (j:=1) rfl,H.bx 2 rfl (j:=2) rfl,H.bx 4 rfl (j:=0) rfl,H.bx 4 rfl (j:=1) rfl,H.bx 4 rfl (j:=2) rfl,H.bx 2 rfl (j:=1) rfl,H.bx 4 rfl (j:=1) rfl,trivial⟩ ?_
      replace H:=H.sel [1,0,2,3,4,5,6] rfl
      refine stA gok [(.int .i64 s1_0),(.int .i64 s1_1),(g0_0).v] rfl H rfl rfl rfl ?_;clear H;intro w75 H
      refine hold ⟨H.bx 2 rfl (j:=0) rfl,H.bx 2 rfl (j:=1) rfl,H.bx 2 rfl (j:=2) rfl,H.bx 4 rfl (j:=0) rfl,H.bx 4 rfl (j:=1) rfl,H.bx 4 rfl (j:=2) rfl,H.bx 2 rfl (j:=1) rfl,H.bx 4 rfl (j:=1) rfl,trivial⟩ ?_
      refine hold ⟨H.bx 2 rfl (j:=0) rfl,H.bx 2 rfl (j:=1) rfl,H.bx 2 rfl (j:=2) rfl,H.bx 4 rfl (j:=0) rfl,H.bx 4 rfl (j:=1) rfl,H.bx 4 rfl (j:=2) rfl,H.bx 2 rfl (j:=1) rfl,H.bx 4 rfl (j:=1) rfl,trivial⟩ ?_
      exact ⟨((s1_3,s1_4,s1_5,s1_0,s1_1,s1_2,false),(g0_1,g0_0)),⟨rfl,rfl,rfl,trivial⟩,Option.some.inj f22,H.sel [1,3,0,5,6] rfl⟩
     ·
      have f23:=condT f21;clear f21
      refine anyH (fun _=>fld gok rfl rfl rfl rfl ⟨rfl,rfl⟩) ?_
      refine load1W 6 rfl ?_
      refine anyH (fun _=>fld gok rfl rfl rfl rfl ⟨rfl,rfl⟩) ?_
      refine load1W 7 rfl ?_
      obtain ⟨a9,e,f24⟩:=bindS f23;clear f23
      refine boolO e ?_;clear e
      refine stA gok [(.int .i64 s1_3),(.int .i64 s1_4),(g0_1).v] rfl H rfl rfl rfl ?_;clear H;intro w76 H
      refine hold ⟨H.bx 2 rfl (j:=0) rfl,H.bx 2 rfl (j:=1) rfl,H.bx 2 rfl (j:=2) rfl,H.bx 4 rfl (j:=0) rfl,H.bx 4 rfl (j:=1) rfl,H.bx 4 rfl (j:=2) rfl,H.bx 2 rfl (j:=1) rfl,H.bx 4 rfl (j:=1) rfl,trivial⟩ ?_
      replace H:=H.sel [1,0,2,3,4,5,6] rfl
      refine stA gok [(.int .i64 s1_0),(.int .i64 s1_1),(g0_0).v] rfl H rfl rfl rfl ?_;clear H;intro w77 H
      refine hold ⟨H.bx 2 rfl (j:=0) rfl,H.bx 2 rfl (j:=1) rfl,H.bx 2 rfl (j:=2) rfl,H.bx 4 rfl (j:=0) rfl,H.bx 4 rfl (j:=1) rfl,H.bx 4 rfl (j:=2) rfl,H.bx 2 rfl (j:=1) rfl,H.bx 4 rfl (j:=1) rfl,trivial⟩ ?_
      refine hold ⟨H.bx 2 rfl (j:=0) rfl,H.bx 2 rfl (j:=1) rfl,H.bx 2 rfl (j:=2) rfl,H.bx 4 rfl (j:=0) rfl,H.bx 4 rfl (j:=1) rfl,H.bx 4 rfl (j:=2) rfl,H.bx 2 rfl (j:=1) rfl,H.bx 4 rfl (j:=1) rfl,trivial⟩ ?_
      exact ⟨((s1_3,s1_4,s1_5,s1_0,s1_1,s1_2,a9),(g0_1,g0_0)),⟨rfl,rfl,rfl,trivial⟩,Option.some.inj f24,H.sel [1,3,0,5,6] rfl⟩
    ·
     clear f19 H
     rintro T2 ⟨⟨s2_0,s2_1,s2_2,s2_3,s2_4,s2_5,s2_6⟩,⟨g1_0,g1_1⟩⟩ w78 ⟨hr,(H:Cx w0 fp0 S0 w78 [Bx b0 [(.int .i64 s2_0),(.int .i64 s2_1),(g1_0).v],Es (List (List Int)) s2_2 g1_0,Bx b1 [(.int .i64 s2_3),(.int .i64 s2_4),(g1_1).v],Es (List (List Int)) s2_5 g1_1,Gl 0 [.int .i64 2,.int .i64 3,.int .i64 5,.int .i64 7]])⟩
     subst hr
     refine loadN [(.int .i64 s2_0),(.int .i64 s2_1),(g1_0).v] rfl (fun j u hj=>H.bx 0 rfl hj) ?_
     refine loadN [(.int .i64 s2_3),(.int .i64 s2_4),(g1_1).v] rfl (fun j u hj=>H.bx 2 rfl hj) ?_
     cases f20
     exact ⟨_,_,rfl,⟨g1_0,g1_1,rfl,rfl⟩,(H.sel [1,3] rfl)⟩
  ·
   have f25:=condT f1;clear f1
   refine build_ (cs:=#[(.int .i64 0),(.int .i64 0),(.slice none 0 0)]) gok rfl rfl rfl ?_
   refine build_ (cs:=#[(.int .i64 0),(.int .i64 0),(.slice none 0 0)]) gok rfl rfl rfl ?_
   replace H:=H.sel [4,0,1,2,3,5,6] rfl
   refine stA gok [(.int .i64 0),(.int .i64 0),(.slice none 0 0)] rfl H rfl rfl rfl ?_;clear H;intro w79 H
   replace H:=H.sel [5,0,1,2,3,4,6] rfl
   refine stA gok [(.int .i64 0),(.int .i64 0),(.slice none 0 0)] rfl H rfl rfl rfl ?_;clear H;intro w80 H
   refine loadN [(.int .i64 0),(.int .i64 0),(.slice none 0 0)] rfl (fun j u hj=>H.bx 1 rfl hj) ?_
   refine loadN [(.int .i64 0),(.int .i64 0),(.slice none 0 0)] rfl (fun j u hj=>H.bx 0 rfl hj) ?_
   replace H:=H.nil (α:=List Int)
   replace H:=H.frz
   replace H:=H.nil (α:=List Int)
   replace H:=H.frz
   cases f25
   exact ⟨_,_,rfl,⟨nilH,nilH,rfl,rfl⟩,(H.sel [1,0] rfl)⟩
theorem impl_lead_c (v_:List Int) (v_h:Hd) (y:Int) (hF:F_impl_lead v_ = some y) :
  ConF Tryz.prog 100 #[(v_h).v] [Es (List Int) v_ v_h] [] (fun v Γ'=>v = (.int .i64 y) ∧ Γ' = []):=by
 intro w0 S0 fp0 hI hS
 have H:Cx w0 fp0 S0 w0 [Es (List Int) v_ v_h]:=Cx.start hI hS
 clear hI hS
 refine enterC (args:=[_]) gok Tryz.func100 rfl _ rfl rfl rfl ?_
 refine sq ?_
 refine lenE (H.rs (α:=List Int) 0 rfl).len ?_
 have x0:=(H.rs (α:=List Int) 0 rfl).max
 obtain ⟨r0,e,f0⟩:=bindS hF;clear hF
 refine loopO _ v_.length (fun (k2:Nat) (_:Unit) (_:Unit)=>[(0,(v_h).v),(5,(v_h).v),(6,(.int .i64 ((v_.length:Nat):Int))),(7,(.int .i64 ((k2:Nat):Int)))]) (fun _ (_:Unit) (_:Unit) w'=>Cx w0 fp0 S0 w' [Es (List Int) v_ v_h]) () () e ⟨rfl,rfl,rfl,rfl,trivial⟩ (H.sel [0] rfl) ?_ ?_
 ·
  clear H e
  rintro T0 k2 _ _ w1 o0 hk (H:Cx w0 fp0 S0 w1 [Es (List Int) v_ v_h]) hrt f1
  refine boolE (z:=true) (ltLen hk) ?_
  refine sq ?_
  refine sq ?_
  obtain ⟨a0,e,f2⟩:=bindS f1;clear f1
  obtain ⟨p0,m0,c0,c1,c2,c3⟩:=(H.rs (α:=List Int) 0 rfl).at1 e;clear e
  refine idxE c0 c1 c2 ?_;clear c0 c1 c2
  refine load1 c3 ?_;clear c3
  obtain ⟨a1,e,f3⟩:=bindS f2;clear f2
  refine boolO e ?_;clear e
  cases a1
  ·
   have f4:=condF f3;clear f3
   refine arK hk x0 ?_
   have hs:=Option.some.inj f4;subst hs;clear f4
   exact ⟨(),(),rfl,⟨rfl,rfl,rfl,rfl,trivial⟩,H.sel [0] rfl⟩
  ·
   have f5:=condT f3;clear f3
   have hs:=Option.some.inj f5;subst hs;clear f5
   have hr:=hrt _ rfl;subst hr
   have f6:some _ = some _:=f0
   cases f6
   exact ⟨_,_,rfl,⟨rfl,rfl⟩,(H.sel [] rfl).close trivial⟩
 ·
  clear H e
  rintro T1 _ _ w2 hr (H:Cx w0 fp0 S0 w2 [Es (List Int) v_ v_h])
  subst hr
  refine boolE (z:=false) geLen ?_
  refine sq ?_
  refine lenE (H.rs (α:=List Int) 0 rfl).len ?_
  cases f0
  exact ⟨_,_,rfl,⟨rfl,rfl⟩,(H.sel [] rfl).close trivial⟩
theorem impl_isZero_c (v_:List Int) (v_h:Hd) (y:Bool) (hF:F_impl_isZero v_ = some y) :
  ConF Tryz.prog 101 #[(v_h).v] [Es (List Int) v_ v_h] [] (fun v Γ'=>v = (.bool y) ∧ Γ' = []):=by
 intro w0 S0 fp0 hI hS
 have H:Cx w0 fp0 S0 w0 [Es (List Int) v_ v_h]:=Cx.start hI hS
 clear hI hS
 refine enterC (args:=[_]) gok Tryz.func101 rfl _ rfl rfl rfl ?_
 obtain ⟨y2,e,hF3⟩:=bindS hF;clear hF
 have ey2:=e;clear e
 refine callF (impl_lead_c v_ v_h y2 ey2) (Γi:=[]) H ⟨Vw.sh 0 rfl,trivial⟩ ?_;clear H ey2
 rintro _ _ w4 ⟨rfl,rfl⟩ H
 refine lenE (H.rs (α:=List Int) 0 rfl).len ?_
 obtain ⟨a5,e,hF6⟩:=bindS hF3;clear hF3
 refine boolO e ?_;clear e
 cases hF6
 exact ⟨_,_,rfl,⟨rfl,rfl⟩,(H.sel [] rfl).close trivial⟩
theorem impl_coordinates_c (p_:Int) (basis_:List (List Int)) (basis_h:Hd) (v_:List Int) (v_h:Hd) (y0:List Int) (y1:Bool) (hF:F_impl_coordinates p_ basis_ v_ = some (y0,y1)) :
  ConF Tryz.prog 72 #[(.int .i64 p_),(basis_h).v,(v_h).v] [Es (List (List Int)) basis_ basis_h,Es (List Int) v_ v_h] [] (fun v Γ'=>∃ z0:Hd,v = (.tuple #[(z0).v,(.bool y1)]) ∧ Γ' = [E (List Int) y0 z0]):=by
 intro w0 S0 fp0 hI hS
 have H:Cx w0 fp0 S0 w0 [Es (List (List Int)) basis_ basis_h,Es (List Int) v_ v_h]:=Cx.start hI hS
 clear hI hS
 refine enterC (args:=[_,_,_]) gok Tryz.func72 rfl _ rfl rfl rfl ?_
 obtain ⟨y3,e,hF4⟩:=bindS hF;clear hF
 have ey3:=e;clear e
 refine callF (impl_clone_c v_ v_h y3 ey3) (Γi:=[]) H ⟨Vw.sh 1 rfl,trivial⟩ ?_;clear H ey3
 rintro _ _ w5 ⟨h6,rfl,rfl⟩ H
 refine lit0 (α:=Int) gok rfl rfl H ?_;clear H;intro h9 w8 hx H
 clear hx
 refine sq ?_
 refine lenE (H.rs (α:=List (List Int)) 2 rfl).len ?_
 have x0:=(H.rs (α:=List (List Int)) 2 rfl).max
 obtain ⟨r0,e,f0⟩:=bindS hF4;clear hF4
 refine loopS _ basis_.length (fun (k0:Nat) (s0:List Int × List Int) (g0:Hd)=>[(0,(.int .i64 p_)),(8,(h6).v),(9,(g0).v),(16,(basis_h).v),(17,(.int .i64 ((basis_.length:Nat):Int))),(18,(.int .i64 ((k0:Nat):Int)))]) (fun _ (s0:List Int × List Int) (g0:Hd) w'=>Cx w0 fp0 S0 w' [E (List Int) s0.1 h6,E (List Int) s0.2 g0,Es (List (List Int)) basis_ basis_h]) (y3,([]:List Int)) h9 e ⟨rfl,rfl,rfl,rfl,rfl,rfl,trivial⟩ (H.sel [1,0,2] rfl) ?_ ?_
 ·
  clear H e
  rintro T0 k0 ⟨s0_0,s0_1⟩ g0 w1 o0 hk (H:Cx w0 fp0 S0 w1 [E (List Int) s0_0 h6,E (List Int) s0_1 g0,Es (List (List Int)) basis_ basis_h]) f1
  refine boolE (z:=true) (ltLen hk) ?_
  refine sq ?_
  refine sq ?_
  obtain ⟨a0,e,f2⟩:=bindS f1;clear f1
  have HH:=H;clear H;obtain ⟨p0,m0,h0,c0,c1,c2,c3,H⟩:=HH.elL 2 rfl e;clear HH
  clear e
  refine idxE c0 c1 c2 ?_;clear c0 c1 c2
  refine load1 c3 ?_;clear c3
  obtain ⟨y2,e,f3⟩:=bindS f2;clear f2
  have ey105:=e;clear e
  refine callF (impl_lead_c a0 h0 y2 ey105) (Γi:=[]) H ⟨Vw.sh 0 rfl,trivial⟩ ?_;clear H ey105
  rintro _ _ w2 ⟨rfl,rfl⟩ H
  obtain ⟨a1,e,f4⟩:=bindS f3;clear f3
  obtain ⟨p1,m1,c4,c5,c6,c7⟩:=(H.ro (α:=List Int) 1 rfl).at1 e;clear e
  refine idxE c4 c5 c6 ?_;clear c4 c5 c6
  refine load1 c7 ?_;clear c7
  refine lit1S (α:=Int) gok rfl rfl rfl rfl H ?_;clear H;intro h1 w3 hx H
  clear hx
  obtain ⟨a2,e,f5⟩:=bindS f4;clear f4
  replace H:=H.sel [3,0,1,2,4] rfl
  refine append_ (α:=Int) gok rfl rfl rfl rfl H e ?_;clear e H;intro h2 w4 H
  obtain ⟨a3,e,f6⟩:=bindS f5;clear f5
  refine arO e ?_;clear e
  obtain ⟨y4,e,f7⟩:=bindS f6;clear f6
  have ey126:=e;clear e
  replace H:=H.sel [2,0,1,3] rfl
  refine callF (impl_addTimes_c p_ s0_0 h6 a3 a0 h0 y4 ey126) (Γi:=[E (List Int) s0_0 h6]) H ⟨Vw.sh 1 rfl,trivial⟩ ?_;clear H ey126
  rintro _ _ w6 ⟨rfl,rfl⟩ H
  refine arK hk x0 ?_
  have hs:=Option.some.inj f7;subst hs;clear f7
  exact ⟨h2,⟨rfl,rfl,rfl,rfl,rfl,rfl,trivial⟩,H.sel [0,1,3] rfl⟩
 ·
  clear H e
  obtain ⟨s1_0,s1_1⟩:=r0
  rintro T1 g1 w7 (H:Cx w0 fp0 S0 w7 [E (List Int) s1_0 h6,E (List Int) s1_1 g1,Es (List (List Int)) basis_ basis_h])
  refine boolE (z:=false) geLen ?_
  refine sq ?_
  obtain ⟨y5,e,f8⟩:=bindS f0;clear f0
  have ey134:=e;clear e
  refine callF (impl_isZero_c s1_0 h6 y5 ey134) (Γi:=[]) H ⟨Vw.own 0 rfl,trivial⟩ ?_;clear H ey134
  rintro _ _ w9 ⟨rfl,rfl⟩ H
  cases f8
  exact ⟨_,_,rfl,⟨g1,rfl,rfl⟩,(H.sel [1] rfl).close ⟨cloE,trivial⟩⟩
theorem impl_hasPair_c (p_:Int) (r__0:Int) (r__1:Int) (r__2:List (List Int)) (r__2h:Hd) (pair_:List Int) (pair_h:Hd) (y:Bool) (hF:F_impl_hasPair p_ (r__0,r__1,r__2) pair_ = some y) :
  ConF Tryz.prog 53 #[(.int .i64 p_),(.agg #[(.int .i64 r__0),(.int .i64 r__1),(r__2h).v]),(pair_h).v] [Es (List (List Int)) r__2 r__2h,Es (List Int) pair_ pair_h] [] (fun v Γ'=>v = (.bool y) ∧ Γ' = []):=by
 intro w0 S0 fp0 hI hS
 have H:Cx w0 fp0 S0 w0 [Es (List (List Int)) r__2 r__2h,Es (List Int) pair_ pair_h]:=Cx.start hI hS
 clear hI hS
 refine enterC (args:=[_,_,_]) gok Tryz.func53 rfl _ rfl rfl rfl ?_
 refine box_ H ?_;clear H;intro b4 w3 hx H
 clear hx
 refine fld gok rfl rfl rfl rfl ?_
 refine load1 (H.bx 0 rfl (j:=2) rfl) ?_
 obtain ⟨y6,e,hF7⟩:=bindS hF;clear hF
 obtain ⟨y6_0,y6_1⟩:=y6
 have ey6:=e;clear e
 refine callF (impl_coordinates_c p_ r__2 r__2h pair_ pair_h y6_0 y6_1 ey6) (Γi:=[]) H ⟨Vw.sh 1 rfl,Vw.sh 2 rfl,trivial⟩ ?_;clear H ey6
 rintro _ _ w8 ⟨h9,rfl,rfl⟩ H
 cases hF7
 exact ⟨_,_,rfl,⟨rfl,rfl⟩,(H.sel [] rfl).close trivial⟩
theorem impl_missing_c (p_:Int) (a__0:Int) (a__1:Int) (a__2:List (List Int)) (a__2h:Hd) (b__0:Int) (b__1:Int) (b__2:List (List Int)) (b__2h:Hd) (y:List Int) (hF:F_impl_missing p_ (a__0,a__1,a__2) (b__0,b__1,b__2) = some y) :
  ConS Tryz.prog 34 #[(.int .i64 p_),(.agg #[(.int .i64 a__0),(.int .i64 a__1),(a__2h).v]),(.agg #[(.int .i64 b__0),(.int .i64 b__1),(b__2h).v])] [Es (List (List Int)) a__2 a__2h,Es (List (List Int)) b__2 b__2h] [] (fun v Γ'=>∃ z0:Hd,(v = (z0).v ∧ (y = [] → z0.a = none)) ∧ Γ' = [Es (List Int) y z0]):=by
 intro w0 S0 fp0 hI hS
 have H:Cx w0 fp0 S0 w0 [Es (List (List Int)) a__2 a__2h,Es (List (List Int)) b__2 b__2h]:=Cx.start hI hS
 clear hI hS
 refine enterC (args:=[_,_,_]) gok Tryz.func34 rfl _ rfl rfl rfl ?_
 refine box_ H ?_;clear H;intro b4 w3 hx H
 clear hx
 refine box_ H ?_;clear H;intro b7 w6 hx H
 clear hx
 refine sq ?_
 refine fld gok rfl rfl rfl rfl ?_
 refine load1 (H.bx 0 rfl (j:=2) rfl) ?_
 refine lenE (H.rs (α:=List (List Int)) 3 rfl).len ?_
 have x0:=(H.rs (α:=List (List Int)) 3 rfl).max
 obtain ⟨r0,e,f0⟩:=bindS hF;clear hF
 refine loopO _ b__2.length (fun (k9:Nat) (_:Unit) (_:Unit)=>[(0,(.int .i64 p_)),(4,(.pointer (some ⟨b4,0,none⟩))),(10,(b__2h).v),(11,(.int .i64 ((b__2.length:Nat):Int))),(12,(.int .i64 ((k9:Nat):Int)))]) (fun _ (_:Unit) (_:Unit) w'=>Cx w0 fp0 S0 w' [Bx b4 [(.int .i64 a__0),(.int .i64 a__1),(a__2h).v],Es (List (List Int)) a__2 a__2h,Es (List (List Int)) b__2 b__2h]) () () e ⟨rfl,rfl,rfl,rfl,rfl,trivial⟩ (H.sel [1,2,3] rfl) ?_ ?_
 ·
  clear H e
  rintro T0 k9 _ _ w1 o0 hk (H:Cx w0 fp0 S0 w1 [Bx b4 [(.int .i64 a__0),(.int .i64 a__1),(a__2h).v],Es (List (List Int)) a__2 a__2h,Es (List (List Int)) b__2 b__2h]) hrt f1
  refine boolE (z:=true) (ltLen hk) ?_
  refine sq ?_
  refine sq ?_
  obtain ⟨a0,e,f2⟩:=bindS f1;clear f1
  have HH:=H;clear H;obtain ⟨p0,m0,h1,c0,c1,c2,c3,H⟩:=HH.elL 2 rfl e;clear HH
  clear e
  refine idxE c0 c1 c2 ?_;clear c0 c1 c2
  refine load1 c3 ?_;clear c3
  refine loadN [(.int .i64 a__0),(.int .i64 a__1),(a__2h).v] rfl (fun j u hj=>H.bx 1 rfl hj) ?_
  obtain ⟨y0,e,f3⟩:=bindS f2;clear f2
  have ey48:=e;clear e
  refine callF (impl_hasPair_c p_ a__0 a__1 a__2 a__2h a0 h1 y0 ey48) (Γi:=[]) H ⟨Vw.sh 2 rfl,Vw.sh 0 rfl,trivial⟩ ?_;clear H ey48
  rintro _ _ w2 ⟨rfl,rfl⟩ H
  obtain ⟨a1,e,f4⟩:=bindS f3;clear f3
  refine boolO e ?_;clear e
  cases a1
  ·
   have f5:=condF f4;clear f4
   refine arK hk x0 ?_
   have hs:=Option.some.inj f5;subst hs;clear f5
   exact ⟨(),(),rfl,⟨rfl,rfl,rfl,rfl,rfl,trivial⟩,H.sel [1,2,3] rfl⟩
  ·
   have f6:=condT f4;clear f4
   obtain ⟨u0,n0,f7⟩:=bindS f6;clear f6
   have hs:=Option.some.inj f7;subst hs;clear f7
   have hr:=hrt _ rfl;subst hr
   have f8:some _ = some _:=f0
   cases f8
   exact ⟨_,_,rfl,⟨h1,⟨rfl,(fun h0=>absurd h0 (neO_some n0))⟩,rfl⟩,(H.sel [0] rfl)⟩
 ·
  clear H e
  rintro T1 _ _ w4 hr (H:Cx w0 fp0 S0 w4 [Bx b4 [(.int .i64 a__0),(.int .i64 a__1),(a__2h).v],Es (List (List Int)) a__2 a__2h,Es (List (List Int)) b__2 b__2h])
  subst hr
  refine boolE (z:=false) geLen ?_
  refine sq ?_
  replace H:=H.nil (α:=Int)
  replace H:=H.frz
  cases f0
  exact ⟨_,_,rfl,⟨nilH,⟨rfl,(fun _=>rfl)⟩,rfl⟩,(H.sel [0] rfl)⟩
theorem impl_MissingPair_c (p_:Int) (a__0:List (Int × Int × ByteArray)) (a__0h:Hd) (b__0:List (Int × Int × ByteArray)) (b__0h:Hd) (y0:List Int) (y1:List Int) (y2:Bool) (hF:F_impl_MissingPair p_ a__0 b__0 = some (y0,y1,y2)) :
  ConF Tryz.prog 16 #[(.int .i64 p_),(.agg #[(a__0h).v]),(.agg #[(b__0h).v])] [Es (List (Int × Int × ByteArray)) a__0 a__0h,Es (List (Int × Int × ByteArray)) b__0 b__0h,Gl 0 [.int .i64 2,.int .i64 3,.int .i64 5,.int .i64 7]] [] (fun v Γ'=>∃ z0 z1:Hd,v = (.tuple #[(z0).v,(z1).v,(.bool y2)]) ∧ Γ' = [E (List Int) y0 z0,E (List Int) y1 z1]):=by
 intro w0 S0 fp0 hI hS
 have H:Cx w0 fp0 S0 w0 [Es (List (Int × Int × ByteArray)) a__0 a__0h,Es (List (Int × Int × ByteArray)) b__0 b__0h,Gl 0 [.int .i64 2,.int .i64 3,.int .i64 5,.int .i64 7]]:=Cx.start hI hS
 clear hI hS
 refine enterC (args:=[_,_,_]) gok Tryz.func16 rfl _ rfl rfl rfl ?_
 refine box_ H ?_;clear H;intro b5 w4 hx H
 clear hx
 refine box_ H ?_;clear H;intro b8 w7 hx H
 clear hx
 refine loadN [(a__0h).v] rfl (fun j u hj=>H.bx 1 rfl hj) ?_
 refine loadN [(b__0h).v] rfl (fun j u hj=>H.bx 0 rfl hj) ?_
 obtain ⟨y3,e,f0⟩:=bindS hF;clear hF
 obtain ⟨⟨y3_0_0,y3_0_1,y3_0_2⟩,⟨y3_1_0,y3_1_1,y3_1_2⟩,y3_2⟩:=y3
 have ey10:=e;clear e
 refine callS (impl_twoTerms_c p_ a__0 a__0h b__0 b__0h y3_0_0 y3_0_1 y3_0_2 y3_1_0 y3_1_1 y3_1_2 y3_2 ey10) (Γi:=[]) H [2,3,4] rfl (persC persS (persC persS (persC persG persN))) ?_;clear H ey10
 rintro _ _ w1 ⟨h0,h1,rfl,rfl⟩ H
 refine alloc_ gok rfl H ?_;clear H;intro b0 w2 hx H
 clear hx
 refine alloc_ gok rfl H ?_;clear H;intro b1 w3 hx H
 clear hx
 replace H:=H.sel [1,0,2,3,4,5,6,7,8] rfl
 refine stA gok [(.int .i64 y3_0_0),(.int .i64 y3_0_1),(h0).v] rfl H rfl rfl rfl ?_;clear H;intro w5 H
 replace H:=H.sel [1,0,2,3,4,5,6,7,8] rfl
 refine stA gok [(.int .i64 y3_1_0),(.int .i64 y3_1_1),(h1).v] rfl H rfl rfl rfl ?_;clear H;intro w6 H
 refine sq ?_
 obtain ⟨a0,e,f1⟩:=bindS f0;clear f0
 refine boolO e ?_;clear e
 cases a0
 ·
  have f2:=condF f1;clear f1
  refine loadN [(.int .i64 y3_1_0),(.int .i64 y3_1_1),(h1).v] rfl (fun j u hj=>H.bx 0 rfl hj) ?_
  refine loadN [(.int .i64 y3_0_0),(.int .i64 y3_0_1),(h0).v] rfl (fun j u hj=>H.bx 1 rfl hj) ?_
  obtain ⟨y4,e,f3⟩:=bindS f2;clear f2
  have ey28:=e;clear e
  refine callS (impl_missing_c p_ y3_1_0 y3_1_1 y3_1_2 h1 y3_0_0 y3_0_1 y3_0_2 h0 y4 ey28) (Γi:=[]) H [3,2] rfl (persC persS (persC persS persN)) ?_;clear H ey28
  rintro _ _ w8 ⟨h2,⟨rfl,l0⟩,rfl⟩ H
  refine sq ?_
  obtain ⟨a1,e,f4⟩:=bindS f3;clear f3
  refine eqNil gok rfl (H.rs (α:=List Int) 0 rfl) l0 e ?_;clear e
  cases a1
  ·
   have f5:=condF f4;clear f4
   refine heldX H [] (.fst 1 (.fst 5 (.fst 0 (.fst 4 (.act 2 (.act 3 (.act 6 (.act 7 (.fst 8 (.fst 9 (.fst 10 .done))))))))))) mixed [] trivial (by kernel_rfl) ?_
   clear H;intro w9 H
   have hX:Ext w9 w9:=Upd.refl _ _
   have H0:=H
   refine loadNX [(.int .i64 y3_0_0),(.int .i64 y3_0_1),(h0).v] rfl (fun j u hj=>H.bx 2 rfl hj) ?_
   refine loadNX [(.int .i64 y3_0_0),(.int .i64 y3_0_1),(h0).v] rfl (fun j u hj=>H.bx 2 rfl hj) ?_
   obtain ⟨y5,e,f6⟩:=bindS f5;clear f5
   have ey38:=e;clear e
   refine callSx (impl_Relation_first_c y3_0_0 y3_0_1 y3_0_2 h0 y4 h2 y5 ey38) H [3,0] rfl (persC persS (persC persS persN)) ?_;clear H ey38
   rintro _ _ w10 ⟨h3,rfl,rfl⟩ hx H
   replace hX:=hX.trans0 hx;clear hx
   refine hold hX ?_
   obtain ⟨y6,e,f7⟩:=bindS f6;clear f6
   have ey43:=e;clear e
   refine callFx (impl_clone_c y5 h3 y6 ey43) H ⟨Vw.sh 0 rfl,trivial⟩ ?_;clear H ey43
   rintro _ _ w11 ⟨h4,rfl,rfl⟩ hx H
   replace hX:=hX.trans0 hx;clear hx
   refine hold hX ?_
   obtain ⟨y7,e,f8⟩:=bindS f7;clear f7
   have ey48:=e;clear e
   refine callSx (impl_Relation_second_c y3_0_0 y3_0_1 y3_0_2 h0 y4 h2 y7 ey48) H [5,2] rfl (persC persS (persC persS persN)) ?_;clear H ey48
   rintro _ _ w13 ⟨h5,rfl,rfl⟩ hx H
   replace hX:=hX.trans0 hx;clear hx
   refine hold hX ?_
   obtain ⟨y8,e,f9⟩:=bindS f8;clear f8
   have ey53:=e;clear e
   refine callFx (impl_clone_c y7 h5 y8 ey53) H ⟨Vw.sh 0 rfl,trivial⟩ ?_;clear H ey53
   rintro _ _ w14 ⟨h6,rfl,rfl⟩ hx H
   replace hX:=hX.trans0 hx;clear hx
   refine hold hX ?_
   cases f9
   exact ⟨_,_,rfl,⟨h4,h6,rfl,rfl⟩,(H.sel [2,0] rfl).close ⟨cloE,cloE,trivial⟩⟩
  ·
   have f10:=condT f4;clear f4
   replace H:=H.nil (α:=Int)
   replace H:=H.nil (α:=Int)
   cases f10
   exact ⟨_,_,rfl,⟨nilH,nilH,rfl,rfl⟩,(H.sel [1,0] rfl).close ⟨cloE,cloE,trivial⟩⟩
 ·
  have f11:=condT f1;clear f1
  replace H:=H.nil (α:=Int)
  replace H:=H.nil (α:=Int)
  cases f11
  exact ⟨_,_,rfl,⟨nilH,nilH,rfl,rfl⟩,(H.sel [1,0] rfl).close ⟨cloE,cloE,trivial⟩⟩
theorem laws_eqIntS_c (a_:List Int) (a_h:Hd) (b_:List Int) (b_h:Hd) (y:Bool) (hF:F_laws_eqIntS a_ b_ = some y) :
  ConF Tryz.prog 17 #[(a_h).v,(b_h).v] [Es (List Int) a_ a_h,Es (List Int) b_ b_h] [] (fun v Γ'=>v = (.bool y) ∧ Γ' = []):=by
 intro w0 S0 fp0 hI hS
 have H:Cx w0 fp0 S0 w0 [Es (List Int) a_ a_h,Es (List Int) b_ b_h]:=Cx.start hI hS
 clear hI hS
 refine enterC (args:=[_,_]) gok Tryz.func17 rfl _ rfl rfl rfl ?_
 refine sq ?_
 refine lenE (H.rs (α:=List Int) 0 rfl).len ?_
 refine lenE (H.rs (α:=List Int) 1 rfl).len ?_
 obtain ⟨a3,e,hF4⟩:=bindS hF;clear hF
 refine boolO e ?_;clear e
 cases a3
 ·
  have hF5:=condF hF4;clear hF4
  obtain ⟨r0,f0,f1⟩:=bindS hF5;clear hF5
  refine cut (fun (q0:Unit)=>[]) (fun (q0:Unit) w'=>.inl () = r0 ∧ Cx w0 fp0 S0 w' []) ?_ ?_
  ·
   refine loopW _ (fun (s0:Int) (_:Unit)=>[(0,(a_h).v),(1,(b_h).v),(5,(.int .i64 s0))]) (fun (s0:Int) (_:Unit) w'=>Cx w0 fp0 S0 w' [Es (List Int) a_ a_h,Es (List Int) b_ b_h]) 0 () f0 ⟨rfl,rfl,rfl,trivial⟩ (H.sel [0,1] rfl) ?_
   ·
    clear H
    rintro T0 s0 _ w1 o0 (H:Cx w0 fp0 S0 w1 [Es (List Int) a_ a_h,Es (List Int) b_ b_h]) hrt f2
    refine sq ?_
    refine lenE (H.rs (α:=List Int) 0 rfl).len ?_
    obtain ⟨a0,e,f3⟩:=bindS f2;clear f2
    refine boolO e ?_;clear e
    cases a0
    ·
     have f4:=condF f3;clear f3
     have hs:=Option.some.inj f4;subst hs;clear f4
     have f5:some _ = some _:=congrArg some (hrt _ rfl).symm
     exact ⟨(),trivial,Option.some.inj f5,H.sel [] rfl⟩
    ·
     have f6:=condT f3;clear f3
     refine sq ?_
     refine heldX H [] (.fst 0 (.fst 1 (.fst 2 (.fst 4 (.fst 5 (.fst 6 (.fst 3 (.fst 7 (.fst 8 .done))))))))) mixed [] trivial (by kernel_rfl) ?_
     clear H;intro w2 H
     have hX:Ext w2 w2:=Upd.refl _ _
     have H0:=H
     obtain ⟨a1,e,f7⟩:=bindS f6;clear f6
     obtain ⟨p0,m0,c0,c1,c2,c3⟩:=(H.rs (α:=List Int) 0 rfl).at1 e;clear e
     refine idxE c0 c1 c2 ?_;clear c0 c1 c2
     obtain ⟨a2,e,f8⟩:=bindS f7;clear f7
     obtain ⟨p1,m1,c4,c5,c6,c7⟩:=(H.rs (α:=List Int) 1 rfl).at1 e;clear e
     refine idxE c4 c5 c6 ?_;clear c4 c5 c6
     refine load1X c3 ?_;clear c3
     refine load1X c7 ?_;clear c7
     obtain ⟨a4,e,f9⟩:=bindS f8;clear f8
     refine boolO e ?_;clear e
     cases a4
     ·
      have f10:=condF f9;clear f9
      obtain ⟨a5,e,f11⟩:=bindS f10;clear f10
      refine arO e ?_;clear e
      have hs:=Option.some.inj f11;subst hs;clear f11
      exact ⟨a5,(),rfl,⟨rfl,rfl,rfl,trivial⟩,H.sel [0,1] rfl⟩
     ·
      have f12:=condT f9;clear f9
      have hs:=Option.some.inj f12;subst hs;clear f12
      have f13:some _ = some _:=congrArg some (hrt _ rfl).symm
      have hs:=Option.some.inj f13;subst hs;clear f13
      have f14:some _ = some _:=f1;clear f1
      cases f14
      exact ⟨_,_,rfl,⟨rfl,rfl⟩,(H.sel [] rfl).close trivial⟩
  ·
   clear f0 H
   rintro T1 _ w3 ⟨hr,(H:Cx w0 fp0 S0 w3 [])⟩
   subst hr
   cases f1
   exact ⟨_,_,rfl,⟨rfl,rfl⟩,(H.sel [] rfl).close trivial⟩
 ·
  have f15:=condT hF4;clear hF4
  cases f15
  exact ⟨_,_,rfl,⟨rfl,rfl⟩,(H.sel [] rfl).close trivial⟩
theorem laws_eqNode_c (a__0:Int) (a__1:Int) (a__2:ByteArray) (b__0:Int) (b__1:Int) (b__2:ByteArray) (y:Bool) (hF:F_laws_eqNode (a__0,a__1,a__2) (b__0,b__1,b__2) = some y) :
  ConF Tryz.prog 54 #[(.agg #[(.int .i64 a__0),(.int .i64 a__1),(.string a__2)]),(.agg #[(.int .i64 b__0),(.int .i64 b__1),(.string b__2)])] [] [] (fun v Γ'=>v = (.bool y) ∧ Γ' = []):=by
 intro w0 S0 fp0 hI hS
 have H:Cx w0 fp0 S0 w0 []:=Cx.start hI hS
 clear hI hS
 refine enterC (args:=[_,_]) gok Tryz.func54 rfl _ rfl rfl rfl ?_
 refine box_ H ?_;clear H;intro b2 w1 hx H
 clear hx
 refine box_ H ?_;clear H;intro b5 w4 hx H
 clear hx
 refine sq ?_
 refine fld gok rfl rfl rfl rfl ?_
 refine load1 (H.bx 1 rfl (j:=0) rfl) ?_
 refine fld gok rfl rfl rfl rfl ?_
 refine load1 (H.bx 0 rfl (j:=0) rfl) ?_
 obtain ⟨a7,e,hF8⟩:=bindS hF;clear hF
 refine boolO e ?_;clear e
 cases a7
 ·
  have hF9:=condF hF8;clear hF8
  refine sq ?_
  refine fld gok rfl rfl rfl rfl ?_
  refine load1 (H.bx 1 rfl (j:=1) rfl) ?_
  refine fld gok rfl rfl rfl rfl ?_
  refine load1 (H.bx 0 rfl (j:=1) rfl) ?_
  obtain ⟨a0,e,f0⟩:=bindS hF9;clear hF9
  refine boolO e ?_;clear e
  cases a0
  ·
   have f1:=condF f0;clear f0
   refine sq ?_
   refine fld gok rfl rfl rfl rfl ?_
   refine load1 (H.bx 1 rfl (j:=2) rfl) ?_
   refine fld gok rfl rfl rfl rfl ?_
   refine load1 (H.bx 0 rfl (j:=2) rfl) ?_
   obtain ⟨a1,e,f2⟩:=bindS f1;clear f1
   refine neqZ e ?_;clear e
   cases a1
   ·
    have f3:=condF f2;clear f2
    cases f3
    exact ⟨_,_,rfl,⟨rfl,rfl⟩,(H.sel [] rfl).close trivial⟩
   ·
    have f4:=condT f2;clear f2
    cases f4
    exact ⟨_,_,rfl,⟨rfl,rfl⟩,(H.sel [] rfl).close trivial⟩
  ·
   have f5:=condT f0;clear f0
   cases f5
   exact ⟨_,_,rfl,⟨rfl,rfl⟩,(H.sel [] rfl).close trivial⟩
 ·
  have f6:=condT hF8;clear hF8
  cases f6
  exact ⟨_,_,rfl,⟨rfl,rfl⟩,(H.sel [] rfl).close trivial⟩
theorem laws_eqNodeS_c (a_:List (Int × Int × ByteArray)) (a_h:Hd) (b_:List (Int × Int × ByteArray)) (b_h:Hd) (y:Bool) (hF:F_laws_eqNodeS a_ b_ = some y) :
  ConF Tryz.prog 35 #[(a_h).v,(b_h).v] [Es (List (Int × Int × ByteArray)) a_ a_h,Es (List (Int × Int × ByteArray)) b_ b_h] [] (fun v Γ'=>v = (.bool y) ∧ Γ' = []):=by
 intro w0 S0 fp0 hI hS
 have H:Cx w0 fp0 S0 w0 [Es (List (Int × Int × ByteArray)) a_ a_h,Es (List (Int × Int × ByteArray)) b_ b_h]:=Cx.start hI hS
 clear hI hS
 refine enterC (args:=[_,_]) gok Tryz.func35 rfl _ rfl rfl rfl ?_
 refine sq ?_
 refine lenE (H.rs (α:=List (Int × Int × ByteArray)) 0 rfl).len ?_
 refine lenE (H.rs (α:=List (Int × Int × ByteArray)) 1 rfl).len ?_
 obtain ⟨a3,e,hF4⟩:=bindS hF;clear hF
 refine boolO e ?_;clear e
 cases a3
 ·
  have hF5:=condF hF4;clear hF4
  obtain ⟨r0,f0,f1⟩:=bindS hF5;clear hF5
  refine cut (fun (q0:Unit)=>[]) (fun (q0:Unit) w'=>.inl () = r0 ∧ Cx w0 fp0 S0 w' []) ?_ ?_
  ·
   refine loopW _ (fun (s0:Int) (_:Unit)=>[(0,(a_h).v),(1,(b_h).v),(5,(.int .i64 s0))]) (fun (s0:Int) (_:Unit) w'=>Cx w0 fp0 S0 w' [Es (List (Int × Int × ByteArray)) a_ a_h,Es (List (Int × Int × ByteArray)) b_ b_h]) 0 () f0 ⟨rfl,rfl,rfl,trivial⟩ (H.sel [0,1] rfl) ?_
   ·
    clear H
    rintro T0 s0 _ w1 o0 (H:Cx w0 fp0 S0 w1 [Es (List (Int × Int × ByteArray)) a_ a_h,Es (List (Int × Int × ByteArray)) b_ b_h]) hrt f2
    refine sq ?_
    refine lenE (H.rs (α:=List (Int × Int × ByteArray)) 0 rfl).len ?_
    obtain ⟨a0,e,f3⟩:=bindS f2;clear f2
    refine boolO e ?_;clear e
    cases a0
    ·
     have f4:=condF f3;clear f3
     have hs:=Option.some.inj f4;subst hs;clear f4
     have f5:some _ = some _:=congrArg some (hrt _ rfl).symm
     exact ⟨(),trivial,Option.some.inj f5,H.sel [] rfl⟩
    ·
     have f6:=condT f3;clear f3
     refine sq ?_
     refine heldX H [] (.fst 0 (.fst 1 (.fst 2 (.fst 4 (.fst 5 (.fst 6 (.fst 3 (.fst 7 (.act 8 (.fst 9 .done)))))))))) mixed [] trivial (by kernel_rfl) ?_
     clear H;intro w2 H
     have hX:Ext w2 w2:=Upd.refl _ _
     have H0:=H
     obtain ⟨a1,e,f7⟩:=bindS f6;clear f6
     have HH:=H;clear H;obtain ⟨p0,m0,g0,c0,c1,c2,c3,H⟩:=HH.el (α:=Int × Int × ByteArray) 0 rfl e;clear HH
     clear e
     obtain ⟨a1_0,a1_1,a1_2⟩:=a1
     obtain ⟨_,_,_⟩:=g0
     replace H:=H.sel [1,2] rfl
     refine idxE c0 c1 c2 ?_;clear c0 c1 c2
     obtain ⟨a2,e,f8⟩:=bindS f7;clear f7
     have HH:=H;clear H;obtain ⟨p1,m1,g1,c4,c5,c6,c7,H⟩:=HH.el (α:=Int × Int × ByteArray) 1 rfl e;clear HH
     clear e
     obtain ⟨a2_0,a2_1,a2_2⟩:=a2
     obtain ⟨_,_,_⟩:=g1
     replace H:=H.sel [1,2] rfl
     refine idxE c4 c5 c6 ?_;clear c4 c5 c6
     refine loadNX [(.int .i64 a1_0),(.int .i64 a1_1),(.string a1_2)] rfl c3 ?_;clear c3
     refine loadNX [(.int .i64 a2_0),(.int .i64 a2_1),(.string a2_2)] rfl c7 ?_;clear c7
     obtain ⟨y0,e,f9⟩:=bindS f8;clear f8
     have ey236:=e;clear e
     refine callFx (laws_eqNode_c a1_0 a1_1 a1_2 a2_0 a2_1 a2_2 y0 ey236) H trivial ?_;clear H ey236
     rintro _ _ w3 ⟨rfl,rfl⟩ hx H
     replace hX:=hX.trans0 hx;clear hx
     refine hold hX ?_
     obtain ⟨a4,e,f10⟩:=bindS f9;clear f9
     refine boolO e ?_;clear e
     cases a4
     ·
      have f11:=condF f10;clear f10
      obtain ⟨a5,e,f12⟩:=bindS f11;clear f11
      refine arO e ?_;clear e
      have hs:=Option.some.inj f12;subst hs;clear f12
      exact ⟨a5,(),rfl,⟨rfl,rfl,rfl,trivial⟩,H.sel [0,1] rfl⟩
     ·
      have f13:=condT f10;clear f10
      have hs:=Option.some.inj f13;subst hs;clear f13
      have f14:some _ = some _:=congrArg some (hrt _ rfl).symm
      have hs:=Option.some.inj f14;subst hs;clear f14
      have f15:some _ = some _:=f1;clear f1
      cases f15
      exact ⟨_,_,rfl,⟨rfl,rfl⟩,(H.sel [] rfl).close trivial⟩
  ·
   clear f0 H
   rintro T1 _ w4 ⟨hr,(H:Cx w0 fp0 S0 w4 [])⟩
   subst hr
   cases f1
   exact ⟨_,_,rfl,⟨rfl,rfl⟩,(H.sel [] rfl).close trivial⟩
 ·
  have f16:=condT hF4;clear hF4
  cases f16
  exact ⟨_,_,rfl,⟨rfl,rfl⟩,(H.sel [] rfl).close trivial⟩
theorem laws_eqTerm_c (a__0:List (Int × Int × ByteArray)) (a__0h:Hd) (b__0:List (Int × Int × ByteArray)) (b__0h:Hd) (y:Bool) (hF:F_laws_eqTerm a__0 b__0 = some y) :
  ConF Tryz.prog 12 #[(.agg #[(a__0h).v]),(.agg #[(b__0h).v])] [Es (List (Int × Int × ByteArray)) a__0 a__0h,Es (List (Int × Int × ByteArray)) b__0 b__0h] [] (fun v Γ'=>v = (.bool y) ∧ Γ' = []):=by
 intro w0 S0 fp0 hI hS
 have H:Cx w0 fp0 S0 w0 [Es (List (Int × Int × ByteArray)) a__0 a__0h,Es (List (Int × Int × ByteArray)) b__0 b__0h]:=Cx.start hI hS
 clear hI hS
 refine enterC (args:=[_,_]) gok Tryz.func12 rfl _ rfl rfl rfl ?_
 refine box_ H ?_;clear H;intro b4 w3 hx H
 clear hx
 refine box_ H ?_;clear H;intro b7 w6 hx H
 clear hx
 refine sq ?_
 refine fld gok rfl rfl rfl rfl ?_
 refine load1 (H.bx 1 rfl (j:=0) rfl) ?_
 refine fld gok rfl rfl rfl rfl ?_
 refine load1 (H.bx 0 rfl (j:=0) rfl) ?_
 obtain ⟨y9,e,f0⟩:=bindS hF;clear hF
 have ey9:=e;clear e
 refine callF (laws_eqNodeS_c a__0 a__0h b__0 b__0h y9 ey9) (Γi:=[]) H ⟨Vw.sh 2 rfl,Vw.sh 3 rfl,trivial⟩ ?_;clear H ey9
 rintro _ _ w1 ⟨rfl,rfl⟩ H
 obtain ⟨a0,e,f1⟩:=bindS f0;clear f0
 refine boolO e ?_;clear e
 cases a0
 ·
  have f2:=condF f1;clear f1
  cases f2
  exact ⟨_,_,rfl,⟨rfl,rfl⟩,(H.sel [] rfl).close trivial⟩
 ·
  have f3:=condT f1;clear f1
  cases f3
  exact ⟨_,_,rfl,⟨rfl,rfl⟩,(H.sel [] rfl).close trivial⟩
theorem laws_markText_c (k_:Int) (y:ByteArray) (hF:F_laws_markText k_ = some y) :
  ConF Tryz.prog 57 #[(.int .i64 k_)] [] [] (fun v Γ'=>v = (.string y) ∧ Γ' = []):=by
 intro w0 S0 fp0 hI hS
 have H:Cx w0 fp0 S0 w0 []:=Cx.start hI hS
 clear hI hS
 refine enterC (args:=[_]) gok Tryz.func57 rfl _ rfl rfl rfl ?_
 refine sq ?_
 obtain ⟨a1,e,hF2⟩:=bindS hF;clear hF
 refine boolO e ?_;clear e
 cases a1
 ·
  have hF3:=condF hF2;clear hF2
  obtain ⟨r0,f0,f1⟩:=bindS hF3;clear hF3
  refine cut (fun (q0:ByteArray)=>[(3,(.string q0))]) (fun (q0:ByteArray) w'=>q0 = r0 ∧ Cx w0 fp0 S0 w' []) ?_ ?_
  ·
   refine loopW _ (fun (s0:Int × ByteArray) (_:Unit)=>[(0,(.int .i64 s0.1)),(3,(.string s0.2))]) (fun (s0:Int × ByteArray) (_:Unit) w'=>Cx w0 fp0 S0 w' []) (k_,.empty) () f0 ⟨rfl,rfl,trivial⟩ (H.sel [] rfl) ?_
   ·
    clear H
    rintro T0 ⟨s0_0,s0_1⟩ _ w1 o0 (H:Cx w0 fp0 S0 w1 []) hrt f2
    refine sq ?_
    obtain ⟨a0,e,f3⟩:=bindS f2;clear f2
    refine boolO e ?_;clear e
    cases a0
    ·
     have f4:=condF f3;clear f3
     have hs:=Option.some.inj f4;subst hs;clear f4
     have f5:some _ = some _:=congrArg some (hrt _ rfl).symm
     exact ⟨s0_1,⟨rfl,trivial⟩,Option.some.inj f5,H.sel [] rfl⟩
    ·
     have f6:=condT f3;clear f3
     obtain ⟨a2,e,f7⟩:=bindS f6;clear f6
     refine remO_ e ?_;clear e
     obtain ⟨a3,e,f8⟩:=bindS f7;clear f7
     refine arO e ?_;clear e
     obtain ⟨a4,e,f9⟩:=bindS f8;clear f8
     refine convIY gok rfl rfl e ?_;clear e
     refine lit1S (α:=By) gok rfl rfl rfl rfl H ?_;clear H;intro h0 w2 hx H
     clear hx
     obtain ⟨a5,e,f10⟩:=bindS f9;clear f9
     refine convBZ (xs:=([a4]:List By)) gok rfl rfl rfl (H.ro (α:=List By) 0 rfl) e ?_;clear e
     obtain ⟨a6,e,f11⟩:=bindS f10;clear f10
     refine catZ e ?_;clear e
     obtain ⟨a7,e,f12⟩:=bindS f11;clear f11
     refine quoO_ e ?_;clear e
     have hs:=Option.some.inj f12;subst hs;clear f12
     exact ⟨(a7,a6),(),rfl,⟨rfl,rfl,trivial⟩,H.sel [] rfl⟩
  ·
   clear f0 H
   rintro T1 s1 w3 ⟨hr,(H:Cx w0 fp0 S0 w3 [])⟩
   subst hr
   obtain ⟨a8,e,f13⟩:=bindS f1;clear f1
   refine catZ e ?_;clear e
   cases f13
   exact ⟨_,_,rfl,⟨rfl,rfl⟩,(H.sel [] rfl).close trivial⟩
 ·
  have f14:=condT hF2;clear hF2
  cases f14
  exact ⟨_,_,rfl,⟨rfl,rfl⟩,(H.sel [] rfl).close trivial⟩
theorem laws_markNodeS_c (a_:List (Int × Int × ByteArray)) (a_h:Hd) (k_:Int) (y0:List (Int × Int × ByteArray)) (y1:Int) (hF:F_laws_markNodeS a_ k_ = some (y0,y1)) :
  ConF Tryz.prog 42 #[(a_h).v,(.int .i64 k_)] [] [E (List (Int × Int × ByteArray)) a_ a_h] (fun v Γ'=>v = (.int .i64 y1) ∧ Γ' = [E (List (Int × Int × ByteArray)) y0 a_h]):=by
 intro w0 S0 fp0 hI hS
 have H:Cx w0 fp0 S0 w0 [E (List (Int × Int × ByteArray)) a_ a_h]:=Cx.start hI hS
 clear hI hS
 refine enterC (args:=[_,_]) gok Tryz.func42 rfl _ rfl rfl rfl ?_
 obtain ⟨r0,f0,f1⟩:=bindS hF;clear hF
 refine cut (fun (q0:(List (Int × Int × ByteArray)) × Int)=>[(1,(.int .i64 q0.2))]) (fun (q0:(List (Int × Int × ByteArray)) × Int) w'=>(q0.1,q0.2) = r0 ∧ Cx w0 fp0 S0 w' [E (List (Int × Int × ByteArray)) q0.1 a_h]) ?_ ?_
 ·
  refine loopW _ (fun (s0:(List (Int × Int × ByteArray)) × Int × Int) (_:Unit)=>[(0,(a_h).v),(1,(.int .i64 s0.2.1)),(5,(.int .i64 s0.2.2))]) (fun (s0:(List (Int × Int × ByteArray)) × Int × Int) (_:Unit) w'=>Cx w0 fp0 S0 w' [E (List (Int × Int × ByteArray)) s0.1 a_h]) (a_,k_,0) () f0 ⟨rfl,rfl,rfl,trivial⟩ (H.sel [0] rfl) ?_
  ·
   clear H
   rintro T0 ⟨s0_0,s0_1,s0_2⟩ _ w1 o0 (H:Cx w0 fp0 S0 w1 [E (List (Int × Int × ByteArray)) s0_0 a_h]) hrt f2
   refine sq ?_
   refine lenE (H.ro (α:=List (Int × Int × ByteArray)) 0 rfl).len ?_
   obtain ⟨a0,e,f3⟩:=bindS f2;clear f2
   refine boolO e ?_;clear e
   cases a0
   ·
    have f4:=condF f3;clear f3
    have hs:=Option.some.inj f4;subst hs;clear f4
    have f5:some _ = some _:=congrArg some (hrt _ rfl).symm
    exact ⟨(s0_0,s0_1),⟨rfl,trivial⟩,Option.some.inj f5,H.sel [0] rfl⟩
   ·
    have f6:=condT f3;clear f3
    refine sq ?_
    obtain ⟨a1,e,f7⟩:=bindS f6;clear f6
    replace H:=H.toEH (α:=Int × Int × ByteArray)
    have HH:=H;clear H;obtain ⟨p0,m0,g0,c0,c1,c2,c3,H⟩:=HH.peek e;clear HH
    clear e
    obtain ⟨a1_0,a1_1,a1_2⟩:=a1
    obtain ⟨_,_,_⟩:=g0
    refine idxE c0 c1 c2 ?_
    refine fld gok rfl rfl rfl rfl ?_
    replace H:=H.takeK 0 rfl
    replace H:=H.sel [1,0] rfl
    refine stX (α:=Int × Int × ByteArray) (j:=0) H c0 rfl rfl ?_;clear H;intro w2 H
    replace H:=H.sel [1,0] rfl
    replace H:=H.split
    replace H:=H.sel [1,2] rfl
    replace H:=H.split
    replace H:=H.sel [1,2] rfl
    replace H:=H.sel [1] rfl
    replace H:=H.sc (α:=ByteArray) a1_2
    replace H:=H.sc (α:=Int) a1_1
    replace H:=H.join (α:=Int) (β:=ByteArray)
    replace H:=H.sc (α:=Int) s0_1
    replace H:=H.join (α:=Int) (β:=Int × ByteArray)
    obtain ⟨a2,e,f8⟩:=bindS f7;clear f7
    replace H:=H.put c1 e;clear e
    obtain ⟨a3,e,f9⟩:=bindS f8;clear f8
    refine arO e ?_;clear e
    obtain ⟨a4,e,f10⟩:=bindS f9;clear f9
    replace H:=H.toEH (α:=Int × Int × ByteArray)
    have HH:=H;clear H;obtain ⟨p1,m1,g1,c4,c5,c6,c7,H⟩:=HH.peek e;clear HH
    clear e
    obtain ⟨a4_0,a4_1,a4_2⟩:=a4
    obtain ⟨_,_,_⟩:=g1
    refine idxE c4 c5 c6 ?_
    refine fld gok rfl rfl rfl rfl ?_
    replace H:=H.takeK 0 rfl
    replace H:=H.sel [1,0] rfl
    refine stX (α:=Int × Int × ByteArray) (j:=1) H c4 rfl rfl ?_;clear H;intro w3 H
    replace H:=H.sel [1,0] rfl
    replace H:=H.split
    replace H:=H.sel [1,2] rfl
    replace H:=H.split
    replace H:=H.sel [1,2] rfl
    replace H:=H.sel [1] rfl
    replace H:=H.sc (α:=ByteArray) a4_2
    replace H:=H.sc (α:=Int) a3
    replace H:=H.join (α:=Int) (β:=ByteArray)
    replace H:=H.sc (α:=Int) a4_0
    replace H:=H.join (α:=Int) (β:=Int × ByteArray)
    obtain ⟨a5,e,f11⟩:=bindS f10;clear f10
    replace H:=H.put c5 e;clear e
    obtain ⟨a6,e,f12⟩:=bindS f11;clear f11
    refine arO e ?_;clear e
    obtain ⟨y2,e,f13⟩:=bindS f12;clear f12
    have ey493:=e;clear e
    refine callF (laws_markText_c a6 y2 ey493) (Γi:=[]) H trivial ?_;clear H ey493
    rintro _ _ w4 ⟨rfl,rfl⟩ H
    obtain ⟨a7,e,f14⟩:=bindS f13;clear f13
    replace H:=H.toEH (α:=Int × Int × ByteArray)
    have HH:=H;clear H;obtain ⟨p2,m2,g2,c8,c9,c10,c11,H⟩:=HH.peek e;clear HH
    clear e
    obtain ⟨a7_0,a7_1,a7_2⟩:=a7
    obtain ⟨_,_,_⟩:=g2
    refine idxE c8 c9 c10 ?_
    refine fld gok rfl rfl rfl rfl ?_
    replace H:=H.takeK 0 rfl
    replace H:=H.sel [1,0] rfl
    refine stX (α:=Int × Int × ByteArray) (j:=2) H c8 rfl rfl ?_;clear H;intro w5 H
    replace H:=H.sel [1,0] rfl
    replace H:=H.split
    replace H:=H.sel [1,2] rfl
    replace H:=H.split
    replace H:=H.sel [1,2] rfl
    replace H:=H.sel [1] rfl
    replace H:=H.sc (α:=ByteArray) y2
    replace H:=H.sc (α:=Int) a7_1
    replace H:=H.join (α:=Int) (β:=ByteArray)
    replace H:=H.sc (α:=Int) a7_0
    replace H:=H.join (α:=Int) (β:=Int × ByteArray)
    obtain ⟨a8,e,f15⟩:=bindS f14;clear f14
    replace H:=H.put c9 e;clear e
    obtain ⟨a9,e,f16⟩:=bindS f15;clear f15
    refine arO e ?_;clear e
    obtain ⟨a10,e,f17⟩:=bindS f16;clear f16
    refine arO e ?_;clear e
    have hs:=Option.some.inj f17;subst hs;clear f17
    exact ⟨(a8,a9,a10),(),rfl,⟨rfl,rfl,rfl,trivial⟩,H.sel [0] rfl⟩
 ·
  clear f0 H
  rintro T1 ⟨s1_0,s1_1⟩ w6 ⟨hr,(H:Cx w0 fp0 S0 w6 [E (List (Int × Int × ByteArray)) s1_0 a_h])⟩
  subst hr
  cases f1
  exact ⟨_,_,rfl,⟨rfl,rfl⟩,(H.sel [0] rfl).close ⟨cloE,trivial⟩⟩
theorem laws_markTerm_c (a__0:List (Int × Int × ByteArray)) (a__0h:Hd) (k_:Int) (y0_0:List (Int × Int × ByteArray)) (y1:Int) (hF:F_laws_markTerm a__0 k_ = some (y0_0,y1)) :
  ConF Tryz.prog 18 #[(.agg #[(a__0h).v]),(.int .i64 k_)] [] [E (List (Int × Int × ByteArray)) a__0 a__0h] (fun v Γ'=>v = (.int .i64 y1) ∧ Γ' = [E (List (Int × Int × ByteArray)) y0_0 a__0h]):=by
 intro w0 S0 fp0 hI hS
 have H:Cx w0 fp0 S0 w0 [E (List (Int × Int × ByteArray)) a__0 a__0h]:=Cx.start hI hS
 clear hI hS
 refine enterC (args:=[_,_]) gok Tryz.func18 rfl _ rfl rfl rfl ?_
 refine box_ H ?_;clear H;intro b3 w2 hx H
 clear hx
 refine fld gok rfl rfl rfl rfl ?_
 refine load1 (H.bx 0 rfl (j:=0) rfl) ?_
 obtain ⟨y5,e,hF6⟩:=bindS hF;clear hF
 obtain ⟨y5_0,y5_1⟩:=y5
 have ey5:=e;clear e
 replace H:=H.sel [1,0] rfl
 refine callF (laws_markNodeS_c a__0 a__0h k_ y5_0 y5_1 ey5) (Γi:=[E (List (Int × Int × ByteArray)) a__0 a__0h]) H trivial ?_;clear H ey5
 rintro _ _ w7 ⟨rfl,rfl⟩ H
 cases hF6
 exact ⟨_,_,rfl,⟨rfl,rfl⟩,(H.sel [0] rfl).close ⟨cloE,trivial⟩⟩
theorem laws_markIntS_c (a_:List Int) (a_h:Hd) (k_:Int) (y0:List Int) (y1:Int) (hF:F_laws_markIntS a_ k_ = some (y0,y1)) :
  ConF Tryz.prog 19 #[(a_h).v,(.int .i64 k_)] [] [E (List Int) a_ a_h] (fun v Γ'=>v = (.int .i64 y1) ∧ Γ' = [E (List Int) y0 a_h]):=by
 intro w0 S0 fp0 hI hS
 have H:Cx w0 fp0 S0 w0 [E (List Int) a_ a_h]:=Cx.start hI hS
 clear hI hS
 refine enterC (args:=[_,_]) gok Tryz.func19 rfl _ rfl rfl rfl ?_
 obtain ⟨r0,f0,f1⟩:=bindS hF;clear hF
 refine cut (fun (q0:List Int × Int)=>[(1,(.int .i64 q0.2))]) (fun (q0:List Int × Int) w'=>(q0.1,q0.2) = r0 ∧ Cx w0 fp0 S0 w' [E (List Int) q0.1 a_h]) ?_ ?_
 ·
  refine loopW _ (fun (s0:List Int × Int × Int) (_:Unit)=>[(0,(a_h).v),(1,(.int .i64 s0.2.1)),(5,(.int .i64 s0.2.2))]) (fun (s0:List Int × Int × Int) (_:Unit) w'=>Cx w0 fp0 S0 w' [E (List Int) s0.1 a_h]) (a_,k_,0) () f0 ⟨rfl,rfl,rfl,trivial⟩ (H.sel [0] rfl) ?_
  ·
   clear H
   rintro T0 ⟨s0_0,s0_1,s0_2⟩ _ w1 o0 (H:Cx w0 fp0 S0 w1 [E (List Int) s0_0 a_h]) hrt f2
   refine sq ?_
   refine lenE (H.ro (α:=List Int) 0 rfl).len ?_
   obtain ⟨a0,e,f3⟩:=bindS f2;clear f2
   refine boolO e ?_;clear e
   cases a0
   ·
    have f4:=condF f3;clear f3
    have hs:=Option.some.inj f4;subst hs;clear f4
    have f5:some _ = some _:=congrArg some (hrt _ rfl).symm
    exact ⟨(s0_0,s0_1),⟨rfl,trivial⟩,Option.some.inj f5,H.sel [0] rfl⟩
   ·
    have f6:=condT f3;clear f3
    refine sq ?_
    obtain ⟨a1,e,f7⟩:=bindS f6;clear f6
    have ea131:=e;clear e
    obtain ⟨p0,m0,c0,c1,c2⟩:=(H.ro (α:=List Int) 0 rfl).setp ea131
    refine idxE c0 c1 c2 ?_
    refine setS (α:=Int) H c0 c1 ea131 ?_;clear H c0 c1 c2 ea131;intro w2 H
    obtain ⟨a2,e,f8⟩:=bindS f7;clear f7
    refine arO e ?_;clear e
    obtain ⟨a3,e,f9⟩:=bindS f8;clear f8
    refine arO e ?_;clear e
    have hs:=Option.some.inj f9;subst hs;clear f9
    exact ⟨(a1,a2,a3),(),rfl,⟨rfl,rfl,rfl,trivial⟩,H.sel [0] rfl⟩
 ·
  clear f0 H
  rintro T1 ⟨s1_0,s1_1⟩ w3 ⟨hr,(H:Cx w0 fp0 S0 w3 [E (List Int) s1_0 a_h])⟩
  subst hr
  cases f1
  exact ⟨_,_,rfl,⟨rfl,rfl⟩,(H.sel [0] rfl).close ⟨cloE,trivial⟩⟩
theorem laws_heldIntS_c (a_:List Int) (a_h:Hd) (k_:Int) (y:Int) (hF:F_laws_heldIntS a_ k_ = some y) :
  ConF Tryz.prog 20 #[(a_h).v,(.int .i64 k_)] [Es (List Int) a_ a_h] [] (fun v Γ'=>v = (.int .i64 y) ∧ Γ' = []):=by
 intro w0 S0 fp0 hI hS
 have H:Cx w0 fp0 S0 w0 [Es (List Int) a_ a_h]:=Cx.start hI hS
 clear hI hS
 refine enterC (args:=[_,_]) gok Tryz.func20 rfl _ rfl rfl rfl ?_
 obtain ⟨r0,f0,f1⟩:=bindS hF;clear hF
 refine cut (fun (q0:Int)=>[(1,(.int .i64 q0))]) (fun (q0:Int) w'=>.inl q0 = r0 ∧ Cx w0 fp0 S0 w' []) ?_ ?_
 ·
  refine loopW _ (fun (s0:Int × Int) (_:Unit)=>[(0,(a_h).v),(1,(.int .i64 s0.1)),(5,(.int .i64 s0.2))]) (fun (s0:Int × Int) (_:Unit) w'=>Cx w0 fp0 S0 w' [Es (List Int) a_ a_h]) (k_,0) () f0 ⟨rfl,rfl,rfl,trivial⟩ (H.sel [0] rfl) ?_
  ·
   clear H
   rintro T0 ⟨s0_0,s0_1⟩ _ w1 o0 (H:Cx w0 fp0 S0 w1 [Es (List Int) a_ a_h]) hrt f2
   refine sq ?_
   refine lenE (H.rs (α:=List Int) 0 rfl).len ?_
   obtain ⟨a0,e,f3⟩:=bindS f2;clear f2
   refine boolO e ?_;clear e
   cases a0
   ·
    have f4:=condF f3;clear f3
    have hs:=Option.some.inj f4;subst hs;clear f4
    have f5:some _ = some _:=congrArg some (hrt _ rfl).symm
    exact ⟨s0_0,⟨rfl,trivial⟩,Option.some.inj f5,H.sel [] rfl⟩
   ·
    have f6:=condT f3;clear f3
    refine sq ?_
    refine sq ?_
    obtain ⟨a1,e,f7⟩:=bindS f6;clear f6
    obtain ⟨p0,m0,c0,c1,c2,c3⟩:=(H.rs (α:=List Int) 0 rfl).at1 e;clear e
    refine idxE c0 c1 c2 ?_;clear c0 c1 c2
    refine load1 c3 ?_;clear c3
    obtain ⟨a2,e,f8⟩:=bindS f7;clear f7
    refine boolO e ?_;clear e
    cases a2
    ·
     have f9:=condF f8;clear f8
     obtain ⟨a3,e,f10⟩:=bindS f9;clear f9
     refine arO e ?_;clear e
     obtain ⟨a4,e,f11⟩:=bindS f10;clear f10
     refine arO e ?_;clear e
     have hs:=Option.some.inj f11;subst hs;clear f11
     exact ⟨(a3,a4),(),rfl,⟨rfl,rfl,rfl,trivial⟩,H.sel [0] rfl⟩
    ·
     have f12:=condT f8;clear f8
     have hs:=Option.some.inj f12;subst hs;clear f12
     have f13:some _ = some _:=congrArg some (hrt _ rfl).symm
     have hs:=Option.some.inj f13;subst hs;clear f13
     have f14:some _ = some _:=f1;clear f1
     cases f14
     exact ⟨_,_,rfl,⟨rfl,rfl⟩,(H.sel [] rfl).close trivial⟩
 ·
  clear f0 H
  rintro T1 s1 w2 ⟨hr,(H:Cx w0 fp0 S0 w2 [])⟩
  subst hr
  cases f1
  exact ⟨_,_,rfl,⟨rfl,rfl⟩,(H.sel [] rfl).close trivial⟩
end Go.Proofs.YtlggnmkelgplnaaGreatDoor
