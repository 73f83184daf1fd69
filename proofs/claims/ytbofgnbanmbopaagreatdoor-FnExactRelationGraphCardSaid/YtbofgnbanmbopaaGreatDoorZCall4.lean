/-
 Contracts, printed by a program (wip/y/gen.py): each function of Go computes its partial function. Condition of each: its partial function yields a value.
-/
import Derived.Test.YtbofgnbanmbopaaGreatDoorZCall3
namespace Go.Proofs.YtbofgnbanmbopaaGreatDoor
open Go Go.Proofs.YtbofgnbanmbopaaGreatDoor.RW
set_option maxRecDepth 100000
set_option maxHeartbeats 1000000
set_option linter.unusedVariables false
theorem A4_ (k_b:Nat) (k__0_0:Int) (k__0_1:List (Int×Int×List Int×List Int)) (k__0_1h:Hd) (k__0_2:List Int) (k__0_2h:Hd) (k__0_3:List Int) (k__0_3h:Hd) (k__1_0:List Int) (k__1_0h:Hd) (k__1_1:List Int) (k__1_1h:Hd) (k__2:MI) (k__2h:Mh) (k__3:MI) (k__3h:Mh) (k__4:List Int) (k__4h:Hd) (k__5:List Int) (k__5h:Hd) (c0_b:Nat) (c0_:Int) (c1_b:Nat) (c1_:List Int) (c1_h:Hd) (c2_b:Nat) (c2_:Int) (c3_b:Nat) (c3_:List Int) (c3_h:Hd) (y0:Int) (y1:List Int) (y2:Int) (y3:List Int) (hF:eQ ((k__0_0,k__0_1,k__0_2,k__0_3),(k__1_0,k__1_1),k__2,k__3,k__4,k__5) c0_ c1_ c2_ c3_=some (y0,y1,y2,y3)) :
  nA Tryz.prog 103 #[(.pointer (some ⟨k_b,0,none⟩)),(.pointer (some ⟨c0_b,0,none⟩)),(.pointer (some ⟨c1_b,0,none⟩)),(.pointer (some ⟨c2_b,0,none⟩)),(.pointer (some ⟨c3_b,0,none⟩))] [Es (List (Int×Int×List Int×List Int)) k__0_1 k__0_1h,Es (List Int) k__0_2 k__0_2h,Es (List Int) k__0_3 k__0_3h,Es (List Int) k__1_0 k__1_0h,Es (List Int) k__1_1 k__1_1h,Es MI k__2 k__2h,Es MI k__3 k__3h,Es (List Int) k__4 k__4h,Es (List Int) k__5 k__5h] [Bx k_b [(.int .i64 k__0_0),(k__0_1h).v,(k__0_2h).v,(k__0_3h).v,(k__1_0h).v,(k__1_1h).v,(k__2h).v,(k__3h).v,(k__4h).v,(k__5h).v],Bx c0_b [(.int .i64 c0_)],Bx c1_b [(c1_h).v],E (List Int) c1_ c1_h,Bx c2_b [(.int .i64 c2_)],Bx c3_b [(c3_h).v],E (List Int) c3_ c3_h] (fun v Γ'=>v=(.tuple #[])∧Γ'=[Bx k_b [(.int .i64 k__0_0),(k__0_1h).v,(k__0_2h).v,(k__0_3h).v,(k__1_0h).v,(k__1_1h).v,(k__2h).v,(k__3h).v,(k__4h).v,(k__5h).v],Bx c0_b [(.int .i64 y0)],Bx c1_b [(c1_h).v],E (List Int) y1 c1_h,Bx c2_b [(.int .i64 y2)],Bx c3_b [(c3_h).v],E (List Int) y3 c3_h]):=by
 intro w0 S0 fp0 hI hS
 have H:Cx w0 fp0 S0 w0 [Es (List (Int×Int×List Int×List Int)) k__0_1 k__0_1h,Es (List Int) k__0_2 k__0_2h,Es (List Int) k__0_3 k__0_3h,Es (List Int) k__1_0 k__1_0h,Es (List Int) k__1_1 k__1_1h,Es MI k__2 k__2h,Es MI k__3 k__3h,Es (List Int) k__4 k__4h,Es (List Int) k__5 k__5h,Bx k_b [(.int .i64 k__0_0),(k__0_1h).v,(k__0_2h).v,(k__0_3h).v,(k__1_0h).v,(k__1_1h).v,(k__2h).v,(k__3h).v,(k__4h).v,(k__5h).v],Bx c0_b [(.int .i64 c0_)],Bx c1_b [(c1_h).v],E (List Int) c1_ c1_h,Bx c2_b [(.int .i64 c2_)],Bx c3_b [(c3_h).v],E (List Int) c3_ c3_h]:=Cx.start hI hS
 clear hI hS
 refine lA (args:=[_,_,_,_,_]) gok Tryz.func103 rfl _ rfl rfl rfl ?_
 obtain ⟨r0,f0,f1⟩:=aA hF;clear hF
 refine cut (fun (q0:List Int)=>[(0,(.pointer (some ⟨k_b,0,none⟩))),(1,(.pointer (some ⟨c0_b,0,none⟩))),(3,(.pointer (some ⟨c2_b,0,none⟩))),(4,(.pointer (some ⟨c3_b,0,none⟩)))]) (fun (q0:List Int) w'=>q0=r0∧Cx w0 fp0 S0 w' [Bx k_b [(.int .i64 k__0_0),(k__0_1h).v,(k__0_2h).v,(k__0_3h).v,(k__1_0h).v,(k__1_1h).v,(k__2h).v,(k__3h).v,(k__4h).v,(k__5h).v],Es (List (Int×Int×List Int×List Int)) k__0_1 k__0_1h,Es (List Int) k__0_2 k__0_2h,Es (List Int) k__0_3 k__0_3h,Es (List Int) k__1_0 k__1_0h,Es (List Int) k__1_1 k__1_1h,Es MI k__2 k__2h,Es MI k__3 k__3h,Es (List Int) k__4 k__4h,Es (List Int) k__5 k__5h,Bx c0_b [(.int .i64 c0_)],Bx c2_b [(.int .i64 c2_)],Bx c3_b [(c3_h).v],E (List Int) c3_ c3_h,Bx c1_b [(c1_h).v],E (List Int) q0 c1_h]) ?_ ?_
 ·
  refine fld gok rfl rfl rfl rfl ?_
  refine cA (H.bx 9 rfl (j:=6) rfl) ?_
  refine yU Tryz.underlying129 H 5 rfl ?_;clear H;intro b0 w1 hx hk95 H
  clear hx
  obtain ⟨r1,e,f2⟩:=aA f0;clear f0
  refine cV _ (AM_ _) k__2.kvs hk95 (fun (s0:List Int) (_:Unit)=>[(0,(.pointer (some ⟨k_b,0,none⟩))),(1,(.pointer (some ⟨c0_b,0,none⟩))),(2,(.pointer (some ⟨c1_b,0,none⟩))),(3,(.pointer (some ⟨c2_b,0,none⟩))),(4,(.pointer (some ⟨c3_b,0,none⟩))),(14,(.pointer (some ⟨b0,0,none⟩)))]) (fun l0 (s0:List Int) (_:Unit) w'=>Cx w0 fp0 S0 w' [Bx k_b [(.int .i64 k__0_0),(k__0_1h).v,(k__0_2h).v,(k__0_3h).v,(k__1_0h).v,(k__1_1h).v,(k__2h).v,(k__3h).v,(k__4h).v,(k__5h).v],Es (List (Int×Int×List Int×List Int)) k__0_1 k__0_1h,Es (List Int) k__0_2 k__0_2h,Es (List Int) k__0_3 k__0_3h,Es (List Int) k__1_0 k__1_0h,Es (List Int) k__1_1 k__1_1h,Es MI k__2 k__2h,Es MI k__3 k__3h,Es (List Int) k__4 k__4h,Es (List Int) k__5 k__5h,Bx c0_b [(.int .i64 c0_)],Bx c1_b [(c1_h).v],E (List Int) s0 c1_h,Bx c2_b [(.int .i64 c2_)],Bx c3_b [(c3_h).v],E (List Int) c3_ c3_h,It k__2h b0 none l0]) c1_ () e ⟨rfl,rfl,rfl,rfl,rfl,rfl,trivial⟩ (H.sel [10,1,2,3,4,5,6,7,8,9,11,12,13,14,15,16,0] rfl) ?_ ?_
  ·
   clear H e
   rintro T0 l0 s0 _ w2 J0 hne (H:Cx w0 fp0 S0 w2 [Bx k_b [(.int .i64 k__0_0),(k__0_1h).v,(k__0_2h).v,(k__0_3h).v,(k__1_0h).v,(k__1_1h).v,(k__2h).v,(k__3h).v,(k__4h).v,(k__5h).v],Es (List (Int×Int×List Int×List Int)) k__0_1 k__0_1h,Es (List Int) k__0_2 k__0_2h,Es (List Int) k__0_3 k__0_3h,Es (List Int) k__1_0 k__1_0h,Es (List Int) k__1_1 k__1_1h,Es MI k__2 k__2h,Es MI k__3 k__3h,Es (List Int) k__4 k__4h,Es (List Int) k__5 k__5h,Bx c0_b [(.int .i64 c0_)],Bx c1_b [(c1_h).v],E (List Int) s0 c1_h,Bx c2_b [(.int .i64 c2_)],Bx c3_b [(c3_h).v],E (List Int) c3_ c3_h,It k__2h b0 none l0]) hgo
   replace H:=H.sel [16,0,1,2,3,4,5,6,7,8,9,10,11,12,13,14,15] rfl
   refine nextM H hne ?_;clear H;intro k0 v0 l1 w3 hp145 H
   obtain ⟨s1,f3,hj⟩:=hgo _ _ _ hp145
   refine sq ?_
   refine dV H 0 rfl ?_
   refine cA (H.bx0 12 rfl) ?_
   refine cA (H.bx0 11 rfl) ?_
   obtain ⟨a0,e,f4⟩:=aA f3;clear f3
   refine arO e ?_;clear e
   obtain ⟨a1,e,f5⟩:=aA f4;clear f4
   have i0:=e;clear e
   obtain ⟨p0,m0,c0,c1,c2⟩:=(H.ro (α:=List Int) 13 rfl).setp i0
   refine dA c0 c1 c2 ?_
   replace H:=H.sel [13,0,1,2,3,4,5,6,7,8,9,10,11,12,14,15,16] rfl
   refine gC (α:=Int) H c0 c1 i0 ?_;clear H c0 c1 c2 i0;intro w4 H
   replace H:=H.sel [1,0,2,3,4,5,6,7,8,9,10,11,12,13,14,15,16] rfl
   replace H:=H.itEnd
   have hs:=Option.some.inj f5;subst hs;clear f5
   exact hj () _ _ ⟨rfl,rfl,rfl,rfl,rfl,rfl,trivial⟩ (H.sel [2,3,4,5,6,7,8,9,10,11,12,13,1,14,15,16,0] rfl)
  ·
   clear H e
   rintro T1 _ w5 (H:Cx w0 fp0 S0 w5 [Bx k_b [(.int .i64 k__0_0),(k__0_1h).v,(k__0_2h).v,(k__0_3h).v,(k__1_0h).v,(k__1_1h).v,(k__2h).v,(k__3h).v,(k__4h).v,(k__5h).v],Es (List (Int×Int×List Int×List Int)) k__0_1 k__0_1h,Es (List Int) k__0_2 k__0_2h,Es (List Int) k__0_3 k__0_3h,Es (List Int) k__1_0 k__1_0h,Es (List Int) k__1_1 k__1_1h,Es MI k__2 k__2h,Es MI k__3 k__3h,Es (List Int) k__4 k__4h,Es (List Int) k__5 k__5h,Bx c0_b [(.int .i64 c0_)],Bx c1_b [(c1_h).v],E (List Int) r1 c1_h,Bx c2_b [(.int .i64 c2_)],Bx c3_b [(c3_h).v],E (List Int) c3_ c3_h,It k__2h b0 none []])
   replace H:=H.sel [16,0,1,2,3,4,5,6,7,8,9,10,11,12,13,14,15] rfl
   refine nextN H ?_
   refine sq ?_
   exact ⟨r1,⟨rfl,rfl,rfl,rfl,trivial⟩,Option.some.inj f2,H.sel [1,2,3,4,5,6,7,8,9,10,11,14,15,16,12,13] rfl⟩
 ·
  clear f0 H
  rintro T2 s2 w6 ⟨hr,(H:Cx w0 fp0 S0 w6 [Bx k_b [(.int .i64 k__0_0),(k__0_1h).v,(k__0_2h).v,(k__0_3h).v,(k__1_0h).v,(k__1_1h).v,(k__2h).v,(k__3h).v,(k__4h).v,(k__5h).v],Es (List (Int×Int×List Int×List Int)) k__0_1 k__0_1h,Es (List Int) k__0_2 k__0_2h,Es (List Int) k__0_3 k__0_3h,Es (List Int) k__1_0 k__1_0h,Es (List Int) k__1_1 k__1_1h,Es MI k__2 k__2h,Es MI k__3 k__3h,Es (List Int) k__4 k__4h,Es (List Int) k__5 k__5h,Bx c0_b [(.int .i64 c0_)],Bx c2_b [(.int .i64 c2_)],Bx c3_b [(c3_h).v],E (List Int) c3_ c3_h,Bx c1_b [(c1_h).v],E (List Int) s2 c1_h])⟩
  subst hr
  obtain ⟨r2,f6,f7⟩:=aA f1;clear f1
  refine cut (fun (q1:List Int)=>[(0,(.pointer (some ⟨k_b,0,none⟩))),(1,(.pointer (some ⟨c0_b,0,none⟩))),(3,(.pointer (some ⟨c2_b,0,none⟩)))]) (fun (q1:List Int) w'=>q1=r2∧Cx w0 fp0 S0 w' [Bx k_b [(.int .i64 k__0_0),(k__0_1h).v,(k__0_2h).v,(k__0_3h).v,(k__1_0h).v,(k__1_1h).v,(k__2h).v,(k__3h).v,(k__4h).v,(k__5h).v],Es (List (Int×Int×List Int×List Int)) k__0_1 k__0_1h,Es (List Int) k__0_2 k__0_2h,Es (List Int) k__0_3 k__0_3h,Es (List Int) k__1_0 k__1_0h,Es (List Int) k__1_1 k__1_1h,Es MI k__2 k__2h,Es MI k__3 k__3h,Es (List Int) k__4 k__4h,Es (List Int) k__5 k__5h,Bx c0_b [(.int .i64 c0_)],Bx c2_b [(.int .i64 c2_)],Bx c3_b [(c3_h).v],E (List Int) q1 c3_h,Bx c1_b [(c1_h).v],E (List Int) s2 c1_h]) ?_ ?_
  ·
   refine fld gok rfl rfl rfl rfl ?_
   refine cA (H.bx 0 rfl (j:=7) rfl) ?_
   refine yU Tryz.underlying129 H 7 rfl ?_;clear H;intro b1 w7 hx hk243 H
   clear hx
   obtain ⟨r3,e,f8⟩:=aA f6;clear f6
   refine cV _ (AM_ _) k__3.kvs hk243 (fun (s3:List Int) (_:Unit)=>[(0,(.pointer (some ⟨k_b,0,none⟩))),(1,(.pointer (some ⟨c0_b,0,none⟩))),(3,(.pointer (some ⟨c2_b,0,none⟩))),(4,(.pointer (some ⟨c3_b,0,none⟩))),(30,(.pointer (some ⟨b1,0,none⟩)))]) (fun l2 (s3:List Int) (_:Unit) w'=>Cx w0 fp0 S0 w' [Bx k_b [(.int .i64 k__0_0),(k__0_1h).v,(k__0_2h).v,(k__0_3h).v,(k__1_0h).v,(k__1_1h).v,(k__2h).v,(k__3h).v,(k__4h).v,(k__5h).v],Es (List (Int×Int×List Int×List Int)) k__0_1 k__0_1h,Es (List Int) k__0_2 k__0_2h,Es (List Int) k__0_3 k__0_3h,Es (List Int) k__1_0 k__1_0h,Es (List Int) k__1_1 k__1_1h,Es MI k__2 k__2h,Es MI k__3 k__3h,Es (List Int) k__4 k__4h,Es (List Int) k__5 k__5h,Bx c0_b [(.int .i64 c0_)],Bx c2_b [(.int .i64 c2_)],Bx c3_b [(c3_h).v],E (List Int) s3 c3_h,It k__3h b1 none l2,Bx c1_b [(c1_h).v],E (List Int) s2 c1_h]) c3_ () e ⟨rfl,rfl,rfl,rfl,rfl,trivial⟩ (H.sel [1,2,3,4,5,6,7,8,9,10,11,12,13,14,0,15,16] rfl) ?_ ?_
   ·
    clear H e
    rintro T3 l2 s3 _ w8 J1 hne (H:Cx w0 fp0 S0 w8 [Bx k_b [(.int .i64 k__0_0),(k__0_1h).v,(k__0_2h).v,(k__0_3h).v,(k__1_0h).v,(k__1_1h).v,(k__2h).v,(k__3h).v,(k__4h).v,(k__5h).v],Es (List (Int×Int×List Int×List Int)) k__0_1 k__0_1h,Es (List Int) k__0_2 k__0_2h,Es (List Int) k__0_3 k__0_3h,Es (List Int) k__1_0 k__1_0h,Es (List Int) k__1_1 k__1_1h,Es MI k__2 k__2h,Es MI k__3 k__3h,Es (List Int) k__4 k__4h,Es (List Int) k__5 k__5h,Bx c0_b [(.int .i64 c0_)],Bx c2_b [(.int .i64 c2_)],Bx c3_b [(c3_h).v],E (List Int) s3 c3_h,It k__3h b1 none l2,Bx c1_b [(c1_h).v],E (List Int) s2 c1_h]) hgo
    replace H:=H.sel [14,0,1,2,3,4,5,6,7,8,9,10,11,12,13,15,16] rfl
    refine nextM H hne ?_;clear H;intro k1 v1 l3 w9 hp293 H
    obtain ⟨s4,f9,hj⟩:=hgo _ _ _ hp293
    refine sq ?_
    refine dV H 0 rfl ?_
    refine cA (H.bx0 13 rfl) ?_
    refine cA (H.bx0 12 rfl) ?_
    obtain ⟨a2,e,f10⟩:=aA f9;clear f9
    refine arO e ?_;clear e
    obtain ⟨a3,e,f11⟩:=aA f10;clear f10
    have i1:=e;clear e
    obtain ⟨p1,m1,c3,c4,c5⟩:=(H.ro (α:=List Int) 14 rfl).setp i1
    refine dA c3 c4 c5 ?_
    replace H:=H.sel [14,0,1,2,3,4,5,6,7,8,9,10,11,12,13,15,16] rfl
    refine gC (α:=Int) H c3 c4 i1 ?_;clear H c3 c4 c5 i1;intro w10 H
    replace H:=H.sel [1,0,2,3,4,5,6,7,8,9,10,11,12,13,14,15,16] rfl
    replace H:=H.itEnd
    have hs:=Option.some.inj f11;subst hs;clear f11
    exact hj () _ _ ⟨rfl,rfl,rfl,rfl,rfl,trivial⟩ (H.sel [2,3,4,5,6,7,8,9,10,11,12,13,14,1,0,15,16] rfl)
   ·
    clear H e
    rintro T4 _ w11 (H:Cx w0 fp0 S0 w11 [Bx k_b [(.int .i64 k__0_0),(k__0_1h).v,(k__0_2h).v,(k__0_3h).v,(k__1_0h).v,(k__1_1h).v,(k__2h).v,(k__3h).v,(k__4h).v,(k__5h).v],Es (List (Int×Int×List Int×List Int)) k__0_1 k__0_1h,Es (List Int) k__0_2 k__0_2h,Es (List Int) k__0_3 k__0_3h,Es (List Int) k__1_0 k__1_0h,Es (List Int) k__1_1 k__1_1h,Es MI k__2 k__2h,Es MI k__3 k__3h,Es (List Int) k__4 k__4h,Es (List Int) k__5 k__5h,Bx c0_b [(.int .i64 c0_)],Bx c2_b [(.int .i64 c2_)],Bx c3_b [(c3_h).v],E (List Int) r3 c3_h,It k__3h b1 none [],Bx c1_b [(c1_h).v],E (List Int) s2 c1_h])
    replace H:=H.sel [14,0,1,2,3,4,5,6,7,8,9,10,11,12,13,15,16] rfl
    refine nextN H ?_
    refine sq ?_
    exact ⟨r3,⟨rfl,rfl,rfl,trivial⟩,Option.some.inj f8,H.sel [1,2,3,4,5,6,7,8,9,10,11,12,13,14,15,16] rfl⟩
  ·
   clear f6 H
   rintro T5 s5 w12 ⟨hr,(H:Cx w0 fp0 S0 w12 [Bx k_b [(.int .i64 k__0_0),(k__0_1h).v,(k__0_2h).v,(k__0_3h).v,(k__1_0h).v,(k__1_1h).v,(k__2h).v,(k__3h).v,(k__4h).v,(k__5h).v],Es (List (Int×Int×List Int×List Int)) k__0_1 k__0_1h,Es (List Int) k__0_2 k__0_2h,Es (List Int) k__0_3 k__0_3h,Es (List Int) k__1_0 k__1_0h,Es (List Int) k__1_1 k__1_1h,Es MI k__2 k__2h,Es MI k__3 k__3h,Es (List Int) k__4 k__4h,Es (List Int) k__5 k__5h,Bx c0_b [(.int .i64 c0_)],Bx c2_b [(.int .i64 c2_)],Bx c3_b [(c3_h).v],E (List Int) s5 c3_h,Bx c1_b [(c1_h).v],E (List Int) s2 c1_h])⟩
   subst hr
   refine aC H [7] (.fst 1 (.fst 2 (.fst 3 (.fst 0 (.fst 4 (.act 5 (.fst 6 (.act 7 .done)))))))) vB [] trivial (by kernel_rfl) ?_
   clear H;intro w13 H
   have hX:Ext w13 w13:=Upd.refl _ _
   have H0:=H
   refine xA (fun _=>fld gok rfl rfl rfl rfl ⟨rfl,rfl⟩) ?_
   refine uA (H.bx0 10 rfl) ?_
   refine uA (H.bx 0 rfl (j:=6) rfl) ?_
   refine lenM Tryz.underlying129 (H.rs (α:=MI) 6 rfl) ?_
   refine hold hX ?_
   obtain ⟨a4,e,f12⟩:=aA f7;clear f7
   refine arO e ?_;clear e
   replace H:=H.sel [10,0,1,2,3,4,5,6,7,8,9,11,12,13,14,15] rfl
   refine mH H rfl ?_;clear H;intro w14 H
   refine hold trivial ?_
   refine aC H [7] (.fst 1 (.fst 2 (.fst 3 (.fst 0 (.fst 4 (.act 5 (.fst 6 (.act 7 .done)))))))) vB [] trivial (by kernel_rfl) ?_
   clear H;intro w15 H
   have hX:Ext w15 w15:=Upd.refl _ _
   have H0:=H
   refine xA (fun _=>fld gok rfl rfl rfl rfl ⟨rfl,rfl⟩) ?_
   refine uA (H.bx0 11 rfl) ?_
   refine uA (H.bx 1 rfl (j:=7) rfl) ?_
   refine lenM Tryz.underlying129 (H.rs (α:=MI) 8 rfl) ?_
   refine hold hX ?_
   obtain ⟨a5,e,f13⟩:=aA f12;clear f12
   refine arO e ?_;clear e
   replace H:=H.sel [11,0,1,2,3,4,5,6,7,8,9,10,12,13,14,15] rfl
   refine mH H rfl ?_;clear H;intro w16 H
   refine hold trivial ?_
   cases f13
   exact ⟨_,_,rfl,⟨rfl,rfl⟩,(H.sel [2,1,14,15,0,12,13] rfl).close ⟨cloB,cloB,cloB,cloE,cloB,cloB,cloE,trivial⟩⟩
theorem A5_ (g__0:Int) (g__1:List (Int×Int×List Int×List Int)) (g__1h:Hd) (g__2:List Int) (g__2h:Hd) (g__3:List Int) (g__3h:Hd) (y0:List Int) (y1:List Int) (hF:fQ (g__0,g__1,g__2,g__3)=some (y0,y1)) :
  nA Tryz.prog 82 #[(.agg #[(.int .i64 g__0),(g__1h).v,(g__2h).v,(g__3h).v])] [Es (List (Int×Int×List Int×List Int)) g__1 g__1h,Es (List Int) g__2 g__2h,Es (List Int) g__3 g__3h] [] (fun v Γ'=>∃ z0 z1:Hd,v=(.tuple #[(z0).v,(z1).v])∧Γ'=[E (List Int) y0 z0,E (List Int) y1 z1]):=by
 intro w0 S0 fp0 hI hS
 have H:Cx w0 fp0 S0 w0 [Es (List (Int×Int×List Int×List Int)) g__1 g__1h,Es (List Int) g__2 g__2h,Es (List Int) g__3 g__3h]:=Cx.start hI hS
 clear hI hS
 refine lA (args:=[_]) gok Tryz.func82 rfl _ rfl rfl rfl ?_
 refine jB H ?_;clear H;intro b5 w4 hx H
 clear hx
 refine vA [(.int .i64 g__0),(g__1h).v,(g__2h).v,(g__3h).v] rfl (fun j u hj=>H.bx 0 rfl hj) ?_
 obtain ⟨y7,e,hF8⟩:=aA hF;clear hF
 obtain ⟨⟨y7_0_0,y7_0_1,y7_0_2,y7_0_3⟩,⟨y7_1_0,y7_1_1⟩,y7_2,y7_3,y7_4,y7_5⟩:=y7
 have ey7:=e;clear e
 refine iA (Bi_ g__0 g__1 g__1h g__2 g__2h g__3 g__3h y7_0_0 y7_0_1 y7_0_2 y7_0_3 y7_1_0 y7_1_1 y7_2 y7_3 y7_4 y7_5 ey7) (Γi:=[]) H ⟨Vw.sh 1 rfl,Vw.sh 2 rfl,Vw.sh 3 rfl,trivial⟩ ?_;clear H ey7
 rintro _ _ w9 ⟨b0,h0,h1,h2,h3,h4,h5,rfl,rfl⟩ H
 obtain ⟨r0,f0,f1⟩:=aA hF8;clear hF8
 refine lH H [] (.fst 0 (.fst 3 (.fst 1 (.fst 4 (.fst 5 (.alts (.alt 2 (.alts (.alt 6 (.alts (.alt 7 (.act 8 (.act 9 (.act 10 .done))) (.alt 8 (.act 7 (.act 9 (.act 10 .done))) .no))) (.alt 7 (.alts (.alt 6 (.act 8 (.act 9 (.act 10 .done))) (.alt 8 (.act 6 (.act 9 (.act 10 .done))) .no))) (.alt 8 (.alts (.alt 6 (.act 7 (.act 9 (.act 10 .done))) (.alt 7 (.act 6 (.act 9 (.act 10 .done))) .no))) .no)))) (.alt 7 (.alts (.alt 2 (.alts (.alt 6 (.act 8 (.act 9 (.act 10 .done))) (.alt 8 (.act 6 (.act 9 (.act 10 .done))) .no))) (.alt 8 (.act 2 (.act 6 (.act 9 (.act 10 .done)))) .no))) (.alt 8 (.alts (.alt 2 (.alts (.alt 6 (.act 7 (.act 9 (.act 10 .done))) (.alt 7 (.act 6 (.act 9 (.act 10 .done))) .no))) (.alt 7 (.act 2 (.act 6 (.act 9 (.act 10 .done)))) .no))) .no))))))))) vB [] trivial (by kernel_rfl) (fun (q0:(List Int×List Int)×(Hd×Hd×Nat×Nat))=>[(1,(.pointer (some ⟨b5,0,none⟩))),(4,(.pointer (some ⟨b0,0,none⟩))),(5,(.pointer (some ⟨q0.2.2.2.1,0,none⟩))),(6,(.pointer (some ⟨q0.2.2.2.2,0,none⟩)))]) (fun (q0:(List Int×List Int)×(Hd×Hd×Nat×Nat)) w'=>(q0.1.1,q0.1.2)=r0∧Cx w0 fp0 S0 w' [Bx b5 [(.int .i64 g__0),(g__1h).v,(g__2h).v,(g__3h).v],Es (List (Int×Int×List Int×List Int)) g__1 g__1h,Es (List Int) g__2 g__2h,Es (List Int) g__3 g__3h,Bx b0 [(.int .i64 y7_0_0),(g__1h).v,(g__2h).v,(g__3h).v,(h0).v,(h1).v,(h2).v,(h3).v,(h4).v,(h5).v],E (List Int) y7_1_0 h0,E (List Int) y7_1_1 h1,E MI y7_2 h2,E MI y7_3 h3,E (List Int) y7_4 h4,E (List Int) y7_5 h5,Bx q0.2.2.2.1 [(q0.2.1).v],E (List Int) q0.1.1 q0.2.1,Bx q0.2.2.2.2 [(q0.2.2.1).v],E (List Int) q0.1.2 q0.2.2.1]) ?_ ?_
 ·
  clear H;intro w1 H
  have hX:Ext w1 w1:=Upd.refl _ _
  have H0:=H
  refine xA (fun _=>fld gok rfl rfl rfl rfl ⟨rfl,rfl⟩) ?_
  refine xA (fun _=>fld gok rfl rfl rfl rfl ⟨rfl,rfl⟩) ?_
  refine uA (H.bx 7 rfl (j:=0) rfl) ?_
  refine uA (H.bx 7 rfl (j:=1) rfl) ?_
  refine kA (H.rs (α:=List (Int×Int×List Int×List Int)) 8 rfl).len ?_
  refine pA ?_ ?_
  ·
   obtain ⟨y2,e,f2⟩:=aA f0;clear f0
   have i0:=e;clear e
   refine eB (yC (-1) g__0 y2 i0) H trivial ?_;clear H i0
   rintro _ _ w2 ⟨h6,rfl,rfl⟩ hx H
   replace hX:=hX.trans0 hx;clear hx
   refine hold hX ?_
   refine pA ?_ ?_
   ·
    obtain ⟨y3,e,f3⟩:=aA f2;clear f2
    have i1:=e;clear e
    refine eB (yC (-1) ((g__1.length:Nat):Int) y3 i1) H trivial ?_;clear H i1
    rintro _ _ w3 ⟨h7,rfl,rfl⟩ hx H
    replace hX:=hX.trans0 hx;clear hx
    refine hold hX ?_
    refine pA ?_ ?_
    ·
     refine dC gok rfl H ?_;clear H;intro b1 w5 hx v0 H;replace v0:=Nat.le_trans hX.size v0
     replace hX:=hX.trans0 hx;clear hx
     refine hold hX ?_
     refine dC gok rfl H ?_;clear H;intro b2 w6 hx v1 H;replace v1:=Nat.le_trans hX.size v1
     replace hX:=hX.trans0 hx;clear hx
     refine hold hX ?_
     replace H:=H.sel [1,0,2,3,4,5,6,7,8,9,10,11,12,13,14] rfl
     refine qC H rfl ?_;clear H;intro w7 hu H
     replace hX:=hX.fresh hu v0;clear hu
     refine hold hX ?_
     replace H:=H.sel [1,0,2,3,4,5,6,7,8,9,10,11,12,13,14] rfl
     refine qC H rfl ?_;clear H;intro w8 hu H
     replace hX:=hX.fresh hu v1;clear hu
     refine hold hX ?_
     exact ⟨((y2,y3),(h6,h7,b1,b2)),⟨rfl,rfl,rfl,rfl,trivial⟩,Option.some.inj f3,H.sel [11,12,13,14,4,5,6,7,8,9,10,1,3,0,2] rfl⟩
    ·
     refine pA ?_ ?_
     ·
      refine dC gok rfl H ?_;clear H;intro b3 w10 hx v2 H;replace v2:=Nat.le_trans hX.size v2
      replace hX:=hX.trans0 hx;clear hx
      refine hold hX ?_
      refine dC gok rfl H ?_;clear H;intro b4 w11 hx v3 H;replace v3:=Nat.le_trans hX.size v3
      replace hX:=hX.trans0 hx;clear hx
      refine hold hX ?_
      refine qC H rfl ?_;clear H;intro w12 hu H
      replace hX:=hX.fresh hu v3;clear hu
      refine hold hX ?_
      replace H:=H.sel [1,0,2,3,4,5,6,7,8,9,10,11,12,13,14] rfl
      refine qC H rfl ?_;clear H;intro w13 hu H
      replace hX:=hX.fresh hu v2;clear hu
      refine hold hX ?_
      exact ⟨((y2,y3),(h6,h7,b4,b3)),⟨rfl,rfl,rfl,rfl,trivial⟩,Option.some.inj f3,H.sel [11,12,13,14,4,5,6,7,8,9,10,1,3,0,2] rfl⟩
     ·
      exact trivial
   ·
    refine pA ?_ ?_
    ·
     obtain ⟨a0,o0,f4⟩:=aA f2;clear f2
     refine dC gok rfl H ?_;clear H;intro b6 w14 hx v4 H;replace v4:=Nat.le_trans hX.size v4
     replace hX:=hX.trans0 hx;clear hx
     refine hold hX ?_
     refine pA ?_ ?_
     ·
      have e:=o0;clear o0
      have i2:=e;clear e
      refine eB (yC (-1) ((g__1.length:Nat):Int) a0 i2) H trivial ?_;clear H i2
      rintro _ _ w15 ⟨h8,rfl,rfl⟩ hx H
      replace hX:=hX.trans0 hx;clear hx
      refine hold hX ?_
      refine dC gok rfl H ?_;clear H;intro b7 w16 hx v5 H;replace v5:=Nat.le_trans hX.size v5
      replace hX:=hX.trans0 hx;clear hx
      refine hold hX ?_
      replace H:=H.sel [2,0,1,3,4,5,6,7,8,9,10,11,12,13,14] rfl
      refine qC H rfl ?_;clear H;intro w17 hu H
      replace hX:=hX.fresh hu v4;clear hu
      refine hold hX ?_
      replace H:=H.sel [1,0,2,3,4,5,6,7,8,9,10,11,12,13,14] rfl
      refine qC H rfl ?_;clear H;intro w18 hu H
      replace hX:=hX.fresh hu v5;clear hu
      refine hold hX ?_
      exact ⟨((y2,a0),(h6,h8,b6,b7)),⟨rfl,rfl,rfl,rfl,trivial⟩,Option.some.inj f4,H.sel [11,12,13,14,4,5,6,7,8,9,10,1,3,0,2] rfl⟩
     ·
      refine pA ?_ ?_
      ·
       refine dC gok rfl H ?_;clear H;intro b8 w19 hx v6 H;replace v6:=Nat.le_trans hX.size v6
       replace hX:=hX.trans0 hx;clear hx
       refine hold hX ?_
       have e:=o0;clear o0
       have i2:=e;clear e
       refine eB (yC (-1) ((g__1.length:Nat):Int) a0 i2) H trivial ?_;clear H i2
       rintro _ _ w20 ⟨h9,rfl,rfl⟩ hx H
       replace hX:=hX.trans0 hx;clear hx
       refine hold hX ?_
       replace H:=H.sel [2,0,1,3,4,5,6,7,8,9,10,11,12,13,14] rfl
       refine qC H rfl ?_;clear H;intro w21 hu H
       replace hX:=hX.fresh hu v4;clear hu
       refine hold hX ?_
       replace H:=H.sel [2,0,1,3,4,5,6,7,8,9,10,11,12,13,14] rfl
       refine qC H rfl ?_;clear H;intro w22 hu H
       replace hX:=hX.fresh hu v6;clear hu
       refine hold hX ?_
       exact ⟨((y2,a0),(h6,h9,b6,b8)),⟨rfl,rfl,rfl,rfl,trivial⟩,Option.some.inj f4,H.sel [11,12,13,14,4,5,6,7,8,9,10,1,3,0,2] rfl⟩
      ·
       exact trivial
    ·
     refine pA ?_ ?_
     ·
      obtain ⟨a1,o1,f5⟩:=aA f2;clear f2
      refine dC gok rfl H ?_;clear H;intro b9 w23 hx v7 H;replace v7:=Nat.le_trans hX.size v7
      replace hX:=hX.trans0 hx;clear hx
      refine hold hX ?_
      refine pA ?_ ?_
      ·
       have e:=o1;clear o1
       have i3:=e;clear e
       refine eB (yC (-1) ((g__1.length:Nat):Int) a1 i3) H trivial ?_;clear H i3
       rintro _ _ w24 ⟨h10,rfl,rfl⟩ hx H
       replace hX:=hX.trans0 hx;clear hx
       refine hold hX ?_
       refine dC gok rfl H ?_;clear H;intro b11 w25 hx v8 H;replace v8:=Nat.le_trans hX.size v8
       replace hX:=hX.trans0 hx;clear hx
       refine hold hX ?_
       refine qC H rfl ?_;clear H;intro w26 hu H
       replace hX:=hX.fresh hu v8;clear hu
       refine hold hX ?_
       replace H:=H.sel [2,0,1,3,4,5,6,7,8,9,10,11,12,13,14] rfl
       refine qC H rfl ?_;clear H;intro w27 hu H
       replace hX:=hX.fresh hu v7;clear hu
       refine hold hX ?_
       exact ⟨((y2,a1),(h6,h10,b11,b9)),⟨rfl,rfl,rfl,rfl,trivial⟩,Option.some.inj f5,H.sel [11,12,13,14,4,5,6,7,8,9,10,1,3,0,2] rfl⟩
      ·
       refine pA ?_ ?_
       ·
        refine dC gok rfl H ?_;clear H;intro b12 w28 hx v9 H;replace v9:=Nat.le_trans hX.size v9
        replace hX:=hX.trans0 hx;clear hx
        refine hold hX ?_
        have e:=o1;clear o1
        have i3:=e;clear e
        refine eB (yC (-1) ((g__1.length:Nat):Int) a1 i3) H trivial ?_;clear H i3
        rintro _ _ w29 ⟨h11,rfl,rfl⟩ hx H
        replace hX:=hX.trans0 hx;clear hx
        refine hold hX ?_
        replace H:=H.sel [1,0,2,3,4,5,6,7,8,9,10,11,12,13,14] rfl
        refine qC H rfl ?_;clear H;intro w30 hu H
        replace hX:=hX.fresh hu v9;clear hu
        refine hold hX ?_
        replace H:=H.sel [2,0,1,3,4,5,6,7,8,9,10,11,12,13,14] rfl
        refine qC H rfl ?_;clear H;intro w31 hu H
        replace hX:=hX.fresh hu v7;clear hu
        refine hold hX ?_
        exact ⟨((y2,a1),(h6,h11,b12,b9)),⟨rfl,rfl,rfl,rfl,trivial⟩,Option.some.inj f5,H.sel [11,12,13,14,4,5,6,7,8,9,10,1,3,0,2] rfl⟩
       ·
        exact trivial
     ·
      exact trivial
  ·
   refine pA ?_ ?_
   ·
    obtain ⟨a2,o2,f6⟩:=aA f0;clear f0
    obtain ⟨a3,o3,f7⟩:=aA f6;clear f6
    refine dC gok rfl H ?_;clear H;intro b13 w32 hx v10 H;replace v10:=Nat.le_trans hX.size v10
    replace hX:=hX.trans0 hx;clear hx
    refine hold hX ?_
    refine pA ?_ ?_
    ·
     have e:=o2;clear o2
     have i4:=e;clear e
     refine eB (yC (-1) g__0 a2 i4) H trivial ?_;clear H i4
     rintro _ _ w33 ⟨h13,rfl,rfl⟩ hx H
     replace hX:=hX.trans0 hx;clear hx
     refine hold hX ?_
     refine pA ?_ ?_
     ·
      have e:=o3;clear o3
      have i5:=e;clear e
      refine eB (yC (-1) ((g__1.length:Nat):Int) a3 i5) H trivial ?_;clear H i5
      rintro _ _ w34 ⟨h15,rfl,rfl⟩ hx H
      replace hX:=hX.trans0 hx;clear hx
      refine hold hX ?_
      refine dC gok rfl H ?_;clear H;intro b14 w35 hx v11 H;replace v11:=Nat.le_trans hX.size v11
      replace hX:=hX.trans0 hx;clear hx
      refine hold hX ?_
      replace H:=H.sel [3,0,1,2,4,5,6,7,8,9,10,11,12,13,14] rfl
      refine qC H rfl ?_;clear H;intro w36 hu H
      replace hX:=hX.fresh hu v10;clear hu
      refine hold hX ?_
      replace H:=H.sel [1,0,2,3,4,5,6,7,8,9,10,11,12,13,14] rfl
      refine qC H rfl ?_;clear H;intro w37 hu H
      replace hX:=hX.fresh hu v11;clear hu
      refine hold hX ?_
      exact ⟨((a2,a3),(h13,h15,b13,b14)),⟨rfl,rfl,rfl,rfl,trivial⟩,Option.some.inj f7,H.sel [11,12,13,14,4,5,6,7,8,9,10,1,3,0,2] rfl⟩
     ·
      refine pA ?_ ?_
      ·
       refine dC gok rfl H ?_;clear H;intro b15 w38 hx v12 H;replace v12:=Nat.le_trans hX.size v12
       replace hX:=hX.trans0 hx;clear hx
       refine hold hX ?_
       have e:=o3;clear o3
       have i5:=e;clear e
       refine eB (yC (-1) ((g__1.length:Nat):Int) a3 i5) H trivial ?_;clear H i5
       rintro _ _ w39 ⟨h17,rfl,rfl⟩ hx H
       replace hX:=hX.trans0 hx;clear hx
       refine hold hX ?_
       replace H:=H.sel [3,0,1,2,4,5,6,7,8,9,10,11,12,13,14] rfl
       refine qC H rfl ?_;clear H;intro w40 hu H
       replace hX:=hX.fresh hu v10;clear hu
       refine hold hX ?_
       replace H:=H.sel [2,0,1,3,4,5,6,7,8,9,10,11,12,13,14] rfl
       refine qC H rfl ?_;clear H;intro w41 hu H
       replace hX:=hX.fresh hu v12;clear hu
       refine hold hX ?_
       exact ⟨((a2,a3),(h13,h17,b13,b15)),⟨rfl,rfl,rfl,rfl,trivial⟩,Option.some.inj f7,H.sel [11,12,13,14,4,5,6,7,8,9,10,1,3,0,2] rfl⟩
      ·
       exact trivial
    ·
     refine pA ?_ ?_
     ·
      refine dC gok rfl H ?_;clear H;intro b16 w42 hx v13 H;replace v13:=Nat.le_trans hX.size v13
      replace hX:=hX.trans0 hx;clear hx
      refine hold hX ?_
      have e:=o2;clear o2
      have i4:=e;clear e
      refine eB (yC (-1) g__0 a2 i4) H trivial ?_;clear H i4
      rintro _ _ w43 ⟨h19,rfl,rfl⟩ hx H
      replace hX:=hX.trans0 hx;clear hx
      refine hold hX ?_
      have e:=o3;clear o3
      have i5:=e;clear e
      refine eB (yC (-1) ((g__1.length:Nat):Int) a3 i5) H trivial ?_;clear H i5
      rintro _ _ w44 ⟨h21,rfl,rfl⟩ hx H
      replace hX:=hX.trans0 hx;clear hx
      refine hold hX ?_
      replace H:=H.sel [3,0,1,2,4,5,6,7,8,9,10,11,12,13,14] rfl
      refine qC H rfl ?_;clear H;intro w45 hu H
      replace hX:=hX.fresh hu v10;clear hu
      refine hold hX ?_
      replace H:=H.sel [3,0,1,2,4,5,6,7,8,9,10,11,12,13,14] rfl
      refine qC H rfl ?_;clear H;intro w46 hu H
      replace hX:=hX.fresh hu v13;clear hu
      refine hold hX ?_
      exact ⟨((a2,a3),(h19,h21,b13,b16)),⟨rfl,rfl,rfl,rfl,trivial⟩,Option.some.inj f7,H.sel [11,12,13,14,4,5,6,7,8,9,10,1,3,0,2] rfl⟩
     ·
      exact trivial
   ·
    refine pA ?_ ?_
    ·
     obtain ⟨a4,o4,f8⟩:=aA f0;clear f0
     obtain ⟨a5,o5,f9⟩:=aA f8;clear f8
     refine dC gok rfl H ?_;clear H;intro b17 w47 hx v14 H;replace v14:=Nat.le_trans hX.size v14
     replace hX:=hX.trans0 hx;clear hx
     refine hold hX ?_
     refine pA ?_ ?_
     ·
      have e:=o4;clear o4
      have i6:=e;clear e
      refine eB (yC (-1) g__0 a4 i6) H trivial ?_;clear H i6
      rintro _ _ w48 ⟨h23,rfl,rfl⟩ hx H
      replace hX:=hX.trans0 hx;clear hx
      refine hold hX ?_
      refine pA ?_ ?_
      ·
       have e:=o5;clear o5
       have i7:=e;clear e
       refine eB (yC (-1) ((g__1.length:Nat):Int) a5 i7) H trivial ?_;clear H i7
       rintro _ _ w49 ⟨h24,rfl,rfl⟩ hx H
       replace hX:=hX.trans0 hx;clear hx
       refine hold hX ?_
       refine dC gok rfl H ?_;clear H;intro b18 w50 hx v15 H;replace v15:=Nat.le_trans hX.size v15
       replace hX:=hX.trans0 hx;clear hx
       refine hold hX ?_
       refine qC H rfl ?_;clear H;intro w51 hu H
       replace hX:=hX.fresh hu v15;clear hu
       refine hold hX ?_
       replace H:=H.sel [3,0,1,2,4,5,6,7,8,9,10,11,12,13,14] rfl
       refine qC H rfl ?_;clear H;intro w52 hu H
       replace hX:=hX.fresh hu v14;clear hu
       refine hold hX ?_
       exact ⟨((a4,a5),(h23,h24,b18,b17)),⟨rfl,rfl,rfl,rfl,trivial⟩,Option.some.inj f9,H.sel [11,12,13,14,4,5,6,7,8,9,10,1,3,0,2] rfl⟩
      ·
       refine pA ?_ ?_
       ·
        refine dC gok rfl H ?_;clear H;intro b19 w53 hx v16 H;replace v16:=Nat.le_trans hX.size v16
        replace hX:=hX.trans0 hx;clear hx
        refine hold hX ?_
        have e:=o5;clear o5
        have i7:=e;clear e
        refine eB (yC (-1) ((g__1.length:Nat):Int) a5 i7) H trivial ?_;clear H i7
        rintro _ _ w54 ⟨h25,rfl,rfl⟩ hx H
        replace hX:=hX.trans0 hx;clear hx
        refine hold hX ?_
        replace H:=H.sel [1,0,2,3,4,5,6,7,8,9,10,11,12,13,14] rfl
        refine qC H rfl ?_;clear H;intro w55 hu H
        replace hX:=hX.fresh hu v16;clear hu
        refine hold hX ?_
        replace H:=H.sel [3,0,1,2,4,5,6,7,8,9,10,11,12,13,14] rfl
        refine qC H rfl ?_;clear H;intro w56 hu H
        replace hX:=hX.fresh hu v14;clear hu
        refine hold hX ?_
        exact ⟨((a4,a5),(h23,h25,b19,b17)),⟨rfl,rfl,rfl,rfl,trivial⟩,Option.some.inj f9,H.sel [11,12,13,14,4,5,6,7,8,9,10,1,3,0,2] rfl⟩
       ·
        exact trivial
     ·
      refine pA ?_ ?_
      ·
       refine dC gok rfl H ?_;clear H;intro b20 w57 hx v17 H;replace v17:=Nat.le_trans hX.size v17
       replace hX:=hX.trans0 hx;clear hx
       refine hold hX ?_
       have e:=o4;clear o4
       have i6:=e;clear e
       refine eB (yC (-1) g__0 a4 i6) H trivial ?_;clear H i6
       rintro _ _ w58 ⟨h26,rfl,rfl⟩ hx H
       replace hX:=hX.trans0 hx;clear hx
       refine hold hX ?_
       have e:=o5;clear o5
       have i7:=e;clear e
       refine eB (yC (-1) ((g__1.length:Nat):Int) a5 i7) H trivial ?_;clear H i7
       rintro _ _ w59 ⟨h27,rfl,rfl⟩ hx H
       replace hX:=hX.trans0 hx;clear hx
       refine hold hX ?_
       replace H:=H.sel [2,0,1,3,4,5,6,7,8,9,10,11,12,13,14] rfl
       refine qC H rfl ?_;clear H;intro w60 hu H
       replace hX:=hX.fresh hu v17;clear hu
       refine hold hX ?_
       replace H:=H.sel [3,0,1,2,4,5,6,7,8,9,10,11,12,13,14] rfl
       refine qC H rfl ?_;clear H;intro w61 hu H
       replace hX:=hX.fresh hu v14;clear hu
       refine hold hX ?_
       exact ⟨((a4,a5),(h26,h27,b20,b17)),⟨rfl,rfl,rfl,rfl,trivial⟩,Option.some.inj f9,H.sel [11,12,13,14,4,5,6,7,8,9,10,1,3,0,2] rfl⟩
      ·
       exact trivial
    ·
     exact trivial
 ·
  clear f0 H
  rintro T0 ⟨⟨s0_0,s0_1⟩,⟨g0_0,g0_1,g0_2,g0_3⟩⟩ w62 ⟨hr,(H:Cx w0 fp0 S0 w62 [Bx b5 [(.int .i64 g__0),(g__1h).v,(g__2h).v,(g__3h).v],Es (List (Int×Int×List Int×List Int)) g__1 g__1h,Es (List Int) g__2 g__2h,Es (List Int) g__3 g__3h,Bx b0 [(.int .i64 y7_0_0),(g__1h).v,(g__2h).v,(g__3h).v,(h0).v,(h1).v,(h2).v,(h3).v,(h4).v,(h5).v],E (List Int) y7_1_0 h0,E (List Int) y7_1_1 h1,E MI y7_2 h2,E MI y7_3 h3,E (List Int) y7_4 h4,E (List Int) y7_5 h5,Bx g0_2 [(g0_0).v],E (List Int) s0_0 g0_0,Bx g0_3 [(g0_1).v],E (List Int) s0_1 g0_1])⟩
  subst hr
  refine sB gok rfl H ?_;clear H;intro b21 w63 hx H
  clear hx
  refine sB gok rfl H ?_;clear H;intro b22 w64 hx H
  clear hx
  replace H:=H.sel [1,0,2,3,4,5,6,7,8,9,10,11,12,13,14,15,16] rfl
  refine mH H rfl ?_;clear H;intro w65 H
  replace H:=H.sel [1,0,2,3,4,5,6,7,8,9,10,11,12,13,14,15,16] rfl
  refine mH H rfl ?_;clear H;intro w66 H
  obtain ⟨y4,e,f10⟩:=aA f1;clear f1
  obtain ⟨y4_0,y4_1,y4_2,y4_3⟩:=y4
  have i8:=e;clear e
  replace H:=H.sel [6,1,13,14,0,15,16,2,3,4,5,7,8,9,10,11,12] rfl
  refine iA (A4_ b0 y7_0_0 g__1 g__1h g__2 g__2h g__3 g__3h y7_1_0 h0 y7_1_1 h1 y7_2 h2 y7_3 h3 y7_4 h4 y7_5 h5 b21 0 g0_2 s0_0 g0_0 b22 0 g0_3 s0_1 g0_1 y4_0 y4_1 y4_2 y4_3 i8) (Γi:=[Bx b0 [(.int .i64 y7_0_0),(g__1h).v,(g__2h).v,(g__3h).v,(h0).v,(h1).v,(h2).v,(h3).v,(h4).v,(h5).v],Bx b21 [(.int .i64 0)],Bx g0_2 [(g0_0).v],E (List Int) s0_0 g0_0,Bx b22 [(.int .i64 0)],Bx g0_3 [(g0_1).v],E (List Int) s0_1 g0_1]) H ⟨Vw.sh 1 rfl,Vw.sh 2 rfl,Vw.sh 3 rfl,Vw.own 4 rfl,Vw.own 5 rfl,Vw.own 6 rfl,Vw.own 7 rfl,Vw.own 8 rfl,Vw.own 9 rfl,trivial⟩ ?_;clear H i8
  rintro _ _ w67 ⟨rfl,rfl⟩ H
  refine sq ?_
  refine vA [(.int .i64 g__0),(g__1h).v,(g__2h).v,(g__3h).v] rfl (fun j u hj=>H.bx 7 rfl hj) ?_
  obtain ⟨y5,e,f11⟩:=aA f10;clear f10
  have i9:=e;clear e
  refine iA (A8_ g__0 g__1 g__1h g__2 g__2h g__3 g__3h b0 y7_0_0 g__1 g__1h g__2 g__2h g__3 g__3h y7_1_0 h0 y7_1_1 h1 y7_2 h2 y7_3 h3 y7_4 h4 y7_5 h5 y5 i9) (Γi:=[Bx b0 [(.int .i64 y7_0_0),(g__1h).v,(g__2h).v,(g__3h).v,(h0).v,(h1).v,(h2).v,(h3).v,(h4).v,(h5).v]]) H ⟨Vw.sh 7 rfl,Vw.sh 8 rfl,Vw.sh 9 rfl,Vw.sh 7 rfl,Vw.sh 8 rfl,Vw.sh 9 rfl,Vw.own 10 rfl,Vw.own 11 rfl,Vw.own 12 rfl,Vw.own 13 rfl,Vw.own 14 rfl,Vw.own 15 rfl,trivial⟩ ?_;clear H i9
  rintro _ _ w68 ⟨h28,rfl,rfl⟩ H
  refine kA (H.ro (α:=List Int) 1 rfl).len ?_
  have x0:=(H.ro (α:=List Int) 1 rfl).max
  obtain ⟨r1,e,f12⟩:=aA f11;clear f11
  refine fB _ y5.length (fun (k0:Nat) (_:Unit) (_:Unit)=>[(5,(.pointer (some ⟨g0_2,0,none⟩))),(6,(.pointer (some ⟨g0_3,0,none⟩))),(9,(.func (.func 103) #[] #[(.pointer (some ⟨b21,0,none⟩)),(.pointer (some ⟨g0_2,0,none⟩)),(.pointer (some ⟨b22,0,none⟩)),(.pointer (some ⟨g0_3,0,none⟩))])),(27,(h28).v),(28,(.int .i64 ((y5.length:Nat):Int))),(29,(.int .i64 ((k0:Nat):Int)))]) (fun _ (_:Unit) (_:Unit) w'=>Cx w0 fp0 S0 w' [Bx g0_2 [(g0_0).v],E (List Int) y4_1 g0_0,Bx g0_3 [(g0_1).v],E (List Int) y4_3 g0_1,Bx b21 [(.int .i64 y4_0)],Bx b22 [(.int .i64 y4_2)],E (List Int) y5 h28]) () () e ⟨rfl,rfl,rfl,rfl,rfl,rfl,trivial⟩ (H.sel [3,4,6,7,2,5,1] rfl) ?_ ?_
  ·
   clear H e
   rintro T1 k0 _ _ w69 o6 hk (H:Cx w0 fp0 S0 w69 [Bx g0_2 [(g0_0).v],E (List Int) y4_1 g0_0,Bx g0_3 [(g0_1).v],E (List Int) y4_3 g0_1,Bx b21 [(.int .i64 y4_0)],Bx b22 [(.int .i64 y4_2)],E (List Int) y5 h28]) f13
   refine jA (z:=true) (cB hk) ?_
   refine sq ?_
   refine sq ?_
   cases f13
  ·
   clear H e
   rintro T2 _ w70 (H:Cx w0 fp0 S0 w70 [Bx g0_2 [(g0_0).v],E (List Int) y4_1 g0_0,Bx g0_3 [(g0_1).v],E (List Int) y4_3 g0_1,Bx b21 [(.int .i64 y4_0)],Bx b22 [(.int .i64 y4_2)],E (List Int) y5 h28])
   refine jA (z:=false) dB ?_
   refine sq ?_
   refine aC H [] (.fst 0 (.fst 2 (.fst 1 (.fst 3 .done)))) vB [] trivial (by kernel_rfl) ?_
   clear H;intro w71 H
   have hX:Ext w71 w71:=Upd.refl _ _
   have H0:=H
   refine uA (H.bx0 0 rfl) ?_
   refine uA (H.bx0 2 rfl) ?_
   cases f12
   exact ⟨_,_,rfl,⟨g0_0,g0_1,rfl,rfl⟩,(H.sel [1,3] rfl).close ⟨cloE,cloE,trivial⟩⟩
theorem Cw_ (v_:List Int) (v_h:Hd) (at_:List Int) (at_h:Hd) (y:List Int) (hF:bW v_ at_=some y) :
  nA Tryz.prog 135 #[(v_h).v,(at_h).v] [Es (List Int) v_ v_h,Es (List Int) at_ at_h] [] (fun v Γ'=>∃ z0:Hd,v=(z0).v∧Γ'=[E (List Int) y z0]):=by
 intro w0 S0 fp0 hI hS
 have H:Cx w0 fp0 S0 w0 [Es (List Int) v_ v_h,Es (List Int) at_ at_h]:=Cx.start hI hS
 clear hI hS
 refine lA (args:=[_,_]) gok Tryz.func135 rfl _ rfl rfl rfl ?_
 refine kA (H.rs (α:=List Int) 1 rfl).len ?_
 obtain ⟨a3,e,hF4⟩:=aA hF;clear hF
 refine qD (α:=Int) gok rfl rfl rfl rfl e H ?_;clear e H;intro h6 w5 hx H
 clear hx
 refine sq ?_
 refine kA (H.rs (α:=List Int) 2 rfl).len ?_
 have x0:=(H.rs (α:=List Int) 2 rfl).max
 obtain ⟨r0,e,f0⟩:=aA hF4;clear hF4
 refine fB _ at_.length (fun (k8:Nat) (s0:List Int) (g0:Hd)=>[(0,(v_h).v),(5,(g0).v),(11,(at_h).v),(12,(.int .i64 ((at_.length:Nat):Int))),(13,(.int .i64 ((k8:Nat):Int)))]) (fun _ (s0:List Int) (g0:Hd) w'=>Cx w0 fp0 S0 w' [Es (List Int) v_ v_h,E (List Int) s0 g0,Es (List Int) at_ at_h]) a3 h6 e ⟨rfl,rfl,rfl,rfl,rfl,trivial⟩ (H.sel [1,0,2] rfl) ?_ ?_
 ·
  clear H e
  rintro T0 k8 s0 g0 w1 o0 hk (H:Cx w0 fp0 S0 w1 [Es (List Int) v_ v_h,E (List Int) s0 g0,Es (List Int) at_ at_h]) f1
  refine jA (z:=true) (cB hk) ?_
  refine sq ?_
  refine sq ?_
  obtain ⟨a0,e,f2⟩:=aA f1;clear f1
  obtain ⟨p0,m0,c0,c1,c2,c3⟩:=(H.rs (α:=List Int) 2 rfl).at1 e;clear e
  refine dA c0 c1 c2 ?_;clear c0 c1 c2
  refine cA c3 ?_;clear c3
  obtain ⟨a1,e,f3⟩:=aA f2;clear f2
  obtain ⟨p1,m1,c4,c5,c6,c7⟩:=(H.rs (α:=List Int) 0 rfl).at1 e;clear e
  refine dA c4 c5 c6 ?_;clear c4 c5 c6
  refine cA c7 ?_;clear c7
  refine bB (α:=Int) gok rfl rfl rfl rfl H ?_;clear H;intro h0 w2 hx H
  clear hx
  obtain ⟨a2,e,f4⟩:=aA f3;clear f3
  replace H:=H.sel [2,0,1,3] rfl
  refine append_ (α:=Int) gok rfl rfl rfl rfl H e ?_;clear e H;intro h1 w3 H
  refine arK hk x0 ?_
  have hs:=Option.some.inj f4;subst hs;clear f4
  exact ⟨h1,⟨rfl,rfl,rfl,rfl,rfl,trivial⟩,H.sel [1,0,2] rfl⟩
 ·
  clear H e
  rintro T1 g1 w4 (H:Cx w0 fp0 S0 w4 [Es (List Int) v_ v_h,E (List Int) r0 g1,Es (List Int) at_ at_h])
  refine jA (z:=false) dB ?_
  refine sq ?_
  cases f0
  exact ⟨_,_,rfl,⟨g1,rfl,rfl⟩,(H.sel [1] rfl).close ⟨cloE,trivial⟩⟩
theorem vI (list_:List Int) (list_h:Hd) (to_:List Int) (to_h:Hd) (y:List Int) (hF:sJ list_ to_=some y) :
  nA Tryz.prog 119 #[(list_h).v,(to_h).v] [Es (List Int) list_ list_h,Es (List Int) to_ to_h] [] (fun v Γ'=>∃ z0:Hd,v=(z0).v∧Γ'=[E (List Int) y z0]):=by
 intro w0 S0 fp0 hI hS
 have H:Cx w0 fp0 S0 w0 [Es (List Int) list_ list_h,Es (List Int) to_ to_h]:=Cx.start hI hS
 clear hI hS
 refine lA (args:=[_,_]) gok Tryz.func119 rfl _ rfl rfl rfl ?_
 obtain ⟨y3,e,hF4⟩:=aA hF;clear hF
 have ey3:=e;clear e
 refine iA (Cw_ to_ to_h list_ list_h y3 ey3) (Γi:=[]) H ⟨Vw.sh 1 rfl,Vw.sh 0 rfl,trivial⟩ ?_;clear H ey3
 rintro _ _ w5 ⟨h6,rfl,rfl⟩ H
 cases hF4
 exact ⟨_,_,rfl,⟨h6,rfl,rfl⟩,(H.sel [0] rfl).close ⟨cloE,trivial⟩⟩
theorem BB_ (g__0:Int) (g__1:List (Int×Int×List Int×List Int)) (g__1h:Hd) (g__2:List Int) (g__2h:Hd) (g__3:List Int) (g__3h:Hd) (count_:Int) (to_:List Int) (to_h:Hd) (y_0:Int) (y_1:List (Int×Int×List Int×List Int)) (y_2:List Int) (y_3:List Int) (hF:aR (g__0,g__1,g__2,g__3) count_ to_=some (y_0,y_1,y_2,y_3)) :
  nA Tryz.prog 100 #[(.agg #[(.int .i64 g__0),(g__1h).v,(g__2h).v,(g__3h).v]),(.int .i64 count_),(to_h).v] [Es (List (Int×Int×List Int×List Int)) g__1 g__1h,Es (List Int) g__2 g__2h,Es (List Int) g__3 g__3h,Es (List Int) to_ to_h] [] (fun v Γ'=>∃ z0 z1 z2:Hd,v=(.agg #[(.int .i64 y_0),(z0).v,(z1).v,(z2).v])∧Γ'=[E (List (Int×Int×List Int×List Int)) y_1 z0,E (List Int) y_2 z1,E (List Int) y_3 z2]):=by
 intro w0 S0 fp0 hI hS
 have H:Cx w0 fp0 S0 w0 [Es (List (Int×Int×List Int×List Int)) g__1 g__1h,Es (List Int) g__2 g__2h,Es (List Int) g__3 g__3h,Es (List Int) to_ to_h]:=Cx.start hI hS
 clear hI hS
 refine lA (args:=[_,_,_]) gok Tryz.func100 rfl _ rfl rfl rfl ?_
 refine jB H ?_;clear H;intro b6 w5 hx H
 clear hx
 refine sB gok rfl H ?_;clear H;intro b9 w8 hx H
 clear hx
 obtain ⟨r0,f0,f1⟩:=aA hF;clear hF
 refine lH H [] (.fst 0 (.fst 1 (.fst 3 (.fst 5 (.fst 7 (.fst 2 (.fst 6 (.alts (.alt 4 (.alts (.alt 8 (.fst 9 (.act 10 (.act 11 .done))) (.alt 10 (.act 8 (.fst 9 (.act 11 .done))) .no))) (.alt 10 (.act 4 (.act 8 (.fst 9 (.act 11 .done)))) .no)))))))))) vB [] trivial (by kernel_rfl) (fun (q0:(Int×List Int×List Int)×(Hd×Hd×Nat))=>[(2,(to_h).v),(3,(.pointer (some ⟨b6,0,none⟩))),(6,(.pointer (some ⟨b9,0,none⟩))),(7,(.pointer (some ⟨q0.2.2.2,0,none⟩)))]) (fun (q0:(Int×List Int×List Int)×(Hd×Hd×Nat)) w'=>(q0.1.1,q0.1.2.1,q0.1.2.2)=r0∧Cx w0 fp0 S0 w' [Es (List Int) to_ to_h,Bx b6 [(.int .i64 g__0),(g__1h).v,(g__2h).v,(g__3h).v],Es (List (Int×Int×List Int×List Int)) g__1 g__1h,Es (List Int) g__2 g__2h,Es (List Int) g__3 g__3h,Bx b9 [(.int .i64 0),(.slice none 0 0),(.slice none 0 0),(.slice none 0 0)],Bx q0.2.2.2 [(.int .i64 q0.1.1),(.slice none 0 0),(q0.2.1).v,(q0.2.2.1).v],E (List Int) q0.1.2.1 q0.2.1,E (List Int) q0.1.2.2 q0.2.2.1]) ?_ ?_
 ·
  clear H;intro w1 H
  have hX:Ext w1 w1:=Upd.refl _ _
  have H0:=H
  refine xA (fun _=>fld gok rfl rfl rfl rfl ⟨rfl,rfl⟩) ?_
  refine xA (fun _=>fld gok rfl rfl rfl rfl ⟨rfl,rfl⟩) ?_
  refine uA (H.bx 1 rfl (j:=2) rfl) ?_
  refine uA (H.bx 1 rfl (j:=3) rfl) ?_
  refine pA ?_ ?_
  ·
   obtain ⟨y0,e,f2⟩:=aA f0;clear f0
   have i0:=e;clear e
   refine eB (vI g__2 g__2h to_ to_h y0 i0) H ⟨Vw.sh 3 rfl,Vw.sh 5 rfl,trivial⟩ ?_;clear H i0
   rintro _ _ w2 ⟨h0,rfl,rfl⟩ hx H
   replace hX:=hX.trans0 hx;clear hx
   refine hold hX ?_
   refine pA ?_ ?_
   ·
    obtain ⟨y1,e,f3⟩:=aA f2;clear f2
    have i1:=e;clear e
    refine eB (vI g__3 g__3h to_ to_h y1 i1) H ⟨Vw.sh 5 rfl,Vw.sh 6 rfl,trivial⟩ ?_;clear H i1
    rintro _ _ w3 ⟨h1,rfl,rfl⟩ hx H
    replace hX:=hX.trans0 hx;clear hx
    refine hold hX ?_
    refine xA (fun _=>tB (cs:=#[(.int .i64 count_),(.slice none 0 0),(h0).v,(h1).v]) gok rfl rfl rfl ⟨rfl,rfl⟩) ?_
    refine dC gok rfl H ?_;clear H;intro b0 w4 hx v0 H;replace v0:=Nat.le_trans hX.size v0
    replace hX:=hX.trans0 hx;clear hx
    refine hold hX ?_
    refine cG gok [(.int .i64 count_),(.slice none 0 0),(h0).v,(h1).v] rfl H rfl rfl rfl ?_;clear H;intro w6 hu H
    replace hX:=hX.fresh hu v0;clear hu
    refine hold hX ?_
    exact ⟨((count_,y0,y1),(h0,h1,b0)),⟨rfl,rfl,rfl,rfl,trivial⟩,Option.some.inj f3,H.sel [8,4,5,6,7,3,0,2,1] rfl⟩
   ·
    refine pA ?_ ?_
    ·
     obtain ⟨a0,o0,f4⟩:=aA f2;clear f2
     refine dC gok rfl H ?_;clear H;intro b1 w7 hx v1 H;replace v1:=Nat.le_trans hX.size v1
     replace hX:=hX.trans0 hx;clear hx
     refine hold hX ?_
     have e:=o0;clear o0
     have i2:=e;clear e
     refine eB (vI g__3 g__3h to_ to_h a0 i2) H ⟨Vw.sh 6 rfl,Vw.sh 7 rfl,trivial⟩ ?_;clear H i2
     rintro _ _ w9 ⟨h2,rfl,rfl⟩ hx H
     replace hX:=hX.trans0 hx;clear hx
     refine hold hX ?_
     refine xA (fun _=>tB (cs:=#[(.int .i64 count_),(.slice none 0 0),(h0).v,(h2).v]) gok rfl rfl rfl ⟨rfl,rfl⟩) ?_
     replace H:=H.sel [1,0,2,3,4,5,6,7,8] rfl
     refine cG gok [(.int .i64 count_),(.slice none 0 0),(h0).v,(h2).v] rfl H rfl rfl rfl ?_;clear H;intro w10 hu H
     replace hX:=hX.fresh hu v1;clear hu
     refine hold hX ?_
     exact ⟨((count_,y0,a0),(h0,h2,b1)),⟨rfl,rfl,rfl,rfl,trivial⟩,Option.some.inj f4,H.sel [8,4,5,6,7,3,0,2,1] rfl⟩
    ·
     exact trivial
  ·
   refine pA ?_ ?_
   ·
    obtain ⟨a1,o1,f5⟩:=aA f0;clear f0
    obtain ⟨a2,o2,f6⟩:=aA f5;clear f5
    refine dC gok rfl H ?_;clear H;intro b2 w11 hx v2 H;replace v2:=Nat.le_trans hX.size v2
    replace hX:=hX.trans0 hx;clear hx
    refine hold hX ?_
    have e:=o1;clear o1
    have i3:=e;clear e
    refine eB (vI g__2 g__2h to_ to_h a1 i3) H ⟨Vw.sh 4 rfl,Vw.sh 6 rfl,trivial⟩ ?_;clear H i3
    rintro _ _ w12 ⟨h3,rfl,rfl⟩ hx H
    replace hX:=hX.trans0 hx;clear hx
    refine hold hX ?_
    have e:=o2;clear o2
    have i4:=e;clear e
    refine eB (vI g__3 g__3h to_ to_h a2 i4) H ⟨Vw.sh 6 rfl,Vw.sh 7 rfl,trivial⟩ ?_;clear H i4
    rintro _ _ w13 ⟨h4,rfl,rfl⟩ hx H
    replace hX:=hX.trans0 hx;clear hx
    refine hold hX ?_
    refine xA (fun _=>tB (cs:=#[(.int .i64 count_),(.slice none 0 0),(h3).v,(h4).v]) gok rfl rfl rfl ⟨rfl,rfl⟩) ?_
    replace H:=H.sel [2,0,1,3,4,5,6,7,8] rfl
    refine cG gok [(.int .i64 count_),(.slice none 0 0),(h3).v,(h4).v] rfl H rfl rfl rfl ?_;clear H;intro w14 hu H
    replace hX:=hX.fresh hu v2;clear hu
    refine hold hX ?_
    exact ⟨((count_,a1,a2),(h3,h4,b2)),⟨rfl,rfl,rfl,rfl,trivial⟩,Option.some.inj f6,H.sel [8,4,5,6,7,3,0,2,1] rfl⟩
   ·
    exact trivial
 ·
  clear f0 H
  rintro T0 ⟨⟨s0_0,s0_1,s0_2⟩,⟨g0_0,g0_1,g0_2⟩⟩ w15 ⟨hr,(H:Cx w0 fp0 S0 w15 [Es (List Int) to_ to_h,Bx b6 [(.int .i64 g__0),(g__1h).v,(g__2h).v,(g__3h).v],Es (List (Int×Int×List Int×List Int)) g__1 g__1h,Es (List Int) g__2 g__2h,Es (List Int) g__3 g__3h,Bx b9 [(.int .i64 0),(.slice none 0 0),(.slice none 0 0),(.slice none 0 0)],Bx g0_2 [(.int .i64 s0_0),(.slice none 0 0),(g0_0).v,(g0_1).v],E (List Int) s0_1 g0_0,E (List Int) s0_2 g0_1])⟩
  subst hr
  refine sq ?_
  refine fld gok rfl rfl rfl rfl ?_
  refine cA (H.bx 1 rfl (j:=1) rfl) ?_
  refine kA (H.rs (α:=List (Int×Int×List Int×List Int)) 2 rfl).len ?_
  have x0:=(H.rs (α:=List (Int×Int×List Int×List Int)) 2 rfl).max
  obtain ⟨r1,e,f7⟩:=aA f1;clear f1
  replace H:=H.nil (α:=Int×Int×List Int×List Int)
  refine fB _ g__1.length (fun (k0:Nat) (s1:List (Int×Int×List Int×List Int)) (g1:Hd)=>[(2,(to_h).v),(6,(.pointer (some ⟨b9,0,none⟩))),(7,(.pointer (some ⟨g0_2,0,none⟩))),(21,(g__1h).v),(22,(.int .i64 ((g__1.length:Nat):Int))),(23,(.int .i64 ((k0:Nat):Int)))]) (fun _ (s1:List (Int×Int×List Int×List Int)) (g1:Hd) w'=>Cx w0 fp0 S0 w' [Es (List Int) to_ to_h,Bx b9 [(.int .i64 0),(.slice none 0 0),(.slice none 0 0),(.slice none 0 0)],Bx g0_2 [(.int .i64 s0_0),(g1).v,(g0_0).v,(g0_1).v],E (List (Int×Int×List Int×List Int)) s1 g1,E (List Int) s0_1 g0_0,E (List Int) s0_2 g0_1,Es (List (Int×Int×List Int×List Int)) g__1 g__1h]) [] nilH e ⟨rfl,rfl,rfl,rfl,rfl,rfl,trivial⟩ (H.sel [1,6,7,0,8,9,3] rfl) ?_ ?_
  ·
   clear H e
   rintro T1 k0 s1 g1 w16 o3 hk (H:Cx w0 fp0 S0 w16 [Es (List Int) to_ to_h,Bx b9 [(.int .i64 0),(.slice none 0 0),(.slice none 0 0),(.slice none 0 0)],Bx g0_2 [(.int .i64 s0_0),(g1).v,(g0_0).v,(g0_1).v],E (List (Int×Int×List Int×List Int)) s1 g1,E (List Int) s0_1 g0_0,E (List Int) s0_2 g0_1,Es (List (Int×Int×List Int×List Int)) g__1 g__1h]) f8
   refine jA (z:=true) (cB hk) ?_
   refine sq ?_
   refine sq ?_
   obtain ⟨a3,e,f9⟩:=aA f8;clear f8
   have HH:=H;clear H;obtain ⟨p0,m0,g2,c0,c1,c2,c3,H⟩:=HH.el (α:=Int×Int×List Int×List Int) 6 rfl e;clear HH
   clear e
   obtain ⟨a3_0,a3_1,a3_2,a3_3⟩:=a3
   obtain ⟨_,_,h5,h6⟩:=g2
   replace H:=H.part (β:=List Int) a3_2 (h5:Hd) 0 rfl (fun S h=>(And.left (And.right (And.right h))))
   replace H:=H.part (β:=List Int) a3_3 (h6:Hd) 1 rfl (fun S h=>(And.right (And.right (And.right h))))
   replace H:=H.sel [0,1,3,4,5,6,7,8,9] rfl
   refine dA c0 c1 c2 ?_;clear c0 c1 c2
   refine vA [(.int .i64 a3_0),(.int .i64 a3_1),(h5).v,(h6).v] rfl c3 ?_;clear c3
   refine sB gok rfl H ?_;clear H;intro b3 w17 hx H
   clear hx
   refine stA gok [(.int .i64 a3_0),(.int .i64 a3_1),(h5).v,(h6).v] rfl H rfl rfl rfl ?_;clear H;intro w18 H
   refine aC H [16,18,17] (.fst 0 (.fst 2 (.fst 4 (.fst 6 (.fst 8 (.fst 10 (.fst 12 (.fst 1 (.fst 3 (.fst 5 (.fst 7 (.fst 11 (.act 9 (.act 13 (.fst 14 (.act 15 (.act 16 (.act 17 (.act 18 .done))))))))))))))))))) vB [] trivial (by kernel_rfl) ?_
   clear H;intro w19 H
   have hX:Ext w19 w19:=Upd.refl _ _
   have H0:=H
   refine xA (fun _=>fld gok rfl rfl rfl rfl ⟨rfl,rfl⟩) ?_
   refine xA (fun _=>fld gok rfl rfl rfl rfl ⟨rfl,rfl⟩) ?_
   refine xA (fun _=>fld gok rfl rfl rfl rfl ⟨rfl,rfl⟩) ?_
   refine xA (fun _=>fld gok rfl rfl rfl rfl ⟨rfl,rfl⟩) ?_
   refine xA (fun _=>fld gok rfl rfl rfl rfl ⟨rfl,rfl⟩) ?_
   refine uA (H.bx 5 rfl (j:=1) rfl) ?_
   refine uA (H.bx 0 rfl (j:=0) rfl) ?_
   refine uA (H.bx 0 rfl (j:=1) rfl) ?_
   refine uA (H.bx 0 rfl (j:=2) rfl) ?_
   refine uA (H.bx 0 rfl (j:=3) rfl) ?_
   obtain ⟨y2,e,f10⟩:=aA f9;clear f9
   have i5:=e;clear e
   refine eB (vI a3_2 h5 to_ to_h y2 i5) H ⟨Vw.sh 2 rfl,Vw.sh 3 rfl,trivial⟩ ?_;clear H i5
   rintro _ _ w20 ⟨h7,rfl,rfl⟩ hx H
   replace hX:=hX.trans0 hx;clear hx
   refine hold hX ?_
   obtain ⟨y3,e,f11⟩:=aA f10;clear f10
   have i6:=e;clear e
   refine eB (vI a3_3 h6 to_ to_h y3 i6) H ⟨Vw.sh 2 rfl,Vw.sh 4 rfl,trivial⟩ ?_;clear H i6
   rintro _ _ w21 ⟨h8,rfl,rfl⟩ hx H
   replace hX:=hX.trans0 hx;clear hx
   refine hold hX ?_
   refine xA (fun _=>tB (cs:=#[(.int .i64 a3_0),(.int .i64 a3_1),(h7).v,(h8).v]) gok rfl rfl rfl ⟨rfl,rfl⟩) ?_
   replace H:=H.sel [1,0,2,3,4,5,6,7,8,9,10,11] rfl
   replace H:=H.join (α:=List Int) (β:=List Int)
   replace H:=H.sc (α:=Int) a3_1
   replace H:=H.join (α:=Int) (β:=List Int×List Int)
   replace H:=H.sc (α:=Int) a3_0
   replace H:=H.join (α:=Int) (β:=Int×List Int×List Int)
   refine gF (α:=Int×Int×List Int×List Int) (g:=((),(),h7,h8)) gok rfl rfl rfl rfl rfl H ?_;clear H;intro h9 w22 hx H
   replace hX:=hX.trans0 hx;clear hx
   refine hold hX ?_
   obtain ⟨a4,e,f12⟩:=aA f11;clear f11
   replace H:=H.sel [7,0,1,2,3,4,5,6,8,9,10] rfl
   refine append_ (α:=Int×Int×List Int×List Int) gok rfl rfl rfl rfl H e ?_;clear e H;intro h10 w23 H
   refine hold trivial ?_
   refine fld gok rfl rfl rfl rfl ?_
   refine hold trivial ?_
   replace H:=H.sel [6,0,1,2,3,4,5,7,8,9] rfl
   refine stB (j:=1) H rfl rfl ?_;clear H;intro w24 H
   refine hold trivial ?_
   refine arK hk x0 ?_
   have hs:=Option.some.inj f12;subst hs;clear f12
   exact ⟨h10,⟨rfl,rfl,rfl,rfl,rfl,rfl,trivial⟩,H.sel [5,6,0,1,7,8,9] rfl⟩
  ·
   clear H e
   rintro T2 g3 w25 (H:Cx w0 fp0 S0 w25 [Es (List Int) to_ to_h,Bx b9 [(.int .i64 0),(.slice none 0 0),(.slice none 0 0),(.slice none 0 0)],Bx g0_2 [(.int .i64 s0_0),(g3).v,(g0_0).v,(g0_1).v],E (List (Int×Int×List Int×List Int)) r1 g3,E (List Int) s0_1 g0_0,E (List Int) s0_2 g0_1,Es (List (Int×Int×List Int×List Int)) g__1 g__1h])
   refine jA (z:=false) dB ?_
   refine sq ?_
   refine vA [(.int .i64 s0_0),(g3).v,(g0_0).v,(g0_1).v] rfl (fun j u hj=>H.bx 2 rfl hj) ?_
   replace H:=H.sel [1,0,2,3,4,5,6] rfl
   refine stA gok [(.int .i64 s0_0),(g3).v,(g0_0).v,(g0_1).v] rfl H rfl rfl rfl ?_;clear H;intro w26 H
   refine vA [(.int .i64 s0_0),(g3).v,(g0_0).v,(g0_1).v] rfl (fun j u hj=>H.bx 0 rfl hj) ?_
   cases f7
   exact ⟨_,_,rfl,⟨g3,g0_0,g0_1,rfl,rfl⟩,(H.sel [3,4,5] rfl).close ⟨cloE,cloE,cloE,trivial⟩⟩
theorem Ba_ (g__0:Int) (g__1:List (Int×Int×List Int×List Int)) (g__1h:Hd) (g__2:List Int) (g__2h:Hd) (g__3:List Int) (g__3h:Hd) (wires_:List Int) (wires_h:Hd) (edges_:List Int) (edges_h:Hd) (y_0:Int) (y_1:List (Int×Int×List Int×List Int)) (y_2:List Int) (y_3:List Int) (hF:jQ (g__0,g__1,g__2,g__3) wires_ edges_=some (y_0,y_1,y_2,y_3)) :
  nA Tryz.prog 81 #[(.agg #[(.int .i64 g__0),(g__1h).v,(g__2h).v,(g__3h).v]),(wires_h).v,(edges_h).v] [Es (List (Int×Int×List Int×List Int)) g__1 g__1h,Es (List Int) g__2 g__2h,Es (List Int) g__3 g__3h,Es (List Int) wires_ wires_h,Es (List Int) edges_ edges_h] [] (fun v Γ'=>∃ z0 z1 z2:Hd,v=(.agg #[(.int .i64 y_0),(z0).v,(z1).v,(z2).v])∧Γ'=[E (List (Int×Int×List Int×List Int)) y_1 z0,E (List Int) y_2 z1,E (List Int) y_3 z2]):=by
 intro w0 S0 fp0 hI hS
 have H:Cx w0 fp0 S0 w0 [Es (List (Int×Int×List Int×List Int)) g__1 g__1h,Es (List Int) g__2 g__2h,Es (List Int) g__3 g__3h,Es (List Int) wires_ wires_h,Es (List Int) edges_ edges_h]:=Cx.start hI hS
 clear hI hS
 refine lA (args:=[_,_,_]) gok Tryz.func81 rfl _ rfl rfl rfl ?_
 refine jB H ?_;clear H;intro b7 w6 hx H
 clear hx
 refine sB gok rfl H ?_;clear H;intro b0 w9 hx H
 clear hx
 refine vA [(.int .i64 g__0),(g__1h).v,(g__2h).v,(g__3h).v] rfl (fun j u hj=>H.bx 1 rfl hj) ?_
 refine fld gok rfl rfl rfl rfl ?_
 refine cA (H.bx 1 rfl (j:=0) rfl) ?_
 obtain ⟨y0,e,f0⟩:=aA hF;clear hF
 obtain ⟨y0_0,y0_1,y0_2,y0_3⟩:=y0
 have i0:=e;clear e
 refine iA (BB_ g__0 g__1 g__1h g__2 g__2h g__3 g__3h g__0 wires_ wires_h y0_0 y0_1 y0_2 y0_3 i0) (Γi:=[]) H ⟨Vw.sh 2 rfl,Vw.sh 3 rfl,Vw.sh 4 rfl,Vw.sh 5 rfl,trivial⟩ ?_;clear H i0
 rintro _ _ w1 ⟨h0,h1,h2,rfl,rfl⟩ H
 refine sB gok rfl H ?_;clear H;intro b1 w2 hx H
 clear hx
 refine stA gok [(.int .i64 y0_0),(h0).v,(h1).v,(h2).v] rfl H rfl rfl rfl ?_;clear H;intro w3 H
 obtain ⟨r0,f1,f2⟩:=aA f0;clear f0
 refine lH H [] (.fst 0 (.fst 2 (.fst 4 (.fst 6 (.fst 1 (.fst 3 (.fst 5 (.fst 7 (.fst 8 (.alts (.alt 9 (.fst 10 (.act 11 (.act 12 .done))) (.alt 11 (.act 9 (.fst 10 (.act 12 .done))) .no)))))))))))) vB [] trivial (by kernel_rfl) (fun (q0:(Int×(List (Int×Int×List Int×List Int)))×(Hd×Nat))=>[(2,(edges_h).v),(6,(.pointer (some ⟨b0,0,none⟩))),(7,(.pointer (some ⟨b1,0,none⟩))),(8,(.pointer (some ⟨q0.2.2,0,none⟩)))]) (fun (q0:(Int×(List (Int×Int×List Int×List Int)))×(Hd×Nat)) w'=>(q0.1.1,q0.1.2)=r0∧Cx w0 fp0 S0 w' [Es (List Int) edges_ edges_h,Bx b0 [(.int .i64 0),(.slice none 0 0),(.slice none 0 0),(.slice none 0 0)],Bx b1 [(.int .i64 y0_0),(h0).v,(h1).v,(h2).v],E (List (Int×Int×List Int×List Int)) y0_1 h0,E (List Int) y0_2 h1,E (List Int) y0_3 h2,Bx q0.2.2 [(.int .i64 q0.1.1),(q0.2.1).v,(h1).v,(h2).v],E (List (Int×Int×List Int×List Int)) q0.1.2 q0.2.1]) ?_ ?_
 ·
  clear H;intro w4 H
  have hX:Ext w4 w4:=Upd.refl _ _
  have H0:=H
  refine xA (fun _=>fld gok rfl rfl rfl rfl ⟨rfl,rfl⟩) ?_
  refine xA (fun _=>fld gok rfl rfl rfl rfl ⟨rfl,rfl⟩) ?_
  refine xA (fun _=>fld gok rfl rfl rfl rfl ⟨rfl,rfl⟩) ?_
  refine xA (fun _=>fld gok rfl rfl rfl rfl ⟨rfl,rfl⟩) ?_
  refine uA (H.bx 0 rfl (j:=0) rfl) ?_
  refine uA (H.bx 0 rfl (j:=2) rfl) ?_
  refine uA (H.bx 0 rfl (j:=3) rfl) ?_
  refine uA (H.bx 0 rfl (j:=1) rfl) ?_
  refine kA (H.ro (α:=List (Int×Int×List Int×List Int)) 1 rfl).len ?_
  refine pA ?_ ?_
  ·
   obtain ⟨a0,e,f3⟩:=aA f1;clear f1
   refine qD (α:=Int×Int×List Int×List Int) gok rfl rfl rfl rfl (cE e) H ?_;clear e H;intro h3 w5 hx H
   replace hX:=hX.trans0 hx;clear hx
   refine hold hX ?_
   refine xA (fun _=>tB (cs:=#[(.int .i64 y0_0),(h3).v,(h1).v,(h2).v]) gok rfl rfl rfl ⟨rfl,rfl⟩) ?_
   refine dC gok rfl H ?_;clear H;intro b2 w7 hx v0 H;replace v0:=Nat.le_trans hX.size v0
   replace hX:=hX.trans0 hx;clear hx
   refine hold hX ?_
   refine cG gok [(.int .i64 y0_0),(h3).v,(h1).v,(h2).v] rfl H rfl rfl rfl ?_;clear H;intro w8 hu H
   replace hX:=hX.fresh hu v0;clear hu
   refine hold hX ?_
   exact ⟨((y0_0,a0),(h3,b2)),⟨rfl,rfl,rfl,rfl,trivial⟩,Option.some.inj f3,H.sel [12,6,2,3,4,5,0,1] rfl⟩
  ·
   refine pA ?_ ?_
   ·
    obtain ⟨a1,o0,f4⟩:=aA f1;clear f1
    refine dC gok rfl H ?_;clear H;intro b3 w10 hx v1 H;replace v1:=Nat.le_trans hX.size v1
    replace hX:=hX.trans0 hx;clear hx
    refine hold hX ?_
    have e:=o0;clear o0
    refine qD (α:=Int×Int×List Int×List Int) gok rfl rfl rfl rfl (cE e) H ?_;clear e H;intro h4 w11 hx H
    replace hX:=hX.trans0 hx;clear hx
    refine hold hX ?_
    refine xA (fun _=>tB (cs:=#[(.int .i64 y0_0),(h4).v,(h1).v,(h2).v]) gok rfl rfl rfl ⟨rfl,rfl⟩) ?_
    replace H:=H.sel [1,0,2,3,4,5,6,7,8,9,10,11,12] rfl
    refine cG gok [(.int .i64 y0_0),(h4).v,(h1).v,(h2).v] rfl H rfl rfl rfl ?_;clear H;intro w12 hu H
    replace hX:=hX.fresh hu v1;clear hu
    refine hold hX ?_
    exact ⟨((y0_0,a1),(h4,b3)),⟨rfl,rfl,rfl,rfl,trivial⟩,Option.some.inj f4,H.sel [12,6,2,3,4,5,0,1] rfl⟩
   ·
    exact trivial
 ·
  clear f1 H
  rintro T0 ⟨⟨s0_0,s0_1⟩,⟨g0_0,g0_1⟩⟩ w13 ⟨hr,(H:Cx w0 fp0 S0 w13 [Es (List Int) edges_ edges_h,Bx b0 [(.int .i64 0),(.slice none 0 0),(.slice none 0 0),(.slice none 0 0)],Bx b1 [(.int .i64 y0_0),(h0).v,(h1).v,(h2).v],E (List (Int×Int×List Int×List Int)) y0_1 h0,E (List Int) y0_2 h1,E (List Int) y0_3 h2,Bx g0_1 [(.int .i64 s0_0),(g0_0).v,(h1).v,(h2).v],E (List (Int×Int×List Int×List Int)) s0_1 g0_0])⟩
  subst hr
  refine sq ?_
  refine fld gok rfl rfl rfl rfl ?_
  refine cA (H.bx 2 rfl (j:=1) rfl) ?_
  refine kA (H.ro (α:=List (Int×Int×List Int×List Int)) 3 rfl).len ?_
  have x0:=(H.ro (α:=List (Int×Int×List Int×List Int)) 3 rfl).max
  replace H:=H.sel [3,0,1,2,4,5,6,7] rfl
  replace H:=H.drain
  obtain ⟨r1,e,f5⟩:=aA f2;clear f2
  refine fB _ y0_1.length (fun (k0:Nat) (s1:List (Int×Int×List Int×List Int)) (_:Unit)=>[(2,(edges_h).v),(6,(.pointer (some ⟨b0,0,none⟩))),(8,(.pointer (some ⟨g0_1,0,none⟩))),(28,(h0).v),(29,(.int .i64 ((y0_1.length:Nat):Int))),(30,(.int .i64 ((k0:Nat):Int)))]) (fun (k0:Nat) (s1:List (Int×Int×List Int×List Int)) (_:Unit) w'=>Cx w0 fp0 S0 w' [Es (List Int) edges_ edges_h,Bx b0 [(.int .i64 0),(.slice none 0 0),(.slice none 0 0),(.slice none 0 0)],Bx g0_1 [(.int .i64 s0_0),(g0_0).v,(h1).v,(h2).v],E (List (Int×Int×List Int×List Int)) s1 g0_0,E (List Int) y0_2 h1,E (List Int) y0_3 h2,ED (Int×Int×List Int×List Int) k0 y0_1 h0]) s0_1 () e ⟨rfl,rfl,rfl,rfl,rfl,rfl,trivial⟩ (H.sel [1,2,6,7,4,5,0] rfl) ?_ ?_
  ·
   clear H e
   rintro T1 k0 s1 _ w15 o1 hk (H:Cx w0 fp0 S0 w15 [Es (List Int) edges_ edges_h,Bx b0 [(.int .i64 0),(.slice none 0 0),(.slice none 0 0),(.slice none 0 0)],Bx g0_1 [(.int .i64 s0_0),(g0_0).v,(h1).v,(h2).v],E (List (Int×Int×List Int×List Int)) s1 g0_0,E (List Int) y0_2 h1,E (List Int) y0_3 h2,ED (Int×Int×List Int×List Int) k0 y0_1 h0]) f6
   refine jA (z:=true) (cB hk) ?_
   refine sq ?_
   refine sq ?_
   obtain ⟨a2,e,f7⟩:=aA f6;clear f6
   replace H:=H.sel [6,0,1,2,3,4,5] rfl
   have HH:=H;clear H;obtain ⟨p0,m0,g1,c0,c1,c2,c3,H⟩:=HH.drTake e;clear HH e
   obtain ⟨a2_0,a2_1,a2_2,a2_3⟩:=a2
   obtain ⟨_,_,h5,h6⟩:=g1
   replace H:=H.split
   replace H:=H.sel [1,2,3,4,5,6,7,8] rfl
   replace H:=H.split
   replace H:=H.sel [1,2,3,4,5,6,7,8] rfl
   replace H:=H.split
   refine dA c0 c1 c2 ?_;clear c0 c1 c2
   refine vA [(.int .i64 a2_0),(.int .i64 a2_1),(h5).v,(h6).v] rfl c3 ?_;clear c3
   refine sB gok rfl H ?_;clear H;intro b4 w16 hx H
   clear hx
   refine stA gok [(.int .i64 a2_0),(.int .i64 a2_1),(h5).v,(h6).v] rfl H rfl rfl rfl ?_;clear H;intro w17 H
   refine aC H [8] (.fst 0 (.fst 2 (.fst 3 (.fst 4 (.fst 1 (.fst 5 (.fst 6 (.fst 7 (.act 8 .done))))))))) vB [] trivial (by kernel_rfl) ?_
   clear H;intro w18 H
   have hX:Ext w18 w18:=Upd.refl _ _
   have H0:=H
   refine xA (fun _=>fld gok rfl rfl rfl rfl ⟨rfl,rfl⟩) ?_
   obtain ⟨a3,e,f8⟩:=aA f7;clear f7
   obtain ⟨p1,m1,c4,c5,c6,c7⟩:=(H.rs (α:=List Int) 4 rfl).at1 e;clear e
   refine dA c4 c5 c6 ?_;clear c4 c5 c6
   refine uA (H.bx 6 rfl (j:=1) rfl) ?_
   refine uA c7 ?_;clear c7
   refine eF [(.int .i64 a2_0),(.int .i64 a2_1),(h5).v,(h6).v] rfl (fun j u hj=>H.bx 0 rfl hj) ?_
   replace H:=H.sel [1,2,0,3,4,5,6,7,8,9] rfl
   replace H:=H.join (α:=List Int) (β:=List Int)
   replace H:=H.sc (α:=Int) a2_1
   replace H:=H.join (α:=Int) (β:=List Int×List Int)
   replace H:=H.sc (α:=Int) a2_0
   replace H:=H.join (α:=Int) (β:=Int×List Int×List Int)
   obtain ⟨a4,e,f9⟩:=aA f8;clear f8
   have i1:=e;clear e
   replace H:=H.sel [6,0,1,2,3,4,5,7,8] rfl
   have HH:=H;clear H;obtain ⟨p2,m2,c8,c9,c10,c11,H⟩:=HH.hole (α:=Int×Int×List Int×List Int) i1;clear HH
   refine dA c9 c10 c11 ?_
   refine stXA (α:=Int×Int×List Int×List Int) gok [(.int .i64 a2_0),(.int .i64 a2_1),(h5).v,(h6).v] rfl rfl H c9 rfl rfl ?_;clear H;intro w19 H
   replace H:=H.sel [1,0,2,3,4,5,6,7,8] rfl
   replace H:=H.put c10 i1;clear c9 c10 c11 i1
   refine hold trivial ?_
   refine arK hk x0 ?_
   have hs:=Option.some.inj f9;subst hs;clear f9
   exact ⟨(),⟨rfl,rfl,rfl,rfl,rfl,rfl,trivial⟩,H.sel [3,4,5,0,6,7,2] rfl⟩
  ·
   clear H e
   rintro T2 _ w20 (H:Cx w0 fp0 S0 w20 [Es (List Int) edges_ edges_h,Bx b0 [(.int .i64 0),(.slice none 0 0),(.slice none 0 0),(.slice none 0 0)],Bx g0_1 [(.int .i64 s0_0),(g0_0).v,(h1).v,(h2).v],E (List (Int×Int×List Int×List Int)) r1 g0_0,E (List Int) y0_2 h1,E (List Int) y0_3 h2,ED (Int×Int×List Int×List Int) y0_1.length y0_1 h0])
   refine jA (z:=false) dB ?_
   refine sq ?_
   refine vA [(.int .i64 s0_0),(g0_0).v,(h1).v,(h2).v] rfl (fun j u hj=>H.bx 2 rfl hj) ?_
   replace H:=H.sel [1,0,2,3,4,5,6] rfl
   refine stA gok [(.int .i64 s0_0),(g0_0).v,(h1).v,(h2).v] rfl H rfl rfl rfl ?_;clear H;intro w22 H
   refine vA [(.int .i64 s0_0),(g0_0).v,(h1).v,(h2).v] rfl (fun j u hj=>H.bx 0 rfl hj) ?_
   cases f5
   exact ⟨_,_,rfl,⟨g0_0,h1,h2,rfl,rfl⟩,(H.sel [3,4,5] rfl).close ⟨cloE,cloE,cloE,trivial⟩⟩
theorem Bd_ (g__0:Int) (g__1:List (Int×Int×List Int×List Int)) (g__1h:Hd) (g__2:List Int) (g__2h:Hd) (g__3:List Int) (g__3h:Hd) (y_0:Int) (y_1:List (Int×Int×List Int×List Int)) (y_2:List Int) (y_3:List Int) (hF:uM (g__0,g__1,g__2,g__3)=some (y_0,y_1,y_2,y_3)) :
  nA Tryz.prog 67 #[(.agg #[(.int .i64 g__0),(g__1h).v,(g__2h).v,(g__3h).v])] [Es (List (Int×Int×List Int×List Int)) g__1 g__1h,Es (List Int) g__2 g__2h,Es (List Int) g__3 g__3h] [] (fun v Γ'=>∃ z0 z1 z2:Hd,v=(.agg #[(.int .i64 y_0),(z0).v,(z1).v,(z2).v])∧Γ'=[E (List (Int×Int×List Int×List Int)) y_1 z0,E (List Int) y_2 z1,E (List Int) y_3 z2]):=by
 intro w0 S0 fp0 hI hS
 have H:Cx w0 fp0 S0 w0 [Es (List (Int×Int×List Int×List Int)) g__1 g__1h,Es (List Int) g__2 g__2h,Es (List Int) g__3 g__3h]:=Cx.start hI hS
 clear hI hS
 refine lA (args:=[_]) gok Tryz.func67 rfl _ rfl rfl rfl ?_
 refine jB H ?_;clear H;intro b5 w4 hx H
 clear hx
 refine sB gok rfl H ?_;clear H;intro b8 w7 hx H
 clear hx
 refine aC H [6] (.fst 0 (.fst 1 (.act 2 (.fst 3 (.fst 4 (.act 5 (.act 6 .done))))))) vB [] trivial (by kernel_rfl) ?_
 clear H;intro w1 H
 have hX:Ext w1 w1:=Upd.refl _ _
 have H0:=H
 refine eF [(.int .i64 g__0),(g__1h).v,(g__2h).v,(g__3h).v] rfl (fun j u hj=>H.bx 1 rfl hj) ?_
 refine eF [(.int .i64 g__0),(g__1h).v,(g__2h).v,(g__3h).v] rfl (fun j u hj=>H.bx 1 rfl hj) ?_
 obtain ⟨y0,e,f0⟩:=aA hF;clear hF
 obtain ⟨y0_0,y0_1⟩:=y0
 have i0:=e;clear e
 refine eB (A5_ g__0 g__1 g__1h g__2 g__2h g__3 g__3h y0_0 y0_1 i0) H ⟨Vw.sh 2 rfl,Vw.sh 3 rfl,Vw.sh 4 rfl,trivial⟩ ?_;clear H i0
 rintro _ _ w2 ⟨h0,h1,rfl,rfl⟩ hx H
 replace hX:=hX.trans0 hx;clear hx
 refine hold hX ?_
 obtain ⟨y1,e,f1⟩:=aA f0;clear f0
 obtain ⟨y1_0,y1_1,y1_2,y1_3⟩:=y1
 have i1:=e;clear e
 refine eB (Ba_ g__0 g__1 g__1h g__2 g__2h g__3 g__3h y0_0 h0 y0_1 h1 y1_0 y1_1 y1_2 y1_3 i1) H ⟨Vw.sh 4 rfl,Vw.sh 5 rfl,Vw.sh 6 rfl,Vw.own 0 rfl,Vw.own 1 rfl,trivial⟩ ?_;clear H i1
 rintro _ _ w3 ⟨h2,h3,h4,rfl,rfl⟩ hx H
 replace hX:=hX.trans0 hx;clear hx
 refine hold hX ?_
 replace H:=H.sel [5,0,1,2,3,4,6,7,8,9] rfl
 refine stA gok [(.int .i64 y1_0),(h2).v,(h3).v,(h4).v] rfl H rfl rfl rfl ?_;clear H;intro w5 H
 refine hold trivial ?_
 refine vA [(.int .i64 y1_0),(h2).v,(h3).v,(h4).v] rfl (fun j u hj=>H.bx 0 rfl hj) ?_
 cases f1
 exact ⟨_,_,rfl,⟨h2,h3,h4,rfl,rfl⟩,(H.sel [1,2,3] rfl).close ⟨cloE,cloE,cloE,trivial⟩⟩
theorem Bg_ (d_b:Nat) (d__0_0:Int) (d__0_1:List (Int×Int×List Int×List Int)) (d__0_1h:Hd) (d__0_2:List Int) (d__0_2h:Hd) (d__0_3:List Int) (d__0_3h:Hd) (y0_0:Int) (y0_1:List (Int×Int×List Int×List Int)) (y0_2:List Int) (y0_3:List Int) (y1:Bool) (hF:nQ (d__0_0,d__0_1,d__0_2,d__0_3)=some ((y0_0,y0_1,y0_2,y0_3),y1)) :
  nA Tryz.prog 42 #[(.pointer (some ⟨d_b,0,none⟩))] [Es (List (Int×Int×List Int×List Int)) d__0_1 d__0_1h,Es (List Int) d__0_2 d__0_2h,Es (List Int) d__0_3 d__0_3h] [Bx d_b [(.int .i64 d__0_0),(d__0_1h).v,(d__0_2h).v,(d__0_3h).v]] (fun v Γ'=>∃ z0 z1 z2:Hd,v=(.tuple #[(.agg #[(.int .i64 y0_0),(z0).v,(z1).v,(z2).v]),(.bool y1)])∧Γ'=[Bx d_b [(.int .i64 d__0_0),(d__0_1h).v,(d__0_2h).v,(d__0_3h).v],E (List (Int×Int×List Int×List Int)) y0_1 z0,E (List Int) y0_2 z1,E (List Int) y0_3 z2]):=by
 intro w0 S0 fp0 hI hS
 have H:Cx w0 fp0 S0 w0 [Es (List (Int×Int×List Int×List Int)) d__0_1 d__0_1h,Es (List Int) d__0_2 d__0_2h,Es (List Int) d__0_3 d__0_3h,Bx d_b [(.int .i64 d__0_0),(d__0_1h).v,(d__0_2h).v,(d__0_3h).v]]:=Cx.start hI hS
 clear hI hS
 refine lA (args:=[_]) gok Tryz.func42 rfl _ rfl rfl rfl ?_
 refine sB gok rfl H ?_;clear H;intro b6 w5 hx H
 clear hx
 refine sq ?_
 refine fld gok rfl rfl rfl rfl ?_
 refine vA [(.int .i64 d__0_0),(d__0_1h).v,(d__0_2h).v,(d__0_3h).v] rfl (H.bxs 4 rfl 0 rfl) ?_
 obtain ⟨y8,e,hF9⟩:=aA hF;clear hF
 have ey8:=e;clear e
 refine iA (A7_ d__0_0 d__0_1 d__0_1h d__0_2 d__0_2h d__0_3 d__0_3h y8 ey8) (Γi:=[]) H ⟨Vw.sh 1 rfl,Vw.sh 2 rfl,Vw.sh 3 rfl,trivial⟩ ?_;clear H ey8
 rintro _ _ w1 ⟨rfl,rfl⟩ H
 obtain ⟨a0,e,f0⟩:=aA hF9;clear hF9
 refine gA e ?_;clear e
 cases a0
 ·
  have f1:=fA f0;clear f0
  refine fld gok rfl rfl rfl rfl ?_
  refine vA [(.int .i64 d__0_0),(d__0_1h).v,(d__0_2h).v,(d__0_3h).v] rfl (H.bxs 4 rfl 0 rfl) ?_
  obtain ⟨y0,e,f2⟩:=aA f1;clear f1
  obtain ⟨y0_0,y0_1,y0_2,y0_3⟩:=y0
  have i0:=e;clear e
  refine iA (Bd_ d__0_0 d__0_1 d__0_1h d__0_2 d__0_2h d__0_3 d__0_3h y0_0 y0_1 y0_2 y0_3 i0) (Γi:=[]) H ⟨Vw.sh 1 rfl,Vw.sh 2 rfl,Vw.sh 3 rfl,trivial⟩ ?_;clear H i0
  rintro _ _ w2 ⟨h0,h1,h2,rfl,rfl⟩ H
  replace H:=H.sel [3,0,1,2,4,5,6,7] rfl
  refine stA gok [(.int .i64 y0_0),(h0).v,(h1).v,(h2).v] rfl H rfl rfl rfl ?_;clear H;intro w3 H
  refine vA [(.int .i64 y0_0),(h0).v,(h1).v,(h2).v] rfl (fun j u hj=>H.bx 0 rfl hj) ?_
  cases f2
  exact ⟨_,_,rfl,⟨h0,h1,h2,rfl,rfl⟩,(H.sel [7,1,2,3] rfl).close ⟨cloB,cloE,cloE,cloE,trivial⟩⟩
 ·
  have f3:=eA f0;clear f0
  refine tB (cs:=#[(.int .i64 0),(.slice none 0 0),(.slice none 0 0),(.slice none 0 0)]) gok rfl rfl rfl ?_
  refine stA gok [(.int .i64 0),(.slice none 0 0),(.slice none 0 0),(.slice none 0 0)] rfl H rfl rfl rfl ?_;clear H;intro w4 H
  refine vA [(.int .i64 0),(.slice none 0 0),(.slice none 0 0),(.slice none 0 0)] rfl (fun j u hj=>H.bx 0 rfl hj) ?_
  replace H:=H.nil (α:=Int×Int×List Int×List Int)
  replace H:=H.nil (α:=Int)
  replace H:=H.nil (α:=Int)
  cases f3
  exact ⟨_,_,rfl,⟨nilH,nilH,nilH,rfl,rfl⟩,(H.sel [7,2,1,0] rfl).close ⟨cloB,cloE,cloE,cloE,trivial⟩⟩
theorem Bm_ (r__0:Int) (r__1:Int) (r__2:List (List Int)) (r__2h:Hd) (y0_0:Int) (y0_1:List (Int×Int×List Int×List Int)) (y0_2:List Int) (y0_3:List Int) (y1:Bool) (hF:rQ (r__0,r__1,r__2)=some ((y0_0,y0_1,y0_2,y0_3),y1)) :
  nA Tryz.prog 25 #[(.agg #[(.int .i64 r__0),(.int .i64 r__1),(r__2h).v])] [Es (List (List Int)) r__2 r__2h] [] (fun v Γ'=>∃ z0 z1 z2:Hd,v=(.tuple #[(.agg #[(.int .i64 y0_0),(z0).v,(z1).v,(z2).v]),(.bool y1)])∧Γ'=[E (List (Int×Int×List Int×List Int)) y0_1 z0,E (List Int) y0_2 z1,E (List Int) y0_3 z2]):=by
 intro w0 S0 fp0 hI hS
 have H:Cx w0 fp0 S0 w0 [Es (List (List Int)) r__2 r__2h]:=Cx.start hI hS
 clear hI hS
 refine lA (args:=[_]) gok Tryz.func25 rfl _ rfl rfl rfl ?_
 refine jB H ?_;clear H;intro b3 w2 hx H
 clear hx
 refine sB gok rfl H ?_;clear H;intro b6 w5 hx H
 clear hx
 refine sq ?_
 obtain ⟨r0,f0,f1⟩:=aA hF;clear hF
 refine cut (fun (q0:Bool)=>[(1,(.pointer (some ⟨b3,0,none⟩))),(2,(.pointer (some ⟨b6,0,none⟩))),(20,(.bool q0))]) (fun (q0:Bool) w'=>q0=r0∧Cx w0 fp0 S0 w' [Bx b3 [(.int .i64 r__0),(.int .i64 r__1),(r__2h).v],Es (List (List Int)) r__2 r__2h,Bx b6 [(.int .i64 0),(.slice none 0 0),(.slice none 0 0),(.slice none 0 0)]]) ?_ ?_
 ·
  refine fld gok rfl rfl rfl rfl ?_
  refine cA (H.bx 1 rfl (j:=0) rfl) ?_
  obtain ⟨a0,e,f2⟩:=aA f0;clear f0
  refine gA e ?_;clear e
  cases a0
  ·
   have f3:=fA f2;clear f2
   refine fld gok rfl rfl rfl rfl ?_
   refine cA (H.bx 1 rfl (j:=1) rfl) ?_
   obtain ⟨a1,e,f4⟩:=aA f3;clear f3
   refine gA e ?_;clear e
   exact ⟨a1,⟨rfl,rfl,rfl,trivial⟩,Option.some.inj f4,H.sel [1,2,0] rfl⟩
  ·
   have f5:=eA f2;clear f2
   exact ⟨true,⟨rfl,rfl,rfl,trivial⟩,Option.some.inj f5,H.sel [1,2,0] rfl⟩
 ·
  clear f0 H
  rintro T0 s0 w1 ⟨hr,(H:Cx w0 fp0 S0 w1 [Bx b3 [(.int .i64 r__0),(.int .i64 r__1),(r__2h).v],Es (List (List Int)) r__2 r__2h,Bx b6 [(.int .i64 0),(.slice none 0 0),(.slice none 0 0),(.slice none 0 0)]])⟩
  subst hr
  cases s0
  ·
   have f6:=fA f1;clear f1
   refine tB (cs:=#[(.int .i64 0),(.slice none 0 0),(.slice none 0 0),(.slice none 0 0)]) gok rfl rfl rfl ?_
   refine jB H ?_;clear H;intro b0 w3 hx H
   clear hx
   refine fld gok rfl rfl rfl rfl ?_
   refine cA (H.bx 1 rfl (j:=2) rfl) ?_
   refine kA (H.rs (α:=List (List Int)) 2 rfl).len ?_
   obtain ⟨y0,e,f7⟩:=aA f6;clear f6
   obtain ⟨⟨y0_0_0_0,y0_0_0_1,y0_0_0_2,y0_0_0_3⟩,y0_1⟩:=y0
   have i0:=e;clear e
   refine iA (kV b0 0 [] (.slice none 0 0) [] (.slice none 0 0) [] (.slice none 0 0) ((r__2.length:Nat):Int) y0_0_0_0 y0_0_0_1 y0_0_0_2 y0_0_0_3 y0_1 i0) (Γi:=[Bx b0 [(.int .i64 0),(.slice none 0 0),(.slice none 0 0),(.slice none 0 0)]]) H trivial ?_;clear H i0
   rintro _ _ w4 ⟨h0,rfl,rfl⟩ H
   refine sq ?_
   refine kA (H.ro (α:=List Int) 1 rfl).len ?_
   have x0:=(H.ro (α:=List Int) 1 rfl).max
   obtain ⟨r1,e,f8⟩:=aA f7;clear f7
   replace H:=H.nil (α:=Sh (Int×Int×List Int×List Int))
   refine fB _ y0_1.length (fun (k0:Nat) (s1:Int×(List (Int×Int×List Int×List Int))) (g0:Hd)=>[(1,(.pointer (some ⟨b3,0,none⟩))),(2,(.pointer (some ⟨b6,0,none⟩))),(4,(.pointer (some ⟨b0,0,none⟩))),(5,(h0).v),(29,(h0).v),(30,(.int .i64 ((y0_1.length:Nat):Int))),(31,(.int .i64 ((k0:Nat):Int)))]) (fun _ (s1:Int×(List (Int×Int×List Int×List Int))) (g0:Hd) w'=>Cx w0 fp0 S0 w' [Bx b3 [(.int .i64 r__0),(.int .i64 r__1),(r__2h).v],Es (List (List Int)) r__2 r__2h,Bx b6 [(.int .i64 0),(.slice none 0 0),(.slice none 0 0),(.slice none 0 0)],Bx b0 [(.int .i64 s1.1),(g0).v,(.slice none 0 0),(.slice none 0 0)],E (List (Sh (Int×Int×List Int×List Int))) s1.2 g0,E (List Int) y0_1 h0]) (y0_0_0_0,[]) nilH e ⟨rfl,rfl,rfl,rfl,rfl,rfl,rfl,trivial⟩ (H.sel [3,4,5,1,0,2] rfl) ?_ ?_
   ·
    clear H e
    rintro T1 k0 ⟨s1_0,s1_1⟩ g0 w6 o0 hk (H:Cx w0 fp0 S0 w6 [Bx b3 [(.int .i64 r__0),(.int .i64 r__1),(r__2h).v],Es (List (List Int)) r__2 r__2h,Bx b6 [(.int .i64 0),(.slice none 0 0),(.slice none 0 0),(.slice none 0 0)],Bx b0 [(.int .i64 s1_0),(g0).v,(.slice none 0 0),(.slice none 0 0)],E (List (Sh (Int×Int×List Int×List Int))) s1_1 g0,E (List Int) y0_1 h0]) f9
    refine jA (z:=true) (cB hk) ?_
    refine sq ?_
    refine sq ?_
    obtain ⟨a2,e,f10⟩:=aA f9;clear f9
    obtain ⟨p0,m0,c0,c1,c2,c3⟩:=(H.ro (α:=List Int) 5 rfl).at1 e;clear e
    refine dA c0 c1 c2 ?_;clear c0 c1 c2
    refine cA c3 ?_;clear c3
    refine bB (α:=Int) gok rfl rfl rfl rfl H ?_;clear H;intro h1 w7 hx H
    clear hx
    replace H:=H.nil (α:=Int)
    obtain ⟨y2,e,f11⟩:=aA f10;clear f10
    obtain ⟨y2_0_0,y2_0_1,y2_0_2,y2_0_3⟩:=y2
    have i1:=e;clear e
    replace H:=H.frz
    replace H:=H.sel [1,0,2,3,4,5,6,7] rfl
    replace H:=H.frz
    replace H:=H.sel [5,6,0,1,2,3,4,7] rfl
    refine aB (tC b0 s1_0 s1_1 g0 [] (.slice none 0 0) [] (.slice none 0 0) 10 0 [] nilH [a2] h1 y2_0_0 y2_0_1 y2_0_2 y2_0_3 i1) (Γi:=[Bx b0 [(.int .i64 s1_0),(g0).v,(.slice none 0 0),(.slice none 0 0)],E (List (Sh (Int×Int×List Int×List Int))) s1_1 g0]) H [1,0] rfl (wA qA (wA qA zA)) ?_;clear H i1
    rintro _ _ w8 ⟨h2,rfl,rfl⟩ H
    refine arK hk x0 ?_
    have hs:=Option.some.inj f11;subst hs;clear f11
    exact ⟨h2,⟨rfl,rfl,rfl,rfl,rfl,rfl,rfl,trivial⟩,H.sel [4,5,6,0,1,7] rfl⟩
   ·
    clear H e
    obtain ⟨s2_0,s2_1⟩:=r1
    rintro T2 g1 w9 (H:Cx w0 fp0 S0 w9 [Bx b3 [(.int .i64 r__0),(.int .i64 r__1),(r__2h).v],Es (List (List Int)) r__2 r__2h,Bx b6 [(.int .i64 0),(.slice none 0 0),(.slice none 0 0),(.slice none 0 0)],Bx b0 [(.int .i64 s2_0),(g1).v,(.slice none 0 0),(.slice none 0 0)],E (List (Sh (Int×Int×List Int×List Int))) s2_1 g1,E (List Int) y0_1 h0])
    refine jA (z:=false) dB ?_
    refine sq ?_
    refine aC H [6,7] (.fst 0 (.fst 1 (.fst 2 (.fst 3 (.fst 4 (.act 5 (.act 6 (.act 7 .done)))))))) vB [] trivial (by kernel_rfl) ?_
    clear H;intro w10 H
    have hX:Ext w10 w10:=Upd.refl _ _
    have H0:=H
    refine xA (fun _=>fld gok rfl rfl rfl rfl ⟨rfl,rfl⟩) ?_
    refine uA (H.bx 0 rfl (j:=2) rfl) ?_
    refine eF [(.int .i64 r__0),(.int .i64 r__1),(r__2h).v] rfl (fun j u hj=>H.bx 0 rfl hj) ?_
    obtain ⟨y3,e,f12⟩:=aA f8;clear f8
    have i2:=e;clear e
    refine eB (Bo_ r__0 r__1 r__2 r__2h y3 i2) H ⟨Vw.sh 1 rfl,trivial⟩ ?_;clear H i2
    rintro _ _ w11 ⟨rfl,rfl⟩ hx H
    replace hX:=hX.trans0 hx;clear hx
    refine hold hX ?_
    obtain ⟨y4,e,f13⟩:=aA f12;clear f12
    obtain ⟨⟨y4_0_0_0,y4_0_0_1,y4_0_0_2,y4_0_0_3⟩,y4_1⟩:=y4
    have i3:=e;clear e
    replace H:=H.sel [5,0,1,2,3,4] rfl
    replace H:=H.frz
    replace H:=H.sel [4,5,0,1,2,3] rfl
    refine aB (Bf_ b0 s2_0 s2_1 g1 [] (.slice none 0 0) [] (.slice none 0 0) y0_1 h0 r__2 r__2h y3 y4_0_0_0 y4_0_0_1 y4_0_0_2 y4_0_0_3 y4_1 i3) (Γi:=[Bx b0 [(.int .i64 s2_0),(g1).v,(.slice none 0 0),(.slice none 0 0)],E (List (Sh (Int×Int×List Int×List Int))) s2_1 g1]) H [0,2] rfl (wA qA (wA qA zA)) ?_;clear H i3
    rintro _ _ w12 ⟨h3,h4,rfl,rfl⟩ H
    refine hold trivial ?_
    refine hold trivial ?_
    refine sq ?_
    refine fld gok rfl rfl rfl rfl ?_
    refine cA (H.bx 4 rfl (j:=0) rfl) ?_
    obtain ⟨a3,e,f14⟩:=aA f13;clear f13
    refine slS (α:=Int) gok rfl rfl H 2 rfl e rfl rfl ?_;clear e H;intro h5 H
    refine kA (H.rs (α:=List Int) 0 rfl).len ?_
    have x1:=(H.rs (α:=List Int) 0 rfl).max
    obtain ⟨r2,e,f15⟩:=aA f14;clear f14
    replace H:=H.nil (α:=Int)
    refine fB _ a3.length (fun (k1:Nat) (s3:Int×(List (Int×Int×List Int×List Int))×List Int) (g2:Hd×Hd)=>[(1,(.pointer (some ⟨b3,0,none⟩))),(2,(.pointer (some ⟨b6,0,none⟩))),(4,(.pointer (some ⟨b0,0,none⟩))),(8,(h4).v),(50,(h5).v),(51,(.int .i64 ((a3.length:Nat):Int))),(52,(.int .i64 ((k1:Nat):Int)))]) (fun _ (s3:Int×(List (Int×Int×List Int×List Int))×List Int) (g2:Hd×Hd) w'=>Cx w0 fp0 S0 w' [Bx b3 [(.int .i64 r__0),(.int .i64 r__1),(r__2h).v],Es (List (List Int)) r__2 r__2h,Bx b6 [(.int .i64 0),(.slice none 0 0),(.slice none 0 0),(.slice none 0 0)],Bx b0 [(.int .i64 s3.1),(g2.1).v,(g2.2).v,(.slice none 0 0)],E (List (Sh (Int×Int×List Int×List Int))) s3.2.1 g2.1,E (List Int) s3.2.2 g2.2,Es (List Int) y4_1 h4,Es (List Int) a3 h5]) (y4_0_0_0,y4_0_0_1,[]) (h3,nilH) e ⟨rfl,rfl,rfl,rfl,rfl,rfl,rfl,trivial⟩ (H.sel [6,7,8,2,3,0,4,1] rfl) ?_ ?_
    ·
     clear H e
     rintro T3 k1 ⟨s3_0,s3_1,s3_2⟩ ⟨g2_0,g2_1⟩ w13 o1 hk (H:Cx w0 fp0 S0 w13 [Bx b3 [(.int .i64 r__0),(.int .i64 r__1),(r__2h).v],Es (List (List Int)) r__2 r__2h,Bx b6 [(.int .i64 0),(.slice none 0 0),(.slice none 0 0),(.slice none 0 0)],Bx b0 [(.int .i64 s3_0),(g2_0).v,(g2_1).v,(.slice none 0 0)],E (List (Sh (Int×Int×List Int×List Int))) s3_1 g2_0,E (List Int) s3_2 g2_1,Es (List Int) y4_1 h4,Es (List Int) a3 h5]) f16
     refine jA (z:=true) (cB hk) ?_
     refine sq ?_
     refine sq ?_
     obtain ⟨a4,e,f17⟩:=aA f16;clear f16
     obtain ⟨p1,m1,c4,c5,c6,c7⟩:=(H.rs (α:=List Int) 7 rfl).at1 e;clear e
     refine dA c4 c5 c6 ?_;clear c4 c5 c6
     refine cA c7 ?_;clear c7
     obtain ⟨y5,e,f18⟩:=aA f17;clear f17
     obtain ⟨⟨y5_0_0_0,y5_0_0_1,y5_0_0_2,y5_0_0_3⟩,y5_1⟩:=y5
     have i4:=e;clear e
     replace H:=H.sel [3,0,1,2,4,5,6,7] rfl
     refine iA (zK b0 s3_0 s3_1 ((g2_0).v) s3_2 ((g2_1).v) [] (.slice none 0 0) y5_0_0_0 y5_0_0_1 y5_0_0_2 y5_0_0_3 y5_1 i4) (Γi:=[Bx b0 [(.int .i64 s3_0),(g2_0).v,(g2_1).v,(.slice none 0 0)]]) H trivial ?_;clear H i4
     rintro _ _ w14 ⟨rfl,rfl⟩ H
     obtain ⟨y6,e,f19⟩:=aA f18;clear f18
     obtain ⟨⟨y6_0_0_0,y6_0_0_1,y6_0_0_2,y6_0_0_3⟩,y6_1⟩:=y6
     have i5:=e;clear e
     refine iA (zK b0 y5_0_0_0 s3_1 ((g2_0).v) s3_2 ((g2_1).v) [] (.slice none 0 0) y6_0_0_0 y6_0_0_1 y6_0_0_2 y6_0_0_3 y6_1 i5) (Γi:=[Bx b0 [(.int .i64 y5_0_0_0),(g2_0).v,(g2_1).v,(.slice none 0 0)]]) H trivial ?_;clear H i5
     rintro _ _ w15 ⟨rfl,rfl⟩ H
     refine fld gok rfl rfl rfl rfl ?_
     refine fld gok rfl rfl rfl rfl ?_
     refine cA (H.bx 0 rfl (j:=2) rfl) ?_
     refine bB (α:=Int) gok rfl rfl rfl rfl H ?_;clear H;intro h6 w16 hx H
     clear hx
     obtain ⟨a5,e,f20⟩:=aA f19;clear f19
     replace H:=H.sel [6,0,1,2,3,4,5,7,8] rfl
     refine append_ (α:=Int) gok rfl rfl rfl rfl H e ?_;clear e H;intro h7 w17 H
     refine fld gok rfl rfl rfl rfl ?_
     refine fld gok rfl rfl rfl rfl ?_
     replace H:=H.sel [1,0,2,3,4,5,6,7] rfl
     refine stB (j:=2) H rfl rfl ?_;clear H;intro w18 H
     replace H:=H.sc (α:=Int) a4
     replace H:=H.sc (α:=Int) y5_1
     refine rC (α:=Int) (us:=[(.int .i64 y5_1),(.int .i64 a4)]) (xs:=[y5_1,a4]) (gs:=[(),()]) gok rfl rfl rfl ⟨rfl,rfl,trivial⟩ rfl rfl H ?_;clear H;intro h8 w19 hx H
     clear hx
     refine bB (α:=Int) gok rfl rfl rfl rfl H ?_;clear H;intro h9 w20 hx H
     clear hx
     obtain ⟨y7,e,f21⟩:=aA f20;clear f20
     obtain ⟨y7_0_0,y7_0_1,y7_0_2,y7_0_3⟩:=y7
     have i6:=e;clear e
     replace H:=H.sel [1,0,2,3,4,5,6,7,8,9] rfl
     replace H:=H.frz
     replace H:=H.sel [1,0,2,3,4,5,6,7,8,9] rfl
     replace H:=H.frz
     replace H:=H.sel [2,7,0,1,3,4,5,6,8,9] rfl
     refine aB (tC b0 y6_0_0_0 s3_1 g2_0 a5 ((h7).v) [] (.slice none 0 0) 9 0 [y5_1,a4] h8 [y6_1] h9 y7_0_0 y7_0_1 y7_0_2 y7_0_3 i6) (Γi:=[Bx b0 [(.int .i64 y6_0_0_0),(g2_0).v,(h7).v,(.slice none 0 0)],E (List (Sh (Int×Int×List Int×List Int))) s3_1 g2_0]) H [1,0] rfl (wA qA (wA qA zA)) ?_;clear H i6
     rintro _ _ w21 ⟨h10,rfl,rfl⟩ H
     refine bB (α:=Int) gok rfl rfl rfl rfl H ?_;clear H;intro h11 w22 hx H
     clear hx
     replace H:=H.nil (α:=Int)
     obtain ⟨y8,e,f22⟩:=aA f21;clear f21
     obtain ⟨y8_0_0,y8_0_1,y8_0_2,y8_0_3⟩:=y8
     have i7:=e;clear e
     replace H:=H.sel [1,0,2,3,4,5,6,7,8,9,10,11] rfl
     replace H:=H.frz
     replace H:=H.sel [1,0,2,3,4,5,6,7,8,9,10,11] rfl
     replace H:=H.frz
     replace H:=H.sel [2,3,0,1,4,5,6,7,8,9,10,11] rfl
     refine aB (tC b0 y7_0_0 y7_0_1 h10 a5 ((h7).v) [] (.slice none 0 0) 4 0 [y6_1] h11 [] nilH y8_0_0 y8_0_1 y8_0_2 y8_0_3 i7) (Γi:=[Bx b0 [(.int .i64 y7_0_0),(h10).v,(h7).v,(.slice none 0 0)],E (List (Sh (Int×Int×List Int×List Int))) y7_0_1 h10]) H [1,0] rfl (wA qA (wA qA zA)) ?_;clear H i7
     rintro _ _ w23 ⟨h12,rfl,rfl⟩ H
     refine arK hk x1 ?_
     have hs:=Option.some.inj f22;subst hs;clear f22
     exact ⟨(h12,h7),⟨rfl,rfl,rfl,rfl,rfl,rfl,rfl,trivial⟩,H.sel [7,8,9,0,1,6,10,11] rfl⟩
    ·
     clear H e
     obtain ⟨s4_0,s4_1,s4_2⟩:=r2
     rintro T4 ⟨g3_0,g3_1⟩ w24 (H:Cx w0 fp0 S0 w24 [Bx b3 [(.int .i64 r__0),(.int .i64 r__1),(r__2h).v],Es (List (List Int)) r__2 r__2h,Bx b6 [(.int .i64 0),(.slice none 0 0),(.slice none 0 0),(.slice none 0 0)],Bx b0 [(.int .i64 s4_0),(g3_0).v,(g3_1).v,(.slice none 0 0)],E (List (Sh (Int×Int×List Int×List Int))) s4_1 g3_0,E (List Int) s4_2 g3_1,Es (List Int) y4_1 h4,Es (List Int) a3 h5])
     refine jA (z:=false) dB ?_
     refine sq ?_
     refine fld gok rfl rfl rfl rfl ?_
     refine cA (H.bx 0 rfl (j:=0) rfl) ?_
     obtain ⟨a6,e,f23⟩:=aA f15;clear f15
     refine slS (α:=Int) (hi:=none) gok rfl rfl H 6 rfl e rfl (congrArg (fun n:Nat=>some (n:Int)) (H.rs (α:=List Int) 6 rfl).len) ?_;clear e H;intro h13 H
     refine fld gok rfl rfl rfl rfl ?_
     refine fld gok rfl rfl rfl rfl ?_
     replace H:=H.sel [4,0,1,2,3,5,6,7,8] rfl
     refine stB (j:=3) H rfl rfl ?_;clear H;intro w25 H
     obtain ⟨y9,e,f24⟩:=aA f23;clear f23
     obtain ⟨⟨y9_0_0,y9_0_1,y9_0_2,y9_0_3⟩,y9_1⟩:=y9
     have i8:=e;clear e
     refine iA (Bg_ b0 s4_0 s4_1 g3_0 s4_2 g3_1 a6 h13 y9_0_0 y9_0_1 y9_0_2 y9_0_3 y9_1 i8) (Γi:=[Bx b0 [(.int .i64 s4_0),(g3_0).v,(g3_1).v,(h13).v]]) H ⟨Vw.part (β:=List (Int×Int×List Int×List Int)) (Vw.own (α:=List (Sh (Int×Int×List Int×List Int))) 4 rfl) s4_1 g3_0 (fun S h=>h),Vw.own 5 rfl,Vw.sh 0 rfl,trivial⟩ ?_;clear H i8
     rintro _ _ w27 ⟨h14,h15,h16,rfl,rfl⟩ H
     replace H:=H.sel [7,0,1,2,3,4,5,6,8,9,10,11] rfl
     refine stA gok [(.int .i64 y9_0_0),(h14).v,(h15).v,(h16).v] rfl H rfl rfl rfl ?_;clear H;intro w28 H
     refine vA [(.int .i64 y9_0_0),(h14).v,(h15).v,(h16).v] rfl (fun j u hj=>H.bx 0 rfl hj) ?_
     cases f24
     exact ⟨_,_,rfl,⟨h14,h15,h16,rfl,rfl⟩,(H.sel [2,3,4] rfl).close ⟨cloE,cloE,cloE,trivial⟩⟩
  ·
   have f25:=eA f1;clear f1
   refine tB (cs:=#[(.int .i64 0),(.slice none 0 0),(.slice none 0 0),(.slice none 0 0)]) gok rfl rfl rfl ?_
   replace H:=H.sel [2,0,1] rfl
   refine stA gok [(.int .i64 0),(.slice none 0 0),(.slice none 0 0),(.slice none 0 0)] rfl H rfl rfl rfl ?_;clear H;intro w30 H
   refine vA [(.int .i64 0),(.slice none 0 0),(.slice none 0 0),(.slice none 0 0)] rfl (fun j u hj=>H.bx 0 rfl hj) ?_
   replace H:=H.nil (α:=Int×Int×List Int×List Int)
   replace H:=H.nil (α:=Int)
   replace H:=H.nil (α:=Int)
   cases f25
   exact ⟨_,_,rfl,⟨nilH,nilH,nilH,rfl,rfl⟩,(H.sel [2,1,0] rfl).close ⟨cloE,cloE,cloE,trivial⟩⟩
theorem lV (p_:Int) (r__0:Int) (r__1:Int) (r__2:List (List Int)) (r__2h:Hd) (y0_0:Int) (y0_1:List (Int×Int×List Int×List Int)) (y0_2:List Int) (y0_3:List Int) (y1:Bool) (hF:yK p_ (r__0,r__1,r__2)=some ((y0_0,y0_1,y0_2,y0_3),y1)) :
  nA Tryz.prog 8 #[(.int .i64 p_),(.agg #[(.int .i64 r__0),(.int .i64 r__1),(r__2h).v])] [Es (List (List Int)) r__2 r__2h,Gl 0 [.int .i64 2,.int .i64 3,.int .i64 5,.int .i64 7]] [] (fun v Γ'=>∃ z0 z1 z2:Hd,v=(.tuple #[(.agg #[(.int .i64 y0_0),(z0).v,(z1).v,(z2).v]),(.bool y1)])∧Γ'=[E (List (Int×Int×List Int×List Int)) y0_1 z0,E (List Int) y0_2 z1,E (List Int) y0_3 z2]):=by
 intro w0 S0 fp0 hI hS
 have H:Cx w0 fp0 S0 w0 [Es (List (List Int)) r__2 r__2h,Gl 0 [.int .i64 2,.int .i64 3,.int .i64 5,.int .i64 7]]:=Cx.start hI hS
 clear hI hS
 refine lA (args:=[_,_]) gok Tryz.func8 rfl _ rfl rfl rfl ?_
 refine jB H ?_;clear H;intro b4 w3 hx H
 clear hx
 refine sB gok rfl H ?_;clear H;intro b7 w6 hx H
 clear hx
 refine sq ?_
 refine vA [(.int .i64 r__0),(.int .i64 r__1),(r__2h).v] rfl (fun j u hj=>H.bx 1 rfl hj) ?_
 obtain ⟨y9,e,f0⟩:=aA hF;clear hF
 have ey9:=e;clear e
 refine iA (BJ_ p_ r__0 r__1 r__2 r__2h y9 ey9) (Γi:=[]) H ⟨Vw.sh 2 rfl,Vw.gl 3 rfl,trivial⟩ ?_;clear H ey9
 rintro _ _ w1 ⟨rfl,rfl⟩ H
 obtain ⟨a0,e,f1⟩:=aA f0;clear f0
 refine gA e ?_;clear e
 cases a0
 ·
  have f2:=fA f1;clear f1
  refine vA [(.int .i64 r__0),(.int .i64 r__1),(r__2h).v] rfl (fun j u hj=>H.bx 1 rfl hj) ?_
  obtain ⟨y0,e,f3⟩:=aA f2;clear f2
  obtain ⟨⟨y0_0_0,y0_0_1,y0_0_2,y0_0_3⟩,y0_1⟩:=y0
  have i0:=e;clear e
  refine iA (Bm_ r__0 r__1 r__2 r__2h y0_0_0 y0_0_1 y0_0_2 y0_0_3 y0_1 i0) (Γi:=[]) H ⟨Vw.sh 2 rfl,trivial⟩ ?_;clear H i0
  rintro _ _ w2 ⟨h0,h1,h2,rfl,rfl⟩ H
  replace H:=H.sel [3,0,1,2,4,5,6] rfl
  refine stA gok [(.int .i64 y0_0_0),(h0).v,(h1).v,(h2).v] rfl H rfl rfl rfl ?_;clear H;intro w4 H
  refine vA [(.int .i64 y0_0_0),(h0).v,(h1).v,(h2).v] rfl (fun j u hj=>H.bx 0 rfl hj) ?_
  cases f3
  exact ⟨_,_,rfl,⟨h0,h1,h2,rfl,rfl⟩,(H.sel [1,2,3] rfl).close ⟨cloE,cloE,cloE,trivial⟩⟩
 ·
  have f4:=eA f1;clear f1
  refine tB (cs:=#[(.int .i64 0),(.slice none 0 0),(.slice none 0 0),(.slice none 0 0)]) gok rfl rfl rfl ?_
  refine stA gok [(.int .i64 0),(.slice none 0 0),(.slice none 0 0),(.slice none 0 0)] rfl H rfl rfl rfl ?_;clear H;intro w5 H
  refine vA [(.int .i64 0),(.slice none 0 0),(.slice none 0 0),(.slice none 0 0)] rfl (fun j u hj=>H.bx 0 rfl hj) ?_
  replace H:=H.nil (α:=Int×Int×List Int×List Int)
  replace H:=H.nil (α:=Int)
  replace H:=H.nil (α:=Int)
  cases f4
  exact ⟨_,_,rfl,⟨nilH,nilH,nilH,rfl,rfl⟩,(H.sel [2,1,0] rfl).close ⟨cloE,cloE,cloE,trivial⟩⟩
theorem iL (a_:List Int) (a_h:Hd) (b_:List Int) (b_h:Hd) (y:Bool) (hF:tH a_ b_=some y) :
  nA Tryz.prog 27 #[(a_h).v,(b_h).v] [Es (List Int) a_ a_h,Es (List Int) b_ b_h] [] (fun v Γ'=>v=(.bool y)∧Γ'=[]):=by
 intro w0 S0 fp0 hI hS
 have H:Cx w0 fp0 S0 w0 [Es (List Int) a_ a_h,Es (List Int) b_ b_h]:=Cx.start hI hS
 clear hI hS
 refine lA (args:=[_,_]) gok Tryz.func27 rfl _ rfl rfl rfl ?_
 refine sq ?_
 refine kA (H.rs (α:=List Int) 0 rfl).len ?_
 refine kA (H.rs (α:=List Int) 1 rfl).len ?_
 obtain ⟨a3,e,hF4⟩:=aA hF;clear hF
 refine gA e ?_;clear e
 cases a3
 ·
  have hF5:=fA hF4;clear hF4
  obtain ⟨r0,f0,f1⟩:=aA hF5;clear hF5
  refine cut (fun (q0:Unit)=>[]) (fun (q0:Unit) w'=>.inl ()=r0∧Cx w0 fp0 S0 w' []) ?_ ?_
  ·
   refine xC _ (fun (s0:Int) (_:Unit)=>[(0,(a_h).v),(1,(b_h).v),(5,(.int .i64 s0))]) (fun (s0:Int) (_:Unit) w'=>Cx w0 fp0 S0 w' [Es (List Int) a_ a_h,Es (List Int) b_ b_h]) 0 () f0 ⟨rfl,rfl,rfl,trivial⟩ (H.sel [0,1] rfl) ?_
   ·
    clear H
    rintro T0 s0 _ w1 o0 (H:Cx w0 fp0 S0 w1 [Es (List Int) a_ a_h,Es (List Int) b_ b_h]) hrt f2
    refine sq ?_
    refine kA (H.rs (α:=List Int) 0 rfl).len ?_
    obtain ⟨a0,e,f3⟩:=aA f2;clear f2
    refine gA e ?_;clear e
    cases a0
    ·
     have f4:=fA f3;clear f3
     have hs:=Option.some.inj f4;subst hs;clear f4
     have f5:some _=some _:=congrArg some (hrt _ rfl).symm
     exact ⟨(),trivial,Option.some.inj f5,H.sel [] rfl⟩
    ·
     have f6:=eA f3;clear f3
     refine sq ?_
     refine aC H [] (.fst 0 (.fst 1 (.fst 2 (.fst 4 (.fst 5 (.fst 6 (.fst 3 (.fst 7 (.fst 8 .done))))))))) vB [] trivial (by kernel_rfl) ?_
     clear H;intro w2 H
     have hX:Ext w2 w2:=Upd.refl _ _
     have H0:=H
     obtain ⟨a1,e,f7⟩:=aA f6;clear f6
     obtain ⟨p0,m0,c0,c1,c2,c3⟩:=(H.rs (α:=List Int) 0 rfl).at1 e;clear e
     refine dA c0 c1 c2 ?_;clear c0 c1 c2
     obtain ⟨a2,e,f8⟩:=aA f7;clear f7
     obtain ⟨p1,m1,c4,c5,c6,c7⟩:=(H.rs (α:=List Int) 1 rfl).at1 e;clear e
     refine dA c4 c5 c6 ?_;clear c4 c5 c6
     refine uA c3 ?_;clear c3
     refine uA c7 ?_;clear c7
     obtain ⟨a4,e,f9⟩:=aA f8;clear f8
     refine gA e ?_;clear e
     cases a4
     ·
      have f10:=fA f9;clear f9
      obtain ⟨a5,e,f11⟩:=aA f10;clear f10
      refine arO e ?_;clear e
      have hs:=Option.some.inj f11;subst hs;clear f11
      exact ⟨a5,(),rfl,⟨rfl,rfl,rfl,trivial⟩,H.sel [0,1] rfl⟩
     ·
      have f12:=eA f9;clear f9
      have hs:=Option.some.inj f12;subst hs;clear f12
      have f13:some _=some _:=congrArg some (hrt _ rfl).symm
      have hs:=Option.some.inj f13;subst hs;clear f13
      have f14:some _=some _:=f1;clear f1
      cases f14
      exact ⟨_,_,rfl,⟨rfl,rfl⟩,(H.sel [] rfl).close trivial⟩
  ·
   clear f0 H
   rintro T1 _ w3 ⟨hr,(H:Cx w0 fp0 S0 w3 [])⟩
   subst hr
   cases f1
   exact ⟨_,_,rfl,⟨rfl,rfl⟩,(H.sel [] rfl).close trivial⟩
 ·
  have f15:=eA hF4;clear hF4
  cases f15
  exact ⟨_,_,rfl,⟨rfl,rfl⟩,(H.sel [] rfl).close trivial⟩
theorem Cu_ (a__0:Int) (a__1:Int) (a__2:List Int) (a__2h:Hd) (a__3:List Int) (a__3h:Hd) (b__0:Int) (b__1:Int) (b__2:List Int) (b__2h:Hd) (b__3:List Int) (b__3h:Hd) (y:Bool) (hF:kS (a__0,a__1,a__2,a__3) (b__0,b__1,b__2,b__3)=some y) :
  nA Tryz.prog 56 #[(.agg #[(.int .i64 a__0),(.int .i64 a__1),(a__2h).v,(a__3h).v]),(.agg #[(.int .i64 b__0),(.int .i64 b__1),(b__2h).v,(b__3h).v])] [Es (List Int) a__2 a__2h,Es (List Int) a__3 a__3h,Es (List Int) b__2 b__2h,Es (List Int) b__3 b__3h] [] (fun v Γ'=>v=(.bool y)∧Γ'=[]):=by
 intro w0 S0 fp0 hI hS
 have H:Cx w0 fp0 S0 w0 [Es (List Int) a__2 a__2h,Es (List Int) a__3 a__3h,Es (List Int) b__2 b__2h,Es (List Int) b__3 b__3h]:=Cx.start hI hS
 clear hI hS
 refine lA (args:=[_,_]) gok Tryz.func56 rfl _ rfl rfl rfl ?_
 refine jB H ?_;clear H;intro b6 w5 hx H
 clear hx
 refine jB H ?_;clear H;intro b9 w8 hx H
 clear hx
 refine sq ?_
 refine fld gok rfl rfl rfl rfl ?_
 refine cA (H.bx 1 rfl (j:=0) rfl) ?_
 refine fld gok rfl rfl rfl rfl ?_
 refine cA (H.bx 0 rfl (j:=0) rfl) ?_
 obtain ⟨a0,e,f0⟩:=aA hF;clear hF
 refine gA e ?_;clear e
 cases a0
 ·
  have f1:=fA f0;clear f0
  refine sq ?_
  refine fld gok rfl rfl rfl rfl ?_
  refine cA (H.bx 1 rfl (j:=1) rfl) ?_
  refine fld gok rfl rfl rfl rfl ?_
  refine cA (H.bx 0 rfl (j:=1) rfl) ?_
  obtain ⟨a1,e,f2⟩:=aA f1;clear f1
  refine gA e ?_;clear e
  cases a1
  ·
   have f3:=fA f2;clear f2
   refine sq ?_
   refine fld gok rfl rfl rfl rfl ?_
   refine cA (H.bx 1 rfl (j:=2) rfl) ?_
   refine fld gok rfl rfl rfl rfl ?_
   refine cA (H.bx 0 rfl (j:=2) rfl) ?_
   obtain ⟨y0,e,f4⟩:=aA f3;clear f3
   have i0:=e;clear e
   refine iA (iL a__2 a__2h b__2 b__2h y0 i0) (Γi:=[]) H ⟨Vw.sh 2 rfl,Vw.sh 4 rfl,trivial⟩ ?_;clear H i0
   rintro _ _ w1 ⟨rfl,rfl⟩ H
   obtain ⟨a2,e,f5⟩:=aA f4;clear f4
   refine gA e ?_;clear e
   cases a2
   ·
    have f6:=fA f5;clear f5
    refine sq ?_
    refine fld gok rfl rfl rfl rfl ?_
    refine cA (H.bx 1 rfl (j:=3) rfl) ?_
    refine fld gok rfl rfl rfl rfl ?_
    refine cA (H.bx 0 rfl (j:=3) rfl) ?_
    obtain ⟨y1,e,f7⟩:=aA f6;clear f6
    have i1:=e;clear e
    refine iA (iL a__3 a__3h b__3 b__3h y1 i1) (Γi:=[]) H ⟨Vw.sh 3 rfl,Vw.sh 5 rfl,trivial⟩ ?_;clear H i1
    rintro _ _ w2 ⟨rfl,rfl⟩ H
    obtain ⟨a3,e,f8⟩:=aA f7;clear f7
    refine gA e ?_;clear e
    cases a3
    ·
     have f9:=fA f8;clear f8
     cases f9
     exact ⟨_,_,rfl,⟨rfl,rfl⟩,(H.sel [] rfl).close trivial⟩
    ·
     have f10:=eA f8;clear f8
     cases f10
     exact ⟨_,_,rfl,⟨rfl,rfl⟩,(H.sel [] rfl).close trivial⟩
   ·
    have f11:=eA f5;clear f5
    cases f11
    exact ⟨_,_,rfl,⟨rfl,rfl⟩,(H.sel [] rfl).close trivial⟩
  ·
   have f12:=eA f2;clear f2
   cases f12
   exact ⟨_,_,rfl,⟨rfl,rfl⟩,(H.sel [] rfl).close trivial⟩
 ·
  have f13:=eA f0;clear f0
  cases f13
  exact ⟨_,_,rfl,⟨rfl,rfl⟩,(H.sel [] rfl).close trivial⟩
theorem Cb_ (a_:List (Int×Int×List Int×List Int)) (a_h:Hd) (b_:List (Int×Int×List Int×List Int)) (b_h:Hd) (y:Bool) (hF:yR a_ b_=some y) :
  nA Tryz.prog 26 #[(a_h).v,(b_h).v] [Es (List (Int×Int×List Int×List Int)) a_ a_h,Es (List (Int×Int×List Int×List Int)) b_ b_h] [] (fun v Γ'=>v=(.bool y)∧Γ'=[]):=by
 intro w0 S0 fp0 hI hS
 have H:Cx w0 fp0 S0 w0 [Es (List (Int×Int×List Int×List Int)) a_ a_h,Es (List (Int×Int×List Int×List Int)) b_ b_h]:=Cx.start hI hS
 clear hI hS
 refine lA (args:=[_,_]) gok Tryz.func26 rfl _ rfl rfl rfl ?_
 refine sq ?_
 refine kA (H.rs (α:=List (Int×Int×List Int×List Int)) 0 rfl).len ?_
 refine kA (H.rs (α:=List (Int×Int×List Int×List Int)) 1 rfl).len ?_
 obtain ⟨a3,e,hF4⟩:=aA hF;clear hF
 refine gA e ?_;clear e
 cases a3
 ·
  have hF5:=fA hF4;clear hF4
  obtain ⟨r0,f0,f1⟩:=aA hF5;clear hF5
  refine cut (fun (q0:Unit)=>[]) (fun (q0:Unit) w'=>.inl ()=r0∧Cx w0 fp0 S0 w' []) ?_ ?_
  ·
   refine xC _ (fun (s0:Int) (_:Unit)=>[(0,(a_h).v),(1,(b_h).v),(5,(.int .i64 s0))]) (fun (s0:Int) (_:Unit) w'=>Cx w0 fp0 S0 w' [Es (List (Int×Int×List Int×List Int)) a_ a_h,Es (List (Int×Int×List Int×List Int)) b_ b_h]) 0 () f0 ⟨rfl,rfl,rfl,trivial⟩ (H.sel [0,1] rfl) ?_
   ·
    clear H
    rintro T0 s0 _ w1 o0 (H:Cx w0 fp0 S0 w1 [Es (List (Int×Int×List Int×List Int)) a_ a_h,Es (List (Int×Int×List Int×List Int)) b_ b_h]) hrt f2
    refine sq ?_
    refine kA (H.rs (α:=List (Int×Int×List Int×List Int)) 0 rfl).len ?_
    obtain ⟨a0,e,f3⟩:=aA f2;clear f2
    refine gA e ?_;clear e
    cases a0
    ·
     have f4:=fA f3;clear f3
     have hs:=Option.some.inj f4;subst hs;clear f4
     have f5:some _=some _:=congrArg some (hrt _ rfl).symm
     exact ⟨(),trivial,Option.some.inj f5,H.sel [] rfl⟩
    ·
     have f6:=eA f3;clear f3
     refine sq ?_
     refine aC H [] (.fst 0 (.fst 1 (.fst 2 (.fst 4 (.fst 5 (.fst 6 (.fst 3 (.fst 7 (.act 8 (.fst 9 .done)))))))))) vB [] trivial (by kernel_rfl) ?_
     clear H;intro w2 H
     have hX:Ext w2 w2:=Upd.refl _ _
     have H0:=H
     obtain ⟨a1,e,f7⟩:=aA f6;clear f6
     have HH:=H;clear H;obtain ⟨p0,m0,g0,c0,c1,c2,c3,H⟩:=HH.el (α:=Int×Int×List Int×List Int) 0 rfl e;clear HH
     clear e
     obtain ⟨a1_0,a1_1,a1_2,a1_3⟩:=a1
     obtain ⟨_,_,h0,h1⟩:=g0
     replace H:=H.part (β:=List Int) a1_2 (h0:Hd) 0 rfl (fun S h=>(And.left (And.right (And.right h))))
     replace H:=H.part (β:=List Int) a1_3 (h1:Hd) 1 rfl (fun S h=>(And.right (And.right (And.right h))))
     replace H:=H.sel [0,1,3,4] rfl
     refine dA c0 c1 c2 ?_;clear c0 c1 c2
     obtain ⟨a2,e,f8⟩:=aA f7;clear f7
     have HH:=H;clear H;obtain ⟨p1,m1,g1,c4,c5,c6,c7,H⟩:=HH.el (α:=Int×Int×List Int×List Int) 3 rfl e;clear HH
     clear e
     obtain ⟨a2_0,a2_1,a2_2,a2_3⟩:=a2
     obtain ⟨_,_,h2,h3⟩:=g1
     replace H:=H.part (β:=List Int) a2_2 (h2:Hd) 0 rfl (fun S h=>(And.left (And.right (And.right h))))
     replace H:=H.part (β:=List Int) a2_3 (h3:Hd) 1 rfl (fun S h=>(And.right (And.right (And.right h))))
     replace H:=H.sel [0,1,3,4,5,6] rfl
     refine dA c4 c5 c6 ?_;clear c4 c5 c6
     refine eF [(.int .i64 a1_0),(.int .i64 a1_1),(h0).v,(h1).v] rfl c3 ?_;clear c3
     refine eF [(.int .i64 a2_0),(.int .i64 a2_1),(h2).v,(h3).v] rfl c7 ?_;clear c7
     obtain ⟨y0,e,f9⟩:=aA f8;clear f8
     have i0:=e;clear e
     refine eB (Cu_ a1_0 a1_1 a1_2 h0 a1_3 h1 a2_0 a2_1 a2_2 h2 a2_3 h3 y0 i0) H ⟨Vw.sh 3 rfl,Vw.sh 2 rfl,Vw.sh 1 rfl,Vw.sh 0 rfl,trivial⟩ ?_;clear H i0
     rintro _ _ w3 ⟨rfl,rfl⟩ hx H
     replace hX:=hX.trans0 hx;clear hx
     refine hold hX ?_
     obtain ⟨a4,e,f10⟩:=aA f9;clear f9
     refine gA e ?_;clear e
     cases a4
     ·
      have f11:=fA f10;clear f10
      obtain ⟨a5,e,f12⟩:=aA f11;clear f11
      refine arO e ?_;clear e
      have hs:=Option.some.inj f12;subst hs;clear f12
      exact ⟨a5,(),rfl,⟨rfl,rfl,rfl,trivial⟩,H.sel [4,5] rfl⟩
     ·
      have f13:=eA f10;clear f10
      have hs:=Option.some.inj f13;subst hs;clear f13
      have f14:some _=some _:=congrArg some (hrt _ rfl).symm
      have hs:=Option.some.inj f14;subst hs;clear f14
      have f15:some _=some _:=f1;clear f1
      cases f15
      exact ⟨_,_,rfl,⟨rfl,rfl⟩,(H.sel [] rfl).close trivial⟩
  ·
   clear f0 H
   rintro T1 _ w4 ⟨hr,(H:Cx w0 fp0 S0 w4 [])⟩
   subst hr
   cases f1
   exact ⟨_,_,rfl,⟨rfl,rfl⟩,(H.sel [] rfl).close trivial⟩
 ·
  have f16:=eA hF4;clear hF4
  cases f16
  exact ⟨_,_,rfl,⟨rfl,rfl⟩,(H.sel [] rfl).close trivial⟩
theorem xR (a__0:Int) (a__1:List (Int×Int×List Int×List Int)) (a__1h:Hd) (a__2:List Int) (a__2h:Hd) (a__3:List Int) (a__3h:Hd) (b__0:Int) (b__1:List (Int×Int×List Int×List Int)) (b__1h:Hd) (b__2:List Int) (b__2h:Hd) (b__3:List Int) (b__3h:Hd) (y:Bool) (hF:fL (a__0,a__1,a__2,a__3) (b__0,b__1,b__2,b__3)=some y) :
  nA Tryz.prog 9 #[(.agg #[(.int .i64 a__0),(a__1h).v,(a__2h).v,(a__3h).v]),(.agg #[(.int .i64 b__0),(b__1h).v,(b__2h).v,(b__3h).v])] [Es (List (Int×Int×List Int×List Int)) a__1 a__1h,Es (List Int) a__2 a__2h,Es (List Int) a__3 a__3h,Es (List (Int×Int×List Int×List Int)) b__1 b__1h,Es (List Int) b__2 b__2h,Es (List Int) b__3 b__3h] [] (fun v Γ'=>v=(.bool y)∧Γ'=[]):=by
 intro w0 S0 fp0 hI hS
 have H:Cx w0 fp0 S0 w0 [Es (List (Int×Int×List Int×List Int)) a__1 a__1h,Es (List Int) a__2 a__2h,Es (List Int) a__3 a__3h,Es (List (Int×Int×List Int×List Int)) b__1 b__1h,Es (List Int) b__2 b__2h,Es (List Int) b__3 b__3h]:=Cx.start hI hS
 clear hI hS
 refine lA (args:=[_,_]) gok Tryz.func9 rfl _ rfl rfl rfl ?_
 refine jB H ?_;clear H;intro b8 w7 hx H
 clear hx
 refine jB H ?_;clear H;intro b0 w1 hx H
 clear hx
 refine sq ?_
 refine fld gok rfl rfl rfl rfl ?_
 refine cA (H.bx 1 rfl (j:=0) rfl) ?_
 refine fld gok rfl rfl rfl rfl ?_
 refine cA (H.bx 0 rfl (j:=0) rfl) ?_
 obtain ⟨a0,e,f0⟩:=aA hF;clear hF
 refine gA e ?_;clear e
 cases a0
 ·
  have f1:=fA f0;clear f0
  refine sq ?_
  refine fld gok rfl rfl rfl rfl ?_
  refine cA (H.bx 1 rfl (j:=1) rfl) ?_
  refine fld gok rfl rfl rfl rfl ?_
  refine cA (H.bx 0 rfl (j:=1) rfl) ?_
  obtain ⟨y0,e,f2⟩:=aA f1;clear f1
  have i0:=e;clear e
  refine iA (Cb_ a__1 a__1h b__1 b__1h y0 i0) (Γi:=[]) H ⟨Vw.sh 2 rfl,Vw.sh 5 rfl,trivial⟩ ?_;clear H i0
  rintro _ _ w2 ⟨rfl,rfl⟩ H
  obtain ⟨a1,e,f3⟩:=aA f2;clear f2
  refine gA e ?_;clear e
  cases a1
  ·
   have f4:=fA f3;clear f3
   refine sq ?_
   refine fld gok rfl rfl rfl rfl ?_
   refine cA (H.bx 1 rfl (j:=2) rfl) ?_
   refine fld gok rfl rfl rfl rfl ?_
   refine cA (H.bx 0 rfl (j:=2) rfl) ?_
   obtain ⟨y1,e,f5⟩:=aA f4;clear f4
   have i1:=e;clear e
   refine iA (iL a__2 a__2h b__2 b__2h y1 i1) (Γi:=[]) H ⟨Vw.sh 3 rfl,Vw.sh 6 rfl,trivial⟩ ?_;clear H i1
   rintro _ _ w3 ⟨rfl,rfl⟩ H
   obtain ⟨a2,e,f6⟩:=aA f5;clear f5
   refine gA e ?_;clear e
   cases a2
   ·
    have f7:=fA f6;clear f6
    refine sq ?_
    refine fld gok rfl rfl rfl rfl ?_
    refine cA (H.bx 1 rfl (j:=3) rfl) ?_
    refine fld gok rfl rfl rfl rfl ?_
    refine cA (H.bx 0 rfl (j:=3) rfl) ?_
    obtain ⟨y2,e,f8⟩:=aA f7;clear f7
    have i2:=e;clear e
    refine iA (iL a__3 a__3h b__3 b__3h y2 i2) (Γi:=[]) H ⟨Vw.sh 4 rfl,Vw.sh 7 rfl,trivial⟩ ?_;clear H i2
    rintro _ _ w4 ⟨rfl,rfl⟩ H
    obtain ⟨a3,e,f9⟩:=aA f8;clear f8
    refine gA e ?_;clear e
    cases a3
    ·
     have f10:=fA f9;clear f9
     cases f10
     exact ⟨_,_,rfl,⟨rfl,rfl⟩,(H.sel [] rfl).close trivial⟩
    ·
     have f11:=eA f9;clear f9
     cases f11
     exact ⟨_,_,rfl,⟨rfl,rfl⟩,(H.sel [] rfl).close trivial⟩
   ·
    have f12:=eA f6;clear f6
    cases f12
    exact ⟨_,_,rfl,⟨rfl,rfl⟩,(H.sel [] rfl).close trivial⟩
  ·
   have f13:=eA f3;clear f3
   cases f13
   exact ⟨_,_,rfl,⟨rfl,rfl⟩,(H.sel [] rfl).close trivial⟩
 ·
  have f14:=eA f0;clear f0
  cases f14
  exact ⟨_,_,rfl,⟨rfl,rfl⟩,(H.sel [] rfl).close trivial⟩
theorem Ca_ (a_:List (List Int)) (a_h:Hd) (b_:List (List Int)) (b_h:Hd) (y:Bool) (hF:eL a_ b_=some y) :
  nA Tryz.prog 28 #[(a_h).v,(b_h).v] [Es (List (List Int)) a_ a_h,Es (List (List Int)) b_ b_h] [] (fun v Γ'=>v=(.bool y)∧Γ'=[]):=by
 intro w0 S0 fp0 hI hS
 have H:Cx w0 fp0 S0 w0 [Es (List (List Int)) a_ a_h,Es (List (List Int)) b_ b_h]:=Cx.start hI hS
 clear hI hS
 refine lA (args:=[_,_]) gok Tryz.func28 rfl _ rfl rfl rfl ?_
 refine sq ?_
 refine kA (H.rs (α:=List (List Int)) 0 rfl).len ?_
 refine kA (H.rs (α:=List (List Int)) 1 rfl).len ?_
 obtain ⟨a3,e,hF4⟩:=aA hF;clear hF
 refine gA e ?_;clear e
 cases a3
 ·
  have hF5:=fA hF4;clear hF4
  obtain ⟨r0,f0,f1⟩:=aA hF5;clear hF5
  refine cut (fun (q0:Unit)=>[]) (fun (q0:Unit) w'=>.inl ()=r0∧Cx w0 fp0 S0 w' []) ?_ ?_
  ·
   refine xC _ (fun (s0:Int) (_:Unit)=>[(0,(a_h).v),(1,(b_h).v),(5,(.int .i64 s0))]) (fun (s0:Int) (_:Unit) w'=>Cx w0 fp0 S0 w' [Es (List (List Int)) a_ a_h,Es (List (List Int)) b_ b_h]) 0 () f0 ⟨rfl,rfl,rfl,trivial⟩ (H.sel [0,1] rfl) ?_
   ·
    clear H
    rintro T0 s0 _ w1 o0 (H:Cx w0 fp0 S0 w1 [Es (List (List Int)) a_ a_h,Es (List (List Int)) b_ b_h]) hrt f2
    refine sq ?_
    refine kA (H.rs (α:=List (List Int)) 0 rfl).len ?_
    obtain ⟨a0,e,f3⟩:=aA f2;clear f2
    refine gA e ?_;clear e
    cases a0
    ·
     have f4:=fA f3;clear f3
     have hs:=Option.some.inj f4;subst hs;clear f4
     have f5:some _=some _:=congrArg some (hrt _ rfl).symm
     exact ⟨(),trivial,Option.some.inj f5,H.sel [] rfl⟩
    ·
     have f6:=eA f3;clear f3
     refine sq ?_
     refine aC H [] (.fst 0 (.fst 1 (.fst 2 (.fst 4 (.fst 5 (.fst 6 (.fst 3 (.fst 7 (.act 8 (.fst 9 .done)))))))))) vB [] trivial (by kernel_rfl) ?_
     clear H;intro w2 H
     have hX:Ext w2 w2:=Upd.refl _ _
     have H0:=H
     obtain ⟨a1,e,f7⟩:=aA f6;clear f6
     have HH:=H;clear H;obtain ⟨p0,m0,h0,c0,c1,c2,c3,H⟩:=HH.elL 0 rfl e;clear HH
     clear e
     refine dA c0 c1 c2 ?_;clear c0 c1 c2
     obtain ⟨a2,e,f8⟩:=aA f7;clear f7
     have HH:=H;clear H;obtain ⟨p1,m1,h1,c4,c5,c6,c7,H⟩:=HH.elL 2 rfl e;clear HH
     clear e
     refine dA c4 c5 c6 ?_;clear c4 c5 c6
     refine uA c3 ?_;clear c3
     refine uA c7 ?_;clear c7
     obtain ⟨y0,e,f9⟩:=aA f8;clear f8
     have i0:=e;clear e
     refine eB (iL a1 h0 a2 h1 y0 i0) H ⟨Vw.sh 1 rfl,Vw.sh 0 rfl,trivial⟩ ?_;clear H i0
     rintro _ _ w3 ⟨rfl,rfl⟩ hx H
     replace hX:=hX.trans0 hx;clear hx
     refine hold hX ?_
     obtain ⟨a4,e,f10⟩:=aA f9;clear f9
     refine gA e ?_;clear e
     cases a4
     ·
      have f11:=fA f10;clear f10
      obtain ⟨a5,e,f12⟩:=aA f11;clear f11
      refine arO e ?_;clear e
      have hs:=Option.some.inj f12;subst hs;clear f12
      exact ⟨a5,(),rfl,⟨rfl,rfl,rfl,trivial⟩,H.sel [2,3] rfl⟩
     ·
      have f13:=eA f10;clear f10
      have hs:=Option.some.inj f13;subst hs;clear f13
      have f14:some _=some _:=congrArg some (hrt _ rfl).symm
      have hs:=Option.some.inj f14;subst hs;clear f14
      have f15:some _=some _:=f1;clear f1
      cases f15
      exact ⟨_,_,rfl,⟨rfl,rfl⟩,(H.sel [] rfl).close trivial⟩
  ·
   clear f0 H
   rintro T1 _ w4 ⟨hr,(H:Cx w0 fp0 S0 w4 [])⟩
   subst hr
   cases f1
   exact ⟨_,_,rfl,⟨rfl,rfl⟩,(H.sel [] rfl).close trivial⟩
 ·
  have f16:=eA hF4;clear hF4
  cases f16
  exact ⟨_,_,rfl,⟨rfl,rfl⟩,(H.sel [] rfl).close trivial⟩
theorem BI_ (a__0:Int) (a__1:Int) (a__2:List (List Int)) (a__2h:Hd) (b__0:Int) (b__1:Int) (b__2:List (List Int)) (b__2h:Hd) (y:Bool) (hF:gR (a__0,a__1,a__2) (b__0,b__1,b__2)=some y) :
  nA Tryz.prog 10 #[(.agg #[(.int .i64 a__0),(.int .i64 a__1),(a__2h).v]),(.agg #[(.int .i64 b__0),(.int .i64 b__1),(b__2h).v])] [Es (List (List Int)) a__2 a__2h,Es (List (List Int)) b__2 b__2h] [] (fun v Γ'=>v=(.bool y)∧Γ'=[]):=by
 intro w0 S0 fp0 hI hS
 have H:Cx w0 fp0 S0 w0 [Es (List (List Int)) a__2 a__2h,Es (List (List Int)) b__2 b__2h]:=Cx.start hI hS
 clear hI hS
 refine lA (args:=[_,_]) gok Tryz.func10 rfl _ rfl rfl rfl ?_
 refine jB H ?_;clear H;intro b4 w3 hx H
 clear hx
 refine jB H ?_;clear H;intro b7 w6 hx H
 clear hx
 refine sq ?_
 refine fld gok rfl rfl rfl rfl ?_
 refine cA (H.bx 1 rfl (j:=0) rfl) ?_
 refine fld gok rfl rfl rfl rfl ?_
 refine cA (H.bx 0 rfl (j:=0) rfl) ?_
 obtain ⟨a9,e,f0⟩:=aA hF;clear hF
 refine gA e ?_;clear e
 cases a9
 ·
  have f1:=fA f0;clear f0
  refine sq ?_
  refine fld gok rfl rfl rfl rfl ?_
  refine cA (H.bx 1 rfl (j:=1) rfl) ?_
  refine fld gok rfl rfl rfl rfl ?_
  refine cA (H.bx 0 rfl (j:=1) rfl) ?_
  obtain ⟨a0,e,f2⟩:=aA f1;clear f1
  refine gA e ?_;clear e
  cases a0
  ·
   have f3:=fA f2;clear f2
   refine sq ?_
   refine fld gok rfl rfl rfl rfl ?_
   refine cA (H.bx 1 rfl (j:=2) rfl) ?_
   refine fld gok rfl rfl rfl rfl ?_
   refine cA (H.bx 0 rfl (j:=2) rfl) ?_
   obtain ⟨y0,e,f4⟩:=aA f3;clear f3
   have i0:=e;clear e
   refine iA (Ca_ a__2 a__2h b__2 b__2h y0 i0) (Γi:=[]) H ⟨Vw.sh 2 rfl,Vw.sh 3 rfl,trivial⟩ ?_;clear H i0
   rintro _ _ w1 ⟨rfl,rfl⟩ H
   obtain ⟨a1,e,f5⟩:=aA f4;clear f4
   refine gA e ?_;clear e
   cases a1
   ·
    have f6:=fA f5;clear f5
    cases f6
    exact ⟨_,_,rfl,⟨rfl,rfl⟩,(H.sel [] rfl).close trivial⟩
   ·
    have f7:=eA f5;clear f5
    cases f7
    exact ⟨_,_,rfl,⟨rfl,rfl⟩,(H.sel [] rfl).close trivial⟩
  ·
   have f8:=eA f2;clear f2
   cases f8
   exact ⟨_,_,rfl,⟨rfl,rfl⟩,(H.sel [] rfl).close trivial⟩
 ·
  have f9:=eA f0;clear f0
  cases f9
  exact ⟨_,_,rfl,⟨rfl,rfl⟩,(H.sel [] rfl).close trivial⟩
theorem cL (a_:List Int) (a_h:Hd) (k_:Int) (y0:List Int) (y1:Int) (hF:rH a_ k_=some (y0,y1)) :
  nA Tryz.prog 31 #[(a_h).v,(.int .i64 k_)] [] [E (List Int) a_ a_h] (fun v Γ'=>v=(.int .i64 y1)∧Γ'=[E (List Int) y0 a_h]):=by
 intro w0 S0 fp0 hI hS
 have H:Cx w0 fp0 S0 w0 [E (List Int) a_ a_h]:=Cx.start hI hS
 clear hI hS
 refine lA (args:=[_,_]) gok Tryz.func31 rfl _ rfl rfl rfl ?_
 obtain ⟨r0,f0,f1⟩:=aA hF;clear hF
 refine cut (fun (q0:List Int×Int)=>[(1,(.int .i64 q0.2))]) (fun (q0:List Int×Int) w'=>(q0.1,q0.2)=r0∧Cx w0 fp0 S0 w' [E (List Int) q0.1 a_h]) ?_ ?_
 ·
  refine xC _ (fun (s0:List Int×Int×Int) (_:Unit)=>[(0,(a_h).v),(1,(.int .i64 s0.2.1)),(5,(.int .i64 s0.2.2))]) (fun (s0:List Int×Int×Int) (_:Unit) w'=>Cx w0 fp0 S0 w' [E (List Int) s0.1 a_h]) (a_,k_,0) () f0 ⟨rfl,rfl,rfl,trivial⟩ (H.sel [0] rfl) ?_
  ·
   clear H
   rintro T0 ⟨s0_0,s0_1,s0_2⟩ _ w1 o0 (H:Cx w0 fp0 S0 w1 [E (List Int) s0_0 a_h]) hrt f2
   refine sq ?_
   refine kA (H.ro (α:=List Int) 0 rfl).len ?_
   obtain ⟨a0,e,f3⟩:=aA f2;clear f2
   refine gA e ?_;clear e
   cases a0
   ·
    have f4:=fA f3;clear f3
    have hs:=Option.some.inj f4;subst hs;clear f4
    have f5:some _=some _:=congrArg some (hrt _ rfl).symm
    exact ⟨(s0_0,s0_1),⟨rfl,trivial⟩,Option.some.inj f5,H.sel [0] rfl⟩
   ·
    have f6:=eA f3;clear f3
    refine sq ?_
    obtain ⟨a1,e,f7⟩:=aA f6;clear f6
    have i0:=e;clear e
    obtain ⟨p0,m0,c0,c1,c2⟩:=(H.ro (α:=List Int) 0 rfl).setp i0
    refine dA c0 c1 c2 ?_
    refine gC (α:=Int) H c0 c1 i0 ?_;clear H c0 c1 c2 i0;intro w2 H
    obtain ⟨a2,e,f8⟩:=aA f7;clear f7
    refine arO e ?_;clear e
    obtain ⟨a3,e,f9⟩:=aA f8;clear f8
    refine arO e ?_;clear e
    have hs:=Option.some.inj f9;subst hs;clear f9
    exact ⟨(a1,a2,a3),(),rfl,⟨rfl,rfl,rfl,trivial⟩,H.sel [0] rfl⟩
 ·
  clear f0 H
  rintro T1 ⟨s1_0,s1_1⟩ w3 ⟨hr,(H:Cx w0 fp0 S0 w3 [E (List Int) s1_0 a_h])⟩
  subst hr
  cases f1
  exact ⟨_,_,rfl,⟨rfl,rfl⟩,(H.sel [0] rfl).close ⟨cloE,trivial⟩⟩
theorem BP_ (a_:List (List Int)) (a_h:Hd) (k_:Int) (y0:List (List Int)) (y1:Int) (hF:cN a_ k_=some (y0,y1)) :
  nA Tryz.prog 29 #[(a_h).v,(.int .i64 k_)] [] [E (List (List Int)) a_ a_h] (fun v Γ'=>v=(.int .i64 y1)∧Γ'=[E (List (List Int)) y0 a_h]):=by
 intro w0 S0 fp0 hI hS
 have H:Cx w0 fp0 S0 w0 [E (List (List Int)) a_ a_h]:=Cx.start hI hS
 clear hI hS
 refine lA (args:=[_,_]) gok Tryz.func29 rfl _ rfl rfl rfl ?_
 obtain ⟨r0,f0,f1⟩:=aA hF;clear hF
 refine cut (fun (q0:List (List Int)×Int)=>[(1,(.int .i64 q0.2))]) (fun (q0:List (List Int)×Int) w'=>(q0.1,q0.2)=r0∧Cx w0 fp0 S0 w' [E (List (List Int)) q0.1 a_h]) ?_ ?_
 ·
  refine xC _ (fun (s0:List (List Int)×Int×Int) (_:Unit)=>[(0,(a_h).v),(1,(.int .i64 s0.2.1)),(5,(.int .i64 s0.2.2))]) (fun (s0:List (List Int)×Int×Int) (_:Unit) w'=>Cx w0 fp0 S0 w' [E (List (List Int)) s0.1 a_h]) (a_,k_,0) () f0 ⟨rfl,rfl,rfl,trivial⟩ (H.sel [0] rfl) ?_
  ·
   clear H
   rintro T0 ⟨s0_0,s0_1,s0_2⟩ _ w1 o0 (H:Cx w0 fp0 S0 w1 [E (List (List Int)) s0_0 a_h]) hrt f2
   refine sq ?_
   refine kA (H.ro (α:=List (List Int)) 0 rfl).len ?_
   obtain ⟨a0,e,f3⟩:=aA f2;clear f2
   refine gA e ?_;clear e
   cases a0
   ·
    have f4:=fA f3;clear f3
    have hs:=Option.some.inj f4;subst hs;clear f4
    have f5:some _=some _:=congrArg some (hrt _ rfl).symm
    exact ⟨(s0_0,s0_1),⟨rfl,trivial⟩,Option.some.inj f5,H.sel [0] rfl⟩
   ·
    have f6:=eA f3;clear f3
    refine sq ?_
    obtain ⟨a1,e,f7⟩:=aA f6;clear f6
    replace H:=H.toEH (α:=List Int)
    have HH:=H;clear H;obtain ⟨p0,m0,h0,c0,c1,c2,c3,H⟩:=HH.peekL e;clear HH
    clear e
    refine dA c0 c1 c2 ?_
    refine cA c3 ?_;clear c3
    obtain ⟨y2,e,f8⟩:=aA f7;clear f7
    obtain ⟨y2_0,y2_1⟩:=y2
    have i0:=e;clear e
    replace H:=H.takeK 0 rfl
    refine iA (cL a1 h0 s0_1 y2_0 y2_1 i0) (Γi:=[E (List Int) a1 h0]) H trivial ?_;clear H i0
    rintro _ _ w2 ⟨rfl,rfl⟩ H
    obtain ⟨a2,e,f9⟩:=aA f8;clear f8
    replace H:=H.put c1 e;clear e
    obtain ⟨a3,e,f10⟩:=aA f9;clear f9
    refine arO e ?_;clear e
    have hs:=Option.some.inj f10;subst hs;clear f10
    exact ⟨(a2,y2_1,a3),(),rfl,⟨rfl,rfl,rfl,trivial⟩,H.sel [0] rfl⟩
 ·
  clear f0 H
  rintro T1 ⟨s1_0,s1_1⟩ w3 ⟨hr,(H:Cx w0 fp0 S0 w3 [E (List (List Int)) s1_0 a_h])⟩
  subst hr
  cases f1
  exact ⟨_,_,rfl,⟨rfl,rfl⟩,(H.sel [0] rfl).close ⟨cloE,trivial⟩⟩
theorem Br_ (a__0:Int) (a__1:Int) (a__2:List (List Int)) (a__2h:Hd) (k_:Int) (y0_0:Int) (y0_1:Int) (y0_2:List (List Int)) (y1:Int) (hF:uQ (a__0,a__1,a__2) k_=some ((y0_0,y0_1,y0_2),y1)) :
  nA Tryz.prog 11 #[(.agg #[(.int .i64 a__0),(.int .i64 a__1),(a__2h).v]),(.int .i64 k_)] [] [E (List (List Int)) a__2 a__2h] (fun v Γ'=>v=(.int .i64 y1)∧Γ'=[E (List (List Int)) y0_2 a__2h]):=by
 intro w0 S0 fp0 hI hS
 have H:Cx w0 fp0 S0 w0 [E (List (List Int)) a__2 a__2h]:=Cx.start hI hS
 clear hI hS
 refine lA (args:=[_,_]) gok Tryz.func11 rfl _ rfl rfl rfl ?_
 refine jB H ?_;clear H;intro b3 w2 hx H
 clear hx
 refine fld gok rfl rfl rfl rfl ?_
 refine cA (H.bx 0 rfl (j:=2) rfl) ?_
 obtain ⟨y5,e,hF6⟩:=aA hF;clear hF
 obtain ⟨y5_0,y5_1⟩:=y5
 have ey5:=e;clear e
 replace H:=H.sel [1,0] rfl
 refine iA (BP_ a__2 a__2h k_ y5_0 y5_1 ey5) (Γi:=[E (List (List Int)) a__2 a__2h]) H trivial ?_;clear H ey5
 rintro _ _ w7 ⟨rfl,rfl⟩ H
 cases hF6
 exact ⟨_,_,rfl,⟨rfl,rfl⟩,(H.sel [0] rfl).close ⟨cloE,trivial⟩⟩
theorem BR_ (a_:List (Int×Int×List Int×List Int)) (a_h:Hd) (k_:Int) (y0:List (Int×Int×List Int×List Int)) (y1:Int) (hF:pR a_ k_=some (y0,y1)) :
  nA Tryz.prog 30 #[(a_h).v,(.int .i64 k_)] [] [E (List (Int×Int×List Int×List Int)) a_ a_h] (fun v Γ'=>v=(.int .i64 y1)∧Γ'=[E (List (Int×Int×List Int×List Int)) y0 a_h]):=by
 intro w0 S0 fp0 hI hS
 have H:Cx w0 fp0 S0 w0 [E (List (Int×Int×List Int×List Int)) a_ a_h]:=Cx.start hI hS
 clear hI hS
 refine lA (args:=[_,_]) gok Tryz.func30 rfl _ rfl rfl rfl ?_
 obtain ⟨r0,f0,f1⟩:=aA hF;clear hF
 refine cut (fun (q0:(List (Int×Int×List Int×List Int))×Int)=>[(1,(.int .i64 q0.2))]) (fun (q0:(List (Int×Int×List Int×List Int))×Int) w'=>(q0.1,q0.2)=r0∧Cx w0 fp0 S0 w' [E (List (Int×Int×List Int×List Int)) q0.1 a_h]) ?_ ?_
 ·
  refine xC _ (fun (s0:(List (Int×Int×List Int×List Int))×Int×Int) (_:Unit)=>[(0,(a_h).v),(1,(.int .i64 s0.2.1)),(5,(.int .i64 s0.2.2))]) (fun (s0:(List (Int×Int×List Int×List Int))×Int×Int) (_:Unit) w'=>Cx w0 fp0 S0 w' [E (List (Int×Int×List Int×List Int)) s0.1 a_h]) (a_,k_,0) () f0 ⟨rfl,rfl,rfl,trivial⟩ (H.sel [0] rfl) ?_
  ·
   clear H
   rintro T0 ⟨s0_0,s0_1,s0_2⟩ _ w1 o0 (H:Cx w0 fp0 S0 w1 [E (List (Int×Int×List Int×List Int)) s0_0 a_h]) hrt f2
   refine sq ?_
   refine kA (H.ro (α:=List (Int×Int×List Int×List Int)) 0 rfl).len ?_
   obtain ⟨a0,e,f3⟩:=aA f2;clear f2
   refine gA e ?_;clear e
   cases a0
   ·
    have f4:=fA f3;clear f3
    have hs:=Option.some.inj f4;subst hs;clear f4
    have f5:some _=some _:=congrArg some (hrt _ rfl).symm
    exact ⟨(s0_0,s0_1),⟨rfl,trivial⟩,Option.some.inj f5,H.sel [0] rfl⟩
   ·
    have f6:=eA f3;clear f3
    refine sq ?_
    obtain ⟨a1,e,f7⟩:=aA f6;clear f6
    replace H:=H.toEH (α:=Int×Int×List Int×List Int)
    have HH:=H;clear H;obtain ⟨p0,m0,g0,c0,c1,c2,c3,H⟩:=HH.peek e;clear HH
    clear e
    obtain ⟨a1_0,a1_1,a1_2,a1_3⟩:=a1
    obtain ⟨_,_,h0,h1⟩:=g0
    refine dA c0 c1 c2 ?_
    refine fld gok rfl rfl rfl rfl ?_
    replace H:=H.takeK 0 rfl
    replace H:=H.sel [1,0] rfl
    refine stX (α:=Int×Int×List Int×List Int) (j:=0) H c0 rfl rfl ?_;clear H;intro w2 H
    replace H:=H.sel [1,0] rfl
    replace H:=H.split
    replace H:=H.sel [1,2] rfl
    replace H:=H.split
    replace H:=H.sel [1,2] rfl
    replace H:=H.split
    replace H:=H.join (α:=List Int) (β:=List Int)
    replace H:=H.sc (α:=Int) a1_1
    replace H:=H.join (α:=Int) (β:=List Int×List Int)
    replace H:=H.sc (α:=Int) s0_1
    replace H:=H.join (α:=Int) (β:=Int×List Int×List Int)
    obtain ⟨a2,e,f8⟩:=aA f7;clear f7
    replace H:=H.put c1 e;clear e
    obtain ⟨a3,e,f9⟩:=aA f8;clear f8
    refine arO e ?_;clear e
    obtain ⟨a4,e,f10⟩:=aA f9;clear f9
    replace H:=H.toEH (α:=Int×Int×List Int×List Int)
    have HH:=H;clear H;obtain ⟨p1,m1,g1,c4,c5,c6,c7,H⟩:=HH.peek e;clear HH
    clear e
    obtain ⟨a4_0,a4_1,a4_2,a4_3⟩:=a4
    obtain ⟨_,_,h2,h3⟩:=g1
    refine dA c4 c5 c6 ?_
    refine fld gok rfl rfl rfl rfl ?_
    replace H:=H.takeK 0 rfl
    replace H:=H.sel [1,0] rfl
    refine stX (α:=Int×Int×List Int×List Int) (j:=1) H c4 rfl rfl ?_;clear H;intro w3 H
    replace H:=H.sel [1,0] rfl
    replace H:=H.split
    replace H:=H.sel [1,2] rfl
    replace H:=H.split
    replace H:=H.sel [1,2] rfl
    replace H:=H.split
    replace H:=H.join (α:=List Int) (β:=List Int)
    replace H:=H.sc (α:=Int) a3
    replace H:=H.join (α:=Int) (β:=List Int×List Int)
    replace H:=H.sc (α:=Int) a4_0
    replace H:=H.join (α:=Int) (β:=Int×List Int×List Int)
    obtain ⟨a5,e,f11⟩:=aA f10;clear f10
    replace H:=H.put c5 e;clear e
    obtain ⟨a6,e,f12⟩:=aA f11;clear f11
    refine arO e ?_;clear e
    obtain ⟨a7,e,f13⟩:=aA f12;clear f12
    replace H:=H.toEH (α:=Int×Int×List Int×List Int)
    have HH:=H;clear H;obtain ⟨p2,m2,g2,c8,c9,c10,c11,H⟩:=HH.peek e;clear HH
    clear e
    obtain ⟨a7_0,a7_1,a7_2,a7_3⟩:=a7
    obtain ⟨_,_,h4,h5⟩:=g2
    refine dA c8 c9 c10 ?_
    refine fld gok rfl rfl rfl rfl ?_
    refine cA (c11 2 _ rfl) ?_
    obtain ⟨y2,e,f14⟩:=aA f13;clear f13
    obtain ⟨y2_0,y2_1⟩:=y2
    have i0:=e;clear e
    replace H:=H.takeK 0 rfl
    replace H:=H.split
    replace H:=H.sel [1,2] rfl
    replace H:=H.split
    replace H:=H.sel [1,2] rfl
    replace H:=H.split
    refine iA (cL a7_2 h4 a6 y2_0 y2_1 i0) (Γi:=[E (List Int) a7_2 h4]) H trivial ?_;clear H i0
    rintro _ _ w4 ⟨rfl,rfl⟩ H
    replace H:=H.join (α:=List Int) (β:=List Int)
    replace H:=H.sc (α:=Int) a7_1
    replace H:=H.join (α:=Int) (β:=List Int×List Int)
    replace H:=H.sc (α:=Int) a7_0
    replace H:=H.join (α:=Int) (β:=Int×List Int×List Int)
    obtain ⟨a8,e,f15⟩:=aA f14;clear f14
    replace H:=H.put c9 e;clear e
    obtain ⟨a9,e,f16⟩:=aA f15;clear f15
    replace H:=H.toEH (α:=Int×Int×List Int×List Int)
    have HH:=H;clear H;obtain ⟨p3,m3,g3,c12,c13,c14,c15,H⟩:=HH.peek e;clear HH
    clear e
    obtain ⟨a9_0,a9_1,a9_2,a9_3⟩:=a9
    obtain ⟨_,_,h6,h7⟩:=g3
    refine dA c12 c13 c14 ?_
    refine fld gok rfl rfl rfl rfl ?_
    refine cA (c15 3 _ rfl) ?_
    obtain ⟨y3,e,f17⟩:=aA f16;clear f16
    obtain ⟨y3_0,y3_1⟩:=y3
    have i1:=e;clear e
    replace H:=H.takeK 0 rfl
    replace H:=H.split
    replace H:=H.sel [1,2] rfl
    replace H:=H.split
    replace H:=H.sel [1,2] rfl
    replace H:=H.split
    replace H:=H.sel [1,0,2] rfl
    refine iA (cL a9_3 h7 y2_1 y3_0 y3_1 i1) (Γi:=[E (List Int) a9_3 h7]) H trivial ?_;clear H i1
    rintro _ _ w5 ⟨rfl,rfl⟩ H
    replace H:=H.sel [1,0,2] rfl
    replace H:=H.join (α:=List Int) (β:=List Int)
    replace H:=H.sc (α:=Int) a9_1
    replace H:=H.join (α:=Int) (β:=List Int×List Int)
    replace H:=H.sc (α:=Int) a9_0
    replace H:=H.join (α:=Int) (β:=Int×List Int×List Int)
    obtain ⟨a10,e,f18⟩:=aA f17;clear f17
    replace H:=H.put c13 e;clear e
    obtain ⟨a11,e,f19⟩:=aA f18;clear f18
    refine arO e ?_;clear e
    have hs:=Option.some.inj f19;subst hs;clear f19
    exact ⟨(a10,y3_1,a11),(),rfl,⟨rfl,rfl,rfl,trivial⟩,H.sel [0] rfl⟩
 ·
  clear f0 H
  rintro T1 ⟨s1_0,s1_1⟩ w6 ⟨hr,(H:Cx w0 fp0 S0 w6 [E (List (Int×Int×List Int×List Int)) s1_0 a_h])⟩
  subst hr
  cases f1
  exact ⟨_,_,rfl,⟨rfl,rfl⟩,(H.sel [0] rfl).close ⟨cloE,trivial⟩⟩
theorem BQ_ (a__0:Int) (a__1:List (Int×Int×List Int×List Int)) (a__1h:Hd) (a__2:List Int) (a__2h:Hd) (a__3:List Int) (a__3h:Hd) (k_:Int) (y0_0:Int) (y0_1:List (Int×Int×List Int×List Int)) (y0_2:List Int) (y0_3:List Int) (y1:Int) (hF:oR (a__0,a__1,a__2,a__3) k_=some ((y0_0,y0_1,y0_2,y0_3),y1)) :
  nA Tryz.prog 12 #[(.agg #[(.int .i64 a__0),(a__1h).v,(a__2h).v,(a__3h).v]),(.int .i64 k_)] [] [E (List (Int×Int×List Int×List Int)) a__1 a__1h,E (List Int) a__2 a__2h,E (List Int) a__3 a__3h] (fun v Γ'=>v=(.int .i64 y1)∧Γ'=[E (List (Int×Int×List Int×List Int)) y0_1 a__1h,E (List Int) y0_2 a__2h,E (List Int) y0_3 a__3h]):=by
 intro w0 S0 fp0 hI hS
 have H:Cx w0 fp0 S0 w0 [E (List (Int×Int×List Int×List Int)) a__1 a__1h,E (List Int) a__2 a__2h,E (List Int) a__3 a__3h]:=Cx.start hI hS
 clear hI hS
 refine lA (args:=[_,_]) gok Tryz.func12 rfl _ rfl rfl rfl ?_
 refine jB H ?_;clear H;intro b5 w4 hx H
 clear hx
 refine fld gok rfl rfl rfl rfl ?_
 refine cA (H.bx 0 rfl (j:=1) rfl) ?_
 obtain ⟨y7,e,hF8⟩:=aA hF;clear hF
 obtain ⟨y7_0,y7_1⟩:=y7
 have ey7:=e;clear e
 replace H:=H.sel [1,0,2,3] rfl
 refine iA (BR_ a__1 a__1h k_ y7_0 y7_1 ey7) (Γi:=[E (List (Int×Int×List Int×List Int)) a__1 a__1h]) H trivial ?_;clear H ey7
 rintro _ _ w9 ⟨rfl,rfl⟩ H
 refine fld gok rfl rfl rfl rfl ?_
 refine cA (H.bx 1 rfl (j:=2) rfl) ?_
 obtain ⟨y0,e,f0⟩:=aA hF8;clear hF8
 obtain ⟨y0_0,y0_1⟩:=y0
 have i0:=e;clear e
 replace H:=H.sel [2,0,1,3] rfl
 refine iA (cL a__2 a__2h y7_1 y0_0 y0_1 i0) (Γi:=[E (List Int) a__2 a__2h]) H trivial ?_;clear H i0
 rintro _ _ w1 ⟨rfl,rfl⟩ H
 refine fld gok rfl rfl rfl rfl ?_
 refine cA (H.bx 2 rfl (j:=3) rfl) ?_
 obtain ⟨y2,e,f1⟩:=aA f0;clear f0
 obtain ⟨y2_0,y2_1⟩:=y2
 have i1:=e;clear e
 replace H:=H.sel [3,0,1,2] rfl
 refine iA (cL a__3 a__3h y0_1 y2_0 y2_1 i1) (Γi:=[E (List Int) a__3 a__3h]) H trivial ?_;clear H i1
 rintro _ _ w2 ⟨rfl,rfl⟩ H
 cases f1
 exact ⟨_,_,rfl,⟨rfl,rfl⟩,(H.sel [2,1,0] rfl).close ⟨cloE,cloE,cloE,trivial⟩⟩
theorem gN (a_:List Int) (a_h:Hd) (k_:Int) (y:Int) (hF:tG a_ k_=some y) :
  nA Tryz.prog 33 #[(a_h).v,(.int .i64 k_)] [Es (List Int) a_ a_h] [] (fun v Γ'=>v=(.int .i64 y)∧Γ'=[]):=by
 intro w0 S0 fp0 hI hS
 have H:Cx w0 fp0 S0 w0 [Es (List Int) a_ a_h]:=Cx.start hI hS
 clear hI hS
 refine lA (args:=[_,_]) gok Tryz.func33 rfl _ rfl rfl rfl ?_
 obtain ⟨r0,f0,f1⟩:=aA hF;clear hF
 refine cut (fun (q0:Int)=>[(1,(.int .i64 q0))]) (fun (q0:Int) w'=>.inl q0=r0∧Cx w0 fp0 S0 w' []) ?_ ?_
 ·
  refine xC _ (fun (s0:Int×Int) (_:Unit)=>[(0,(a_h).v),(1,(.int .i64 s0.1)),(5,(.int .i64 s0.2))]) (fun (s0:Int×Int) (_:Unit) w'=>Cx w0 fp0 S0 w' [Es (List Int) a_ a_h]) (k_,0) () f0 ⟨rfl,rfl,rfl,trivial⟩ (H.sel [0] rfl) ?_
  ·
   clear H
   rintro T0 ⟨s0_0,s0_1⟩ _ w1 o0 (H:Cx w0 fp0 S0 w1 [Es (List Int) a_ a_h]) hrt f2
   refine sq ?_
   refine kA (H.rs (α:=List Int) 0 rfl).len ?_
   obtain ⟨a0,e,f3⟩:=aA f2;clear f2
   refine gA e ?_;clear e
   cases a0
   ·
    have f4:=fA f3;clear f3
    have hs:=Option.some.inj f4;subst hs;clear f4
    have f5:some _=some _:=congrArg some (hrt _ rfl).symm
    exact ⟨s0_0,⟨rfl,trivial⟩,Option.some.inj f5,H.sel [] rfl⟩
   ·
    have f6:=eA f3;clear f3
    refine sq ?_
    refine sq ?_
    obtain ⟨a1,e,f7⟩:=aA f6;clear f6
    obtain ⟨p0,m0,c0,c1,c2,c3⟩:=(H.rs (α:=List Int) 0 rfl).at1 e;clear e
    refine dA c0 c1 c2 ?_;clear c0 c1 c2
    refine cA c3 ?_;clear c3
    obtain ⟨a2,e,f8⟩:=aA f7;clear f7
    refine gA e ?_;clear e
    cases a2
    ·
     have f9:=fA f8;clear f8
     obtain ⟨a3,e,f10⟩:=aA f9;clear f9
     refine arO e ?_;clear e
     obtain ⟨a4,e,f11⟩:=aA f10;clear f10
     refine arO e ?_;clear e
     have hs:=Option.some.inj f11;subst hs;clear f11
     exact ⟨(a3,a4),(),rfl,⟨rfl,rfl,rfl,trivial⟩,H.sel [0] rfl⟩
    ·
     have f12:=eA f8;clear f8
     have hs:=Option.some.inj f12;subst hs;clear f12
     have f13:some _=some _:=congrArg some (hrt _ rfl).symm
     have hs:=Option.some.inj f13;subst hs;clear f13
     have f14:some _=some _:=f1;clear f1
     cases f14
     exact ⟨_,_,rfl,⟨rfl,rfl⟩,(H.sel [] rfl).close trivial⟩
 ·
  clear f0 H
  rintro T1 s1 w2 ⟨hr,(H:Cx w0 fp0 S0 w2 [])⟩
  subst hr
  cases f1
  exact ⟨_,_,rfl,⟨rfl,rfl⟩,(H.sel [] rfl).close trivial⟩
theorem BS_ (a_:List (Int×Int×List Int×List Int)) (a_h:Hd) (k_:Int) (y:Int) (hF:eN a_ k_=some y) :
  nA Tryz.prog 32 #[(a_h).v,(.int .i64 k_)] [Es (List (Int×Int×List Int×List Int)) a_ a_h] [] (fun v Γ'=>v=(.int .i64 y)∧Γ'=[]):=by
 intro w0 S0 fp0 hI hS
 have H:Cx w0 fp0 S0 w0 [Es (List (Int×Int×List Int×List Int)) a_ a_h]:=Cx.start hI hS
 clear hI hS
 refine lA (args:=[_,_]) gok Tryz.func32 rfl _ rfl rfl rfl ?_
 obtain ⟨r0,f0,f1⟩:=aA hF;clear hF
 refine cut (fun (q0:Int)=>[(1,(.int .i64 q0))]) (fun (q0:Int) w'=>.inl q0=r0∧Cx w0 fp0 S0 w' []) ?_ ?_
 ·
  refine xC _ (fun (s0:Int×Int) (_:Unit)=>[(0,(a_h).v),(1,(.int .i64 s0.1)),(5,(.int .i64 s0.2))]) (fun (s0:Int×Int) (_:Unit) w'=>Cx w0 fp0 S0 w' [Es (List (Int×Int×List Int×List Int)) a_ a_h]) (k_,0) () f0 ⟨rfl,rfl,rfl,trivial⟩ (H.sel [0] rfl) ?_
  ·
   clear H
   rintro T0 ⟨s0_0,s0_1⟩ _ w1 o0 (H:Cx w0 fp0 S0 w1 [Es (List (Int×Int×List Int×List Int)) a_ a_h]) hrt f2
   refine sq ?_
   refine kA (H.rs (α:=List (Int×Int×List Int×List Int)) 0 rfl).len ?_
   obtain ⟨a0,e,f3⟩:=aA f2;clear f2
   refine gA e ?_;clear e
   cases a0
   ·
    have f4:=fA f3;clear f3
    have hs:=Option.some.inj f4;subst hs;clear f4
    have f5:some _=some _:=congrArg some (hrt _ rfl).symm
    exact ⟨s0_0,⟨rfl,trivial⟩,Option.some.inj f5,H.sel [] rfl⟩
   ·
    have f6:=eA f3;clear f3
    refine sq ?_
    refine sq ?_
    obtain ⟨a1,e,f7⟩:=aA f6;clear f6
    have HH:=H;clear H;obtain ⟨p0,m0,g0,c0,c1,c2,c3,H⟩:=HH.el (α:=Int×Int×List Int×List Int) 0 rfl e;clear HH
    clear e
    obtain ⟨a1_0,a1_1,a1_2,a1_3⟩:=a1
    obtain ⟨_,_,h0,h1⟩:=g0
    replace H:=H.part (β:=List Int) a1_2 (h0:Hd) 0 rfl (fun S h=>(And.left (And.right (And.right h))))
    replace H:=H.part (β:=List Int) a1_3 (h1:Hd) 1 rfl (fun S h=>(And.right (And.right (And.right h))))
    replace H:=H.sel [0,1,3] rfl
    refine dA c0 c1 c2 ?_;clear c0 c1 c2
    refine fld gok rfl rfl rfl rfl ?_
    refine cA (c3 0 _ rfl) ?_
    obtain ⟨a2,e,f8⟩:=aA f7;clear f7
    refine gA e ?_;clear e
    cases a2
    ·
     have f9:=fA f8;clear f8
     obtain ⟨a3,e,f10⟩:=aA f9;clear f9
     refine arO e ?_;clear e
     refine sq ?_
     obtain ⟨a4,e,f11⟩:=aA f10;clear f10
     have HH:=H;clear H;obtain ⟨p1,m1,g1,c4,c5,c6,c7,H⟩:=HH.el (α:=Int×Int×List Int×List Int) 2 rfl e;clear HH
     clear e
     obtain ⟨a4_0,a4_1,a4_2,a4_3⟩:=a4
     obtain ⟨_,_,h2,h3⟩:=g1
     replace H:=H.part (β:=List Int) a4_2 (h2:Hd) 0 rfl (fun S h=>(And.left (And.right (And.right h))))
     replace H:=H.part (β:=List Int) a4_3 (h3:Hd) 1 rfl (fun S h=>(And.right (And.right (And.right h))))
     replace H:=H.sel [0,1,3,4,5] rfl
     refine dA c4 c5 c6 ?_;clear c4 c5 c6
     refine fld gok rfl rfl rfl rfl ?_
     refine cA (c7 1 _ rfl) ?_
     obtain ⟨a5,e,f12⟩:=aA f11;clear f11
     refine gA e ?_;clear e
     cases a5
     ·
      have f13:=fA f12;clear f12
      obtain ⟨a6,e,f14⟩:=aA f13;clear f13
      refine arO e ?_;clear e
      obtain ⟨a7,e,f15⟩:=aA f14;clear f14
      have HH:=H;clear H;obtain ⟨p2,m2,g2,c8,c9,c10,c11,H⟩:=HH.el (α:=Int×Int×List Int×List Int) 4 rfl e;clear HH
      clear e
      obtain ⟨a7_0,a7_1,a7_2,a7_3⟩:=a7
      obtain ⟨_,_,h4,h5⟩:=g2
      replace H:=H.part (β:=List Int) a7_2 (h4:Hd) 0 rfl (fun S h=>(And.left (And.right (And.right h))))
      replace H:=H.part (β:=List Int) a7_3 (h5:Hd) 1 rfl (fun S h=>(And.right (And.right (And.right h))))
      replace H:=H.sel [0,1,3,4,5,6,7] rfl
      refine dA c8 c9 c10 ?_;clear c8 c9 c10
      refine fld gok rfl rfl rfl rfl ?_
      refine cA (c11 2 _ rfl) ?_
      obtain ⟨y0,e,f16⟩:=aA f15;clear f15
      have i0:=e;clear e
      refine iA (gN a7_2 h4 a6 y0 i0) (Γi:=[]) H ⟨Vw.sh 1 rfl,trivial⟩ ?_;clear H i0
      rintro _ _ w2 ⟨rfl,rfl⟩ H
      refine sq ?_
      obtain ⟨a8,e,f17⟩:=aA f16;clear f16
      refine gA e ?_;clear e
      cases a8
      ·
       have f18:=fA f17;clear f17
       obtain ⟨a9,e,f19⟩:=aA f18;clear f18
       have HH:=H;clear H;obtain ⟨p3,m3,g3,c12,c13,c14,c15,H⟩:=HH.el (α:=Int×Int×List Int×List Int) 6 rfl e;clear HH
       clear e
       obtain ⟨a9_0,a9_1,a9_2,a9_3⟩:=a9
       obtain ⟨_,_,h6,h7⟩:=g3
       replace H:=H.part (β:=List Int) a9_2 (h6:Hd) 0 rfl (fun S h=>(And.left (And.right (And.right h))))
       replace H:=H.part (β:=List Int) a9_3 (h7:Hd) 1 rfl (fun S h=>(And.right (And.right (And.right h))))
       replace H:=H.sel [0,1,3,4,5,6,7,8,9] rfl
       refine dA c12 c13 c14 ?_;clear c12 c13 c14
       refine fld gok rfl rfl rfl rfl ?_
       refine cA (c15 3 _ rfl) ?_
       obtain ⟨y1,e,f20⟩:=aA f19;clear f19
       have i1:=e;clear e
       refine iA (gN a9_3 h7 y0 y1 i1) (Γi:=[]) H ⟨Vw.sh 0 rfl,trivial⟩ ?_;clear H i1
       rintro _ _ w3 ⟨rfl,rfl⟩ H
       obtain ⟨a10,e,f21⟩:=aA f20;clear f20
       refine gA e ?_;clear e
       cases a10
       ·
        have f22:=fA f21;clear f21
        obtain ⟨a11,e,f23⟩:=aA f22;clear f22
        refine arO e ?_;clear e
        have hs:=Option.some.inj f23;subst hs;clear f23
        exact ⟨(y1,a11),(),rfl,⟨rfl,rfl,rfl,trivial⟩,H.sel [8] rfl⟩
       ·
        have f24:=eA f21;clear f21
        have hs:=Option.some.inj f24;subst hs;clear f24
        have f25:some _=some _:=congrArg some (hrt _ rfl).symm
        have hs:=Option.some.inj f25;subst hs;clear f25
        have f26:some _=some _:=f1;clear f1
        cases f26
        exact ⟨_,_,rfl,⟨rfl,rfl⟩,(H.sel [] rfl).close trivial⟩
      ·
       have f27:=eA f17;clear f17
       have hs:=Option.some.inj f27;subst hs;clear f27
       have f28:some _=some _:=congrArg some (hrt _ rfl).symm
       have hs:=Option.some.inj f28;subst hs;clear f28
       have f29:some _=some _:=f1;clear f1
       cases f29
       exact ⟨_,_,rfl,⟨rfl,rfl⟩,(H.sel [] rfl).close trivial⟩
     ·
      have f30:=eA f12;clear f12
      have hs:=Option.some.inj f30;subst hs;clear f30
      have f31:some _=some _:=congrArg some (hrt _ rfl).symm
      have hs:=Option.some.inj f31;subst hs;clear f31
      have f32:some _=some _:=f1;clear f1
      cases f32
      exact ⟨_,_,rfl,⟨rfl,rfl⟩,(H.sel [] rfl).close trivial⟩
    ·
     have f33:=eA f8;clear f8
     have hs:=Option.some.inj f33;subst hs;clear f33
     have f34:some _=some _:=congrArg some (hrt _ rfl).symm
     have hs:=Option.some.inj f34;subst hs;clear f34
     have f35:some _=some _:=f1;clear f1
     cases f35
     exact ⟨_,_,rfl,⟨rfl,rfl⟩,(H.sel [] rfl).close trivial⟩
 ·
  clear f0 H
  rintro T1 s1 w4 ⟨hr,(H:Cx w0 fp0 S0 w4 [])⟩
  subst hr
  cases f1
  exact ⟨_,_,rfl,⟨rfl,rfl⟩,(H.sel [] rfl).close trivial⟩
theorem tV (a__0:Int) (a__1:List (Int×Int×List Int×List Int)) (a__1h:Hd) (a__2:List Int) (a__2h:Hd) (a__3:List Int) (a__3h:Hd) (k_:Int) (y:Int) (hF:dN (a__0,a__1,a__2,a__3) k_=some y) :
  nA Tryz.prog 13 #[(.agg #[(.int .i64 a__0),(a__1h).v,(a__2h).v,(a__3h).v]),(.int .i64 k_)] [Es (List (Int×Int×List Int×List Int)) a__1 a__1h,Es (List Int) a__2 a__2h,Es (List Int) a__3 a__3h] [] (fun v Γ'=>v=(.int .i64 y)∧Γ'=[]):=by
 intro w0 S0 fp0 hI hS
 have H:Cx w0 fp0 S0 w0 [Es (List (Int×Int×List Int×List Int)) a__1 a__1h,Es (List Int) a__2 a__2h,Es (List Int) a__3 a__3h]:=Cx.start hI hS
 clear hI hS
 refine lA (args:=[_,_]) gok Tryz.func13 rfl _ rfl rfl rfl ?_
 refine jB H ?_;clear H;intro b5 w4 hx H
 clear hx
 refine fld gok rfl rfl rfl rfl ?_
 refine cA (H.bx 0 rfl (j:=1) rfl) ?_
 obtain ⟨y7,e,hF8⟩:=aA hF;clear hF
 have ey7:=e;clear e
 refine iA (BS_ a__1 a__1h k_ y7 ey7) (Γi:=[]) H ⟨Vw.sh 1 rfl,trivial⟩ ?_;clear H ey7
 rintro _ _ w9 ⟨rfl,rfl⟩ H
 refine sq ?_
 obtain ⟨a0,e,f0⟩:=aA hF8;clear hF8
 refine gA e ?_;clear e
 cases a0
 ·
  have f1:=fA f0;clear f0
  refine fld gok rfl rfl rfl rfl ?_
  refine cA (H.bx 0 rfl (j:=2) rfl) ?_
  obtain ⟨y0,e,f2⟩:=aA f1;clear f1
  have i0:=e;clear e
  refine iA (gN a__2 a__2h y7 y0 i0) (Γi:=[]) H ⟨Vw.sh 2 rfl,trivial⟩ ?_;clear H i0
  rintro _ _ w1 ⟨rfl,rfl⟩ H
  refine sq ?_
  obtain ⟨a1,e,f3⟩:=aA f2;clear f2
  refine gA e ?_;clear e
  cases a1
  ·
   have f4:=fA f3;clear f3
   refine fld gok rfl rfl rfl rfl ?_
   refine cA (H.bx 0 rfl (j:=3) rfl) ?_
   obtain ⟨y1,e,f5⟩:=aA f4;clear f4
   have i1:=e;clear e
   refine iA (gN a__3 a__3h y0 y1 i1) (Γi:=[]) H ⟨Vw.sh 3 rfl,trivial⟩ ?_;clear H i1
   rintro _ _ w2 ⟨rfl,rfl⟩ H
   refine sq ?_
   obtain ⟨a2,e,f6⟩:=aA f5;clear f5
   refine gA e ?_;clear e
   cases a2
   ·
    have f7:=fA f6;clear f6
    cases f7
    exact ⟨_,_,rfl,⟨rfl,rfl⟩,(H.sel [] rfl).close trivial⟩
   ·
    have f8:=eA f6;clear f6
    cases f8
    exact ⟨_,_,rfl,⟨rfl,rfl⟩,(H.sel [] rfl).close trivial⟩
  ·
   have f9:=eA f3;clear f3
   cases f9
   exact ⟨_,_,rfl,⟨rfl,rfl⟩,(H.sel [] rfl).close trivial⟩
 ·
  have f10:=eA f0;clear f0
  cases f10
  exact ⟨_,_,rfl,⟨rfl,rfl⟩,(H.sel [] rfl).close trivial⟩
end Go.Proofs.YtbofgnbanmbopaaGreatDoor
