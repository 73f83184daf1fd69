/-
 Contracts, printed by a program (wip/y/gen.py): each function of Go computes its partial function. Condition of each: its partial function yields a value.
-/
import Derived.Test.YtocpeclcoikdpaaDoorZCall2
namespace Go.Proofs.YtocpeclcoikdpaaDoor
open Go Go.Proofs.YtocpeclcoikdpaaDoor.RW
set_option maxRecDepth 100000
set_option linter.unusedVariables false

theorem laws_FnExactSimilarityOf_c (aP_ : Int) (aA__0 : Int) (aA__1 : Int) (aA__2 : Int) (aA__3 : List (List Int)) (aA__3h : Hd) (aA__4 : List (List Int)) (aA__4h : Hd) (aA__5 : List (List Int)) (aA__5h : Hd) (aA__6 : List (List Int)) (aA__6h : Hd) (aB__0 : Int) (aB__1 : Int) (aB__2 : Int) (aB__3 : List (List Int)) (aB__3h : Hd) (aB__4 : List (List Int)) (aB__4h : Hd) (aB__5 : List (List Int)) (aB__5h : Hd) (aB__6 : List (List Int)) (aB__6h : Hd) (y : Bool) (hF : F_laws_FnExactSimilarityOf aP_ (aA__0, aA__1, aA__2, aA__3, aA__4, aA__5, aA__6) (aB__0, aB__1, aB__2, aB__3, aB__4, aB__5, aB__6) = some y) :
  ConF Tryd.prog 3 #[(.int .i64 aP_), (.agg #[(.int .i64 aA__0), (.int .i64 aA__1), (.int .i64 aA__2), (aA__3h).v, (aA__4h).v, (aA__5h).v, (aA__6h).v]), (.agg #[(.int .i64 aB__0), (.int .i64 aB__1), (.int .i64 aB__2), (aB__3h).v, (aB__4h).v, (aB__5h).v, (aB__6h).v])] [Es (List (List Int)) aA__3 aA__3h, Es (List (List Int)) aA__4 aA__4h, Es (List (List Int)) aA__5 aA__5h, Es (List (List Int)) aA__6 aA__6h, Es (List (List Int)) aB__3 aB__3h, Es (List (List Int)) aB__4 aB__4h, Es (List (List Int)) aB__5 aB__5h, Es (List (List Int)) aB__6 aB__6h, Gl 0 [.int .i64 2, .int .i64 3, .int .i64 5, .int .i64 7]] [] (fun v Γ' => v = (.bool y) ∧ Γ' = []) := by
 intro w0 S0 fp0 hI hS
 have H : Cx w0 fp0 S0 w0 [Es (List (List Int)) aA__3 aA__3h, Es (List (List Int)) aA__4 aA__4h, Es (List (List Int)) aA__5 aA__5h, Es (List (List Int)) aA__6 aA__6h, Es (List (List Int)) aB__3 aB__3h, Es (List (List Int)) aB__4 aB__4h, Es (List (List Int)) aB__5 aB__5h, Es (List (List Int)) aB__6 aB__6h, Gl 0 [.int .i64 2, .int .i64 3, .int .i64 5, .int .i64 7]] := Cx.start hI hS
 clear hI hS
 refine enterC (args := [_, _, _]) gok Tryd.func3 rfl _ rfl rfl rfl ?_
 refine box_ H ?_; clear H; intro b0 w1 hx H
 clear hx
 refine box_ H ?_; clear H; intro b1 w2 hx H
 clear hx
 refine loadN [(.int .i64 aA__0), (.int .i64 aA__1), (.int .i64 aA__2), (aA__3h).v, (aA__4h).v, (aA__5h).v, (aA__6h).v] rfl (fun j u hj => H.bx 1 rfl hj) ?_
 obtain ⟨y0, e, f0⟩ := bindS hF; clear hF
 have ey16 := e; clear e
 refine callF (laws_szStateSpace_c aA__0 aA__1 aA__2 aA__3 aA__3h aA__4 aA__4h aA__5 aA__5h aA__6 aA__6h 1048576 y0 ey16) (Γi := []) H ⟨Vw.sh 2 rfl, Vw.sh 3 rfl, Vw.sh 4 rfl, Vw.sh 5 rfl, trivial⟩ ?_; clear H ey16
 rintro _ _ w3 ⟨rfl, rfl⟩ H
 refine sq ?_
 obtain ⟨a0, e, f1⟩ := bindS f0; clear f0
 refine boolO e ?_; clear e
 cases a0
 ·
  have f2 := condF f1; clear f1
  refine loadN [(.int .i64 aB__0), (.int .i64 aB__1), (.int .i64 aB__2), (aB__3h).v, (aB__4h).v, (aB__5h).v, (aB__6h).v] rfl (fun j u hj => H.bx 0 rfl hj) ?_
  obtain ⟨y1, e, f3⟩ := bindS f2; clear f2
  have ey22 := e; clear e
  refine callF (laws_szStateSpace_c aB__0 aB__1 aB__2 aB__3 aB__3h aB__4 aB__4h aB__5 aB__5h aB__6 aB__6h y0 y1 ey22) (Γi := []) H ⟨Vw.sh 6 rfl, Vw.sh 7 rfl, Vw.sh 8 rfl, Vw.sh 9 rfl, trivial⟩ ?_; clear H ey22
  rintro _ _ w4 ⟨rfl, rfl⟩ H
  refine sq ?_
  obtain ⟨a1, e, f4⟩ := bindS f3; clear f3
  refine boolO e ?_; clear e
  cases a1
  ·
   have f5 := condF f4; clear f4
   obtain ⟨r0, f6, f7⟩ := bindS f5; clear f5
   refine heldJ H [] (.fst 0 (.fst 1 (.fst 3 (.alts (.alt 2 (.alts (.alt 4 (.alts (.alt 5 (.fst 6 (.fst 7 (.fst 8 (.act 9 (.act 10 (.fst 11 .done)))))) (.alt 9 (.act 5 (.fst 6 (.fst 7 (.fst 8 (.act 10 (.fst 11 .done)))))) .no))) (.alt 9 (.act 4 (.act 5 (.fst 6 (.fst 7 (.fst 8 (.act 10 (.fst 11 .done))))))) .no))) (.alt 9 (.act 2 (.act 4 (.act 5 (.fst 6 (.fst 7 (.fst 8 (.act 10 (.fst 11 .done)))))))) .no)))))) mixed [] trivial (by kernel_rfl) (fun (q0 : (Int × List (List Int) × Bool) × (Hd × Nat)) => [(0, (.int .i64 aP_)), (4, (.pointer (some ⟨b0, 0, none⟩))), (5, (.pointer (some ⟨b1, 0, none⟩))), (8, (.pointer (some ⟨q0.2.2, 0, none⟩))), (9, (.bool q0.1.2.2))]) (fun (q0 : (Int × List (List Int) × Bool) × (Hd × Nat)) w' => (q0.1.1, q0.1.2.1, q0.1.2.2) = r0 ∧ Cx w0 fp0 S0 w' [Bx b0 [(.int .i64 aA__0), (.int .i64 aA__1), (.int .i64 aA__2), (aA__3h).v, (aA__4h).v, (aA__5h).v, (aA__6h).v], Es (List (List Int)) aA__3 aA__3h, Es (List (List Int)) aA__4 aA__4h, Es (List (List Int)) aA__5 aA__5h, Es (List (List Int)) aA__6 aA__6h, Bx b1 [(.int .i64 aB__0), (.int .i64 aB__1), (.int .i64 aB__2), (aB__3h).v, (aB__4h).v, (aB__5h).v, (aB__6h).v], Es (List (List Int)) aB__3 aB__3h, Es (List (List Int)) aB__4 aB__4h, Es (List (List Int)) aB__5 aB__5h, Es (List (List Int)) aB__6 aB__6h, Bx q0.2.2 [(.int .i64 q0.1.1), (q0.2.1).v], E (List (List Int)) q0.1.2.1 q0.2.1, Gl 0 [.int .i64 2, .int .i64 3, .int .i64 5, .int .i64 7]]) ?_ ?_
   ·
    clear H; intro w5 H
    have hX : Ext w5 w5 := Upd.refl _ _
    have H0 := H
    refine loadNX [(.int .i64 aA__0), (.int .i64 aA__1), (.int .i64 aA__2), (aA__3h).v, (aA__4h).v, (aA__5h).v, (aA__6h).v] rfl (fun j u hj => H.bx 1 rfl hj) ?_
    refine loadNX [(.int .i64 aB__0), (.int .i64 aB__1), (.int .i64 aB__2), (aB__3h).v, (aB__4h).v, (aB__5h).v, (aB__6h).v] rfl (fun j u hj => H.bx 0 rfl hj) ?_
    refine both ?_ ?_
    ·
     obtain ⟨y2, e, f8⟩ := bindS f6; clear f6
     obtain ⟨y2_0, y2_1, y2_2, y2_3, y2_4, y2_5, y2_6⟩ := y2
     have ey234 := e; clear e
     refine callFx (laws_toStateSpace_c aA__0 aA__1 aA__2 aA__3 aA__3h aA__4 aA__4h aA__5 aA__5h aA__6 aA__6h y2_0 y2_1 y2_2 y2_3 y2_4 y2_5 y2_6 ey234) H ⟨Vw.sh 2 rfl, Vw.sh 3 rfl, Vw.sh 4 rfl, Vw.sh 5 rfl, trivial⟩ ?_; clear H ey234
     rintro _ _ w6 ⟨h0, h1, h2, h3, rfl, rfl⟩ hx H
     replace hX := hX.trans0 hx; clear hx
     refine hold hX ?_
     refine both ?_ ?_
     ·
      obtain ⟨y3, e, f9⟩ := bindS f8; clear f8
      obtain ⟨y3_0, y3_1, y3_2, y3_3, y3_4, y3_5, y3_6⟩ := y3
      have ey266 := e; clear e
      refine callFx (laws_toStateSpace_c aB__0 aB__1 aB__2 aB__3 aB__3h aB__4 aB__4h aB__5 aB__5h aB__6 aB__6h y3_0 y3_1 y3_2 y3_3 y3_4 y3_5 y3_6 ey266) H ⟨Vw.sh 10 rfl, Vw.sh 11 rfl, Vw.sh 12 rfl, Vw.sh 13 rfl, trivial⟩ ?_; clear H ey266
      rintro _ _ w7 ⟨h4, h5, h6, h7, rfl, rfl⟩ hx H
      replace hX := hX.trans0 hx; clear hx
      refine hold hX ?_
      refine both ?_ ?_
      ·
       obtain ⟨y4, e, f10⟩ := bindS f9; clear f9
       obtain ⟨⟨y4_0_0, y4_0_1⟩, y4_1⟩ := y4
       have ey287 := e; clear e
       refine callFx (spec_SimilarityOf_c aP_ y2_0 y2_1 y2_2 y2_3 h0 y2_4 h1 y2_5 h2 y2_6 h3 y3_0 y3_1 y3_2 y3_3 h4 y3_4 h5 y3_5 h6 y3_6 h7 y4_0_0 y4_0_1 y4_1 ey287) H ⟨Vw.own 4 rfl, Vw.own 5 rfl, Vw.own 6 rfl, Vw.own 7 rfl, Vw.own 0 rfl, Vw.own 1 rfl, Vw.own 2 rfl, Vw.own 3 rfl, trivial⟩ ?_; clear H ey287
       rintro _ _ w8 ⟨h8, rfl, rfl⟩ hx H
       replace hX := hX.trans0 hx; clear hx
       refine hold hX ?_
       refine allocX gok rfl H ?_; clear H; intro b2 w9 hx v0 H; replace v0 := Nat.le_trans hX.size v0
       replace hX := hX.trans0 hx; clear hx
       refine hold hX ?_
       refine stAX gok [(.int .i64 y4_0_0), (h8).v] rfl H rfl rfl rfl ?_; clear H; intro w11 hu H
       replace hX := hX.fresh hu v0; clear hu
       refine hold hX ?_
       exact ⟨((y4_0_0, y4_0_1, y4_1), (h8, b2)), ⟨rfl, rfl, rfl, rfl, rfl, trivial⟩, Option.some.inj f10, H.sel [11, 12, 13, 14, 15, 10, 16, 17, 18, 19, 0, 1, 20] rfl⟩
      ·
       refine both ?_ ?_
       ·
        obtain ⟨a2, o0, f11⟩ := bindS f9; clear f9
        refine allocX gok rfl H ?_; clear H; intro b3 w12 hx v1 H; replace v1 := Nat.le_trans hX.size v1
        replace hX := hX.trans0 hx; clear hx
        refine hold hX ?_
        have e := o0; clear o0
        obtain ⟨⟨a2_0_0, a2_0_1⟩, a2_1⟩ := a2
        have ea297 := e; clear e
        refine callFx (spec_SimilarityOf_c aP_ y2_0 y2_1 y2_2 y2_3 h0 y2_4 h1 y2_5 h2 y2_6 h3 y3_0 y3_1 y3_2 y3_3 h4 y3_4 h5 y3_5 h6 y3_6 h7 a2_0_0 a2_0_1 a2_1 ea297) H ⟨Vw.own 5 rfl, Vw.own 6 rfl, Vw.own 7 rfl, Vw.own 8 rfl, Vw.own 1 rfl, Vw.own 2 rfl, Vw.own 3 rfl, Vw.own 4 rfl, trivial⟩ ?_; clear H ea297
        rintro _ _ w14 ⟨h9, rfl, rfl⟩ hx H
        replace hX := hX.trans0 hx; clear hx
        refine hold hX ?_
        replace H := H.sel [1, 0, 2, 3, 4, 5, 6, 7, 8, 9, 10, 11, 12, 13, 14, 15, 16, 17, 18, 19, 20] rfl
        refine stAX gok [(.int .i64 a2_0_0), (h9).v] rfl H rfl rfl rfl ?_; clear H; intro w15 hu H
        replace hX := hX.fresh hu v1; clear hu
        refine hold hX ?_
        exact ⟨((a2_0_0, a2_0_1, a2_1), (h9, b3)), ⟨rfl, rfl, rfl, rfl, rfl, trivial⟩, Option.some.inj f11, H.sel [11, 12, 13, 14, 15, 10, 16, 17, 18, 19, 0, 1, 20] rfl⟩
       ·
        exact trivial
     ·
      refine both ?_ ?_
      ·
       obtain ⟨a3, o1, f12⟩ := bindS f8; clear f8
       obtain ⟨a4, o2, f13⟩ := bindS f12; clear f12
       refine allocX gok rfl H ?_; clear H; intro b4 w16 hx v2 H; replace v2 := Nat.le_trans hX.size v2
       replace hX := hX.trans0 hx; clear hx
       refine hold hX ?_
       have e := o1; clear o1
       obtain ⟨a3_0, a3_1, a3_2, a3_3, a3_4, a3_5, a3_6⟩ := a3
       have ea308 := e; clear e
       refine callFx (laws_toStateSpace_c aB__0 aB__1 aB__2 aB__3 aB__3h aB__4 aB__4h aB__5 aB__5h aB__6 aB__6h a3_0 a3_1 a3_2 a3_3 a3_4 a3_5 a3_6 ea308) H ⟨Vw.sh 11 rfl, Vw.sh 12 rfl, Vw.sh 13 rfl, Vw.sh 14 rfl, trivial⟩ ?_; clear H ea308
       rintro _ _ w17 ⟨h10, h11, h12, h13, rfl, rfl⟩ hx H
       replace hX := hX.trans0 hx; clear hx
       refine hold hX ?_
       have e := o2; clear o2
       obtain ⟨⟨a4_0_0, a4_0_1⟩, a4_1⟩ := a4
       have ea311 := e; clear e
       refine callFx (spec_SimilarityOf_c aP_ y2_0 y2_1 y2_2 y2_3 h0 y2_4 h1 y2_5 h2 y2_6 h3 a3_0 a3_1 a3_2 a3_3 h10 a3_4 h11 a3_5 h12 a3_6 h13 a4_0_0 a4_0_1 a4_1 ea311) H ⟨Vw.own 5 rfl, Vw.own 6 rfl, Vw.own 7 rfl, Vw.own 8 rfl, Vw.own 0 rfl, Vw.own 1 rfl, Vw.own 2 rfl, Vw.own 3 rfl, trivial⟩ ?_; clear H ea311
       rintro _ _ w19 ⟨h14, rfl, rfl⟩ hx H
       replace hX := hX.trans0 hx; clear hx
       refine hold hX ?_
       replace H := H.sel [5, 0, 1, 2, 3, 4, 6, 7, 8, 9, 10, 11, 12, 13, 14, 15, 16, 17, 18, 19, 20] rfl
       refine stAX gok [(.int .i64 a4_0_0), (h14).v] rfl H rfl rfl rfl ?_; clear H; intro w20 hu H
       replace hX := hX.fresh hu v2; clear hu
       refine hold hX ?_
       exact ⟨((a4_0_0, a4_0_1, a4_1), (h14, b4)), ⟨rfl, rfl, rfl, rfl, rfl, trivial⟩, Option.some.inj f13, H.sel [11, 12, 13, 14, 15, 10, 16, 17, 18, 19, 0, 1, 20] rfl⟩
      ·
       exact trivial
    ·
     refine both ?_ ?_
     ·
      obtain ⟨a5, o3, f14⟩ := bindS f6; clear f6
      obtain ⟨a6, o4, f15⟩ := bindS f14; clear f14
      obtain ⟨a7, o5, f16⟩ := bindS f15; clear f15
      refine allocX gok rfl H ?_; clear H; intro b5 w21 hx v3 H; replace v3 := Nat.le_trans hX.size v3
      replace hX := hX.trans0 hx; clear hx
      refine hold hX ?_
      have e := o3; clear o3
      obtain ⟨a5_0, a5_1, a5_2, a5_3, a5_4, a5_5, a5_6⟩ := a5
      have ea331 := e; clear e
      refine callFx (laws_toStateSpace_c aA__0 aA__1 aA__2 aA__3 aA__3h aA__4 aA__4h aA__5 aA__5h aA__6 aA__6h a5_0 a5_1 a5_2 a5_3 a5_4 a5_5 a5_6 ea331) H ⟨Vw.sh 3 rfl, Vw.sh 4 rfl, Vw.sh 5 rfl, Vw.sh 6 rfl, trivial⟩ ?_; clear H ea331
      rintro _ _ w22 ⟨h15, h16, h17, h18, rfl, rfl⟩ hx H
      replace hX := hX.trans0 hx; clear hx
      refine hold hX ?_
      have e := o4; clear o4
      obtain ⟨a6_0, a6_1, a6_2, a6_3, a6_4, a6_5, a6_6⟩ := a6
      have ea334 := e; clear e
      refine callFx (laws_toStateSpace_c aB__0 aB__1 aB__2 aB__3 aB__3h aB__4 aB__4h aB__5 aB__5h aB__6 aB__6h a6_0 a6_1 a6_2 a6_3 a6_4 a6_5 a6_6 ea334) H ⟨Vw.sh 11 rfl, Vw.sh 12 rfl, Vw.sh 13 rfl, Vw.sh 14 rfl, trivial⟩ ?_; clear H ea334
      rintro _ _ w23 ⟨h19, h20, h21, h22, rfl, rfl⟩ hx H
      replace hX := hX.trans0 hx; clear hx
      refine hold hX ?_
      have e := o5; clear o5
      obtain ⟨⟨a7_0_0, a7_0_1⟩, a7_1⟩ := a7
      have ea337 := e; clear e
      refine callFx (spec_SimilarityOf_c aP_ a5_0 a5_1 a5_2 a5_3 h15 a5_4 h16 a5_5 h17 a5_6 h18 a6_0 a6_1 a6_2 a6_3 h19 a6_4 h20 a6_5 h21 a6_6 h22 a7_0_0 a7_0_1 a7_1 ea337) H ⟨Vw.own 4 rfl, Vw.own 5 rfl, Vw.own 6 rfl, Vw.own 7 rfl, Vw.own 0 rfl, Vw.own 1 rfl, Vw.own 2 rfl, Vw.own 3 rfl, trivial⟩ ?_; clear H ea337
      rintro _ _ w25 ⟨h23, rfl, rfl⟩ hx H
      replace hX := hX.trans0 hx; clear hx
      refine hold hX ?_
      replace H := H.sel [9, 0, 1, 2, 3, 4, 5, 6, 7, 8, 10, 11, 12, 13, 14, 15, 16, 17, 18, 19, 20] rfl
      refine stAX gok [(.int .i64 a7_0_0), (h23).v] rfl H rfl rfl rfl ?_; clear H; intro w26 hu H
      replace hX := hX.fresh hu v3; clear hu
      refine hold hX ?_
      exact ⟨((a7_0_0, a7_0_1, a7_1), (h23, b5)), ⟨rfl, rfl, rfl, rfl, rfl, trivial⟩, Option.some.inj f16, H.sel [11, 12, 13, 14, 15, 10, 16, 17, 18, 19, 0, 1, 20] rfl⟩
     ·
      exact trivial
   ·
    clear f6 H
    rintro T0 ⟨⟨s0_0, s0_1, s0_2⟩, ⟨g0_0, g0_1⟩⟩ w27 ⟨hr, (H : Cx w0 fp0 S0 w27 [Bx b0 [(.int .i64 aA__0), (.int .i64 aA__1), (.int .i64 aA__2), (aA__3h).v, (aA__4h).v, (aA__5h).v, (aA__6h).v], Es (List (List Int)) aA__3 aA__3h, Es (List (List Int)) aA__4 aA__4h, Es (List (List Int)) aA__5 aA__5h, Es (List (List Int)) aA__6 aA__6h, Bx b1 [(.int .i64 aB__0), (.int .i64 aB__1), (.int .i64 aB__2), (aB__3h).v, (aB__4h).v, (aB__5h).v, (aB__6h).v], Es (List (List Int)) aB__3 aB__3h, Es (List (List Int)) aB__4 aB__4h, Es (List (List Int)) aB__5 aB__5h, Es (List (List Int)) aB__6 aB__6h, Bx g0_1 [(.int .i64 s0_0), (g0_0).v], E (List (List Int)) s0_1 g0_0, Gl 0 [.int .i64 2, .int .i64 3, .int .i64 5, .int .i64 7]])⟩
    subst hr
    refine loadN [(.int .i64 aA__0), (.int .i64 aA__1), (.int .i64 aA__2), (aA__3h).v, (aA__4h).v, (aA__5h).v, (aA__6h).v] rfl (fun j u hj => H.bx 0 rfl hj) ?_
    obtain ⟨y5, e, f17⟩ := bindS f7; clear f7
    obtain ⟨y5_0, y5_1, y5_2, y5_3, y5_4, y5_5, y5_6⟩ := y5
    have ey368 := e; clear e
    refine callF (laws_toStateSpace_c aA__0 aA__1 aA__2 aA__3 aA__3h aA__4 aA__4h aA__5 aA__5h aA__6 aA__6h y5_0 y5_1 y5_2 y5_3 y5_4 y5_5 y5_6 ey368) (Γi := []) H ⟨Vw.sh 1 rfl, Vw.sh 2 rfl, Vw.sh 3 rfl, Vw.sh 4 rfl, trivial⟩ ?_; clear H ey368
    rintro _ _ w28 ⟨h24, h25, h26, h27, rfl, rfl⟩ H
    refine alloc_ gok rfl H ?_; clear H; intro b6 w29 hx H
    clear hx
    refine stA gok [(.int .i64 y5_0), (.int .i64 y5_1), (.int .i64 y5_2), (h24).v, (h25).v, (h26).v, (h27).v] rfl H rfl rfl rfl ?_; clear H; intro w30 H
    refine loadN [(.int .i64 aB__0), (.int .i64 aB__1), (.int .i64 aB__2), (aB__3h).v, (aB__4h).v, (aB__5h).v, (aB__6h).v] rfl (fun j u hj => H.bx 10 rfl hj) ?_
    obtain ⟨y6, e, f18⟩ := bindS f17; clear f17
    obtain ⟨y6_0, y6_1, y6_2, y6_3, y6_4, y6_5, y6_6⟩ := y6
    have ey383 := e; clear e
    refine callF (laws_toStateSpace_c aB__0 aB__1 aB__2 aB__3 aB__3h aB__4 aB__4h aB__5 aB__5h aB__6 aB__6h y6_0 y6_1 y6_2 y6_3 y6_4 y6_5 y6_6 ey383) (Γi := []) H ⟨Vw.sh 11 rfl, Vw.sh 12 rfl, Vw.sh 13 rfl, Vw.sh 14 rfl, trivial⟩ ?_; clear H ey383
    rintro _ _ w31 ⟨h28, h29, h30, h31, rfl, rfl⟩ H
    refine alloc_ gok rfl H ?_; clear H; intro b7 w32 hx H
    clear hx
    refine stA gok [(.int .i64 y6_0), (.int .i64 y6_1), (.int .i64 y6_2), (h28).v, (h29).v, (h30).v, (h31).v] rfl H rfl rfl rfl ?_; clear H; intro w33 H
    refine loadN [(.int .i64 y5_0), (.int .i64 y5_1), (.int .i64 y5_2), (h24).v, (h25).v, (h26).v, (h27).v] rfl (fun j u hj => H.bx 5 rfl hj) ?_
    refine loadN [(.int .i64 y6_0), (.int .i64 y6_1), (.int .i64 y6_2), (h28).v, (h29).v, (h30).v, (h31).v] rfl (fun j u hj => H.bx 0 rfl hj) ?_
    obtain ⟨y7, e, f19⟩ := bindS f18; clear f18
    obtain ⟨⟨y7_0_0, y7_0_1⟩, y7_1⟩ := y7
    have ey398 := e; clear e
    refine callF (impl_SimilarityOf_c aP_ y5_0 y5_1 y5_2 y5_3 h24 y5_4 h25 y5_5 h26 y5_6 h27 y6_0 y6_1 y6_2 y6_3 h28 y6_4 h29 y6_5 h30 y6_6 h31 y7_0_0 y7_0_1 y7_1 ey398) (Γi := []) H ⟨Vw.own 6 rfl, Vw.own 7 rfl, Vw.own 8 rfl, Vw.own 9 rfl, Vw.own 1 rfl, Vw.own 2 rfl, Vw.own 3 rfl, Vw.own 4 rfl, Vw.gl 22 rfl, trivial⟩ ?_; clear H ey398
    rintro _ _ w34 ⟨h32, rfl, rfl⟩ H
    refine alloc_ gok rfl H ?_; clear H; intro b8 w35 hx H
    clear hx
    refine stA gok [(.int .i64 y7_0_0), (h32).v] rfl H rfl rfl rfl ?_; clear H; intro w36 H
    refine sq ?_
    obtain ⟨r1, f20, f21⟩ := bindS f19; clear f19
    refine cut (fun (q1 : Bool) => [(0, (.int .i64 aP_)), (4, (.pointer (some ⟨b0, 0, none⟩))), (5, (.pointer (some ⟨b1, 0, none⟩))), (8, (.pointer (some ⟨g0_1, 0, none⟩))), (9, (.bool s0_2)), (10, (.pointer (some ⟨b6, 0, none⟩))), (11, (.pointer (some ⟨b7, 0, none⟩))), (12, (.pointer (some ⟨b8, 0, none⟩))), (13, (.bool y7_1)), (57, (.bool q1))]) (fun (q1 : Bool) w' => q1 = r1 ∧ Cx w0 fp0 S0 w' [Bx b0 [(.int .i64 aA__0), (.int .i64 aA__1), (.int .i64 aA__2), (aA__3h).v, (aA__4h).v, (aA__5h).v, (aA__6h).v], Es (List (List Int)) aA__3 aA__3h, Es (List (List Int)) aA__4 aA__4h, Es (List (List Int)) aA__5 aA__5h, Es (List (List Int)) aA__6 aA__6h, Bx b1 [(.int .i64 aB__0), (.int .i64 aB__1), (.int .i64 aB__2), (aB__3h).v, (aB__4h).v, (aB__5h).v, (aB__6h).v], Es (List (List Int)) aB__3 aB__3h, Es (List (List Int)) aB__4 aB__4h, Es (List (List Int)) aB__5 aB__5h, Es (List (List Int)) aB__6 aB__6h, Bx g0_1 [(.int .i64 s0_0), (g0_0).v], E (List (List Int)) s0_1 g0_0, Bx b6 [(.int .i64 y5_0), (.int .i64 y5_1), (.int .i64 y5_2), (h24).v, (h25).v, (h26).v, (h27).v], E (List (List Int)) y5_3 h24, E (List (List Int)) y5_4 h25, E (List (List Int)) y5_5 h26, E (List (List Int)) y5_6 h27, Bx b7 [(.int .i64 y6_0), (.int .i64 y6_1), (.int .i64 y6_2), (h28).v, (h29).v, (h30).v, (h31).v], E (List (List Int)) y6_3 h28, E (List (List Int)) y6_4 h29, E (List (List Int)) y6_5 h30, E (List (List Int)) y6_6 h31, Bx b8 [(.int .i64 y7_0_0), (h32).v], E (List (List Int)) y7_0_1 h32, Gl 0 [.int .i64 2, .int .i64 3, .int .i64 5, .int .i64 7]]) ?_ ?_
    ·
     refine loadN [(.int .i64 y7_0_0), (h32).v] rfl (fun j u hj => H.bx 0 rfl hj) ?_
     refine loadN [(.int .i64 s0_0), (g0_0).v] rfl (fun j u hj => H.bx 22 rfl hj) ?_
     obtain ⟨y8, e, f22⟩ := bindS f20; clear f20
     have ey422 := e; clear e
     refine callF (laws_eqMatrix_c y7_0_0 y7_0_1 h32 s0_0 s0_1 g0_0 y8 ey422) (Γi := []) H ⟨Vw.own 1 rfl, Vw.own 23 rfl, trivial⟩ ?_; clear H ey422
     rintro _ _ w37 ⟨rfl, rfl⟩ H
     obtain ⟨a8, e, f23⟩ := bindS f22; clear f22
     refine boolO e ?_; clear e
     cases a8
     ·
      have f24 := condF f23; clear f23
      obtain ⟨a9, e, f25⟩ := bindS f24; clear f24
      refine boolO e ?_; clear e
      exact ⟨a9, ⟨rfl, rfl, rfl, rfl, rfl, rfl, rfl, rfl, rfl, rfl, trivial⟩, Option.some.inj f25, H.sel [12, 13, 14, 15, 16, 17, 18, 19, 20, 21, 22, 23, 7, 8, 9, 10, 11, 2, 3, 4, 5, 6, 0, 1, 24] rfl⟩
     ·
      have f26 := condT f23; clear f23
      exact ⟨true, ⟨rfl, rfl, rfl, rfl, rfl, rfl, rfl, rfl, rfl, rfl, trivial⟩, Option.some.inj f26, H.sel [12, 13, 14, 15, 16, 17, 18, 19, 20, 21, 22, 23, 7, 8, 9, 10, 11, 2, 3, 4, 5, 6, 0, 1, 24] rfl⟩
    ·
     clear f20 H
     rintro T1 s1 w38 ⟨hr, (H : Cx w0 fp0 S0 w38 [Bx b0 [(.int .i64 aA__0), (.int .i64 aA__1), (.int .i64 aA__2), (aA__3h).v, (aA__4h).v, (aA__5h).v, (aA__6h).v], Es (List (List Int)) aA__3 aA__3h, Es (List (List Int)) aA__4 aA__4h, Es (List (List Int)) aA__5 aA__5h, Es (List (List Int)) aA__6 aA__6h, Bx b1 [(.int .i64 aB__0), (.int .i64 aB__1), (.int .i64 aB__2), (aB__3h).v, (aB__4h).v, (aB__5h).v, (aB__6h).v], Es (List (List Int)) aB__3 aB__3h, Es (List (List Int)) aB__4 aB__4h, Es (List (List Int)) aB__5 aB__5h, Es (List (List Int)) aB__6 aB__6h, Bx g0_1 [(.int .i64 s0_0), (g0_0).v], E (List (List Int)) s0_1 g0_0, Bx b6 [(.int .i64 y5_0), (.int .i64 y5_1), (.int .i64 y5_2), (h24).v, (h25).v, (h26).v, (h27).v], E (List (List Int)) y5_3 h24, E (List (List Int)) y5_4 h25, E (List (List Int)) y5_5 h26, E (List (List Int)) y5_6 h27, Bx b7 [(.int .i64 y6_0), (.int .i64 y6_1), (.int .i64 y6_2), (h28).v, (h29).v, (h30).v, (h31).v], E (List (List Int)) y6_3 h28, E (List (List Int)) y6_4 h29, E (List (List Int)) y6_5 h30, E (List (List Int)) y6_6 h31, Bx b8 [(.int .i64 y7_0_0), (h32).v], E (List (List Int)) y7_0_1 h32, Gl 0 [.int .i64 2, .int .i64 3, .int .i64 5, .int .i64 7]])⟩
     subst hr
     cases s1
     ·
      have f27 := condF f21; clear f21
      refine sq ?_
      refine heldX H [] (.fst 0 (.fst 1 (.act 2 (.act 3 (.fst 4 .done))))) mixed [] trivial (by kernel_rfl) ?_
      clear H; intro w39 H
      have hX : Ext w39 w39 := Upd.refl _ _
      have H0 := H
      refine loadNX [(.int .i64 y5_0), (.int .i64 y5_1), (.int .i64 y5_2), (h24).v, (h25).v, (h26).v, (h27).v] rfl (fun j u hj => H.bx 12 rfl hj) ?_
      refine loadNX [(.int .i64 aA__0), (.int .i64 aA__1), (.int .i64 aA__2), (aA__3h).v, (aA__4h).v, (aA__5h).v, (aA__6h).v] rfl (fun j u hj => H.bx 0 rfl hj) ?_
      obtain ⟨y9, e, f28⟩ := bindS f27; clear f27
      obtain ⟨y9_0, y9_1, y9_2, y9_3, y9_4, y9_5, y9_6⟩ := y9
      have ey435 := e; clear e
      refine callFx (laws_toStateSpace_c aA__0 aA__1 aA__2 aA__3 aA__3h aA__4 aA__4h aA__5 aA__5h aA__6 aA__6h y9_0 y9_1 y9_2 y9_3 y9_4 y9_5 y9_6 ey435) H ⟨Vw.sh 1 rfl, Vw.sh 2 rfl, Vw.sh 3 rfl, Vw.sh 4 rfl, trivial⟩ ?_; clear H ey435
      rintro _ _ w40 ⟨h33, h34, h35, h36, rfl, rfl⟩ hx H
      replace hX := hX.trans0 hx; clear hx
      refine hold hX ?_
      obtain ⟨y10, e, f29⟩ := bindS f28; clear f28
      have ey446 := e; clear e
      refine callFx (laws_eqStateSpace_c y5_0 y5_1 y5_2 y5_3 h24 y5_4 h25 y5_5 h26 y5_6 h27 y9_0 y9_1 y9_2 y9_3 h33 y9_4 h34 y9_5 h35 y9_6 h36 y10 ey446) H ⟨Vw.own 17 rfl, Vw.own 18 rfl, Vw.own 19 rfl, Vw.own 20 rfl, Vw.own 0 rfl, Vw.own 1 rfl, Vw.own 2 rfl, Vw.own 3 rfl, trivial⟩ ?_; clear H ey446
      rintro _ _ w41 ⟨rfl, rfl⟩ hx H
      replace hX := hX.trans0 hx; clear hx
      refine hold hX ?_
      obtain ⟨a10, e, f30⟩ := bindS f29; clear f29
      refine boolO e ?_; clear e
      cases a10
      ·
       have f31 := condF f30; clear f30
       refine sq ?_
       refine heldX H [] (.fst 0 (.fst 1 (.act 2 (.act 3 (.fst 4 .done))))) mixed [] trivial (by kernel_rfl) ?_
       clear H; intro w42 H
       have hX : Ext w42 w42 := Upd.refl _ _
       have H0 := H
       refine loadNX [(.int .i64 y6_0), (.int .i64 y6_1), (.int .i64 y6_2), (h28).v, (h29).v, (h30).v, (h31).v] rfl (fun j u hj => H.bx 21 rfl hj) ?_
       refine loadNX [(.int .i64 aB__0), (.int .i64 aB__1), (.int .i64 aB__2), (aB__3h).v, (aB__4h).v, (aB__5h).v, (aB__6h).v] rfl (fun j u hj => H.bx 9 rfl hj) ?_
       obtain ⟨y11, e, f32⟩ := bindS f31; clear f31
       obtain ⟨y11_0, y11_1, y11_2, y11_3, y11_4, y11_5, y11_6⟩ := y11
       have ey453 := e; clear e
       refine callFx (laws_toStateSpace_c aB__0 aB__1 aB__2 aB__3 aB__3h aB__4 aB__4h aB__5 aB__5h aB__6 aB__6h y11_0 y11_1 y11_2 y11_3 y11_4 y11_5 y11_6 ey453) H ⟨Vw.sh 10 rfl, Vw.sh 11 rfl, Vw.sh 12 rfl, Vw.sh 13 rfl, trivial⟩ ?_; clear H ey453
       rintro _ _ w43 ⟨h37, h38, h39, h40, rfl, rfl⟩ hx H
       replace hX := hX.trans0 hx; clear hx
       refine hold hX ?_
       obtain ⟨y12, e, f33⟩ := bindS f32; clear f32
       have ey464 := e; clear e
       refine callFx (laws_eqStateSpace_c y6_0 y6_1 y6_2 y6_3 h28 y6_4 h29 y6_5 h30 y6_6 h31 y11_0 y11_1 y11_2 y11_3 h37 y11_4 h38 y11_5 h39 y11_6 h40 y12 ey464) H ⟨Vw.own 26 rfl, Vw.own 27 rfl, Vw.own 28 rfl, Vw.own 29 rfl, Vw.own 0 rfl, Vw.own 1 rfl, Vw.own 2 rfl, Vw.own 3 rfl, trivial⟩ ?_; clear H ey464
       rintro _ _ w44 ⟨rfl, rfl⟩ hx H
       replace hX := hX.trans0 hx; clear hx
       refine hold hX ?_
       obtain ⟨a11, e, f34⟩ := bindS f33; clear f33
       refine boolO e ?_; clear e
       cases a11
       ·
        have f35 := condF f34; clear f34
        refine loadN [(.int .i64 y5_0), (.int .i64 y5_1), (.int .i64 y5_2), (h24).v, (h25).v, (h26).v, (h27).v] rfl (fun j u hj => H.bx 20 rfl hj) ?_
        obtain ⟨y13, e, f36⟩ := bindS f35; clear f35
        obtain ⟨⟨y13_0_0, y13_0_1, y13_0_2, y13_0_3, y13_0_4, y13_0_5, y13_0_6⟩, y13_1⟩ := y13
        have ey470 := e; clear e
        replace H := H.sel [21, 22, 23, 24, 0, 1, 2, 3, 4, 5, 6, 7, 8, 9, 10, 11, 12, 13, 14, 15, 16, 17, 18, 19, 20, 25, 26, 27, 28, 29, 30, 31, 32] rfl
        refine callF (laws_markStateSpace_c y5_0 y5_1 y5_2 y5_3 h24 y5_4 h25 y5_5 h26 y5_6 h27 1 y13_0_0 y13_0_1 y13_0_2 y13_0_3 y13_0_4 y13_0_5 y13_0_6 y13_1 ey470) (Γi := [E (List (List Int)) y5_3 h24, E (List (List Int)) y5_4 h25, E (List (List Int)) y5_5 h26, E (List (List Int)) y5_6 h27]) H trivial ?_; clear H ey470
        rintro _ _ w45 ⟨rfl, rfl⟩ H
        refine loadN [(.int .i64 y6_0), (.int .i64 y6_1), (.int .i64 y6_2), (h28).v, (h29).v, (h30).v, (h31).v] rfl (fun j u hj => H.bx 25 rfl hj) ?_
        obtain ⟨y14, e, f37⟩ := bindS f36; clear f36
        obtain ⟨⟨y14_0_0, y14_0_1, y14_0_2, y14_0_3, y14_0_4, y14_0_5, y14_0_6⟩, y14_1⟩ := y14
        have ey473 := e; clear e
        replace H := H.sel [26, 27, 28, 29, 0, 1, 2, 3, 4, 5, 6, 7, 8, 9, 10, 11, 12, 13, 14, 15, 16, 17, 18, 19, 20, 21, 22, 23, 24, 25, 30, 31, 32] rfl
        refine callF (laws_markStateSpace_c y6_0 y6_1 y6_2 y6_3 h28 y6_4 h29 y6_5 h30 y6_6 h31 y13_1 y14_0_0 y14_0_1 y14_0_2 y14_0_3 y14_0_4 y14_0_5 y14_0_6 y14_1 ey473) (Γi := [E (List (List Int)) y6_3 h28, E (List (List Int)) y6_4 h29, E (List (List Int)) y6_5 h30, E (List (List Int)) y6_6 h31]) H trivial ?_; clear H ey473
        rintro _ _ w46 ⟨rfl, rfl⟩ H
        refine sq ?_
        obtain ⟨r2, f38, f39⟩ := bindS f37; clear f37
        refine cut (fun (q2 : Bool) => [(0, (.int .i64 aP_)), (4, (.pointer (some ⟨b0, 0, none⟩))), (5, (.pointer (some ⟨b1, 0, none⟩))), (8, (.pointer (some ⟨g0_1, 0, none⟩))), (9, (.bool s0_2)), (12, (.pointer (some ⟨b8, 0, none⟩))), (86, (.bool q2))]) (fun (q2 : Bool) w' => q2 = r2 ∧ Cx w0 fp0 S0 w' [Bx b0 [(.int .i64 aA__0), (.int .i64 aA__1), (.int .i64 aA__2), (aA__3h).v, (aA__4h).v, (aA__5h).v, (aA__6h).v], Es (List (List Int)) aA__3 aA__3h, Es (List (List Int)) aA__4 aA__4h, Es (List (List Int)) aA__5 aA__5h, Es (List (List Int)) aA__6 aA__6h, Bx b1 [(.int .i64 aB__0), (.int .i64 aB__1), (.int .i64 aB__2), (aB__3h).v, (aB__4h).v, (aB__5h).v, (aB__6h).v], Es (List (List Int)) aB__3 aB__3h, Es (List (List Int)) aB__4 aB__4h, Es (List (List Int)) aB__5 aB__5h, Es (List (List Int)) aB__6 aB__6h, Bx g0_1 [(.int .i64 s0_0), (g0_0).v], E (List (List Int)) s0_1 g0_0, Bx b8 [(.int .i64 y7_0_0), (h32).v], E (List (List Int)) y7_0_1 h32, Gl 0 [.int .i64 2, .int .i64 3, .int .i64 5, .int .i64 7]]) ?_ ?_
        ·
         obtain ⟨a12, e, f40⟩ := bindS f38; clear f38
         refine boolO e ?_; clear e
         cases a12
         ·
          have f41 := condF f40; clear f40
          refine loadN [(.int .i64 y7_0_0), (h32).v] rfl (fun j u hj => H.bx 30 rfl hj) ?_
          refine loadN [(.int .i64 s0_0), (g0_0).v] rfl (fun j u hj => H.bx 26 rfl hj) ?_
          obtain ⟨y15, e, f42⟩ := bindS f41; clear f41
          have ey498 := e; clear e
          refine callF (laws_eqMatrix_c y7_0_0 y7_0_1 h32 s0_0 s0_1 g0_0 y15 ey498) (Γi := []) H ⟨Vw.own 31 rfl, Vw.own 27 rfl, trivial⟩ ?_; clear H ey498
          rintro _ _ w47 ⟨rfl, rfl⟩ H
          obtain ⟨a13, e, f43⟩ := bindS f42; clear f42
          refine boolO e ?_; clear e
          cases a13
          ·
           have f44 := condF f43; clear f43
           obtain ⟨a14, e, f45⟩ := bindS f44; clear f44
           refine boolO e ?_; clear e
           exact ⟨a14, ⟨rfl, rfl, rfl, rfl, rfl, rfl, rfl, trivial⟩, Option.some.inj f45, H.sel [16, 17, 18, 19, 20, 21, 22, 23, 24, 25, 26, 27, 30, 31, 32] rfl⟩
          ·
           have f46 := condT f43; clear f43
           exact ⟨true, ⟨rfl, rfl, rfl, rfl, rfl, rfl, rfl, trivial⟩, Option.some.inj f46, H.sel [16, 17, 18, 19, 20, 21, 22, 23, 24, 25, 26, 27, 30, 31, 32] rfl⟩
         ·
          have f47 := condT f40; clear f40
          exact ⟨true, ⟨rfl, rfl, rfl, rfl, rfl, rfl, rfl, trivial⟩, Option.some.inj f47, H.sel [16, 17, 18, 19, 20, 21, 22, 23, 24, 25, 26, 27, 30, 31, 32] rfl⟩
        ·
         clear f38 H
         rintro T2 s2 w48 ⟨hr, (H : Cx w0 fp0 S0 w48 [Bx b0 [(.int .i64 aA__0), (.int .i64 aA__1), (.int .i64 aA__2), (aA__3h).v, (aA__4h).v, (aA__5h).v, (aA__6h).v], Es (List (List Int)) aA__3 aA__3h, Es (List (List Int)) aA__4 aA__4h, Es (List (List Int)) aA__5 aA__5h, Es (List (List Int)) aA__6 aA__6h, Bx b1 [(.int .i64 aB__0), (.int .i64 aB__1), (.int .i64 aB__2), (aB__3h).v, (aB__4h).v, (aB__5h).v, (aB__6h).v], Es (List (List Int)) aB__3 aB__3h, Es (List (List Int)) aB__4 aB__4h, Es (List (List Int)) aB__5 aB__5h, Es (List (List Int)) aB__6 aB__6h, Bx g0_1 [(.int .i64 s0_0), (g0_0).v], E (List (List Int)) s0_1 g0_0, Bx b8 [(.int .i64 y7_0_0), (h32).v], E (List (List Int)) y7_0_1 h32, Gl 0 [.int .i64 2, .int .i64 3, .int .i64 5, .int .i64 7]])⟩
         subst hr
         cases s2
         ·
          have f48 := condF f39; clear f39
          refine loadN [(.int .i64 y7_0_0), (h32).v] rfl (fun j u hj => H.bx 12 rfl hj) ?_
          obtain ⟨y17, e, f49⟩ := bindS f48; clear f48
          obtain ⟨⟨y17_0_0, y17_0_1⟩, y17_1⟩ := y17
          have ey511 := e; clear e
          replace H := H.sel [13, 0, 1, 2, 3, 4, 5, 6, 7, 8, 9, 10, 11, 12, 14] rfl
          refine callF (laws_markMatrix_c y7_0_0 y7_0_1 h32 1 y17_0_0 y17_0_1 y17_1 ey511) (Γi := [E (List (List Int)) y7_0_1 h32]) H trivial ?_; clear H ey511
          rintro _ _ w49 ⟨rfl, rfl⟩ H
          refine loadN [(.int .i64 y7_0_0), (h32).v] rfl (fun j u hj => H.bx 13 rfl hj) ?_
          obtain ⟨y18, e, f50⟩ := bindS f49; clear f49
          have ey514 := e; clear e
          refine callF (laws_heldMatrix_c y7_0_0 y17_0_1 h32 1 y18 ey514) (Γi := []) H ⟨Vw.own 0 rfl, trivial⟩ ?_; clear H ey514
          rintro _ _ w50 ⟨rfl, rfl⟩ H
          refine sq ?_
          obtain ⟨a15, e, f51⟩ := bindS f50; clear f50
          refine boolO e ?_; clear e
          cases a15
          ·
           have f52 := condF f51; clear f51
           refine sq ?_
           obtain ⟨a16, e, f53⟩ := bindS f52; clear f52
           refine boolO e ?_; clear e
           cases a16
           ·
            have f54 := condF f53; clear f53
            obtain ⟨r3, f55, f56⟩ := bindS f54; clear f54
            refine heldJ H [] (.fst 0 (.fst 1 (.fst 3 (.alts (.alt 2 (.alts (.alt 4 (.alts (.alt 5 (.fst 6 (.fst 7 (.fst 8 (.act 9 (.act 10 (.fst 11 .done)))))) (.alt 9 (.act 5 (.fst 6 (.fst 7 (.fst 8 (.act 10 (.fst 11 .done)))))) .no))) (.alt 9 (.act 4 (.act 5 (.fst 6 (.fst 7 (.fst 8 (.act 10 (.fst 11 .done))))))) .no))) (.alt 9 (.act 2 (.act 4 (.act 5 (.fst 6 (.fst 7 (.fst 8 (.act 10 (.fst 11 .done)))))))) .no)))))) mixed [] trivial (by kernel_rfl) (fun (q3 : (Int × List (List Int) × Bool) × (Hd × Nat)) => [(8, (.pointer (some ⟨g0_1, 0, none⟩))), (9, (.bool s0_2)), (12, (.pointer (some ⟨b8, 0, none⟩))), (15, (.int .i64 y17_1)), (17, (.pointer (some ⟨q3.2.2, 0, none⟩))), (18, (.bool q3.1.2.2))]) (fun (q3 : (Int × List (List Int) × Bool) × (Hd × Nat)) w' => (q3.1.1, q3.1.2.1, q3.1.2.2) = r3 ∧ Cx w0 fp0 S0 w' [Bx g0_1 [(.int .i64 s0_0), (g0_0).v], E (List (List Int)) s0_1 g0_0, Bx b8 [(.int .i64 y7_0_0), (h32).v], E (List (List Int)) y17_0_1 h32, Bx q3.2.2 [(.int .i64 q3.1.1), (q3.2.1).v], E (List (List Int)) q3.1.2.1 q3.2.1, Gl 0 [.int .i64 2, .int .i64 3, .int .i64 5, .int .i64 7]]) ?_ ?_
            ·
             clear H; intro w51 H
             have hX : Ext w51 w51 := Upd.refl _ _
             have H0 := H
             refine loadNX [(.int .i64 aA__0), (.int .i64 aA__1), (.int .i64 aA__2), (aA__3h).v, (aA__4h).v, (aA__5h).v, (aA__6h).v] rfl (fun j u hj => H.bx 1 rfl hj) ?_
             refine loadNX [(.int .i64 aB__0), (.int .i64 aB__1), (.int .i64 aB__2), (aB__3h).v, (aB__4h).v, (aB__5h).v, (aB__6h).v] rfl (fun j u hj => H.bx 6 rfl hj) ?_
             refine both ?_ ?_
             ·
              obtain ⟨y19, e, f57⟩ := bindS f55; clear f55
              obtain ⟨y19_0, y19_1, y19_2, y19_3, y19_4, y19_5, y19_6⟩ := y19
              have ey729 := e; clear e
              refine callFx (laws_toStateSpace_c aA__0 aA__1 aA__2 aA__3 aA__3h aA__4 aA__4h aA__5 aA__5h aA__6 aA__6h y19_0 y19_1 y19_2 y19_3 y19_4 y19_5 y19_6 ey729) H ⟨Vw.sh 2 rfl, Vw.sh 3 rfl, Vw.sh 4 rfl, Vw.sh 5 rfl, trivial⟩ ?_; clear H ey729
              rintro _ _ w52 ⟨h41, h42, h43, h44, rfl, rfl⟩ hx H
              replace hX := hX.trans0 hx; clear hx
              refine hold hX ?_
              refine both ?_ ?_
              ·
               obtain ⟨y20, e, f58⟩ := bindS f57; clear f57
               obtain ⟨y20_0, y20_1, y20_2, y20_3, y20_4, y20_5, y20_6⟩ := y20
               have ey761 := e; clear e
               refine callFx (laws_toStateSpace_c aB__0 aB__1 aB__2 aB__3 aB__3h aB__4 aB__4h aB__5 aB__5h aB__6 aB__6h y20_0 y20_1 y20_2 y20_3 y20_4 y20_5 y20_6 ey761) H ⟨Vw.sh 11 rfl, Vw.sh 12 rfl, Vw.sh 13 rfl, Vw.sh 14 rfl, trivial⟩ ?_; clear H ey761
               rintro _ _ w53 ⟨h45, h46, h47, h48, rfl, rfl⟩ hx H
               replace hX := hX.trans0 hx; clear hx
               refine hold hX ?_
               refine both ?_ ?_
               ·
                obtain ⟨y21, e, f59⟩ := bindS f58; clear f58
                obtain ⟨⟨y21_0_0, y21_0_1⟩, y21_1⟩ := y21
                have ey782 := e; clear e
                refine callFx (impl_SimilarityOf_c aP_ y19_0 y19_1 y19_2 y19_3 h41 y19_4 h42 y19_5 h43 y19_6 h44 y20_0 y20_1 y20_2 y20_3 h45 y20_4 h46 y20_5 h47 y20_6 h48 y21_0_0 y21_0_1 y21_1 ey782) H ⟨Vw.own 4 rfl, Vw.own 5 rfl, Vw.own 6 rfl, Vw.own 7 rfl, Vw.own 0 rfl, Vw.own 1 rfl, Vw.own 2 rfl, Vw.own 3 rfl, Vw.gl 22 rfl, trivial⟩ ?_; clear H ey782
                rintro _ _ w54 ⟨h49, rfl, rfl⟩ hx H
                replace hX := hX.trans0 hx; clear hx
                refine hold hX ?_
                refine allocX gok rfl H ?_; clear H; intro b9 w55 hx v4 H; replace v4 := Nat.le_trans hX.size v4
                replace hX := hX.trans0 hx; clear hx
                refine hold hX ?_
                refine stAX gok [(.int .i64 y21_0_0), (h49).v] rfl H rfl rfl rfl ?_; clear H; intro w56 hu H
                replace hX := hX.fresh hu v4; clear hu
                refine hold hX ?_
                exact ⟨((y21_0_0, y21_0_1, y21_1), (h49, b9)), ⟨rfl, rfl, rfl, rfl, rfl, rfl, trivial⟩, Option.some.inj f59, H.sel [21, 22, 23, 10, 0, 1, 24] rfl⟩
               ·
                refine both ?_ ?_
                ·
                 obtain ⟨a17, o6, f60⟩ := bindS f58; clear f58
                 refine allocX gok rfl H ?_; clear H; intro b10 w57 hx v5 H; replace v5 := Nat.le_trans hX.size v5
                 replace hX := hX.trans0 hx; clear hx
                 refine hold hX ?_
                 have e := o6; clear o6
                 obtain ⟨⟨a17_0_0, a17_0_1⟩, a17_1⟩ := a17
                 have ea792 := e; clear e
                 refine callFx (impl_SimilarityOf_c aP_ y19_0 y19_1 y19_2 y19_3 h41 y19_4 h42 y19_5 h43 y19_6 h44 y20_0 y20_1 y20_2 y20_3 h45 y20_4 h46 y20_5 h47 y20_6 h48 a17_0_0 a17_0_1 a17_1 ea792) H ⟨Vw.own 5 rfl, Vw.own 6 rfl, Vw.own 7 rfl, Vw.own 8 rfl, Vw.own 1 rfl, Vw.own 2 rfl, Vw.own 3 rfl, Vw.own 4 rfl, Vw.gl 23 rfl, trivial⟩ ?_; clear H ea792
                 rintro _ _ w58 ⟨h50, rfl, rfl⟩ hx H
                 replace hX := hX.trans0 hx; clear hx
                 refine hold hX ?_
                 replace H := H.sel [1, 0, 2, 3, 4, 5, 6, 7, 8, 9, 10, 11, 12, 13, 14, 15, 16, 17, 18, 19, 20, 21, 22, 23, 24] rfl
                 refine stAX gok [(.int .i64 a17_0_0), (h50).v] rfl H rfl rfl rfl ?_; clear H; intro w59 hu H
                 replace hX := hX.fresh hu v5; clear hu
                 refine hold hX ?_
                 exact ⟨((a17_0_0, a17_0_1, a17_1), (h50, b10)), ⟨rfl, rfl, rfl, rfl, rfl, rfl, trivial⟩, Option.some.inj f60, H.sel [21, 22, 23, 10, 0, 1, 24] rfl⟩
                ·
                 exact trivial
              ·
               refine both ?_ ?_
               ·
                obtain ⟨a18, o7, f61⟩ := bindS f57; clear f57
                obtain ⟨a20, o8, f62⟩ := bindS f61; clear f61
                refine allocX gok rfl H ?_; clear H; intro b12 w60 hx v6 H; replace v6 := Nat.le_trans hX.size v6
                replace hX := hX.trans0 hx; clear hx
                refine hold hX ?_
                have e := o7; clear o7
                obtain ⟨a18_0, a18_1, a18_2, a18_3, a18_4, a18_5, a18_6⟩ := a18
                have ea803 := e; clear e
                refine callFx (laws_toStateSpace_c aB__0 aB__1 aB__2 aB__3 aB__3h aB__4 aB__4h aB__5 aB__5h aB__6 aB__6h a18_0 a18_1 a18_2 a18_3 a18_4 a18_5 a18_6 ea803) H ⟨Vw.sh 12 rfl, Vw.sh 13 rfl, Vw.sh 14 rfl, Vw.sh 15 rfl, trivial⟩ ?_; clear H ea803
                rintro _ _ w61 ⟨h51, h52, h53, h54, rfl, rfl⟩ hx H
                replace hX := hX.trans0 hx; clear hx
                refine hold hX ?_
                have e := o8; clear o8
                obtain ⟨⟨a20_0_0, a20_0_1⟩, a20_1⟩ := a20
                have ea806 := e; clear e
                refine callFx (impl_SimilarityOf_c aP_ y19_0 y19_1 y19_2 y19_3 h41 y19_4 h42 y19_5 h43 y19_6 h44 a18_0 a18_1 a18_2 a18_3 h51 a18_4 h52 a18_5 h53 a18_6 h54 a20_0_0 a20_0_1 a20_1 ea806) H ⟨Vw.own 5 rfl, Vw.own 6 rfl, Vw.own 7 rfl, Vw.own 8 rfl, Vw.own 0 rfl, Vw.own 1 rfl, Vw.own 2 rfl, Vw.own 3 rfl, Vw.gl 23 rfl, trivial⟩ ?_; clear H ea806
                rintro _ _ w62 ⟨h55, rfl, rfl⟩ hx H
                replace hX := hX.trans0 hx; clear hx
                refine hold hX ?_
                replace H := H.sel [5, 0, 1, 2, 3, 4, 6, 7, 8, 9, 10, 11, 12, 13, 14, 15, 16, 17, 18, 19, 20, 21, 22, 23, 24] rfl
                refine stAX gok [(.int .i64 a20_0_0), (h55).v] rfl H rfl rfl rfl ?_; clear H; intro w63 hu H
                replace hX := hX.fresh hu v6; clear hu
                refine hold hX ?_
                exact ⟨((a20_0_0, a20_0_1, a20_1), (h55, b12)), ⟨rfl, rfl, rfl, rfl, rfl, rfl, trivial⟩, Option.some.inj f62, H.sel [21, 22, 23, 10, 0, 1, 24] rfl⟩
               ·
                exact trivial
             ·
              refine both ?_ ?_
              ·
               obtain ⟨a21, o9, f63⟩ := bindS f55; clear f55
               obtain ⟨a22, o10, f64⟩ := bindS f63; clear f63
               obtain ⟨a23, o11, f65⟩ := bindS f64; clear f64
               refine allocX gok rfl H ?_; clear H; intro b13 w64 hx v7 H; replace v7 := Nat.le_trans hX.size v7
               replace hX := hX.trans0 hx; clear hx
               refine hold hX ?_
               have e := o9; clear o9
               obtain ⟨a21_0, a21_1, a21_2, a21_3, a21_4, a21_5, a21_6⟩ := a21
               have ea826 := e; clear e
               refine callFx (laws_toStateSpace_c aA__0 aA__1 aA__2 aA__3 aA__3h aA__4 aA__4h aA__5 aA__5h aA__6 aA__6h a21_0 a21_1 a21_2 a21_3 a21_4 a21_5 a21_6 ea826) H ⟨Vw.sh 3 rfl, Vw.sh 4 rfl, Vw.sh 5 rfl, Vw.sh 6 rfl, trivial⟩ ?_; clear H ea826
               rintro _ _ w65 ⟨h56, h57, h58, h59, rfl, rfl⟩ hx H
               replace hX := hX.trans0 hx; clear hx
               refine hold hX ?_
               have e := o10; clear o10
               obtain ⟨a22_0, a22_1, a22_2, a22_3, a22_4, a22_5, a22_6⟩ := a22
               have ea829 := e; clear e
               refine callFx (laws_toStateSpace_c aB__0 aB__1 aB__2 aB__3 aB__3h aB__4 aB__4h aB__5 aB__5h aB__6 aB__6h a22_0 a22_1 a22_2 a22_3 a22_4 a22_5 a22_6 ea829) H ⟨Vw.sh 12 rfl, Vw.sh 13 rfl, Vw.sh 14 rfl, Vw.sh 15 rfl, trivial⟩ ?_; clear H ea829
               rintro _ _ w66 ⟨h60, h61, h62, h63, rfl, rfl⟩ hx H
               replace hX := hX.trans0 hx; clear hx
               refine hold hX ?_
               have e := o11; clear o11
               obtain ⟨⟨a23_0_0, a23_0_1⟩, a23_1⟩ := a23
               have ea832 := e; clear e
               refine callFx (impl_SimilarityOf_c aP_ a21_0 a21_1 a21_2 a21_3 h56 a21_4 h57 a21_5 h58 a21_6 h59 a22_0 a22_1 a22_2 a22_3 h60 a22_4 h61 a22_5 h62 a22_6 h63 a23_0_0 a23_0_1 a23_1 ea832) H ⟨Vw.own 4 rfl, Vw.own 5 rfl, Vw.own 6 rfl, Vw.own 7 rfl, Vw.own 0 rfl, Vw.own 1 rfl, Vw.own 2 rfl, Vw.own 3 rfl, Vw.gl 23 rfl, trivial⟩ ?_; clear H ea832
               rintro _ _ w67 ⟨h64, rfl, rfl⟩ hx H
               replace hX := hX.trans0 hx; clear hx
               refine hold hX ?_
               replace H := H.sel [9, 0, 1, 2, 3, 4, 5, 6, 7, 8, 10, 11, 12, 13, 14, 15, 16, 17, 18, 19, 20, 21, 22, 23, 24] rfl
               refine stAX gok [(.int .i64 a23_0_0), (h64).v] rfl H rfl rfl rfl ?_; clear H; intro w68 hu H
               replace hX := hX.fresh hu v7; clear hu
               refine hold hX ?_
               exact ⟨((a23_0_0, a23_0_1, a23_1), (h64, b13)), ⟨rfl, rfl, rfl, rfl, rfl, rfl, trivial⟩, Option.some.inj f65, H.sel [21, 22, 23, 10, 0, 1, 24] rfl⟩
              ·
               exact trivial
            ·
             clear f55 H
             rintro T3 ⟨⟨s3_0, s3_1, s3_2⟩, ⟨g1_0, g1_1⟩⟩ w69 ⟨hr, (H : Cx w0 fp0 S0 w69 [Bx g0_1 [(.int .i64 s0_0), (g0_0).v], E (List (List Int)) s0_1 g0_0, Bx b8 [(.int .i64 y7_0_0), (h32).v], E (List (List Int)) y17_0_1 h32, Bx g1_1 [(.int .i64 s3_0), (g1_0).v], E (List (List Int)) s3_1 g1_0, Gl 0 [.int .i64 2, .int .i64 3, .int .i64 5, .int .i64 7]])⟩
             subst hr
             refine sq ?_
             obtain ⟨r4, f66, f67⟩ := bindS f56; clear f56
             refine cut (fun (q4 : Bool) => [(12, (.pointer (some ⟨b8, 0, none⟩))), (15, (.int .i64 y17_1)), (115, (.bool q4))]) (fun (q4 : Bool) w' => q4 = r4 ∧ Cx w0 fp0 S0 w' [Bx b8 [(.int .i64 y7_0_0), (h32).v], E (List (List Int)) y17_0_1 h32, Gl 0 [.int .i64 2, .int .i64 3, .int .i64 5, .int .i64 7]]) ?_ ?_
             ·
              refine loadN [(.int .i64 s3_0), (g1_0).v] rfl (fun j u hj => H.bx 4 rfl hj) ?_
              refine loadN [(.int .i64 s0_0), (g0_0).v] rfl (fun j u hj => H.bx 0 rfl hj) ?_
              obtain ⟨y23, e, f68⟩ := bindS f66; clear f66
              have ey878 := e; clear e
              refine callF (laws_eqMatrix_c s3_0 s3_1 g1_0 s0_0 s0_1 g0_0 y23 ey878) (Γi := []) H ⟨Vw.own 5 rfl, Vw.own 1 rfl, trivial⟩ ?_; clear H ey878
              rintro _ _ w70 ⟨rfl, rfl⟩ H
              obtain ⟨a24, e, f69⟩ := bindS f68; clear f68
              refine boolO e ?_; clear e
              cases a24
              ·
               have f70 := condF f69; clear f69
               obtain ⟨a26, e, f71⟩ := bindS f70; clear f70
               refine boolO e ?_; clear e
               exact ⟨a26, ⟨rfl, rfl, rfl, trivial⟩, Option.some.inj f71, H.sel [2, 3, 6] rfl⟩
              ·
               have f72 := condT f69; clear f69
               exact ⟨true, ⟨rfl, rfl, rfl, trivial⟩, Option.some.inj f72, H.sel [2, 3, 6] rfl⟩
             ·
              clear f66 H
              rintro T4 s4 w71 ⟨hr, (H : Cx w0 fp0 S0 w71 [Bx b8 [(.int .i64 y7_0_0), (h32).v], E (List (List Int)) y17_0_1 h32, Gl 0 [.int .i64 2, .int .i64 3, .int .i64 5, .int .i64 7]])⟩
              subst hr
              cases s4
              ·
               have f73 := condF f67; clear f67
               refine loadN [(.int .i64 y7_0_0), (h32).v] rfl (fun j u hj => H.bx 0 rfl hj) ?_
               obtain ⟨y24, e, f74⟩ := bindS f73; clear f73
               have ey890 := e; clear e
               refine callF (laws_heldMatrix_c y7_0_0 y17_0_1 h32 1 y24 ey890) (Γi := []) H ⟨Vw.own 1 rfl, trivial⟩ ?_; clear H ey890
               rintro _ _ w72 ⟨rfl, rfl⟩ H
               refine sq ?_
               obtain ⟨a27, e, f75⟩ := bindS f74; clear f74
               refine boolO e ?_; clear e
               cases a27
               ·
                have f76 := condF f75; clear f75
                refine sq ?_
                obtain ⟨a28, e, f77⟩ := bindS f76; clear f76
                refine boolO e ?_; clear e
                cases a28
                ·
                 have f78 := condF f77; clear f77
                 cases f78
                 exact ⟨_, _, rfl, ⟨rfl, rfl⟩, (H.sel [] rfl).close trivial⟩
                ·
                 have f79 := condT f77; clear f77
                 cases f79
                 exact ⟨_, _, rfl, ⟨rfl, rfl⟩, (H.sel [] rfl).close trivial⟩
               ·
                have f80 := condT f75; clear f75
                cases f80
                exact ⟨_, _, rfl, ⟨rfl, rfl⟩, (H.sel [] rfl).close trivial⟩
              ·
               have f81 := condT f67; clear f67
               cases f81
               exact ⟨_, _, rfl, ⟨rfl, rfl⟩, (H.sel [] rfl).close trivial⟩
           ·
            have f82 := condT f53; clear f53
            cases f82
            exact ⟨_, _, rfl, ⟨rfl, rfl⟩, (H.sel [] rfl).close trivial⟩
          ·
           have f83 := condT f51; clear f51
           cases f83
           exact ⟨_, _, rfl, ⟨rfl, rfl⟩, (H.sel [] rfl).close trivial⟩
         ·
          have f84 := condT f39; clear f39
          cases f84
          exact ⟨_, _, rfl, ⟨rfl, rfl⟩, (H.sel [] rfl).close trivial⟩
       ·
        have f85 := condT f34; clear f34
        cases f85
        exact ⟨_, _, rfl, ⟨rfl, rfl⟩, (H.sel [] rfl).close trivial⟩
      ·
       have f86 := condT f30; clear f30
       cases f86
       exact ⟨_, _, rfl, ⟨rfl, rfl⟩, (H.sel [] rfl).close trivial⟩
     ·
      have f87 := condT f21; clear f21
      cases f87
      exact ⟨_, _, rfl, ⟨rfl, rfl⟩, (H.sel [] rfl).close trivial⟩
  ·
   have f88 := condT f4; clear f4
   cases f88
   exact ⟨_, _, rfl, ⟨rfl, rfl⟩, (H.sel [] rfl).close trivial⟩
 ·
  have f89 := condT f1; clear f1
  cases f89
  exact ⟨_, _, rfl, ⟨rfl, rfl⟩, (H.sel [] rfl).close trivial⟩
end Go.Proofs.YtocpeclcoikdpaaDoor
