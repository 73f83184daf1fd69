/-
  Contracts, printed by a program (wip/y/gen.py): each function of Go computes its partial function. Condition of each: its partial function yields a value.
-/
import Derived.Test.YteikcdofblclhaaDoorZCall
namespace Go.Proofs.YteikcdofblclhaaDoor
open Go Go.Proofs.YteikcdofblclhaaDoor.RW
set_option maxRecDepth 100000
set_option linter.unusedVariables false

theorem laws_FnExactIsRealization_c (aP_ : Int) (aS__0 : Int) (aS__1 : Int) (aS__2 : Int) (aS__3 : List (List Int)) (aS__3h : Hd) (aS__4 : List (List Int)) (aS__4h : Hd) (aS__5 : List (List Int)) (aS__5h : Hd) (aS__6 : List (List Int)) (aS__6h : Hd) (aM_ : List (Int × List (List Int))) (aM_h : Hd) (y : Bool) (hF : F_laws_FnExactIsRealization aP_ (aS__0, aS__1, aS__2, aS__3, aS__4, aS__5, aS__6) aM_ = some y) :
    ConF Tryd.prog 3 #[(.int .i64 aP_), (.agg #[(.int .i64 aS__0), (.int .i64 aS__1), (.int .i64 aS__2), (aS__3h).v, (aS__4h).v, (aS__5h).v, (aS__6h).v]), (aM_h).v] [Es (List (List Int)) aS__3 aS__3h, Es (List (List Int)) aS__4 aS__4h, Es (List (List Int)) aS__5 aS__5h, Es (List (List Int)) aS__6 aS__6h, Es (List (Int × List (List Int))) aM_ aM_h, Gl 0 [.int .i64 2, .int .i64 3, .int .i64 5, .int .i64 7]] [] (fun v Γ' => v = (.bool y) ∧ Γ' = []) := by
  intro w0 S0 fp0 hI hS
  have H : Cx w0 fp0 S0 w0 [Es (List (List Int)) aS__3 aS__3h, Es (List (List Int)) aS__4 aS__4h, Es (List (List Int)) aS__5 aS__5h, Es (List (List Int)) aS__6 aS__6h, Es (List (Int × List (List Int))) aM_ aM_h, Gl 0 [.int .i64 2, .int .i64 3, .int .i64 5, .int .i64 7]] := Cx.start hI hS
  clear hI hS
  refine enterC (args := [_, _, _]) gok Tryd.func3 rfl _ rfl rfl rfl ?_
  refine box_ H ?_; clear H; intro b8 w7 hx H
  clear hx
  replace H : Cx w0 fp0 S0 w7 [Bx b8 [(.int .i64 aS__0), (.int .i64 aS__1), (.int .i64 aS__2), (aS__3h).v, (aS__4h).v, (aS__5h).v, (aS__6h).v], Es (List (List Int)) aS__3 aS__3h, Es (List (List Int)) aS__4 aS__4h, Es (List (List Int)) aS__5 aS__5h, Es (List (List Int)) aS__6 aS__6h, Es (List (Int × List (List Int))) aM_ aM_h, Gl 0 [.int .i64 2, .int .i64 3, .int .i64 5, .int .i64 7]] := H
  refine loadN [(.int .i64 aS__0), (.int .i64 aS__1), (.int .i64 aS__2), (aS__3h).v, (aS__4h).v, (aS__5h).v, (aS__6h).v] rfl (fun j u hj => H.bx 0 rfl hj) ?_
  obtain ⟨y10, e, hF11⟩ := bindS hF; clear hF
  have ey10 := e; clear e
  refine callF (laws_szStateSpace_c aS__0 aS__1 aS__2 aS__3 aS__3h aS__4 aS__4h aS__5 aS__5h aS__6 aS__6h 1048576 y10 ey10) (Γi := []) H ⟨Vw.sh 1 rfl, Vw.sh 2 rfl, Vw.sh 3 rfl, Vw.sh 4 rfl, trivial⟩ ?_; clear H ey10
  rintro _ _ w12 ⟨rfl, rfl⟩ (H : Cx w0 fp0 S0 w12 [Bx b8 [(.int .i64 aS__0), (.int .i64 aS__1), (.int .i64 aS__2), (aS__3h).v, (aS__4h).v, (aS__5h).v, (aS__6h).v], Es (List (List Int)) aS__3 aS__3h, Es (List (List Int)) aS__4 aS__4h, Es (List (List Int)) aS__5 aS__5h, Es (List (List Int)) aS__6 aS__6h, Es (List (Int × List (List Int))) aM_ aM_h, Gl 0 [.int .i64 2, .int .i64 3, .int .i64 5, .int .i64 7]])
  refine sq ?_
  obtain ⟨a13, e, hF14⟩ := bindS hF11; clear hF11
  refine boolO e ?_; clear e
  cases a13
  · have hF15 := condF hF14; clear hF14
    obtain ⟨y16, e, hF17⟩ := bindS hF15; clear hF15
    have ey16 := e; clear e
    refine callF (laws_szMatrixS_c aM_ aM_h y10 y16 ey16) (Γi := []) H ⟨Vw.sh 5 rfl, trivial⟩ ?_; clear H ey16
    rintro _ _ w18 ⟨rfl, rfl⟩ (H : Cx w0 fp0 S0 w18 [Bx b8 [(.int .i64 aS__0), (.int .i64 aS__1), (.int .i64 aS__2), (aS__3h).v, (aS__4h).v, (aS__5h).v, (aS__6h).v], Es (List (List Int)) aS__3 aS__3h, Es (List (List Int)) aS__4 aS__4h, Es (List (List Int)) aS__5 aS__5h, Es (List (List Int)) aS__6 aS__6h, Es (List (Int × List (List Int))) aM_ aM_h, Gl 0 [.int .i64 2, .int .i64 3, .int .i64 5, .int .i64 7]])
    refine sq ?_
    obtain ⟨a19, e, hF20⟩ := bindS hF17; clear hF17
    refine boolO e ?_; clear e
    cases a19
    · have hF21 := condF hF20; clear hF20
      refine loadN [(.int .i64 aS__0), (.int .i64 aS__1), (.int .i64 aS__2), (aS__3h).v, (aS__4h).v, (aS__5h).v, (aS__6h).v] rfl (fun j u hj => H.bx 0 rfl hj) ?_
      obtain ⟨y22, e, hF23⟩ := bindS hF21; clear hF21
      obtain ⟨y22_0, y22_1, y22_2, y22_3, y22_4, y22_5, y22_6⟩ := y22
      have ey22 := e; clear e
      refine callF (laws_toStateSpace_c aS__0 aS__1 aS__2 aS__3 aS__3h aS__4 aS__4h aS__5 aS__5h aS__6 aS__6h y22_0 y22_1 y22_2 y22_3 y22_4 y22_5 y22_6 ey22) (Γi := []) H ⟨Vw.sh 1 rfl, Vw.sh 2 rfl, Vw.sh 3 rfl, Vw.sh 4 rfl, trivial⟩ ?_; clear H ey22
      rintro _ _ w24 ⟨h25, h27, h29, h31, rfl, rfl⟩ (H : Cx w0 fp0 S0 w24 [E (List (List Int)) y22_3 h25, E (List (List Int)) y22_4 h27, E (List (List Int)) y22_5 h29, E (List (List Int)) y22_6 h31, Bx b8 [(.int .i64 aS__0), (.int .i64 aS__1), (.int .i64 aS__2), (aS__3h).v, (aS__4h).v, (aS__5h).v, (aS__6h).v], Es (List (List Int)) aS__3 aS__3h, Es (List (List Int)) aS__4 aS__4h, Es (List (List Int)) aS__5 aS__5h, Es (List (List Int)) aS__6 aS__6h, Es (List (Int × List (List Int))) aM_ aM_h, Gl 0 [.int .i64 2, .int .i64 3, .int .i64 5, .int .i64 7]])
      obtain ⟨y33, e, hF34⟩ := bindS hF23; clear hF23
      have ey33 := e; clear e
      refine callF (laws_toMatrixS_c aM_ aM_h y33 ey33) (Γi := []) H ⟨Vw.sh 9 rfl, trivial⟩ ?_; clear H ey33
      rintro _ _ w35 ⟨h36, rfl, rfl⟩ (H : Cx w0 fp0 S0 w35 [E (List (Int × List (List Int))) y33 h36, E (List (List Int)) y22_3 h25, E (List (List Int)) y22_4 h27, E (List (List Int)) y22_5 h29, E (List (List Int)) y22_6 h31, Bx b8 [(.int .i64 aS__0), (.int .i64 aS__1), (.int .i64 aS__2), (aS__3h).v, (aS__4h).v, (aS__5h).v, (aS__6h).v], Es (List (List Int)) aS__3 aS__3h, Es (List (List Int)) aS__4 aS__4h, Es (List (List Int)) aS__5 aS__5h, Es (List (List Int)) aS__6 aS__6h, Es (List (Int × List (List Int))) aM_ aM_h, Gl 0 [.int .i64 2, .int .i64 3, .int .i64 5, .int .i64 7]])
      obtain ⟨y38, e, hF39⟩ := bindS hF34; clear hF34
      obtain ⟨y38_0, y38_1⟩ := y38
      have ey38 := e; clear e
      refine callF (spec_IsRealization_c aP_ y22_0 y22_1 y22_2 y22_3 h25 y22_4 h27 y22_5 h29 y22_6 h31 y33 h36 y38_0 y38_1 ey38) (Γi := []) H ⟨Vw.own 1 rfl, Vw.own 2 rfl, Vw.own 3 rfl, Vw.own 4 rfl, Vw.own 0 rfl, trivial⟩ ?_; clear H ey38
      rintro _ _ w40 ⟨rfl, rfl⟩ (H : Cx w0 fp0 S0 w40 [E (List (Int × List (List Int))) y33 h36, E (List (List Int)) y22_3 h25, E (List (List Int)) y22_4 h27, E (List (List Int)) y22_5 h29, E (List (List Int)) y22_6 h31, Bx b8 [(.int .i64 aS__0), (.int .i64 aS__1), (.int .i64 aS__2), (aS__3h).v, (aS__4h).v, (aS__5h).v, (aS__6h).v], Es (List (List Int)) aS__3 aS__3h, Es (List (List Int)) aS__4 aS__4h, Es (List (List Int)) aS__5 aS__5h, Es (List (List Int)) aS__6 aS__6h, Es (List (Int × List (List Int))) aM_ aM_h, Gl 0 [.int .i64 2, .int .i64 3, .int .i64 5, .int .i64 7]])
      refine loadN [(.int .i64 aS__0), (.int .i64 aS__1), (.int .i64 aS__2), (aS__3h).v, (aS__4h).v, (aS__5h).v, (aS__6h).v] rfl (fun j u hj => H.bx 5 rfl hj) ?_
      obtain ⟨y41, e, hF42⟩ := bindS hF39; clear hF39
      obtain ⟨y41_0, y41_1, y41_2, y41_3, y41_4, y41_5, y41_6⟩ := y41
      have ey41 := e; clear e
      refine callF (laws_toStateSpace_c aS__0 aS__1 aS__2 aS__3 aS__3h aS__4 aS__4h aS__5 aS__5h aS__6 aS__6h y41_0 y41_1 y41_2 y41_3 y41_4 y41_5 y41_6 ey41) (Γi := []) H ⟨Vw.sh 6 rfl, Vw.sh 7 rfl, Vw.sh 8 rfl, Vw.sh 9 rfl, trivial⟩ ?_; clear H ey41
      rintro _ _ w43 ⟨h44, h46, h48, h50, rfl, rfl⟩ (H : Cx w0 fp0 S0 w43 [E (List (List Int)) y41_3 h44, E (List (List Int)) y41_4 h46, E (List (List Int)) y41_5 h48, E (List (List Int)) y41_6 h50, E (List (Int × List (List Int))) y33 h36, E (List (List Int)) y22_3 h25, E (List (List Int)) y22_4 h27, E (List (List Int)) y22_5 h29, E (List (List Int)) y22_6 h31, Bx b8 [(.int .i64 aS__0), (.int .i64 aS__1), (.int .i64 aS__2), (aS__3h).v, (aS__4h).v, (aS__5h).v, (aS__6h).v], Es (List (List Int)) aS__3 aS__3h, Es (List (List Int)) aS__4 aS__4h, Es (List (List Int)) aS__5 aS__5h, Es (List (List Int)) aS__6 aS__6h, Es (List (Int × List (List Int))) aM_ aM_h, Gl 0 [.int .i64 2, .int .i64 3, .int .i64 5, .int .i64 7]])
      refine alloc_ gok rfl H ?_; clear H; intro b53 w52 hx H
      clear hx
      replace H : Cx w0 fp0 S0 w52 [Bx b53 [(.int .i64 0), (.int .i64 0), (.int .i64 0), (.slice none 0 0), (.slice none 0 0), (.slice none 0 0), (.slice none 0 0)], E (List (List Int)) y41_3 h44, E (List (List Int)) y41_4 h46, E (List (List Int)) y41_5 h48, E (List (List Int)) y41_6 h50, E (List (Int × List (List Int))) y33 h36, E (List (List Int)) y22_3 h25, E (List (List Int)) y22_4 h27, E (List (List Int)) y22_5 h29, E (List (List Int)) y22_6 h31, Bx b8 [(.int .i64 aS__0), (.int .i64 aS__1), (.int .i64 aS__2), (aS__3h).v, (aS__4h).v, (aS__5h).v, (aS__6h).v], Es (List (List Int)) aS__3 aS__3h, Es (List (List Int)) aS__4 aS__4h, Es (List (List Int)) aS__5 aS__5h, Es (List (List Int)) aS__6 aS__6h, Es (List (Int × List (List Int))) aM_ aM_h, Gl 0 [.int .i64 2, .int .i64 3, .int .i64 5, .int .i64 7]] := H
      refine stA gok [(.int .i64 y41_0), (.int .i64 y41_1), (.int .i64 y41_2), (h44).v, (h46).v, (h48).v, (h50).v] rfl H rfl rfl rfl ?_; clear H; intro w55 H
      replace H : Cx w0 fp0 S0 w55 [Bx b53 [(.int .i64 y41_0), (.int .i64 y41_1), (.int .i64 y41_2), (h44).v, (h46).v, (h48).v, (h50).v], E (List (List Int)) y41_3 h44, E (List (List Int)) y41_4 h46, E (List (List Int)) y41_5 h48, E (List (List Int)) y41_6 h50, E (List (Int × List (List Int))) y33 h36, E (List (List Int)) y22_3 h25, E (List (List Int)) y22_4 h27, E (List (List Int)) y22_5 h29, E (List (List Int)) y22_6 h31, Bx b8 [(.int .i64 aS__0), (.int .i64 aS__1), (.int .i64 aS__2), (aS__3h).v, (aS__4h).v, (aS__5h).v, (aS__6h).v], Es (List (List Int)) aS__3 aS__3h, Es (List (List Int)) aS__4 aS__4h, Es (List (List Int)) aS__5 aS__5h, Es (List (List Int)) aS__6 aS__6h, Es (List (Int × List (List Int))) aM_ aM_h, Gl 0 [.int .i64 2, .int .i64 3, .int .i64 5, .int .i64 7]] := H
      obtain ⟨y56, e, hF57⟩ := bindS hF42; clear hF42
      have ey56 := e; clear e
      refine callF (laws_toMatrixS_c aM_ aM_h y56 ey56) (Γi := []) H ⟨Vw.sh 15 rfl, trivial⟩ ?_; clear H ey56
      rintro _ _ w58 ⟨h59, rfl, rfl⟩ (H : Cx w0 fp0 S0 w58 [E (List (Int × List (List Int))) y56 h59, Bx b53 [(.int .i64 y41_0), (.int .i64 y41_1), (.int .i64 y41_2), (h44).v, (h46).v, (h48).v, (h50).v], E (List (List Int)) y41_3 h44, E (List (List Int)) y41_4 h46, E (List (List Int)) y41_5 h48, E (List (List Int)) y41_6 h50, E (List (Int × List (List Int))) y33 h36, E (List (List Int)) y22_3 h25, E (List (List Int)) y22_4 h27, E (List (List Int)) y22_5 h29, E (List (List Int)) y22_6 h31, Bx b8 [(.int .i64 aS__0), (.int .i64 aS__1), (.int .i64 aS__2), (aS__3h).v, (aS__4h).v, (aS__5h).v, (aS__6h).v], Es (List (List Int)) aS__3 aS__3h, Es (List (List Int)) aS__4 aS__4h, Es (List (List Int)) aS__5 aS__5h, Es (List (List Int)) aS__6 aS__6h, Es (List (Int × List (List Int))) aM_ aM_h, Gl 0 [.int .i64 2, .int .i64 3, .int .i64 5, .int .i64 7]])
      refine loadN [(.int .i64 y41_0), (.int .i64 y41_1), (.int .i64 y41_2), (h44).v, (h46).v, (h48).v, (h50).v] rfl (fun j u hj => H.bx 1 rfl hj) ?_
      obtain ⟨y61, e, hF62⟩ := bindS hF57; clear hF57
      obtain ⟨y61_0, y61_1⟩ := y61
      have ey61 := e; clear e
      refine callF (impl_IsRealization_c aP_ y41_0 y41_1 y41_2 y41_3 h44 y41_4 h46 y41_5 h48 y41_6 h50 y56 h59 y61_0 y61_1 ey61) (Γi := []) H ⟨Vw.own 2 rfl, Vw.own 3 rfl, Vw.own 4 rfl, Vw.own 5 rfl, Vw.own 0 rfl, Vw.gl 17 rfl, trivial⟩ ?_; clear H ey61
      rintro _ _ w63 ⟨rfl, rfl⟩ (H : Cx w0 fp0 S0 w63 [E (List (Int × List (List Int))) y56 h59, Bx b53 [(.int .i64 y41_0), (.int .i64 y41_1), (.int .i64 y41_2), (h44).v, (h46).v, (h48).v, (h50).v], E (List (List Int)) y41_3 h44, E (List (List Int)) y41_4 h46, E (List (List Int)) y41_5 h48, E (List (List Int)) y41_6 h50, E (List (Int × List (List Int))) y33 h36, E (List (List Int)) y22_3 h25, E (List (List Int)) y22_4 h27, E (List (List Int)) y22_5 h29, E (List (List Int)) y22_6 h31, Bx b8 [(.int .i64 aS__0), (.int .i64 aS__1), (.int .i64 aS__2), (aS__3h).v, (aS__4h).v, (aS__5h).v, (aS__6h).v], Es (List (List Int)) aS__3 aS__3h, Es (List (List Int)) aS__4 aS__4h, Es (List (List Int)) aS__5 aS__5h, Es (List (List Int)) aS__6 aS__6h, Es (List (Int × List (List Int))) aM_ aM_h, Gl 0 [.int .i64 2, .int .i64 3, .int .i64 5, .int .i64 7]])
      refine sq ?_
      obtain ⟨r72, hF74, hF73⟩ := bindS hF62; clear hF62
      refine cut (fun (q75 : Bool) => [(2, (aM_h).v), (4, (.pointer (some ⟨b8, 0, none⟩))), (10, (.pointer (some ⟨b53, 0, none⟩))), (11, (h59).v), (51, (.bool q75))]) (fun (q75 : Bool) w' => q75 = r72 ∧ Cx w0 fp0 S0 w' [Es (List (Int × List (List Int))) aM_ aM_h, Bx b8 [(.int .i64 aS__0), (.int .i64 aS__1), (.int .i64 aS__2), (aS__3h).v, (aS__4h).v, (aS__5h).v, (aS__6h).v], Es (List (List Int)) aS__3 aS__3h, Es (List (List Int)) aS__4 aS__4h, Es (List (List Int)) aS__5 aS__5h, Es (List (List Int)) aS__6 aS__6h, Bx b53 [(.int .i64 y41_0), (.int .i64 y41_1), (.int .i64 y41_2), (h44).v, (h46).v, (h48).v, (h50).v], E (List (List Int)) y41_3 h44, E (List (List Int)) y41_4 h46, E (List (List Int)) y41_5 h48, E (List (List Int)) y41_6 h50, E (List (Int × List (List Int))) y56 h59, Gl 0 [.int .i64 2, .int .i64 3, .int .i64 5, .int .i64 7]]) ?_ ?_
      · skip
        obtain ⟨a76, e, hF77⟩ := bindS hF74; clear hF74
        refine boolO e ?_; clear e
        cases a76
        · have hF78 := condF hF77; clear hF77
          obtain ⟨a79, e, hF80⟩ := bindS hF78; clear hF78
          refine boolO e ?_; clear e
          exact ⟨a79, ⟨rfl, rfl, rfl, rfl, rfl, trivial⟩, Option.some.inj hF80, H.sel [16, 11, 12, 13, 14, 15, 1, 2, 3, 4, 5, 0, 17] rfl⟩
        · have hF81 := condT hF77; clear hF77
          exact ⟨true, ⟨rfl, rfl, rfl, rfl, rfl, trivial⟩, Option.some.inj hF81, H.sel [16, 11, 12, 13, 14, 15, 1, 2, 3, 4, 5, 0, 17] rfl⟩
      · clear hF74 H
        rintro T83 s70 w82 ⟨hr, (H : Cx w0 fp0 S0 w82 [Es (List (Int × List (List Int))) aM_ aM_h, Bx b8 [(.int .i64 aS__0), (.int .i64 aS__1), (.int .i64 aS__2), (aS__3h).v, (aS__4h).v, (aS__5h).v, (aS__6h).v], Es (List (List Int)) aS__3 aS__3h, Es (List (List Int)) aS__4 aS__4h, Es (List (List Int)) aS__5 aS__5h, Es (List (List Int)) aS__6 aS__6h, Bx b53 [(.int .i64 y41_0), (.int .i64 y41_1), (.int .i64 y41_2), (h44).v, (h46).v, (h48).v, (h50).v], E (List (List Int)) y41_3 h44, E (List (List Int)) y41_4 h46, E (List (List Int)) y41_5 h48, E (List (List Int)) y41_6 h50, E (List (Int × List (List Int))) y56 h59, Gl 0 [.int .i64 2, .int .i64 3, .int .i64 5, .int .i64 7]])⟩
        subst hr
        cases s70
        · have hF84 := condF hF73; clear hF73
          refine sq ?_
          refine heldX H [] (.fst 0 (.fst 1 (.act 2 (.act 3 (.fst 4 .done))))) mixed [] trivial (by kernel_rfl) ?_
          clear H; intro w85 H
          have hX : Ext w85 w85 := Upd.refl _ _
          have H0 := H
          refine loadNX [(.int .i64 y41_0), (.int .i64 y41_1), (.int .i64 y41_2), (h44).v, (h46).v, (h48).v, (h50).v] rfl (fun j u hj => H.bx 6 rfl hj) ?_
          refine loadNX [(.int .i64 aS__0), (.int .i64 aS__1), (.int .i64 aS__2), (aS__3h).v, (aS__4h).v, (aS__5h).v, (aS__6h).v] rfl (fun j u hj => H.bx 1 rfl hj) ?_
          obtain ⟨y86, e, hF87⟩ := bindS hF84; clear hF84
          obtain ⟨y86_0, y86_1, y86_2, y86_3, y86_4, y86_5, y86_6⟩ := y86
          have ey86 := e; clear e
          refine callFx (laws_toStateSpace_c aS__0 aS__1 aS__2 aS__3 aS__3h aS__4 aS__4h aS__5 aS__5h aS__6 aS__6h y86_0 y86_1 y86_2 y86_3 y86_4 y86_5 y86_6 ey86) H ⟨Vw.sh 2 rfl, Vw.sh 3 rfl, Vw.sh 4 rfl, Vw.sh 5 rfl, trivial⟩ ?_; clear H ey86
          rintro _ _ w88 ⟨h89, h91, h93, h95, rfl, rfl⟩ hx (H : Cx w0 fp0 S0 w88 [E (List (List Int)) y86_3 h89, E (List (List Int)) y86_4 h91, E (List (List Int)) y86_5 h93, E (List (List Int)) y86_6 h95, Es (List (Int × List (List Int))) aM_ aM_h, Bx b8 [(.int .i64 aS__0), (.int .i64 aS__1), (.int .i64 aS__2), (aS__3h).v, (aS__4h).v, (aS__5h).v, (aS__6h).v], Es (List (List Int)) aS__3 aS__3h, Es (List (List Int)) aS__4 aS__4h, Es (List (List Int)) aS__5 aS__5h, Es (List (List Int)) aS__6 aS__6h, Bx b53 [(.int .i64 y41_0), (.int .i64 y41_1), (.int .i64 y41_2), (h44).v, (h46).v, (h48).v, (h50).v], E (List (List Int)) y41_3 h44, E (List (List Int)) y41_4 h46, E (List (List Int)) y41_5 h48, E (List (List Int)) y41_6 h50, E (List (Int × List (List Int))) y56 h59, Gl 0 [.int .i64 2, .int .i64 3, .int .i64 5, .int .i64 7]])
          replace hX := hX.trans0 hx; clear hx
          refine hold hX ?_
          obtain ⟨y97, e, hF98⟩ := bindS hF87; clear hF87
          have ey97 := e; clear e
          refine callFx (laws_eqStateSpace_c y41_0 y41_1 y41_2 y41_3 h44 y41_4 h46 y41_5 h48 y41_6 h50 y86_0 y86_1 y86_2 y86_3 h89 y86_4 h91 y86_5 h93 y86_6 h95 y97 ey97) H ⟨Vw.own 11 rfl, Vw.own 12 rfl, Vw.own 13 rfl, Vw.own 14 rfl, Vw.own 0 rfl, Vw.own 1 rfl, Vw.own 2 rfl, Vw.own 3 rfl, trivial⟩ ?_; clear H ey97
          rintro _ _ w99 ⟨rfl, rfl⟩ hx (H : Cx w0 fp0 S0 w99 [E (List (List Int)) y86_3 h89, E (List (List Int)) y86_4 h91, E (List (List Int)) y86_5 h93, E (List (List Int)) y86_6 h95, Es (List (Int × List (List Int))) aM_ aM_h, Bx b8 [(.int .i64 aS__0), (.int .i64 aS__1), (.int .i64 aS__2), (aS__3h).v, (aS__4h).v, (aS__5h).v, (aS__6h).v], Es (List (List Int)) aS__3 aS__3h, Es (List (List Int)) aS__4 aS__4h, Es (List (List Int)) aS__5 aS__5h, Es (List (List Int)) aS__6 aS__6h, Bx b53 [(.int .i64 y41_0), (.int .i64 y41_1), (.int .i64 y41_2), (h44).v, (h46).v, (h48).v, (h50).v], E (List (List Int)) y41_3 h44, E (List (List Int)) y41_4 h46, E (List (List Int)) y41_5 h48, E (List (List Int)) y41_6 h50, E (List (Int × List (List Int))) y56 h59, Gl 0 [.int .i64 2, .int .i64 3, .int .i64 5, .int .i64 7]])
          replace hX := hX.trans0 hx; clear hx
          refine hold hX ?_
          obtain ⟨a100, e, hF101⟩ := bindS hF98; clear hF98
          refine boolO e ?_; clear e
          cases a100
          · have hF102 := condF hF101; clear hF101
            refine sq ?_
            obtain ⟨y103, e, hF104⟩ := bindS hF102; clear hF102
            have ey103 := e; clear e
            refine callF (laws_toMatrixS_c aM_ aM_h y103 ey103) (Γi := []) H ⟨Vw.sh 4 rfl, trivial⟩ ?_; clear H ey103
            rintro _ _ w105 ⟨h106, rfl, rfl⟩ (H : Cx w0 fp0 S0 w105 [E (List (Int × List (List Int))) y103 h106, E (List (List Int)) y86_3 h89, E (List (List Int)) y86_4 h91, E (List (List Int)) y86_5 h93, E (List (List Int)) y86_6 h95, Es (List (Int × List (List Int))) aM_ aM_h, Bx b8 [(.int .i64 aS__0), (.int .i64 aS__1), (.int .i64 aS__2), (aS__3h).v, (aS__4h).v, (aS__5h).v, (aS__6h).v], Es (List (List Int)) aS__3 aS__3h, Es (List (List Int)) aS__4 aS__4h, Es (List (List Int)) aS__5 aS__5h, Es (List (List Int)) aS__6 aS__6h, Bx b53 [(.int .i64 y41_0), (.int .i64 y41_1), (.int .i64 y41_2), (h44).v, (h46).v, (h48).v, (h50).v], E (List (List Int)) y41_3 h44, E (List (List Int)) y41_4 h46, E (List (List Int)) y41_5 h48, E (List (List Int)) y41_6 h50, E (List (Int × List (List Int))) y56 h59, Gl 0 [.int .i64 2, .int .i64 3, .int .i64 5, .int .i64 7]])
            obtain ⟨y108, e, hF109⟩ := bindS hF104; clear hF104
            have ey108 := e; clear e
            refine callF (laws_eqMatrixS_c y56 h59 y103 h106 y108 ey108) (Γi := []) H ⟨Vw.own 16 rfl, Vw.own 0 rfl, trivial⟩ ?_; clear H ey108
            rintro _ _ w110 ⟨rfl, rfl⟩ (H : Cx w0 fp0 S0 w110 [E (List (Int × List (List Int))) y103 h106, E (List (List Int)) y86_3 h89, E (List (List Int)) y86_4 h91, E (List (List Int)) y86_5 h93, E (List (List Int)) y86_6 h95, Es (List (Int × List (List Int))) aM_ aM_h, Bx b8 [(.int .i64 aS__0), (.int .i64 aS__1), (.int .i64 aS__2), (aS__3h).v, (aS__4h).v, (aS__5h).v, (aS__6h).v], Es (List (List Int)) aS__3 aS__3h, Es (List (List Int)) aS__4 aS__4h, Es (List (List Int)) aS__5 aS__5h, Es (List (List Int)) aS__6 aS__6h, Bx b53 [(.int .i64 y41_0), (.int .i64 y41_1), (.int .i64 y41_2), (h44).v, (h46).v, (h48).v, (h50).v], E (List (List Int)) y41_3 h44, E (List (List Int)) y41_4 h46, E (List (List Int)) y41_5 h48, E (List (List Int)) y41_6 h50, E (List (Int × List (List Int))) y56 h59, Gl 0 [.int .i64 2, .int .i64 3, .int .i64 5, .int .i64 7]])
            obtain ⟨a111, e, hF112⟩ := bindS hF109; clear hF109
            refine boolO e ?_; clear e
            cases a111
            · have hF113 := condF hF112; clear hF112
              cases hF113
              exact ⟨_, _, rfl, ⟨rfl, rfl⟩, (H.sel [] rfl).close trivial⟩
            · have hF114 := condT hF112; clear hF112
              cases hF114
              exact ⟨_, _, rfl, ⟨rfl, rfl⟩, (H.sel [] rfl).close trivial⟩
          · have hF115 := condT hF101; clear hF101
            cases hF115
            exact ⟨_, _, rfl, ⟨rfl, rfl⟩, (H.sel [] rfl).close trivial⟩
        · have hF116 := condT hF73; clear hF73
          cases hF116
          exact ⟨_, _, rfl, ⟨rfl, rfl⟩, (H.sel [] rfl).close trivial⟩
    · have hF117 := condT hF20; clear hF20
      cases hF117
      exact ⟨_, _, rfl, ⟨rfl, rfl⟩, (H.sel [] rfl).close trivial⟩
  · have hF118 := condT hF14; clear hF14
    cases hF118
    exact ⟨_, _, rfl, ⟨rfl, rfl⟩, (H.sel [] rfl).close trivial⟩
end Go.Proofs.YteikcdofblclhaaDoor
