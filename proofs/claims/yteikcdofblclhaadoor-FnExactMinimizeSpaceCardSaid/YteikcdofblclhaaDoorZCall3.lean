/-
  Contracts, printed by a program (wip/y/gen.py): each function of Go computes its partial function. Condition of each: its partial function yields a value.
-/
import Derived.Test.YteikcdofblclhaaDoorZCall2
namespace Go.Proofs.YteikcdofblclhaaDoor
open Go Go.Proofs.YteikcdofblclhaaDoor.RW
set_option maxRecDepth 100000
set_option linter.unusedVariables false

theorem laws_FnExactMinimizeSpace_c (aP_ : Int) (aS__0 : Int) (aS__1 : Int) (aS__2 : Int) (aS__3 : List (List Int)) (aS__3h : Hd) (aS__4 : List (List Int)) (aS__4h : Hd) (aS__5 : List (List Int)) (aS__5h : Hd) (aS__6 : List (List Int)) (aS__6h : Hd) (y : Bool) (hF : F_laws_FnExactMinimizeSpace aP_ (aS__0, aS__1, aS__2, aS__3, aS__4, aS__5, aS__6) = some y) :
    ConF Tryd.prog 11 #[(.int .i64 aP_), (.agg #[(.int .i64 aS__0), (.int .i64 aS__1), (.int .i64 aS__2), (aS__3h).v, (aS__4h).v, (aS__5h).v, (aS__6h).v])] [Es (List (List Int)) aS__3 aS__3h, Es (List (List Int)) aS__4 aS__4h, Es (List (List Int)) aS__5 aS__5h, Es (List (List Int)) aS__6 aS__6h, Gl 0 [.int .i64 2, .int .i64 3, .int .i64 5, .int .i64 7]] [] (fun v Γ' => v = (.bool y) ∧ Γ' = []) := by
  intro w0 S0 fp0 hI hS
  have H : Cx w0 fp0 S0 w0 [Es (List (List Int)) aS__3 aS__3h, Es (List (List Int)) aS__4 aS__4h, Es (List (List Int)) aS__5 aS__5h, Es (List (List Int)) aS__6 aS__6h, Gl 0 [.int .i64 2, .int .i64 3, .int .i64 5, .int .i64 7]] := Cx.start hI hS
  clear hI hS
  refine enterC (args := [_, _]) gok Tryd.func11 rfl _ rfl rfl rfl ?_
  refine box_ H ?_; clear H; intro b7 w6 hx H
  clear hx
  replace H : Cx w0 fp0 S0 w6 [Bx b7 [(.int .i64 aS__0), (.int .i64 aS__1), (.int .i64 aS__2), (aS__3h).v, (aS__4h).v, (aS__5h).v, (aS__6h).v], Es (List (List Int)) aS__3 aS__3h, Es (List (List Int)) aS__4 aS__4h, Es (List (List Int)) aS__5 aS__5h, Es (List (List Int)) aS__6 aS__6h, Gl 0 [.int .i64 2, .int .i64 3, .int .i64 5, .int .i64 7]] := H
  refine loadN [(.int .i64 aS__0), (.int .i64 aS__1), (.int .i64 aS__2), (aS__3h).v, (aS__4h).v, (aS__5h).v, (aS__6h).v] rfl (fun j u hj => H.bx 0 rfl hj) ?_
  obtain ⟨y9, e, hF10⟩ := bindS hF; clear hF
  have ey9 := e; clear e
  refine callF (laws_szStateSpace_c aS__0 aS__1 aS__2 aS__3 aS__3h aS__4 aS__4h aS__5 aS__5h aS__6 aS__6h 1048576 y9 ey9) (Γi := []) H ⟨Vw.sh 1 rfl, Vw.sh 2 rfl, Vw.sh 3 rfl, Vw.sh 4 rfl, trivial⟩ ?_; clear H ey9
  rintro _ _ w11 ⟨rfl, rfl⟩ (H : Cx w0 fp0 S0 w11 [Bx b7 [(.int .i64 aS__0), (.int .i64 aS__1), (.int .i64 aS__2), (aS__3h).v, (aS__4h).v, (aS__5h).v, (aS__6h).v], Es (List (List Int)) aS__3 aS__3h, Es (List (List Int)) aS__4 aS__4h, Es (List (List Int)) aS__5 aS__5h, Es (List (List Int)) aS__6 aS__6h, Gl 0 [.int .i64 2, .int .i64 3, .int .i64 5, .int .i64 7]])
  refine sq ?_
  obtain ⟨a12, e, hF13⟩ := bindS hF10; clear hF10
  refine boolO e ?_; clear e
  cases a12
  · have hF14 := condF hF13; clear hF13
    refine loadN [(.int .i64 aS__0), (.int .i64 aS__1), (.int .i64 aS__2), (aS__3h).v, (aS__4h).v, (aS__5h).v, (aS__6h).v] rfl (fun j u hj => H.bx 0 rfl hj) ?_
    obtain ⟨y15, e, hF16⟩ := bindS hF14; clear hF14
    obtain ⟨y15_0, y15_1, y15_2, y15_3, y15_4, y15_5, y15_6⟩ := y15
    have ey15 := e; clear e
    refine callF (laws_toStateSpace_c aS__0 aS__1 aS__2 aS__3 aS__3h aS__4 aS__4h aS__5 aS__5h aS__6 aS__6h y15_0 y15_1 y15_2 y15_3 y15_4 y15_5 y15_6 ey15) (Γi := []) H ⟨Vw.sh 1 rfl, Vw.sh 2 rfl, Vw.sh 3 rfl, Vw.sh 4 rfl, trivial⟩ ?_; clear H ey15
    rintro _ _ w17 ⟨h18, h20, h22, h24, rfl, rfl⟩ (H : Cx w0 fp0 S0 w17 [E (List (List Int)) y15_3 h18, E (List (List Int)) y15_4 h20, E (List (List Int)) y15_5 h22, E (List (List Int)) y15_6 h24, Bx b7 [(.int .i64 aS__0), (.int .i64 aS__1), (.int .i64 aS__2), (aS__3h).v, (aS__4h).v, (aS__5h).v, (aS__6h).v], Es (List (List Int)) aS__3 aS__3h, Es (List (List Int)) aS__4 aS__4h, Es (List (List Int)) aS__5 aS__5h, Es (List (List Int)) aS__6 aS__6h, Gl 0 [.int .i64 2, .int .i64 3, .int .i64 5, .int .i64 7]])
    obtain ⟨y26, e, hF27⟩ := bindS hF16; clear hF16
    obtain ⟨⟨y26_0_0, y26_0_1, y26_0_2, y26_0_3, y26_0_4, y26_0_5, y26_0_6⟩, y26_1⟩ := y26
    have ey26 := e; clear e
    refine callF (spec_MinimizeSpace_c aP_ y15_0 y15_1 y15_2 y15_3 h18 y15_4 h20 y15_5 h22 y15_6 h24 y26_0_0 y26_0_1 y26_0_2 y26_0_3 y26_0_4 y26_0_5 y26_0_6 y26_1 ey26) (Γi := []) H ⟨Vw.own 0 rfl, Vw.own 1 rfl, Vw.own 2 rfl, Vw.own 3 rfl, trivial⟩ ?_; clear H ey26
    rintro _ _ w28 ⟨h29, h31, h33, h35, rfl, rfl⟩ (H : Cx w0 fp0 S0 w28 [E (List (List Int)) y26_0_3 h29, E (List (List Int)) y26_0_4 h31, E (List (List Int)) y26_0_5 h33, E (List (List Int)) y26_0_6 h35, E (List (List Int)) y15_3 h18, E (List (List Int)) y15_4 h20, E (List (List Int)) y15_5 h22, E (List (List Int)) y15_6 h24, Bx b7 [(.int .i64 aS__0), (.int .i64 aS__1), (.int .i64 aS__2), (aS__3h).v, (aS__4h).v, (aS__5h).v, (aS__6h).v], Es (List (List Int)) aS__3 aS__3h, Es (List (List Int)) aS__4 aS__4h, Es (List (List Int)) aS__5 aS__5h, Es (List (List Int)) aS__6 aS__6h, Gl 0 [.int .i64 2, .int .i64 3, .int .i64 5, .int .i64 7]])
    refine alloc_ gok rfl H ?_; clear H; intro b38 w37 hx H
    clear hx
    replace H : Cx w0 fp0 S0 w37 [Bx b38 [(.int .i64 0), (.int .i64 0), (.int .i64 0), (.slice none 0 0), (.slice none 0 0), (.slice none 0 0), (.slice none 0 0)], E (List (List Int)) y26_0_3 h29, E (List (List Int)) y26_0_4 h31, E (List (List Int)) y26_0_5 h33, E (List (List Int)) y26_0_6 h35, E (List (List Int)) y15_3 h18, E (List (List Int)) y15_4 h20, E (List (List Int)) y15_5 h22, E (List (List Int)) y15_6 h24, Bx b7 [(.int .i64 aS__0), (.int .i64 aS__1), (.int .i64 aS__2), (aS__3h).v, (aS__4h).v, (aS__5h).v, (aS__6h).v], Es (List (List Int)) aS__3 aS__3h, Es (List (List Int)) aS__4 aS__4h, Es (List (List Int)) aS__5 aS__5h, Es (List (List Int)) aS__6 aS__6h, Gl 0 [.int .i64 2, .int .i64 3, .int .i64 5, .int .i64 7]] := H
    refine stA gok [(.int .i64 y26_0_0), (.int .i64 y26_0_1), (.int .i64 y26_0_2), (h29).v, (h31).v, (h33).v, (h35).v] rfl H rfl rfl rfl ?_; clear H; intro w40 H
    replace H : Cx w0 fp0 S0 w40 [Bx b38 [(.int .i64 y26_0_0), (.int .i64 y26_0_1), (.int .i64 y26_0_2), (h29).v, (h31).v, (h33).v, (h35).v], E (List (List Int)) y26_0_3 h29, E (List (List Int)) y26_0_4 h31, E (List (List Int)) y26_0_5 h33, E (List (List Int)) y26_0_6 h35, E (List (List Int)) y15_3 h18, E (List (List Int)) y15_4 h20, E (List (List Int)) y15_5 h22, E (List (List Int)) y15_6 h24, Bx b7 [(.int .i64 aS__0), (.int .i64 aS__1), (.int .i64 aS__2), (aS__3h).v, (aS__4h).v, (aS__5h).v, (aS__6h).v], Es (List (List Int)) aS__3 aS__3h, Es (List (List Int)) aS__4 aS__4h, Es (List (List Int)) aS__5 aS__5h, Es (List (List Int)) aS__6 aS__6h, Gl 0 [.int .i64 2, .int .i64 3, .int .i64 5, .int .i64 7]] := H
    refine loadN [(.int .i64 aS__0), (.int .i64 aS__1), (.int .i64 aS__2), (aS__3h).v, (aS__4h).v, (aS__5h).v, (aS__6h).v] rfl (fun j u hj => H.bx 9 rfl hj) ?_
    obtain ⟨y41, e, hF42⟩ := bindS hF27; clear hF27
    obtain ⟨y41_0, y41_1, y41_2, y41_3, y41_4, y41_5, y41_6⟩ := y41
    have ey41 := e; clear e
    refine callF (laws_toStateSpace_c aS__0 aS__1 aS__2 aS__3 aS__3h aS__4 aS__4h aS__5 aS__5h aS__6 aS__6h y41_0 y41_1 y41_2 y41_3 y41_4 y41_5 y41_6 ey41) (Γi := []) H ⟨Vw.sh 10 rfl, Vw.sh 11 rfl, Vw.sh 12 rfl, Vw.sh 13 rfl, trivial⟩ ?_; clear H ey41
    rintro _ _ w43 ⟨h44, h46, h48, h50, rfl, rfl⟩ (H : Cx w0 fp0 S0 w43 [E (List (List Int)) y41_3 h44, E (List (List Int)) y41_4 h46, E (List (List Int)) y41_5 h48, E (List (List Int)) y41_6 h50, Bx b38 [(.int .i64 y26_0_0), (.int .i64 y26_0_1), (.int .i64 y26_0_2), (h29).v, (h31).v, (h33).v, (h35).v], E (List (List Int)) y26_0_3 h29, E (List (List Int)) y26_0_4 h31, E (List (List Int)) y26_0_5 h33, E (List (List Int)) y26_0_6 h35, E (List (List Int)) y15_3 h18, E (List (List Int)) y15_4 h20, E (List (List Int)) y15_5 h22, E (List (List Int)) y15_6 h24, Bx b7 [(.int .i64 aS__0), (.int .i64 aS__1), (.int .i64 aS__2), (aS__3h).v, (aS__4h).v, (aS__5h).v, (aS__6h).v], Es (List (List Int)) aS__3 aS__3h, Es (List (List Int)) aS__4 aS__4h, Es (List (List Int)) aS__5 aS__5h, Es (List (List Int)) aS__6 aS__6h, Gl 0 [.int .i64 2, .int .i64 3, .int .i64 5, .int .i64 7]])
    refine alloc_ gok rfl H ?_; clear H; intro b53 w52 hx H
    clear hx
    replace H : Cx w0 fp0 S0 w52 [Bx b53 [(.int .i64 0), (.int .i64 0), (.int .i64 0), (.slice none 0 0), (.slice none 0 0), (.slice none 0 0), (.slice none 0 0)], E (List (List Int)) y41_3 h44, E (List (List Int)) y41_4 h46, E (List (List Int)) y41_5 h48, E (List (List Int)) y41_6 h50, Bx b38 [(.int .i64 y26_0_0), (.int .i64 y26_0_1), (.int .i64 y26_0_2), (h29).v, (h31).v, (h33).v, (h35).v], E (List (List Int)) y26_0_3 h29, E (List (List Int)) y26_0_4 h31, E (List (List Int)) y26_0_5 h33, E (List (List Int)) y26_0_6 h35, E (List (List Int)) y15_3 h18, E (List (List Int)) y15_4 h20, E (List (List Int)) y15_5 h22, E (List (List Int)) y15_6 h24, Bx b7 [(.int .i64 aS__0), (.int .i64 aS__1), (.int .i64 aS__2), (aS__3h).v, (aS__4h).v, (aS__5h).v, (aS__6h).v], Es (List (List Int)) aS__3 aS__3h, Es (List (List Int)) aS__4 aS__4h, Es (List (List Int)) aS__5 aS__5h, Es (List (List Int)) aS__6 aS__6h, Gl 0 [.int .i64 2, .int .i64 3, .int .i64 5, .int .i64 7]] := H
    refine stA gok [(.int .i64 y41_0), (.int .i64 y41_1), (.int .i64 y41_2), (h44).v, (h46).v, (h48).v, (h50).v] rfl H rfl rfl rfl ?_; clear H; intro w55 H
    replace H : Cx w0 fp0 S0 w55 [Bx b53 [(.int .i64 y41_0), (.int .i64 y41_1), (.int .i64 y41_2), (h44).v, (h46).v, (h48).v, (h50).v], E (List (List Int)) y41_3 h44, E (List (List Int)) y41_4 h46, E (List (List Int)) y41_5 h48, E (List (List Int)) y41_6 h50, Bx b38 [(.int .i64 y26_0_0), (.int .i64 y26_0_1), (.int .i64 y26_0_2), (h29).v, (h31).v, (h33).v, (h35).v], E (List (List Int)) y26_0_3 h29, E (List (List Int)) y26_0_4 h31, E (List (List Int)) y26_0_5 h33, E (List (List Int)) y26_0_6 h35, E (List (List Int)) y15_3 h18, E (List (List Int)) y15_4 h20, E (List (List Int)) y15_5 h22, E (List (List Int)) y15_6 h24, Bx b7 [(.int .i64 aS__0), (.int .i64 aS__1), (.int .i64 aS__2), (aS__3h).v, (aS__4h).v, (aS__5h).v, (aS__6h).v], Es (List (List Int)) aS__3 aS__3h, Es (List (List Int)) aS__4 aS__4h, Es (List (List Int)) aS__5 aS__5h, Es (List (List Int)) aS__6 aS__6h, Gl 0 [.int .i64 2, .int .i64 3, .int .i64 5, .int .i64 7]] := H
    refine loadN [(.int .i64 y41_0), (.int .i64 y41_1), (.int .i64 y41_2), (h44).v, (h46).v, (h48).v, (h50).v] rfl (fun j u hj => H.bx 0 rfl hj) ?_
    obtain ⟨y56, e, hF57⟩ := bindS hF42; clear hF42
    obtain ⟨⟨y56_0_0, y56_0_1, y56_0_2, y56_0_3, y56_0_4, y56_0_5, y56_0_6⟩, y56_1⟩ := y56
    have ey56 := e; clear e
    refine callF (impl_MinimizeSpace_c aP_ y41_0 y41_1 y41_2 y41_3 h44 y41_4 h46 y41_5 h48 y41_6 h50 y56_0_0 y56_0_1 y56_0_2 y56_0_3 y56_0_4 y56_0_5 y56_0_6 y56_1 ey56) (Γi := []) H ⟨Vw.own 1 rfl, Vw.own 2 rfl, Vw.own 3 rfl, Vw.own 4 rfl, Vw.gl 19 rfl, trivial⟩ ?_; clear H ey56
    rintro _ _ w58 ⟨h59, h61, h63, h65, rfl, rfl⟩ (H : Cx w0 fp0 S0 w58 [E (List (List Int)) y56_0_3 h59, E (List (List Int)) y56_0_4 h61, E (List (List Int)) y56_0_5 h63, E (List (List Int)) y56_0_6 h65, Bx b53 [(.int .i64 y41_0), (.int .i64 y41_1), (.int .i64 y41_2), (h44).v, (h46).v, (h48).v, (h50).v], E (List (List Int)) y41_3 h44, E (List (List Int)) y41_4 h46, E (List (List Int)) y41_5 h48, E (List (List Int)) y41_6 h50, Bx b38 [(.int .i64 y26_0_0), (.int .i64 y26_0_1), (.int .i64 y26_0_2), (h29).v, (h31).v, (h33).v, (h35).v], E (List (List Int)) y26_0_3 h29, E (List (List Int)) y26_0_4 h31, E (List (List Int)) y26_0_5 h33, E (List (List Int)) y26_0_6 h35, E (List (List Int)) y15_3 h18, E (List (List Int)) y15_4 h20, E (List (List Int)) y15_5 h22, E (List (List Int)) y15_6 h24, Bx b7 [(.int .i64 aS__0), (.int .i64 aS__1), (.int .i64 aS__2), (aS__3h).v, (aS__4h).v, (aS__5h).v, (aS__6h).v], Es (List (List Int)) aS__3 aS__3h, Es (List (List Int)) aS__4 aS__4h, Es (List (List Int)) aS__5 aS__5h, Es (List (List Int)) aS__6 aS__6h, Gl 0 [.int .i64 2, .int .i64 3, .int .i64 5, .int .i64 7]])
    refine alloc_ gok rfl H ?_; clear H; intro b68 w67 hx H
    clear hx
    replace H : Cx w0 fp0 S0 w67 [Bx b68 [(.int .i64 0), (.int .i64 0), (.int .i64 0), (.slice none 0 0), (.slice none 0 0), (.slice none 0 0), (.slice none 0 0)], E (List (List Int)) y56_0_3 h59, E (List (List Int)) y56_0_4 h61, E (List (List Int)) y56_0_5 h63, E (List (List Int)) y56_0_6 h65, Bx b53 [(.int .i64 y41_0), (.int .i64 y41_1), (.int .i64 y41_2), (h44).v, (h46).v, (h48).v, (h50).v], E (List (List Int)) y41_3 h44, E (List (List Int)) y41_4 h46, E (List (List Int)) y41_5 h48, E (List (List Int)) y41_6 h50, Bx b38 [(.int .i64 y26_0_0), (.int .i64 y26_0_1), (.int .i64 y26_0_2), (h29).v, (h31).v, (h33).v, (h35).v], E (List (List Int)) y26_0_3 h29, E (List (List Int)) y26_0_4 h31, E (List (List Int)) y26_0_5 h33, E (List (List Int)) y26_0_6 h35, E (List (List Int)) y15_3 h18, E (List (List Int)) y15_4 h20, E (List (List Int)) y15_5 h22, E (List (List Int)) y15_6 h24, Bx b7 [(.int .i64 aS__0), (.int .i64 aS__1), (.int .i64 aS__2), (aS__3h).v, (aS__4h).v, (aS__5h).v, (aS__6h).v], Es (List (List Int)) aS__3 aS__3h, Es (List (List Int)) aS__4 aS__4h, Es (List (List Int)) aS__5 aS__5h, Es (List (List Int)) aS__6 aS__6h, Gl 0 [.int .i64 2, .int .i64 3, .int .i64 5, .int .i64 7]] := H
    refine stA gok [(.int .i64 y56_0_0), (.int .i64 y56_0_1), (.int .i64 y56_0_2), (h59).v, (h61).v, (h63).v, (h65).v] rfl H rfl rfl rfl ?_; clear H; intro w70 H
    replace H : Cx w0 fp0 S0 w70 [Bx b68 [(.int .i64 y56_0_0), (.int .i64 y56_0_1), (.int .i64 y56_0_2), (h59).v, (h61).v, (h63).v, (h65).v], E (List (List Int)) y56_0_3 h59, E (List (List Int)) y56_0_4 h61, E (List (List Int)) y56_0_5 h63, E (List (List Int)) y56_0_6 h65, Bx b53 [(.int .i64 y41_0), (.int .i64 y41_1), (.int .i64 y41_2), (h44).v, (h46).v, (h48).v, (h50).v], E (List (List Int)) y41_3 h44, E (List (List Int)) y41_4 h46, E (List (List Int)) y41_5 h48, E (List (List Int)) y41_6 h50, Bx b38 [(.int .i64 y26_0_0), (.int .i64 y26_0_1), (.int .i64 y26_0_2), (h29).v, (h31).v, (h33).v, (h35).v], E (List (List Int)) y26_0_3 h29, E (List (List Int)) y26_0_4 h31, E (List (List Int)) y26_0_5 h33, E (List (List Int)) y26_0_6 h35, E (List (List Int)) y15_3 h18, E (List (List Int)) y15_4 h20, E (List (List Int)) y15_5 h22, E (List (List Int)) y15_6 h24, Bx b7 [(.int .i64 aS__0), (.int .i64 aS__1), (.int .i64 aS__2), (aS__3h).v, (aS__4h).v, (aS__5h).v, (aS__6h).v], Es (List (List Int)) aS__3 aS__3h, Es (List (List Int)) aS__4 aS__4h, Es (List (List Int)) aS__5 aS__5h, Es (List (List Int)) aS__6 aS__6h, Gl 0 [.int .i64 2, .int .i64 3, .int .i64 5, .int .i64 7]] := H
    refine sq ?_
    obtain ⟨r82, hF84, hF83⟩ := bindS hF57; clear hF57
    refine cut (fun (q85 : Bool) => [(0, (.int .i64 aP_)), (3, (.pointer (some ⟨b7, 0, none⟩))), (6, (.pointer (some ⟨b38, 0, none⟩))), (7, (.bool y26_1)), (8, (.pointer (some ⟨b53, 0, none⟩))), (9, (.pointer (some ⟨b68, 0, none⟩))), (10, (.bool y56_1)), (44, (.bool q85))]) (fun (q85 : Bool) w' => q85 = r82 ∧ Cx w0 fp0 S0 w' [Bx b7 [(.int .i64 aS__0), (.int .i64 aS__1), (.int .i64 aS__2), (aS__3h).v, (aS__4h).v, (aS__5h).v, (aS__6h).v], Es (List (List Int)) aS__3 aS__3h, Es (List (List Int)) aS__4 aS__4h, Es (List (List Int)) aS__5 aS__5h, Es (List (List Int)) aS__6 aS__6h, Bx b38 [(.int .i64 y26_0_0), (.int .i64 y26_0_1), (.int .i64 y26_0_2), (h29).v, (h31).v, (h33).v, (h35).v], E (List (List Int)) y26_0_3 h29, E (List (List Int)) y26_0_4 h31, E (List (List Int)) y26_0_5 h33, E (List (List Int)) y26_0_6 h35, Bx b53 [(.int .i64 y41_0), (.int .i64 y41_1), (.int .i64 y41_2), (h44).v, (h46).v, (h48).v, (h50).v], E (List (List Int)) y41_3 h44, E (List (List Int)) y41_4 h46, E (List (List Int)) y41_5 h48, E (List (List Int)) y41_6 h50, Bx b68 [(.int .i64 y56_0_0), (.int .i64 y56_0_1), (.int .i64 y56_0_2), (h59).v, (h61).v, (h63).v, (h65).v], E (List (List Int)) y56_0_3 h59, E (List (List Int)) y56_0_4 h61, E (List (List Int)) y56_0_5 h63, E (List (List Int)) y56_0_6 h65, Gl 0 [.int .i64 2, .int .i64 3, .int .i64 5, .int .i64 7]]) ?_ ?_
    · skip
      refine loadN [(.int .i64 y56_0_0), (.int .i64 y56_0_1), (.int .i64 y56_0_2), (h59).v, (h61).v, (h63).v, (h65).v] rfl (fun j u hj => H.bx 0 rfl hj) ?_
      refine loadN [(.int .i64 y26_0_0), (.int .i64 y26_0_1), (.int .i64 y26_0_2), (h29).v, (h31).v, (h33).v, (h35).v] rfl (fun j u hj => H.bx 10 rfl hj) ?_
      obtain ⟨y86, e, hF87⟩ := bindS hF84; clear hF84
      have ey86 := e; clear e
      refine callF (laws_eqStateSpace_c y56_0_0 y56_0_1 y56_0_2 y56_0_3 h59 y56_0_4 h61 y56_0_5 h63 y56_0_6 h65 y26_0_0 y26_0_1 y26_0_2 y26_0_3 h29 y26_0_4 h31 y26_0_5 h33 y26_0_6 h35 y86 ey86) (Γi := []) H ⟨Vw.own 1 rfl, Vw.own 2 rfl, Vw.own 3 rfl, Vw.own 4 rfl, Vw.own 11 rfl, Vw.own 12 rfl, Vw.own 13 rfl, Vw.own 14 rfl, trivial⟩ ?_; clear H ey86
      rintro _ _ w88 ⟨rfl, rfl⟩ (H : Cx w0 fp0 S0 w88 [Bx b68 [(.int .i64 y56_0_0), (.int .i64 y56_0_1), (.int .i64 y56_0_2), (h59).v, (h61).v, (h63).v, (h65).v], E (List (List Int)) y56_0_3 h59, E (List (List Int)) y56_0_4 h61, E (List (List Int)) y56_0_5 h63, E (List (List Int)) y56_0_6 h65, Bx b53 [(.int .i64 y41_0), (.int .i64 y41_1), (.int .i64 y41_2), (h44).v, (h46).v, (h48).v, (h50).v], E (List (List Int)) y41_3 h44, E (List (List Int)) y41_4 h46, E (List (List Int)) y41_5 h48, E (List (List Int)) y41_6 h50, Bx b38 [(.int .i64 y26_0_0), (.int .i64 y26_0_1), (.int .i64 y26_0_2), (h29).v, (h31).v, (h33).v, (h35).v], E (List (List Int)) y26_0_3 h29, E (List (List Int)) y26_0_4 h31, E (List (List Int)) y26_0_5 h33, E (List (List Int)) y26_0_6 h35, E (List (List Int)) y15_3 h18, E (List (List Int)) y15_4 h20, E (List (List Int)) y15_5 h22, E (List (List Int)) y15_6 h24, Bx b7 [(.int .i64 aS__0), (.int .i64 aS__1), (.int .i64 aS__2), (aS__3h).v, (aS__4h).v, (aS__5h).v, (aS__6h).v], Es (List (List Int)) aS__3 aS__3h, Es (List (List Int)) aS__4 aS__4h, Es (List (List Int)) aS__5 aS__5h, Es (List (List Int)) aS__6 aS__6h, Gl 0 [.int .i64 2, .int .i64 3, .int .i64 5, .int .i64 7]])
      obtain ⟨a89, e, hF90⟩ := bindS hF87; clear hF87
      refine boolO e ?_; clear e
      cases a89
      · have hF91 := condF hF90; clear hF90
        obtain ⟨a92, e, hF93⟩ := bindS hF91; clear hF91
        refine boolO e ?_; clear e
        exact ⟨a92, ⟨rfl, rfl, rfl, rfl, rfl, rfl, rfl, rfl, trivial⟩, Option.some.inj hF93, H.sel [19, 20, 21, 22, 23, 10, 11, 12, 13, 14, 5, 6, 7, 8, 9, 0, 1, 2, 3, 4, 24] rfl⟩
      · have hF94 := condT hF90; clear hF90
        exact ⟨true, ⟨rfl, rfl, rfl, rfl, rfl, rfl, rfl, rfl, trivial⟩, Option.some.inj hF94, H.sel [19, 20, 21, 22, 23, 10, 11, 12, 13, 14, 5, 6, 7, 8, 9, 0, 1, 2, 3, 4, 24] rfl⟩
    · clear hF84 H
      rintro T96 s80 w95 ⟨hr, (H : Cx w0 fp0 S0 w95 [Bx b7 [(.int .i64 aS__0), (.int .i64 aS__1), (.int .i64 aS__2), (aS__3h).v, (aS__4h).v, (aS__5h).v, (aS__6h).v], Es (List (List Int)) aS__3 aS__3h, Es (List (List Int)) aS__4 aS__4h, Es (List (List Int)) aS__5 aS__5h, Es (List (List Int)) aS__6 aS__6h, Bx b38 [(.int .i64 y26_0_0), (.int .i64 y26_0_1), (.int .i64 y26_0_2), (h29).v, (h31).v, (h33).v, (h35).v], E (List (List Int)) y26_0_3 h29, E (List (List Int)) y26_0_4 h31, E (List (List Int)) y26_0_5 h33, E (List (List Int)) y26_0_6 h35, Bx b53 [(.int .i64 y41_0), (.int .i64 y41_1), (.int .i64 y41_2), (h44).v, (h46).v, (h48).v, (h50).v], E (List (List Int)) y41_3 h44, E (List (List Int)) y41_4 h46, E (List (List Int)) y41_5 h48, E (List (List Int)) y41_6 h50, Bx b68 [(.int .i64 y56_0_0), (.int .i64 y56_0_1), (.int .i64 y56_0_2), (h59).v, (h61).v, (h63).v, (h65).v], E (List (List Int)) y56_0_3 h59, E (List (List Int)) y56_0_4 h61, E (List (List Int)) y56_0_5 h63, E (List (List Int)) y56_0_6 h65, Gl 0 [.int .i64 2, .int .i64 3, .int .i64 5, .int .i64 7]])⟩
      subst hr
      cases s80
      · have hF97 := condF hF83; clear hF83
        refine sq ?_
        refine heldX H [] (.fst 0 (.fst 1 (.act 2 (.act 3 (.fst 4 .done))))) mixed [] trivial (by kernel_rfl) ?_
        clear H; intro w98 H
        have hX : Ext w98 w98 := Upd.refl _ _
        have H0 := H
        refine loadNX [(.int .i64 y41_0), (.int .i64 y41_1), (.int .i64 y41_2), (h44).v, (h46).v, (h48).v, (h50).v] rfl (fun j u hj => H.bx 10 rfl hj) ?_
        refine loadNX [(.int .i64 aS__0), (.int .i64 aS__1), (.int .i64 aS__2), (aS__3h).v, (aS__4h).v, (aS__5h).v, (aS__6h).v] rfl (fun j u hj => H.bx 0 rfl hj) ?_
        obtain ⟨y99, e, hF100⟩ := bindS hF97; clear hF97
        obtain ⟨y99_0, y99_1, y99_2, y99_3, y99_4, y99_5, y99_6⟩ := y99
        have ey99 := e; clear e
        refine callFx (laws_toStateSpace_c aS__0 aS__1 aS__2 aS__3 aS__3h aS__4 aS__4h aS__5 aS__5h aS__6 aS__6h y99_0 y99_1 y99_2 y99_3 y99_4 y99_5 y99_6 ey99) H ⟨Vw.sh 1 rfl, Vw.sh 2 rfl, Vw.sh 3 rfl, Vw.sh 4 rfl, trivial⟩ ?_; clear H ey99
        rintro _ _ w101 ⟨h102, h104, h106, h108, rfl, rfl⟩ hx (H : Cx w0 fp0 S0 w101 [E (List (List Int)) y99_3 h102, E (List (List Int)) y99_4 h104, E (List (List Int)) y99_5 h106, E (List (List Int)) y99_6 h108, Bx b7 [(.int .i64 aS__0), (.int .i64 aS__1), (.int .i64 aS__2), (aS__3h).v, (aS__4h).v, (aS__5h).v, (aS__6h).v], Es (List (List Int)) aS__3 aS__3h, Es (List (List Int)) aS__4 aS__4h, Es (List (List Int)) aS__5 aS__5h, Es (List (List Int)) aS__6 aS__6h, Bx b38 [(.int .i64 y26_0_0), (.int .i64 y26_0_1), (.int .i64 y26_0_2), (h29).v, (h31).v, (h33).v, (h35).v], E (List (List Int)) y26_0_3 h29, E (List (List Int)) y26_0_4 h31, E (List (List Int)) y26_0_5 h33, E (List (List Int)) y26_0_6 h35, Bx b53 [(.int .i64 y41_0), (.int .i64 y41_1), (.int .i64 y41_2), (h44).v, (h46).v, (h48).v, (h50).v], E (List (List Int)) y41_3 h44, E (List (List Int)) y41_4 h46, E (List (List Int)) y41_5 h48, E (List (List Int)) y41_6 h50, Bx b68 [(.int .i64 y56_0_0), (.int .i64 y56_0_1), (.int .i64 y56_0_2), (h59).v, (h61).v, (h63).v, (h65).v], E (List (List Int)) y56_0_3 h59, E (List (List Int)) y56_0_4 h61, E (List (List Int)) y56_0_5 h63, E (List (List Int)) y56_0_6 h65, Gl 0 [.int .i64 2, .int .i64 3, .int .i64 5, .int .i64 7]])
        replace hX := hX.trans0 hx; clear hx
        refine hold hX ?_
        obtain ⟨y110, e, hF111⟩ := bindS hF100; clear hF100
        have ey110 := e; clear e
        refine callFx (laws_eqStateSpace_c y41_0 y41_1 y41_2 y41_3 h44 y41_4 h46 y41_5 h48 y41_6 h50 y99_0 y99_1 y99_2 y99_3 h102 y99_4 h104 y99_5 h106 y99_6 h108 y110 ey110) H ⟨Vw.own 15 rfl, Vw.own 16 rfl, Vw.own 17 rfl, Vw.own 18 rfl, Vw.own 0 rfl, Vw.own 1 rfl, Vw.own 2 rfl, Vw.own 3 rfl, trivial⟩ ?_; clear H ey110
        rintro _ _ w112 ⟨rfl, rfl⟩ hx (H : Cx w0 fp0 S0 w112 [E (List (List Int)) y99_3 h102, E (List (List Int)) y99_4 h104, E (List (List Int)) y99_5 h106, E (List (List Int)) y99_6 h108, Bx b7 [(.int .i64 aS__0), (.int .i64 aS__1), (.int .i64 aS__2), (aS__3h).v, (aS__4h).v, (aS__5h).v, (aS__6h).v], Es (List (List Int)) aS__3 aS__3h, Es (List (List Int)) aS__4 aS__4h, Es (List (List Int)) aS__5 aS__5h, Es (List (List Int)) aS__6 aS__6h, Bx b38 [(.int .i64 y26_0_0), (.int .i64 y26_0_1), (.int .i64 y26_0_2), (h29).v, (h31).v, (h33).v, (h35).v], E (List (List Int)) y26_0_3 h29, E (List (List Int)) y26_0_4 h31, E (List (List Int)) y26_0_5 h33, E (List (List Int)) y26_0_6 h35, Bx b53 [(.int .i64 y41_0), (.int .i64 y41_1), (.int .i64 y41_2), (h44).v, (h46).v, (h48).v, (h50).v], E (List (List Int)) y41_3 h44, E (List (List Int)) y41_4 h46, E (List (List Int)) y41_5 h48, E (List (List Int)) y41_6 h50, Bx b68 [(.int .i64 y56_0_0), (.int .i64 y56_0_1), (.int .i64 y56_0_2), (h59).v, (h61).v, (h63).v, (h65).v], E (List (List Int)) y56_0_3 h59, E (List (List Int)) y56_0_4 h61, E (List (List Int)) y56_0_5 h63, E (List (List Int)) y56_0_6 h65, Gl 0 [.int .i64 2, .int .i64 3, .int .i64 5, .int .i64 7]])
        replace hX := hX.trans0 hx; clear hx
        refine hold hX ?_
        obtain ⟨a113, e, hF114⟩ := bindS hF111; clear hF111
        refine boolO e ?_; clear e
        cases a113
        · have hF115 := condF hF114; clear hF114
          refine loadN [(.int .i64 y41_0), (.int .i64 y41_1), (.int .i64 y41_2), (h44).v, (h46).v, (h48).v, (h50).v] rfl (fun j u hj => H.bx 14 rfl hj) ?_
          obtain ⟨y116, e, hF117⟩ := bindS hF115; clear hF115
          obtain ⟨⟨y116_0_0, y116_0_1, y116_0_2, y116_0_3, y116_0_4, y116_0_5, y116_0_6⟩, y116_1⟩ := y116
          have ey116 := e; clear e
          replace H := H.sel [15, 16, 17, 18, 0, 1, 2, 3, 4, 5, 6, 7, 8, 9, 10, 11, 12, 13, 14, 19, 20, 21, 22, 23, 24] rfl
          refine callF (laws_markStateSpace_c y41_0 y41_1 y41_2 y41_3 h44 y41_4 h46 y41_5 h48 y41_6 h50 1 y116_0_0 y116_0_1 y116_0_2 y116_0_3 y116_0_4 y116_0_5 y116_0_6 y116_1 ey116) (Γi := [E (List (List Int)) y41_3 h44, E (List (List Int)) y41_4 h46, E (List (List Int)) y41_5 h48, E (List (List Int)) y41_6 h50]) H trivial ?_; clear H ey116
          rintro _ _ w118 ⟨rfl, rfl⟩ (H : Cx w0 fp0 S0 w118 [E (List (List Int)) y116_0_3 h44, E (List (List Int)) y116_0_4 h46, E (List (List Int)) y116_0_5 h48, E (List (List Int)) y116_0_6 h50, E (List (List Int)) y99_3 h102, E (List (List Int)) y99_4 h104, E (List (List Int)) y99_5 h106, E (List (List Int)) y99_6 h108, Bx b7 [(.int .i64 aS__0), (.int .i64 aS__1), (.int .i64 aS__2), (aS__3h).v, (aS__4h).v, (aS__5h).v, (aS__6h).v], Es (List (List Int)) aS__3 aS__3h, Es (List (List Int)) aS__4 aS__4h, Es (List (List Int)) aS__5 aS__5h, Es (List (List Int)) aS__6 aS__6h, Bx b38 [(.int .i64 y26_0_0), (.int .i64 y26_0_1), (.int .i64 y26_0_2), (h29).v, (h31).v, (h33).v, (h35).v], E (List (List Int)) y26_0_3 h29, E (List (List Int)) y26_0_4 h31, E (List (List Int)) y26_0_5 h33, E (List (List Int)) y26_0_6 h35, Bx b53 [(.int .i64 y41_0), (.int .i64 y41_1), (.int .i64 y41_2), (h44).v, (h46).v, (h48).v, (h50).v], Bx b68 [(.int .i64 y56_0_0), (.int .i64 y56_0_1), (.int .i64 y56_0_2), (h59).v, (h61).v, (h63).v, (h65).v], E (List (List Int)) y56_0_3 h59, E (List (List Int)) y56_0_4 h61, E (List (List Int)) y56_0_5 h63, E (List (List Int)) y56_0_6 h65, Gl 0 [.int .i64 2, .int .i64 3, .int .i64 5, .int .i64 7]])
          refine sq ?_
          obtain ⟨r134, hF136, hF135⟩ := bindS hF117; clear hF117
          refine cut (fun (q137 : Bool) => [(0, (.int .i64 aP_)), (3, (.pointer (some ⟨b7, 0, none⟩))), (6, (.pointer (some ⟨b38, 0, none⟩))), (7, (.bool y26_1)), (9, (.pointer (some ⟨b68, 0, none⟩))), (65, (.bool q137))]) (fun (q137 : Bool) w' => q137 = r134 ∧ Cx w0 fp0 S0 w' [Bx b7 [(.int .i64 aS__0), (.int .i64 aS__1), (.int .i64 aS__2), (aS__3h).v, (aS__4h).v, (aS__5h).v, (aS__6h).v], Es (List (List Int)) aS__3 aS__3h, Es (List (List Int)) aS__4 aS__4h, Es (List (List Int)) aS__5 aS__5h, Es (List (List Int)) aS__6 aS__6h, Bx b38 [(.int .i64 y26_0_0), (.int .i64 y26_0_1), (.int .i64 y26_0_2), (h29).v, (h31).v, (h33).v, (h35).v], E (List (List Int)) y26_0_3 h29, E (List (List Int)) y26_0_4 h31, E (List (List Int)) y26_0_5 h33, E (List (List Int)) y26_0_6 h35, Bx b68 [(.int .i64 y56_0_0), (.int .i64 y56_0_1), (.int .i64 y56_0_2), (h59).v, (h61).v, (h63).v, (h65).v], E (List (List Int)) y56_0_3 h59, E (List (List Int)) y56_0_4 h61, E (List (List Int)) y56_0_5 h63, E (List (List Int)) y56_0_6 h65, Gl 0 [.int .i64 2, .int .i64 3, .int .i64 5, .int .i64 7]]) ?_ ?_
          · skip
            obtain ⟨a138, e, hF139⟩ := bindS hF136; clear hF136
            refine boolO e ?_; clear e
            cases a138
            · have hF140 := condF hF139; clear hF139
              refine loadN [(.int .i64 y56_0_0), (.int .i64 y56_0_1), (.int .i64 y56_0_2), (h59).v, (h61).v, (h63).v, (h65).v] rfl (fun j u hj => H.bx 19 rfl hj) ?_
              refine loadN [(.int .i64 y26_0_0), (.int .i64 y26_0_1), (.int .i64 y26_0_2), (h29).v, (h31).v, (h33).v, (h35).v] rfl (fun j u hj => H.bx 13 rfl hj) ?_
              obtain ⟨y141, e, hF142⟩ := bindS hF140; clear hF140
              have ey141 := e; clear e
              refine callF (laws_eqStateSpace_c y56_0_0 y56_0_1 y56_0_2 y56_0_3 h59 y56_0_4 h61 y56_0_5 h63 y56_0_6 h65 y26_0_0 y26_0_1 y26_0_2 y26_0_3 h29 y26_0_4 h31 y26_0_5 h33 y26_0_6 h35 y141 ey141) (Γi := []) H ⟨Vw.own 20 rfl, Vw.own 21 rfl, Vw.own 22 rfl, Vw.own 23 rfl, Vw.own 14 rfl, Vw.own 15 rfl, Vw.own 16 rfl, Vw.own 17 rfl, trivial⟩ ?_; clear H ey141
              rintro _ _ w143 ⟨rfl, rfl⟩ (H : Cx w0 fp0 S0 w143 [E (List (List Int)) y116_0_3 h44, E (List (List Int)) y116_0_4 h46, E (List (List Int)) y116_0_5 h48, E (List (List Int)) y116_0_6 h50, E (List (List Int)) y99_3 h102, E (List (List Int)) y99_4 h104, E (List (List Int)) y99_5 h106, E (List (List Int)) y99_6 h108, Bx b7 [(.int .i64 aS__0), (.int .i64 aS__1), (.int .i64 aS__2), (aS__3h).v, (aS__4h).v, (aS__5h).v, (aS__6h).v], Es (List (List Int)) aS__3 aS__3h, Es (List (List Int)) aS__4 aS__4h, Es (List (List Int)) aS__5 aS__5h, Es (List (List Int)) aS__6 aS__6h, Bx b38 [(.int .i64 y26_0_0), (.int .i64 y26_0_1), (.int .i64 y26_0_2), (h29).v, (h31).v, (h33).v, (h35).v], E (List (List Int)) y26_0_3 h29, E (List (List Int)) y26_0_4 h31, E (List (List Int)) y26_0_5 h33, E (List (List Int)) y26_0_6 h35, Bx b53 [(.int .i64 y41_0), (.int .i64 y41_1), (.int .i64 y41_2), (h44).v, (h46).v, (h48).v, (h50).v], Bx b68 [(.int .i64 y56_0_0), (.int .i64 y56_0_1), (.int .i64 y56_0_2), (h59).v, (h61).v, (h63).v, (h65).v], E (List (List Int)) y56_0_3 h59, E (List (List Int)) y56_0_4 h61, E (List (List Int)) y56_0_5 h63, E (List (List Int)) y56_0_6 h65, Gl 0 [.int .i64 2, .int .i64 3, .int .i64 5, .int .i64 7]])
              obtain ⟨a144, e, hF145⟩ := bindS hF142; clear hF142
              refine boolO e ?_; clear e
              cases a144
              · have hF146 := condF hF145; clear hF145
                obtain ⟨a147, e, hF148⟩ := bindS hF146; clear hF146
                refine boolO e ?_; clear e
                exact ⟨a147, ⟨rfl, rfl, rfl, rfl, rfl, rfl, trivial⟩, Option.some.inj hF148, H.sel [8, 9, 10, 11, 12, 13, 14, 15, 16, 17, 19, 20, 21, 22, 23, 24] rfl⟩
              · have hF149 := condT hF145; clear hF145
                exact ⟨true, ⟨rfl, rfl, rfl, rfl, rfl, rfl, trivial⟩, Option.some.inj hF149, H.sel [8, 9, 10, 11, 12, 13, 14, 15, 16, 17, 19, 20, 21, 22, 23, 24] rfl⟩
            · have hF150 := condT hF139; clear hF139
              exact ⟨true, ⟨rfl, rfl, rfl, rfl, rfl, rfl, trivial⟩, Option.some.inj hF150, H.sel [8, 9, 10, 11, 12, 13, 14, 15, 16, 17, 19, 20, 21, 22, 23, 24] rfl⟩
          · clear hF136 H
            rintro T152 s132 w151 ⟨hr, (H : Cx w0 fp0 S0 w151 [Bx b7 [(.int .i64 aS__0), (.int .i64 aS__1), (.int .i64 aS__2), (aS__3h).v, (aS__4h).v, (aS__5h).v, (aS__6h).v], Es (List (List Int)) aS__3 aS__3h, Es (List (List Int)) aS__4 aS__4h, Es (List (List Int)) aS__5 aS__5h, Es (List (List Int)) aS__6 aS__6h, Bx b38 [(.int .i64 y26_0_0), (.int .i64 y26_0_1), (.int .i64 y26_0_2), (h29).v, (h31).v, (h33).v, (h35).v], E (List (List Int)) y26_0_3 h29, E (List (List Int)) y26_0_4 h31, E (List (List Int)) y26_0_5 h33, E (List (List Int)) y26_0_6 h35, Bx b68 [(.int .i64 y56_0_0), (.int .i64 y56_0_1), (.int .i64 y56_0_2), (h59).v, (h61).v, (h63).v, (h65).v], E (List (List Int)) y56_0_3 h59, E (List (List Int)) y56_0_4 h61, E (List (List Int)) y56_0_5 h63, E (List (List Int)) y56_0_6 h65, Gl 0 [.int .i64 2, .int .i64 3, .int .i64 5, .int .i64 7]])⟩
            subst hr
            cases s132
            · have hF153 := condF hF135; clear hF135
              refine loadN [(.int .i64 y56_0_0), (.int .i64 y56_0_1), (.int .i64 y56_0_2), (h59).v, (h61).v, (h63).v, (h65).v] rfl (fun j u hj => H.bx 10 rfl hj) ?_
              obtain ⟨y154, e, hF155⟩ := bindS hF153; clear hF153
              obtain ⟨⟨y154_0_0, y154_0_1, y154_0_2, y154_0_3, y154_0_4, y154_0_5, y154_0_6⟩, y154_1⟩ := y154
              have ey154 := e; clear e
              replace H := H.sel [11, 12, 13, 14, 0, 1, 2, 3, 4, 5, 6, 7, 8, 9, 10, 15] rfl
              refine callF (laws_markStateSpace_c y56_0_0 y56_0_1 y56_0_2 y56_0_3 h59 y56_0_4 h61 y56_0_5 h63 y56_0_6 h65 1 y154_0_0 y154_0_1 y154_0_2 y154_0_3 y154_0_4 y154_0_5 y154_0_6 y154_1 ey154) (Γi := [E (List (List Int)) y56_0_3 h59, E (List (List Int)) y56_0_4 h61, E (List (List Int)) y56_0_5 h63, E (List (List Int)) y56_0_6 h65]) H trivial ?_; clear H ey154
              rintro _ _ w156 ⟨rfl, rfl⟩ (H : Cx w0 fp0 S0 w156 [E (List (List Int)) y154_0_3 h59, E (List (List Int)) y154_0_4 h61, E (List (List Int)) y154_0_5 h63, E (List (List Int)) y154_0_6 h65, Bx b7 [(.int .i64 aS__0), (.int .i64 aS__1), (.int .i64 aS__2), (aS__3h).v, (aS__4h).v, (aS__5h).v, (aS__6h).v], Es (List (List Int)) aS__3 aS__3h, Es (List (List Int)) aS__4 aS__4h, Es (List (List Int)) aS__5 aS__5h, Es (List (List Int)) aS__6 aS__6h, Bx b38 [(.int .i64 y26_0_0), (.int .i64 y26_0_1), (.int .i64 y26_0_2), (h29).v, (h31).v, (h33).v, (h35).v], E (List (List Int)) y26_0_3 h29, E (List (List Int)) y26_0_4 h31, E (List (List Int)) y26_0_5 h33, E (List (List Int)) y26_0_6 h35, Bx b68 [(.int .i64 y56_0_0), (.int .i64 y56_0_1), (.int .i64 y56_0_2), (h59).v, (h61).v, (h63).v, (h65).v], Gl 0 [.int .i64 2, .int .i64 3, .int .i64 5, .int .i64 7]])
              refine loadN [(.int .i64 y56_0_0), (.int .i64 y56_0_1), (.int .i64 y56_0_2), (h59).v, (h61).v, (h63).v, (h65).v] rfl (fun j u hj => H.bx 14 rfl hj) ?_
              obtain ⟨y157, e, hF158⟩ := bindS hF155; clear hF155
              have ey157 := e; clear e
              refine callF (laws_heldStateSpace_c y56_0_0 y56_0_1 y56_0_2 y154_0_3 h59 y154_0_4 h61 y154_0_5 h63 y154_0_6 h65 1 y157 ey157) (Γi := []) H ⟨Vw.own 0 rfl, Vw.own 1 rfl, Vw.own 2 rfl, Vw.own 3 rfl, trivial⟩ ?_; clear H ey157
              rintro _ _ w159 ⟨rfl, rfl⟩ (H : Cx w0 fp0 S0 w159 [E (List (List Int)) y154_0_3 h59, E (List (List Int)) y154_0_4 h61, E (List (List Int)) y154_0_5 h63, E (List (List Int)) y154_0_6 h65, Bx b7 [(.int .i64 aS__0), (.int .i64 aS__1), (.int .i64 aS__2), (aS__3h).v, (aS__4h).v, (aS__5h).v, (aS__6h).v], Es (List (List Int)) aS__3 aS__3h, Es (List (List Int)) aS__4 aS__4h, Es (List (List Int)) aS__5 aS__5h, Es (List (List Int)) aS__6 aS__6h, Bx b38 [(.int .i64 y26_0_0), (.int .i64 y26_0_1), (.int .i64 y26_0_2), (h29).v, (h31).v, (h33).v, (h35).v], E (List (List Int)) y26_0_3 h29, E (List (List Int)) y26_0_4 h31, E (List (List Int)) y26_0_5 h33, E (List (List Int)) y26_0_6 h35, Bx b68 [(.int .i64 y56_0_0), (.int .i64 y56_0_1), (.int .i64 y56_0_2), (h59).v, (h61).v, (h63).v, (h65).v], Gl 0 [.int .i64 2, .int .i64 3, .int .i64 5, .int .i64 7]])
              refine sq ?_
              obtain ⟨a160, e, hF161⟩ := bindS hF158; clear hF158
              refine boolO e ?_; clear e
              cases a160
              · have hF162 := condF hF161; clear hF161
                refine sq ?_
                obtain ⟨a163, e, hF164⟩ := bindS hF162; clear hF162
                refine boolO e ?_; clear e
                cases a163
                · have hF165 := condF hF164; clear hF164
                  refine loadN [(.int .i64 aS__0), (.int .i64 aS__1), (.int .i64 aS__2), (aS__3h).v, (aS__4h).v, (aS__5h).v, (aS__6h).v] rfl (fun j u hj => H.bx 4 rfl hj) ?_
                  obtain ⟨y166, e, hF167⟩ := bindS hF165; clear hF165
                  obtain ⟨y166_0, y166_1, y166_2, y166_3, y166_4, y166_5, y166_6⟩ := y166
                  have ey166 := e; clear e
                  refine callF (laws_toStateSpace_c aS__0 aS__1 aS__2 aS__3 aS__3h aS__4 aS__4h aS__5 aS__5h aS__6 aS__6h y166_0 y166_1 y166_2 y166_3 y166_4 y166_5 y166_6 ey166) (Γi := []) H ⟨Vw.sh 5 rfl, Vw.sh 6 rfl, Vw.sh 7 rfl, Vw.sh 8 rfl, trivial⟩ ?_; clear H ey166
                  rintro _ _ w168 ⟨h169, h171, h173, h175, rfl, rfl⟩ (H : Cx w0 fp0 S0 w168 [E (List (List Int)) y166_3 h169, E (List (List Int)) y166_4 h171, E (List (List Int)) y166_5 h173, E (List (List Int)) y166_6 h175, E (List (List Int)) y154_0_3 h59, E (List (List Int)) y154_0_4 h61, E (List (List Int)) y154_0_5 h63, E (List (List Int)) y154_0_6 h65, Bx b7 [(.int .i64 aS__0), (.int .i64 aS__1), (.int .i64 aS__2), (aS__3h).v, (aS__4h).v, (aS__5h).v, (aS__6h).v], Es (List (List Int)) aS__3 aS__3h, Es (List (List Int)) aS__4 aS__4h, Es (List (List Int)) aS__5 aS__5h, Es (List (List Int)) aS__6 aS__6h, Bx b38 [(.int .i64 y26_0_0), (.int .i64 y26_0_1), (.int .i64 y26_0_2), (h29).v, (h31).v, (h33).v, (h35).v], E (List (List Int)) y26_0_3 h29, E (List (List Int)) y26_0_4 h31, E (List (List Int)) y26_0_5 h33, E (List (List Int)) y26_0_6 h35, Bx b68 [(.int .i64 y56_0_0), (.int .i64 y56_0_1), (.int .i64 y56_0_2), (h59).v, (h61).v, (h63).v, (h65).v], Gl 0 [.int .i64 2, .int .i64 3, .int .i64 5, .int .i64 7]])
                  obtain ⟨y177, e, hF178⟩ := bindS hF167; clear hF167
                  obtain ⟨⟨y177_0_0, y177_0_1, y177_0_2, y177_0_3, y177_0_4, y177_0_5, y177_0_6⟩, y177_1⟩ := y177
                  have ey177 := e; clear e
                  refine callF (impl_MinimizeSpace_c aP_ y166_0 y166_1 y166_2 y166_3 h169 y166_4 h171 y166_5 h173 y166_6 h175 y177_0_0 y177_0_1 y177_0_2 y177_0_3 y177_0_4 y177_0_5 y177_0_6 y177_1 ey177) (Γi := []) H ⟨Vw.own 0 rfl, Vw.own 1 rfl, Vw.own 2 rfl, Vw.own 3 rfl, Vw.gl 19 rfl, trivial⟩ ?_; clear H ey177
                  rintro _ _ w179 ⟨h180, h182, h184, h186, rfl, rfl⟩ (H : Cx w0 fp0 S0 w179 [E (List (List Int)) y177_0_3 h180, E (List (List Int)) y177_0_4 h182, E (List (List Int)) y177_0_5 h184, E (List (List Int)) y177_0_6 h186, E (List (List Int)) y166_3 h169, E (List (List Int)) y166_4 h171, E (List (List Int)) y166_5 h173, E (List (List Int)) y166_6 h175, E (List (List Int)) y154_0_3 h59, E (List (List Int)) y154_0_4 h61, E (List (List Int)) y154_0_5 h63, E (List (List Int)) y154_0_6 h65, Bx b7 [(.int .i64 aS__0), (.int .i64 aS__1), (.int .i64 aS__2), (aS__3h).v, (aS__4h).v, (aS__5h).v, (aS__6h).v], Es (List (List Int)) aS__3 aS__3h, Es (List (List Int)) aS__4 aS__4h, Es (List (List Int)) aS__5 aS__5h, Es (List (List Int)) aS__6 aS__6h, Bx b38 [(.int .i64 y26_0_0), (.int .i64 y26_0_1), (.int .i64 y26_0_2), (h29).v, (h31).v, (h33).v, (h35).v], E (List (List Int)) y26_0_3 h29, E (List (List Int)) y26_0_4 h31, E (List (List Int)) y26_0_5 h33, E (List (List Int)) y26_0_6 h35, Bx b68 [(.int .i64 y56_0_0), (.int .i64 y56_0_1), (.int .i64 y56_0_2), (h59).v, (h61).v, (h63).v, (h65).v], Gl 0 [.int .i64 2, .int .i64 3, .int .i64 5, .int .i64 7]])
                  refine alloc_ gok rfl H ?_; clear H; intro b189 w188 hx H
                  clear hx
                  replace H : Cx w0 fp0 S0 w188 [Bx b189 [(.int .i64 0), (.int .i64 0), (.int .i64 0), (.slice none 0 0), (.slice none 0 0), (.slice none 0 0), (.slice none 0 0)], E (List (List Int)) y177_0_3 h180, E (List (List Int)) y177_0_4 h182, E (List (List Int)) y177_0_5 h184, E (List (List Int)) y177_0_6 h186, E (List (List Int)) y166_3 h169, E (List (List Int)) y166_4 h171, E (List (List Int)) y166_5 h173, E (List (List Int)) y166_6 h175, E (List (List Int)) y154_0_3 h59, E (List (List Int)) y154_0_4 h61, E (List (List Int)) y154_0_5 h63, E (List (List Int)) y154_0_6 h65, Bx b7 [(.int .i64 aS__0), (.int .i64 aS__1), (.int .i64 aS__2), (aS__3h).v, (aS__4h).v, (aS__5h).v, (aS__6h).v], Es (List (List Int)) aS__3 aS__3h, Es (List (List Int)) aS__4 aS__4h, Es (List (List Int)) aS__5 aS__5h, Es (List (List Int)) aS__6 aS__6h, Bx b38 [(.int .i64 y26_0_0), (.int .i64 y26_0_1), (.int .i64 y26_0_2), (h29).v, (h31).v, (h33).v, (h35).v], E (List (List Int)) y26_0_3 h29, E (List (List Int)) y26_0_4 h31, E (List (List Int)) y26_0_5 h33, E (List (List Int)) y26_0_6 h35, Bx b68 [(.int .i64 y56_0_0), (.int .i64 y56_0_1), (.int .i64 y56_0_2), (h59).v, (h61).v, (h63).v, (h65).v], Gl 0 [.int .i64 2, .int .i64 3, .int .i64 5, .int .i64 7]] := H
                  refine stA gok [(.int .i64 y177_0_0), (.int .i64 y177_0_1), (.int .i64 y177_0_2), (h180).v, (h182).v, (h184).v, (h186).v] rfl H rfl rfl rfl ?_; clear H; intro w191 H
                  replace H : Cx w0 fp0 S0 w191 [Bx b189 [(.int .i64 y177_0_0), (.int .i64 y177_0_1), (.int .i64 y177_0_2), (h180).v, (h182).v, (h184).v, (h186).v], E (List (List Int)) y177_0_3 h180, E (List (List Int)) y177_0_4 h182, E (List (List Int)) y177_0_5 h184, E (List (List Int)) y177_0_6 h186, E (List (List Int)) y166_3 h169, E (List (List Int)) y166_4 h171, E (List (List Int)) y166_5 h173, E (List (List Int)) y166_6 h175, E (List (List Int)) y154_0_3 h59, E (List (List Int)) y154_0_4 h61, E (List (List Int)) y154_0_5 h63, E (List (List Int)) y154_0_6 h65, Bx b7 [(.int .i64 aS__0), (.int .i64 aS__1), (.int .i64 aS__2), (aS__3h).v, (aS__4h).v, (aS__5h).v, (aS__6h).v], Es (List (List Int)) aS__3 aS__3h, Es (List (List Int)) aS__4 aS__4h, Es (List (List Int)) aS__5 aS__5h, Es (List (List Int)) aS__6 aS__6h, Bx b38 [(.int .i64 y26_0_0), (.int .i64 y26_0_1), (.int .i64 y26_0_2), (h29).v, (h31).v, (h33).v, (h35).v], E (List (List Int)) y26_0_3 h29, E (List (List Int)) y26_0_4 h31, E (List (List Int)) y26_0_5 h33, E (List (List Int)) y26_0_6 h35, Bx b68 [(.int .i64 y56_0_0), (.int .i64 y56_0_1), (.int .i64 y56_0_2), (h59).v, (h61).v, (h63).v, (h65).v], Gl 0 [.int .i64 2, .int .i64 3, .int .i64 5, .int .i64 7]] := H
                  refine sq ?_
                  obtain ⟨r203, hF205, hF204⟩ := bindS hF178; clear hF178
                  refine cut (fun (q206 : Bool) => [(9, (.pointer (some ⟨b68, 0, none⟩))), (12, (.int .i64 y154_1)), (92, (.bool q206))]) (fun (q206 : Bool) w' => q206 = r203 ∧ Cx w0 fp0 S0 w' [Bx b68 [(.int .i64 y56_0_0), (.int .i64 y56_0_1), (.int .i64 y56_0_2), (h59).v, (h61).v, (h63).v, (h65).v], E (List (List Int)) y154_0_3 h59, E (List (List Int)) y154_0_4 h61, E (List (List Int)) y154_0_5 h63, E (List (List Int)) y154_0_6 h65, Gl 0 [.int .i64 2, .int .i64 3, .int .i64 5, .int .i64 7]]) ?_ ?_
                  · skip
                    refine loadN [(.int .i64 y177_0_0), (.int .i64 y177_0_1), (.int .i64 y177_0_2), (h180).v, (h182).v, (h184).v, (h186).v] rfl (fun j u hj => H.bx 0 rfl hj) ?_
                    refine loadN [(.int .i64 y26_0_0), (.int .i64 y26_0_1), (.int .i64 y26_0_2), (h29).v, (h31).v, (h33).v, (h35).v] rfl (fun j u hj => H.bx 18 rfl hj) ?_
                    obtain ⟨y207, e, hF208⟩ := bindS hF205; clear hF205
                    have ey207 := e; clear e
                    refine callF (laws_eqStateSpace_c y177_0_0 y177_0_1 y177_0_2 y177_0_3 h180 y177_0_4 h182 y177_0_5 h184 y177_0_6 h186 y26_0_0 y26_0_1 y26_0_2 y26_0_3 h29 y26_0_4 h31 y26_0_5 h33 y26_0_6 h35 y207 ey207) (Γi := []) H ⟨Vw.own 1 rfl, Vw.own 2 rfl, Vw.own 3 rfl, Vw.own 4 rfl, Vw.own 19 rfl, Vw.own 20 rfl, Vw.own 21 rfl, Vw.own 22 rfl, trivial⟩ ?_; clear H ey207
                    rintro _ _ w209 ⟨rfl, rfl⟩ (H : Cx w0 fp0 S0 w209 [Bx b189 [(.int .i64 y177_0_0), (.int .i64 y177_0_1), (.int .i64 y177_0_2), (h180).v, (h182).v, (h184).v, (h186).v], E (List (List Int)) y177_0_3 h180, E (List (List Int)) y177_0_4 h182, E (List (List Int)) y177_0_5 h184, E (List (List Int)) y177_0_6 h186, E (List (List Int)) y166_3 h169, E (List (List Int)) y166_4 h171, E (List (List Int)) y166_5 h173, E (List (List Int)) y166_6 h175, E (List (List Int)) y154_0_3 h59, E (List (List Int)) y154_0_4 h61, E (List (List Int)) y154_0_5 h63, E (List (List Int)) y154_0_6 h65, Bx b7 [(.int .i64 aS__0), (.int .i64 aS__1), (.int .i64 aS__2), (aS__3h).v, (aS__4h).v, (aS__5h).v, (aS__6h).v], Es (List (List Int)) aS__3 aS__3h, Es (List (List Int)) aS__4 aS__4h, Es (List (List Int)) aS__5 aS__5h, Es (List (List Int)) aS__6 aS__6h, Bx b38 [(.int .i64 y26_0_0), (.int .i64 y26_0_1), (.int .i64 y26_0_2), (h29).v, (h31).v, (h33).v, (h35).v], E (List (List Int)) y26_0_3 h29, E (List (List Int)) y26_0_4 h31, E (List (List Int)) y26_0_5 h33, E (List (List Int)) y26_0_6 h35, Bx b68 [(.int .i64 y56_0_0), (.int .i64 y56_0_1), (.int .i64 y56_0_2), (h59).v, (h61).v, (h63).v, (h65).v], Gl 0 [.int .i64 2, .int .i64 3, .int .i64 5, .int .i64 7]])
                    obtain ⟨a210, e, hF211⟩ := bindS hF208; clear hF208
                    refine boolO e ?_; clear e
                    cases a210
                    · have hF212 := condF hF211; clear hF211
                      obtain ⟨a213, e, hF214⟩ := bindS hF212; clear hF212
                      refine boolO e ?_; clear e
                      exact ⟨a213, ⟨rfl, rfl, rfl, trivial⟩, Option.some.inj hF214, H.sel [23, 9, 10, 11, 12, 24] rfl⟩
                    · have hF215 := condT hF211; clear hF211
                      exact ⟨true, ⟨rfl, rfl, rfl, trivial⟩, Option.some.inj hF215, H.sel [23, 9, 10, 11, 12, 24] rfl⟩
                  · clear hF205 H
                    rintro T217 s201 w216 ⟨hr, (H : Cx w0 fp0 S0 w216 [Bx b68 [(.int .i64 y56_0_0), (.int .i64 y56_0_1), (.int .i64 y56_0_2), (h59).v, (h61).v, (h63).v, (h65).v], E (List (List Int)) y154_0_3 h59, E (List (List Int)) y154_0_4 h61, E (List (List Int)) y154_0_5 h63, E (List (List Int)) y154_0_6 h65, Gl 0 [.int .i64 2, .int .i64 3, .int .i64 5, .int .i64 7]])⟩
                    subst hr
                    cases s201
                    · have hF218 := condF hF204; clear hF204
                      refine loadN [(.int .i64 y56_0_0), (.int .i64 y56_0_1), (.int .i64 y56_0_2), (h59).v, (h61).v, (h63).v, (h65).v] rfl (fun j u hj => H.bx 0 rfl hj) ?_
                      obtain ⟨y219, e, hF220⟩ := bindS hF218; clear hF218
                      have ey219 := e; clear e
                      refine callF (laws_heldStateSpace_c y56_0_0 y56_0_1 y56_0_2 y154_0_3 h59 y154_0_4 h61 y154_0_5 h63 y154_0_6 h65 1 y219 ey219) (Γi := []) H ⟨Vw.own 1 rfl, Vw.own 2 rfl, Vw.own 3 rfl, Vw.own 4 rfl, trivial⟩ ?_; clear H ey219
                      rintro _ _ w221 ⟨rfl, rfl⟩ (H : Cx w0 fp0 S0 w221 [Bx b68 [(.int .i64 y56_0_0), (.int .i64 y56_0_1), (.int .i64 y56_0_2), (h59).v, (h61).v, (h63).v, (h65).v], E (List (List Int)) y154_0_3 h59, E (List (List Int)) y154_0_4 h61, E (List (List Int)) y154_0_5 h63, E (List (List Int)) y154_0_6 h65, Gl 0 [.int .i64 2, .int .i64 3, .int .i64 5, .int .i64 7]])
                      refine sq ?_
                      obtain ⟨a222, e, hF223⟩ := bindS hF220; clear hF220
                      refine boolO e ?_; clear e
                      cases a222
                      · have hF224 := condF hF223; clear hF223
                        refine sq ?_
                        obtain ⟨a225, e, hF226⟩ := bindS hF224; clear hF224
                        refine boolO e ?_; clear e
                        cases a225
                        · have hF227 := condF hF226; clear hF226
                          cases hF227
                          exact ⟨_, _, rfl, ⟨rfl, rfl⟩, (H.sel [] rfl).close trivial⟩
                        · have hF228 := condT hF226; clear hF226
                          cases hF228
                          exact ⟨_, _, rfl, ⟨rfl, rfl⟩, (H.sel [] rfl).close trivial⟩
                      · have hF229 := condT hF223; clear hF223
                        cases hF229
                        exact ⟨_, _, rfl, ⟨rfl, rfl⟩, (H.sel [] rfl).close trivial⟩
                    · have hF230 := condT hF204; clear hF204
                      cases hF230
                      exact ⟨_, _, rfl, ⟨rfl, rfl⟩, (H.sel [] rfl).close trivial⟩
                · have hF231 := condT hF164; clear hF164
                  cases hF231
                  exact ⟨_, _, rfl, ⟨rfl, rfl⟩, (H.sel [] rfl).close trivial⟩
              · have hF232 := condT hF161; clear hF161
                cases hF232
                exact ⟨_, _, rfl, ⟨rfl, rfl⟩, (H.sel [] rfl).close trivial⟩
            · have hF233 := condT hF135; clear hF135
              cases hF233
              exact ⟨_, _, rfl, ⟨rfl, rfl⟩, (H.sel [] rfl).close trivial⟩
        · have hF234 := condT hF114; clear hF114
          cases hF234
          exact ⟨_, _, rfl, ⟨rfl, rfl⟩, (H.sel [] rfl).close trivial⟩
      · have hF235 := condT hF83; clear hF83
        cases hF235
        exact ⟨_, _, rfl, ⟨rfl, rfl⟩, (H.sel [] rfl).close trivial⟩
  · have hF236 := condT hF13; clear hF13
    cases hF236
    exact ⟨_, _, rfl, ⟨rfl, rfl⟩, (H.sel [] rfl).close trivial⟩
end Go.Proofs.YteikcdofblclhaaDoor
