/-
  Contracts, printed by a program (wip/y/gen.py): each function of Go computes its partial function. Condition of each: its partial function yields a value.
-/
import Derived.Test.YteikcdofblclhaaDoorZCall
namespace Go.Proofs.YteikcdofblclhaaDoor
open Go Go.Proofs.YteikcdofblclhaaDoor.RW
set_option maxRecDepth 100000
set_option linter.unusedVariables false

theorem laws_FnExactReachableSpace_c (aP_ : Int) (aS__0 : Int) (aS__1 : Int) (aS__2 : Int) (aS__3 : List (List Int)) (aS__3h : Hd) (aS__4 : List (List Int)) (aS__4h : Hd) (aS__5 : List (List Int)) (aS__5h : Hd) (aS__6 : List (List Int)) (aS__6h : Hd) (y : Bool) (hF : F_laws_FnExactReachableSpace aP_ (aS__0, aS__1, aS__2, aS__3, aS__4, aS__5, aS__6) = some y) :
    ConF Tryd.prog 4 #[(.int .i64 aP_), (.agg #[(.int .i64 aS__0), (.int .i64 aS__1), (.int .i64 aS__2), (aS__3h).v, (aS__4h).v, (aS__5h).v, (aS__6h).v])] [Es (List (List Int)) aS__3 aS__3h, Es (List (List Int)) aS__4 aS__4h, Es (List (List Int)) aS__5 aS__5h, Es (List (List Int)) aS__6 aS__6h, Gl 0 [.int .i64 2, .int .i64 3, .int .i64 5, .int .i64 7]] [] (fun v Γ' => v = (.bool y) ∧ Γ' = []) := by
  intro w0 S0 fp0 hI hS
  have H : Cx w0 fp0 S0 w0 [Es (List (List Int)) aS__3 aS__3h, Es (List (List Int)) aS__4 aS__4h, Es (List (List Int)) aS__5 aS__5h, Es (List (List Int)) aS__6 aS__6h, Gl 0 [.int .i64 2, .int .i64 3, .int .i64 5, .int .i64 7]] := Cx.start hI hS
  clear hI hS
  refine enterC (args := [_, _]) gok Tryd.func4 rfl _ rfl rfl rfl ?_
  refine box_ H ?_; clear H; intro b7 w6 hx H
  clear hx
  replace H : Cx w0 fp0 S0 w6 [Bx b7 [(.int .i64 aS__0), (.int .i64 aS__1), (.int .i64 aS__2), (aS__3h).v, (aS__4h).v, (aS__5h).v, (aS__6h).v], Es (List (List Int)) aS__3 aS__3h, Es (List (List Int)) aS__4 aS__4h, Es (List (List Int)) aS__5 aS__5h, Es (List (List Int)) aS__6 aS__6h, Gl 0 [.int .i64 2, .int .i64 3, .int .i64 5, .int .i64 7]] := H
  refine loadN [(.int .i64 aS__0), (.int .i64 aS__1), (.int .i64 aS__2), (aS__3h).v, (aS__4h).v, (aS__5h).v, (aS__6h).v] rfl (fun j u hj => H.bx 0 rfl hj) ?_
  obtain ⟨y9, e, hF10⟩ := bindS hF; clear hF
  have ey9 := e; clear e
  refine callF (laws_szStateSpace_c aS__0 aS__1 aS__2 aS__3 aS__3h aS__4 aS__4h aS__5 aS__5h aS__6 aS__6h 1048576 y9 ey9) (Γi := []) H ⟨Vw.sh 1 rfl, Vw.sh 2 rfl, Vw.sh 3 rfl, Vw.sh 4 rfl, trivial⟩ ?_; clear H ey9
  rintro _ _ w11 ⟨rfl, rfl⟩ (H : Cx w0 fp0 S0 w11 [Bx b7 [(.int .i64 aS__0), (.int .i64 aS__1), (.int .i64 aS__2), (aS__3h).v, (aS__4h).v, (aS__5h).v, (aS__6h).v], Es (List (List Int)) aS__3 aS__3h, Es (List (List Int)) aS__4 aS__4h, Es (List (List Int)) aS__5 aS__5h, Es (List (List Int)) aS__6 aS__6h, Gl 0 [.int .i64 2, .int .i64 3, .int .i64 5, .int .i64 7]])
  refine sq ?_
  obtain ⟨a12, e, hF13⟩ := bindS hF10; clear hF10
  refine boolO e ?_; clear e
  cases a12
  · have hF14 := condF hF13; clear hF13
    refine loadN [(.int .i64 aS__0), (.int .i64 aS__1), (.int .i64 aS__2), (aS__3h).v, (aS__4h).v, (aS__5h).v, (aS__6h).v] rfl (fun j u hj => H.bx 0 rfl hj) ?_
    obtain ⟨y15, e, hF16⟩ := bindS hF14; clear hF14
    obtain ⟨y15_0, y15_1, y15_2, y15_3, y15_4, y15_5, y15_6⟩ := y15
    have ey15 := e; clear e
    refine callF (laws_toStateSpace_c aS__0 aS__1 aS__2 aS__3 aS__3h aS__4 aS__4h aS__5 aS__5h aS__6 aS__6h y15_0 y15_1 y15_2 y15_3 y15_4 y15_5 y15_6 ey15) (Γi := []) H ⟨Vw.sh 1 rfl, Vw.sh 2 rfl, Vw.sh 3 rfl, Vw.sh 4 rfl, trivial⟩ ?_; clear H ey15
    rintro _ _ w17 ⟨h18, h20, h22, h24, rfl, rfl⟩ (H : Cx w0 fp0 S0 w17 [E (List (List Int)) y15_3 h18, E (List (List Int)) y15_4 h20, E (List (List Int)) y15_5 h22, E (List (List Int)) y15_6 h24, Bx b7 [(.int .i64 aS__0), (.int .i64 aS__1), (.int .i64 aS__2), (aS__3h).v, (aS__4h).v, (aS__5h).v, (aS__6h).v], Es (List (List Int)) aS__3 aS__3h, Es (List (List Int)) aS__4 aS__4h, Es (List (List Int)) aS__5 aS__5h, Es (List (List Int)) aS__6 aS__6h, Gl 0 [.int .i64 2, .int .i64 3, .int .i64 5, .int .i64 7]])
    obtain ⟨y26, e, hF27⟩ := bindS hF16; clear hF16
    obtain ⟨⟨y26_0_0, y26_0_1⟩, y26_1⟩ := y26
    have ey26 := e; clear e
    refine callF (spec_ReachableSpace_c aP_ y15_0 y15_1 y15_2 y15_3 h18 y15_4 h20 y15_5 h22 y15_6 h24 y26_0_0 y26_0_1 y26_1 ey26) (Γi := []) H ⟨Vw.own 0 rfl, Vw.own 1 rfl, Vw.own 2 rfl, Vw.own 3 rfl, trivial⟩ ?_; clear H ey26
    rintro _ _ w28 ⟨h29, rfl, rfl⟩ (H : Cx w0 fp0 S0 w28 [E (List (List Int)) y26_0_1 h29, E (List (List Int)) y15_3 h18, E (List (List Int)) y15_4 h20, E (List (List Int)) y15_5 h22, E (List (List Int)) y15_6 h24, Bx b7 [(.int .i64 aS__0), (.int .i64 aS__1), (.int .i64 aS__2), (aS__3h).v, (aS__4h).v, (aS__5h).v, (aS__6h).v], Es (List (List Int)) aS__3 aS__3h, Es (List (List Int)) aS__4 aS__4h, Es (List (List Int)) aS__5 aS__5h, Es (List (List Int)) aS__6 aS__6h, Gl 0 [.int .i64 2, .int .i64 3, .int .i64 5, .int .i64 7]])
    refine alloc_ gok rfl H ?_; clear H; intro b32 w31 hx H
    clear hx
    replace H : Cx w0 fp0 S0 w31 [Bx b32 [(.int .i64 0), (.slice none 0 0)], E (List (List Int)) y26_0_1 h29, E (List (List Int)) y15_3 h18, E (List (List Int)) y15_4 h20, E (List (List Int)) y15_5 h22, E (List (List Int)) y15_6 h24, Bx b7 [(.int .i64 aS__0), (.int .i64 aS__1), (.int .i64 aS__2), (aS__3h).v, (aS__4h).v, (aS__5h).v, (aS__6h).v], Es (List (List Int)) aS__3 aS__3h, Es (List (List Int)) aS__4 aS__4h, Es (List (List Int)) aS__5 aS__5h, Es (List (List Int)) aS__6 aS__6h, Gl 0 [.int .i64 2, .int .i64 3, .int .i64 5, .int .i64 7]] := H
    refine stA gok [(.int .i64 y26_0_0), (h29).v] rfl H rfl rfl rfl ?_; clear H; intro w34 H
    replace H : Cx w0 fp0 S0 w34 [Bx b32 [(.int .i64 y26_0_0), (h29).v], E (List (List Int)) y26_0_1 h29, E (List (List Int)) y15_3 h18, E (List (List Int)) y15_4 h20, E (List (List Int)) y15_5 h22, E (List (List Int)) y15_6 h24, Bx b7 [(.int .i64 aS__0), (.int .i64 aS__1), (.int .i64 aS__2), (aS__3h).v, (aS__4h).v, (aS__5h).v, (aS__6h).v], Es (List (List Int)) aS__3 aS__3h, Es (List (List Int)) aS__4 aS__4h, Es (List (List Int)) aS__5 aS__5h, Es (List (List Int)) aS__6 aS__6h, Gl 0 [.int .i64 2, .int .i64 3, .int .i64 5, .int .i64 7]] := H
    refine loadN [(.int .i64 aS__0), (.int .i64 aS__1), (.int .i64 aS__2), (aS__3h).v, (aS__4h).v, (aS__5h).v, (aS__6h).v] rfl (fun j u hj => H.bx 6 rfl hj) ?_
    obtain ⟨y35, e, hF36⟩ := bindS hF27; clear hF27
    obtain ⟨y35_0, y35_1, y35_2, y35_3, y35_4, y35_5, y35_6⟩ := y35
    have ey35 := e; clear e
    refine callF (laws_toStateSpace_c aS__0 aS__1 aS__2 aS__3 aS__3h aS__4 aS__4h aS__5 aS__5h aS__6 aS__6h y35_0 y35_1 y35_2 y35_3 y35_4 y35_5 y35_6 ey35) (Γi := []) H ⟨Vw.sh 7 rfl, Vw.sh 8 rfl, Vw.sh 9 rfl, Vw.sh 10 rfl, trivial⟩ ?_; clear H ey35
    rintro _ _ w37 ⟨h38, h40, h42, h44, rfl, rfl⟩ (H : Cx w0 fp0 S0 w37 [E (List (List Int)) y35_3 h38, E (List (List Int)) y35_4 h40, E (List (List Int)) y35_5 h42, E (List (List Int)) y35_6 h44, Bx b32 [(.int .i64 y26_0_0), (h29).v], E (List (List Int)) y26_0_1 h29, E (List (List Int)) y15_3 h18, E (List (List Int)) y15_4 h20, E (List (List Int)) y15_5 h22, E (List (List Int)) y15_6 h24, Bx b7 [(.int .i64 aS__0), (.int .i64 aS__1), (.int .i64 aS__2), (aS__3h).v, (aS__4h).v, (aS__5h).v, (aS__6h).v], Es (List (List Int)) aS__3 aS__3h, Es (List (List Int)) aS__4 aS__4h, Es (List (List Int)) aS__5 aS__5h, Es (List (List Int)) aS__6 aS__6h, Gl 0 [.int .i64 2, .int .i64 3, .int .i64 5, .int .i64 7]])
    refine alloc_ gok rfl H ?_; clear H; intro b47 w46 hx H
    clear hx
    replace H : Cx w0 fp0 S0 w46 [Bx b47 [(.int .i64 0), (.int .i64 0), (.int .i64 0), (.slice none 0 0), (.slice none 0 0), (.slice none 0 0), (.slice none 0 0)], E (List (List Int)) y35_3 h38, E (List (List Int)) y35_4 h40, E (List (List Int)) y35_5 h42, E (List (List Int)) y35_6 h44, Bx b32 [(.int .i64 y26_0_0), (h29).v], E (List (List Int)) y26_0_1 h29, E (List (List Int)) y15_3 h18, E (List (List Int)) y15_4 h20, E (List (List Int)) y15_5 h22, E (List (List Int)) y15_6 h24, Bx b7 [(.int .i64 aS__0), (.int .i64 aS__1), (.int .i64 aS__2), (aS__3h).v, (aS__4h).v, (aS__5h).v, (aS__6h).v], Es (List (List Int)) aS__3 aS__3h, Es (List (List Int)) aS__4 aS__4h, Es (List (List Int)) aS__5 aS__5h, Es (List (List Int)) aS__6 aS__6h, Gl 0 [.int .i64 2, .int .i64 3, .int .i64 5, .int .i64 7]] := H
    refine stA gok [(.int .i64 y35_0), (.int .i64 y35_1), (.int .i64 y35_2), (h38).v, (h40).v, (h42).v, (h44).v] rfl H rfl rfl rfl ?_; clear H; intro w49 H
    replace H : Cx w0 fp0 S0 w49 [Bx b47 [(.int .i64 y35_0), (.int .i64 y35_1), (.int .i64 y35_2), (h38).v, (h40).v, (h42).v, (h44).v], E (List (List Int)) y35_3 h38, E (List (List Int)) y35_4 h40, E (List (List Int)) y35_5 h42, E (List (List Int)) y35_6 h44, Bx b32 [(.int .i64 y26_0_0), (h29).v], E (List (List Int)) y26_0_1 h29, E (List (List Int)) y15_3 h18, E (List (List Int)) y15_4 h20, E (List (List Int)) y15_5 h22, E (List (List Int)) y15_6 h24, Bx b7 [(.int .i64 aS__0), (.int .i64 aS__1), (.int .i64 aS__2), (aS__3h).v, (aS__4h).v, (aS__5h).v, (aS__6h).v], Es (List (List Int)) aS__3 aS__3h, Es (List (List Int)) aS__4 aS__4h, Es (List (List Int)) aS__5 aS__5h, Es (List (List Int)) aS__6 aS__6h, Gl 0 [.int .i64 2, .int .i64 3, .int .i64 5, .int .i64 7]] := H
    refine loadN [(.int .i64 y35_0), (.int .i64 y35_1), (.int .i64 y35_2), (h38).v, (h40).v, (h42).v, (h44).v] rfl (fun j u hj => H.bx 0 rfl hj) ?_
    obtain ⟨y50, e, hF51⟩ := bindS hF36; clear hF36
    obtain ⟨⟨y50_0_0, y50_0_1⟩, y50_1⟩ := y50
    have ey50 := e; clear e
    refine callF (impl_ReachableSpace_c aP_ y35_0 y35_1 y35_2 y35_3 h38 y35_4 h40 y35_5 h42 y35_6 h44 y50_0_0 y50_0_1 y50_1 ey50) (Γi := []) H ⟨Vw.own 1 rfl, Vw.own 2 rfl, Vw.own 3 rfl, Vw.own 4 rfl, Vw.gl 16 rfl, trivial⟩ ?_; clear H ey50
    rintro _ _ w52 ⟨h53, rfl, rfl⟩ (H : Cx w0 fp0 S0 w52 [E (List (List Int)) y50_0_1 h53, Bx b47 [(.int .i64 y35_0), (.int .i64 y35_1), (.int .i64 y35_2), (h38).v, (h40).v, (h42).v, (h44).v], E (List (List Int)) y35_3 h38, E (List (List Int)) y35_4 h40, E (List (List Int)) y35_5 h42, E (List (List Int)) y35_6 h44, Bx b32 [(.int .i64 y26_0_0), (h29).v], E (List (List Int)) y26_0_1 h29, E (List (List Int)) y15_3 h18, E (List (List Int)) y15_4 h20, E (List (List Int)) y15_5 h22, E (List (List Int)) y15_6 h24, Bx b7 [(.int .i64 aS__0), (.int .i64 aS__1), (.int .i64 aS__2), (aS__3h).v, (aS__4h).v, (aS__5h).v, (aS__6h).v], Es (List (List Int)) aS__3 aS__3h, Es (List (List Int)) aS__4 aS__4h, Es (List (List Int)) aS__5 aS__5h, Es (List (List Int)) aS__6 aS__6h, Gl 0 [.int .i64 2, .int .i64 3, .int .i64 5, .int .i64 7]])
    refine alloc_ gok rfl H ?_; clear H; intro b56 w55 hx H
    clear hx
    replace H : Cx w0 fp0 S0 w55 [Bx b56 [(.int .i64 0), (.slice none 0 0)], E (List (List Int)) y50_0_1 h53, Bx b47 [(.int .i64 y35_0), (.int .i64 y35_1), (.int .i64 y35_2), (h38).v, (h40).v, (h42).v, (h44).v], E (List (List Int)) y35_3 h38, E (List (List Int)) y35_4 h40, E (List (List Int)) y35_5 h42, E (List (List Int)) y35_6 h44, Bx b32 [(.int .i64 y26_0_0), (h29).v], E (List (List Int)) y26_0_1 h29, E (List (List Int)) y15_3 h18, E (List (List Int)) y15_4 h20, E (List (List Int)) y15_5 h22, E (List (List Int)) y15_6 h24, Bx b7 [(.int .i64 aS__0), (.int .i64 aS__1), (.int .i64 aS__2), (aS__3h).v, (aS__4h).v, (aS__5h).v, (aS__6h).v], Es (List (List Int)) aS__3 aS__3h, Es (List (List Int)) aS__4 aS__4h, Es (List (List Int)) aS__5 aS__5h, Es (List (List Int)) aS__6 aS__6h, Gl 0 [.int .i64 2, .int .i64 3, .int .i64 5, .int .i64 7]] := H
    refine stA gok [(.int .i64 y50_0_0), (h53).v] rfl H rfl rfl rfl ?_; clear H; intro w58 H
    replace H : Cx w0 fp0 S0 w58 [Bx b56 [(.int .i64 y50_0_0), (h53).v], E (List (List Int)) y50_0_1 h53, Bx b47 [(.int .i64 y35_0), (.int .i64 y35_1), (.int .i64 y35_2), (h38).v, (h40).v, (h42).v, (h44).v], E (List (List Int)) y35_3 h38, E (List (List Int)) y35_4 h40, E (List (List Int)) y35_5 h42, E (List (List Int)) y35_6 h44, Bx b32 [(.int .i64 y26_0_0), (h29).v], E (List (List Int)) y26_0_1 h29, E (List (List Int)) y15_3 h18, E (List (List Int)) y15_4 h20, E (List (List Int)) y15_5 h22, E (List (List Int)) y15_6 h24, Bx b7 [(.int .i64 aS__0), (.int .i64 aS__1), (.int .i64 aS__2), (aS__3h).v, (aS__4h).v, (aS__5h).v, (aS__6h).v], Es (List (List Int)) aS__3 aS__3h, Es (List (List Int)) aS__4 aS__4h, Es (List (List Int)) aS__5 aS__5h, Es (List (List Int)) aS__6 aS__6h, Gl 0 [.int .i64 2, .int .i64 3, .int .i64 5, .int .i64 7]] := H
    refine sq ?_
    obtain ⟨r70, hF72, hF71⟩ := bindS hF51; clear hF51
    refine cut (fun (q73 : Bool) => [(0, (.int .i64 aP_)), (3, (.pointer (some ⟨b7, 0, none⟩))), (6, (.pointer (some ⟨b32, 0, none⟩))), (7, (.bool y26_1)), (8, (.pointer (some ⟨b47, 0, none⟩))), (9, (.pointer (some ⟨b56, 0, none⟩))), (10, (.bool y50_1)), (44, (.bool q73))]) (fun (q73 : Bool) w' => q73 = r70 ∧ Cx w0 fp0 S0 w' [Bx b7 [(.int .i64 aS__0), (.int .i64 aS__1), (.int .i64 aS__2), (aS__3h).v, (aS__4h).v, (aS__5h).v, (aS__6h).v], Es (List (List Int)) aS__3 aS__3h, Es (List (List Int)) aS__4 aS__4h, Es (List (List Int)) aS__5 aS__5h, Es (List (List Int)) aS__6 aS__6h, Bx b32 [(.int .i64 y26_0_0), (h29).v], E (List (List Int)) y26_0_1 h29, Bx b47 [(.int .i64 y35_0), (.int .i64 y35_1), (.int .i64 y35_2), (h38).v, (h40).v, (h42).v, (h44).v], E (List (List Int)) y35_3 h38, E (List (List Int)) y35_4 h40, E (List (List Int)) y35_5 h42, E (List (List Int)) y35_6 h44, Bx b56 [(.int .i64 y50_0_0), (h53).v], E (List (List Int)) y50_0_1 h53, Gl 0 [.int .i64 2, .int .i64 3, .int .i64 5, .int .i64 7]]) ?_ ?_
    · skip
      refine loadN [(.int .i64 y50_0_0), (h53).v] rfl (fun j u hj => H.bx 0 rfl hj) ?_
      refine loadN [(.int .i64 y26_0_0), (h29).v] rfl (fun j u hj => H.bx 7 rfl hj) ?_
      obtain ⟨y74, e, hF75⟩ := bindS hF72; clear hF72
      have ey74 := e; clear e
      refine callF (laws_eqSpace_c y50_0_0 y50_0_1 h53 y26_0_0 y26_0_1 h29 y74 ey74) (Γi := []) H ⟨Vw.own 1 rfl, Vw.own 8 rfl, trivial⟩ ?_; clear H ey74
      rintro _ _ w76 ⟨rfl, rfl⟩ (H : Cx w0 fp0 S0 w76 [Bx b56 [(.int .i64 y50_0_0), (h53).v], E (List (List Int)) y50_0_1 h53, Bx b47 [(.int .i64 y35_0), (.int .i64 y35_1), (.int .i64 y35_2), (h38).v, (h40).v, (h42).v, (h44).v], E (List (List Int)) y35_3 h38, E (List (List Int)) y35_4 h40, E (List (List Int)) y35_5 h42, E (List (List Int)) y35_6 h44, Bx b32 [(.int .i64 y26_0_0), (h29).v], E (List (List Int)) y26_0_1 h29, E (List (List Int)) y15_3 h18, E (List (List Int)) y15_4 h20, E (List (List Int)) y15_5 h22, E (List (List Int)) y15_6 h24, Bx b7 [(.int .i64 aS__0), (.int .i64 aS__1), (.int .i64 aS__2), (aS__3h).v, (aS__4h).v, (aS__5h).v, (aS__6h).v], Es (List (List Int)) aS__3 aS__3h, Es (List (List Int)) aS__4 aS__4h, Es (List (List Int)) aS__5 aS__5h, Es (List (List Int)) aS__6 aS__6h, Gl 0 [.int .i64 2, .int .i64 3, .int .i64 5, .int .i64 7]])
      obtain ⟨a77, e, hF78⟩ := bindS hF75; clear hF75
      refine boolO e ?_; clear e
      cases a77
      · have hF79 := condF hF78; clear hF78
        obtain ⟨a80, e, hF81⟩ := bindS hF79; clear hF79
        refine boolO e ?_; clear e
        exact ⟨a80, ⟨rfl, rfl, rfl, rfl, rfl, rfl, rfl, rfl, trivial⟩, Option.some.inj hF81, H.sel [13, 14, 15, 16, 17, 7, 8, 2, 3, 4, 5, 6, 0, 1, 18] rfl⟩
      · have hF82 := condT hF78; clear hF78
        exact ⟨true, ⟨rfl, rfl, rfl, rfl, rfl, rfl, rfl, rfl, trivial⟩, Option.some.inj hF82, H.sel [13, 14, 15, 16, 17, 7, 8, 2, 3, 4, 5, 6, 0, 1, 18] rfl⟩
    · clear hF72 H
      rintro T84 s68 w83 ⟨hr, (H : Cx w0 fp0 S0 w83 [Bx b7 [(.int .i64 aS__0), (.int .i64 aS__1), (.int .i64 aS__2), (aS__3h).v, (aS__4h).v, (aS__5h).v, (aS__6h).v], Es (List (List Int)) aS__3 aS__3h, Es (List (List Int)) aS__4 aS__4h, Es (List (List Int)) aS__5 aS__5h, Es (List (List Int)) aS__6 aS__6h, Bx b32 [(.int .i64 y26_0_0), (h29).v], E (List (List Int)) y26_0_1 h29, Bx b47 [(.int .i64 y35_0), (.int .i64 y35_1), (.int .i64 y35_2), (h38).v, (h40).v, (h42).v, (h44).v], E (List (List Int)) y35_3 h38, E (List (List Int)) y35_4 h40, E (List (List Int)) y35_5 h42, E (List (List Int)) y35_6 h44, Bx b56 [(.int .i64 y50_0_0), (h53).v], E (List (List Int)) y50_0_1 h53, Gl 0 [.int .i64 2, .int .i64 3, .int .i64 5, .int .i64 7]])⟩
      subst hr
      cases s68
      · have hF85 := condF hF71; clear hF71
        refine sq ?_
        refine heldX H [] (.fst 0 (.fst 1 (.act 2 (.act 3 (.fst 4 .done))))) mixed [] trivial (by kernel_rfl) ?_
        clear H; intro w86 H
        have hX : Ext w86 w86 := Upd.refl _ _
        have H0 := H
        refine loadNX [(.int .i64 y35_0), (.int .i64 y35_1), (.int .i64 y35_2), (h38).v, (h40).v, (h42).v, (h44).v] rfl (fun j u hj => H.bx 7 rfl hj) ?_
        refine loadNX [(.int .i64 aS__0), (.int .i64 aS__1), (.int .i64 aS__2), (aS__3h).v, (aS__4h).v, (aS__5h).v, (aS__6h).v] rfl (fun j u hj => H.bx 0 rfl hj) ?_
        obtain ⟨y87, e, hF88⟩ := bindS hF85; clear hF85
        obtain ⟨y87_0, y87_1, y87_2, y87_3, y87_4, y87_5, y87_6⟩ := y87
        have ey87 := e; clear e
        refine callFx (laws_toStateSpace_c aS__0 aS__1 aS__2 aS__3 aS__3h aS__4 aS__4h aS__5 aS__5h aS__6 aS__6h y87_0 y87_1 y87_2 y87_3 y87_4 y87_5 y87_6 ey87) H ⟨Vw.sh 1 rfl, Vw.sh 2 rfl, Vw.sh 3 rfl, Vw.sh 4 rfl, trivial⟩ ?_; clear H ey87
        rintro _ _ w89 ⟨h90, h92, h94, h96, rfl, rfl⟩ hx (H : Cx w0 fp0 S0 w89 [E (List (List Int)) y87_3 h90, E (List (List Int)) y87_4 h92, E (List (List Int)) y87_5 h94, E (List (List Int)) y87_6 h96, Bx b7 [(.int .i64 aS__0), (.int .i64 aS__1), (.int .i64 aS__2), (aS__3h).v, (aS__4h).v, (aS__5h).v, (aS__6h).v], Es (List (List Int)) aS__3 aS__3h, Es (List (List Int)) aS__4 aS__4h, Es (List (List Int)) aS__5 aS__5h, Es (List (List Int)) aS__6 aS__6h, Bx b32 [(.int .i64 y26_0_0), (h29).v], E (List (List Int)) y26_0_1 h29, Bx b47 [(.int .i64 y35_0), (.int .i64 y35_1), (.int .i64 y35_2), (h38).v, (h40).v, (h42).v, (h44).v], E (List (List Int)) y35_3 h38, E (List (List Int)) y35_4 h40, E (List (List Int)) y35_5 h42, E (List (List Int)) y35_6 h44, Bx b56 [(.int .i64 y50_0_0), (h53).v], E (List (List Int)) y50_0_1 h53, Gl 0 [.int .i64 2, .int .i64 3, .int .i64 5, .int .i64 7]])
        replace hX := hX.trans0 hx; clear hx
        refine hold hX ?_
        obtain ⟨y98, e, hF99⟩ := bindS hF88; clear hF88
        have ey98 := e; clear e
        refine callFx (laws_eqStateSpace_c y35_0 y35_1 y35_2 y35_3 h38 y35_4 h40 y35_5 h42 y35_6 h44 y87_0 y87_1 y87_2 y87_3 h90 y87_4 h92 y87_5 h94 y87_6 h96 y98 ey98) H ⟨Vw.own 12 rfl, Vw.own 13 rfl, Vw.own 14 rfl, Vw.own 15 rfl, Vw.own 0 rfl, Vw.own 1 rfl, Vw.own 2 rfl, Vw.own 3 rfl, trivial⟩ ?_; clear H ey98
        rintro _ _ w100 ⟨rfl, rfl⟩ hx (H : Cx w0 fp0 S0 w100 [E (List (List Int)) y87_3 h90, E (List (List Int)) y87_4 h92, E (List (List Int)) y87_5 h94, E (List (List Int)) y87_6 h96, Bx b7 [(.int .i64 aS__0), (.int .i64 aS__1), (.int .i64 aS__2), (aS__3h).v, (aS__4h).v, (aS__5h).v, (aS__6h).v], Es (List (List Int)) aS__3 aS__3h, Es (List (List Int)) aS__4 aS__4h, Es (List (List Int)) aS__5 aS__5h, Es (List (List Int)) aS__6 aS__6h, Bx b32 [(.int .i64 y26_0_0), (h29).v], E (List (List Int)) y26_0_1 h29, Bx b47 [(.int .i64 y35_0), (.int .i64 y35_1), (.int .i64 y35_2), (h38).v, (h40).v, (h42).v, (h44).v], E (List (List Int)) y35_3 h38, E (List (List Int)) y35_4 h40, E (List (List Int)) y35_5 h42, E (List (List Int)) y35_6 h44, Bx b56 [(.int .i64 y50_0_0), (h53).v], E (List (List Int)) y50_0_1 h53, Gl 0 [.int .i64 2, .int .i64 3, .int .i64 5, .int .i64 7]])
        replace hX := hX.trans0 hx; clear hx
        refine hold hX ?_
        obtain ⟨a101, e, hF102⟩ := bindS hF99; clear hF99
        refine boolO e ?_; clear e
        cases a101
        · have hF103 := condF hF102; clear hF102
          refine loadN [(.int .i64 y35_0), (.int .i64 y35_1), (.int .i64 y35_2), (h38).v, (h40).v, (h42).v, (h44).v] rfl (fun j u hj => H.bx 11 rfl hj) ?_
          obtain ⟨y104, e, hF105⟩ := bindS hF103; clear hF103
          obtain ⟨⟨y104_0_0, y104_0_1, y104_0_2, y104_0_3, y104_0_4, y104_0_5, y104_0_6⟩, y104_1⟩ := y104
          have ey104 := e; clear e
          replace H := H.sel [12, 13, 14, 15, 0, 1, 2, 3, 4, 5, 6, 7, 8, 9, 10, 11, 16, 17, 18] rfl
          refine callF (laws_markStateSpace_c y35_0 y35_1 y35_2 y35_3 h38 y35_4 h40 y35_5 h42 y35_6 h44 1 y104_0_0 y104_0_1 y104_0_2 y104_0_3 y104_0_4 y104_0_5 y104_0_6 y104_1 ey104) (Γi := [E (List (List Int)) y35_3 h38, E (List (List Int)) y35_4 h40, E (List (List Int)) y35_5 h42, E (List (List Int)) y35_6 h44]) H trivial ?_; clear H ey104
          rintro _ _ w106 ⟨rfl, rfl⟩ (H : Cx w0 fp0 S0 w106 [E (List (List Int)) y104_0_3 h38, E (List (List Int)) y104_0_4 h40, E (List (List Int)) y104_0_5 h42, E (List (List Int)) y104_0_6 h44, E (List (List Int)) y87_3 h90, E (List (List Int)) y87_4 h92, E (List (List Int)) y87_5 h94, E (List (List Int)) y87_6 h96, Bx b7 [(.int .i64 aS__0), (.int .i64 aS__1), (.int .i64 aS__2), (aS__3h).v, (aS__4h).v, (aS__5h).v, (aS__6h).v], Es (List (List Int)) aS__3 aS__3h, Es (List (List Int)) aS__4 aS__4h, Es (List (List Int)) aS__5 aS__5h, Es (List (List Int)) aS__6 aS__6h, Bx b32 [(.int .i64 y26_0_0), (h29).v], E (List (List Int)) y26_0_1 h29, Bx b47 [(.int .i64 y35_0), (.int .i64 y35_1), (.int .i64 y35_2), (h38).v, (h40).v, (h42).v, (h44).v], Bx b56 [(.int .i64 y50_0_0), (h53).v], E (List (List Int)) y50_0_1 h53, Gl 0 [.int .i64 2, .int .i64 3, .int .i64 5, .int .i64 7]])
          refine sq ?_
          obtain ⟨r122, hF124, hF123⟩ := bindS hF105; clear hF105
          refine cut (fun (q125 : Bool) => [(0, (.int .i64 aP_)), (3, (.pointer (some ⟨b7, 0, none⟩))), (6, (.pointer (some ⟨b32, 0, none⟩))), (7, (.bool y26_1)), (9, (.pointer (some ⟨b56, 0, none⟩))), (65, (.bool q125))]) (fun (q125 : Bool) w' => q125 = r122 ∧ Cx w0 fp0 S0 w' [Bx b7 [(.int .i64 aS__0), (.int .i64 aS__1), (.int .i64 aS__2), (aS__3h).v, (aS__4h).v, (aS__5h).v, (aS__6h).v], Es (List (List Int)) aS__3 aS__3h, Es (List (List Int)) aS__4 aS__4h, Es (List (List Int)) aS__5 aS__5h, Es (List (List Int)) aS__6 aS__6h, Bx b32 [(.int .i64 y26_0_0), (h29).v], E (List (List Int)) y26_0_1 h29, Bx b56 [(.int .i64 y50_0_0), (h53).v], E (List (List Int)) y50_0_1 h53, Gl 0 [.int .i64 2, .int .i64 3, .int .i64 5, .int .i64 7]]) ?_ ?_
          · skip
            obtain ⟨a126, e, hF127⟩ := bindS hF124; clear hF124
            refine boolO e ?_; clear e
            cases a126
            · have hF128 := condF hF127; clear hF127
              refine loadN [(.int .i64 y50_0_0), (h53).v] rfl (fun j u hj => H.bx 16 rfl hj) ?_
              refine loadN [(.int .i64 y26_0_0), (h29).v] rfl (fun j u hj => H.bx 13 rfl hj) ?_
              obtain ⟨y129, e, hF130⟩ := bindS hF128; clear hF128
              have ey129 := e; clear e
              refine callF (laws_eqSpace_c y50_0_0 y50_0_1 h53 y26_0_0 y26_0_1 h29 y129 ey129) (Γi := []) H ⟨Vw.own 17 rfl, Vw.own 14 rfl, trivial⟩ ?_; clear H ey129
              rintro _ _ w131 ⟨rfl, rfl⟩ (H : Cx w0 fp0 S0 w131 [E (List (List Int)) y104_0_3 h38, E (List (List Int)) y104_0_4 h40, E (List (List Int)) y104_0_5 h42, E (List (List Int)) y104_0_6 h44, E (List (List Int)) y87_3 h90, E (List (List Int)) y87_4 h92, E (List (List Int)) y87_5 h94, E (List (List Int)) y87_6 h96, Bx b7 [(.int .i64 aS__0), (.int .i64 aS__1), (.int .i64 aS__2), (aS__3h).v, (aS__4h).v, (aS__5h).v, (aS__6h).v], Es (List (List Int)) aS__3 aS__3h, Es (List (List Int)) aS__4 aS__4h, Es (List (List Int)) aS__5 aS__5h, Es (List (List Int)) aS__6 aS__6h, Bx b32 [(.int .i64 y26_0_0), (h29).v], E (List (List Int)) y26_0_1 h29, Bx b47 [(.int .i64 y35_0), (.int .i64 y35_1), (.int .i64 y35_2), (h38).v, (h40).v, (h42).v, (h44).v], Bx b56 [(.int .i64 y50_0_0), (h53).v], E (List (List Int)) y50_0_1 h53, Gl 0 [.int .i64 2, .int .i64 3, .int .i64 5, .int .i64 7]])
              obtain ⟨a132, e, hF133⟩ := bindS hF130; clear hF130
              refine boolO e ?_; clear e
              cases a132
              · have hF134 := condF hF133; clear hF133
                obtain ⟨a135, e, hF136⟩ := bindS hF134; clear hF134
                refine boolO e ?_; clear e
                exact ⟨a135, ⟨rfl, rfl, rfl, rfl, rfl, rfl, trivial⟩, Option.some.inj hF136, H.sel [8, 9, 10, 11, 12, 13, 14, 16, 17, 18] rfl⟩
              · have hF137 := condT hF133; clear hF133
                exact ⟨true, ⟨rfl, rfl, rfl, rfl, rfl, rfl, trivial⟩, Option.some.inj hF137, H.sel [8, 9, 10, 11, 12, 13, 14, 16, 17, 18] rfl⟩
            · have hF138 := condT hF127; clear hF127
              exact ⟨true, ⟨rfl, rfl, rfl, rfl, rfl, rfl, trivial⟩, Option.some.inj hF138, H.sel [8, 9, 10, 11, 12, 13, 14, 16, 17, 18] rfl⟩
          · clear hF124 H
            rintro T140 s120 w139 ⟨hr, (H : Cx w0 fp0 S0 w139 [Bx b7 [(.int .i64 aS__0), (.int .i64 aS__1), (.int .i64 aS__2), (aS__3h).v, (aS__4h).v, (aS__5h).v, (aS__6h).v], Es (List (List Int)) aS__3 aS__3h, Es (List (List Int)) aS__4 aS__4h, Es (List (List Int)) aS__5 aS__5h, Es (List (List Int)) aS__6 aS__6h, Bx b32 [(.int .i64 y26_0_0), (h29).v], E (List (List Int)) y26_0_1 h29, Bx b56 [(.int .i64 y50_0_0), (h53).v], E (List (List Int)) y50_0_1 h53, Gl 0 [.int .i64 2, .int .i64 3, .int .i64 5, .int .i64 7]])⟩
            subst hr
            cases s120
            · have hF141 := condF hF123; clear hF123
              refine loadN [(.int .i64 y50_0_0), (h53).v] rfl (fun j u hj => H.bx 7 rfl hj) ?_
              obtain ⟨y142, e, hF143⟩ := bindS hF141; clear hF141
              obtain ⟨⟨y142_0_0, y142_0_1⟩, y142_1⟩ := y142
              have ey142 := e; clear e
              replace H := H.sel [8, 0, 1, 2, 3, 4, 5, 6, 7, 9] rfl
              refine callF (laws_markSpace_c y50_0_0 y50_0_1 h53 1 y142_0_0 y142_0_1 y142_1 ey142) (Γi := [E (List (List Int)) y50_0_1 h53]) H trivial ?_; clear H ey142
              rintro _ _ w144 ⟨rfl, rfl⟩ (H : Cx w0 fp0 S0 w144 [E (List (List Int)) y142_0_1 h53, Bx b7 [(.int .i64 aS__0), (.int .i64 aS__1), (.int .i64 aS__2), (aS__3h).v, (aS__4h).v, (aS__5h).v, (aS__6h).v], Es (List (List Int)) aS__3 aS__3h, Es (List (List Int)) aS__4 aS__4h, Es (List (List Int)) aS__5 aS__5h, Es (List (List Int)) aS__6 aS__6h, Bx b32 [(.int .i64 y26_0_0), (h29).v], E (List (List Int)) y26_0_1 h29, Bx b56 [(.int .i64 y50_0_0), (h53).v], Gl 0 [.int .i64 2, .int .i64 3, .int .i64 5, .int .i64 7]])
              refine loadN [(.int .i64 y50_0_0), (h53).v] rfl (fun j u hj => H.bx 8 rfl hj) ?_
              obtain ⟨y145, e, hF146⟩ := bindS hF143; clear hF143
              have ey145 := e; clear e
              refine callF (laws_heldSpace_c y50_0_0 y142_0_1 h53 1 y145 ey145) (Γi := []) H ⟨Vw.own 0 rfl, trivial⟩ ?_; clear H ey145
              rintro _ _ w147 ⟨rfl, rfl⟩ (H : Cx w0 fp0 S0 w147 [E (List (List Int)) y142_0_1 h53, Bx b7 [(.int .i64 aS__0), (.int .i64 aS__1), (.int .i64 aS__2), (aS__3h).v, (aS__4h).v, (aS__5h).v, (aS__6h).v], Es (List (List Int)) aS__3 aS__3h, Es (List (List Int)) aS__4 aS__4h, Es (List (List Int)) aS__5 aS__5h, Es (List (List Int)) aS__6 aS__6h, Bx b32 [(.int .i64 y26_0_0), (h29).v], E (List (List Int)) y26_0_1 h29, Bx b56 [(.int .i64 y50_0_0), (h53).v], Gl 0 [.int .i64 2, .int .i64 3, .int .i64 5, .int .i64 7]])
              refine sq ?_
              obtain ⟨a148, e, hF149⟩ := bindS hF146; clear hF146
              refine boolO e ?_; clear e
              cases a148
              · have hF150 := condF hF149; clear hF149
                refine sq ?_
                obtain ⟨a151, e, hF152⟩ := bindS hF150; clear hF150
                refine boolO e ?_; clear e
                cases a151
                · have hF153 := condF hF152; clear hF152
                  refine loadN [(.int .i64 aS__0), (.int .i64 aS__1), (.int .i64 aS__2), (aS__3h).v, (aS__4h).v, (aS__5h).v, (aS__6h).v] rfl (fun j u hj => H.bx 1 rfl hj) ?_
                  obtain ⟨y154, e, hF155⟩ := bindS hF153; clear hF153
                  obtain ⟨y154_0, y154_1, y154_2, y154_3, y154_4, y154_5, y154_6⟩ := y154
                  have ey154 := e; clear e
                  refine callF (laws_toStateSpace_c aS__0 aS__1 aS__2 aS__3 aS__3h aS__4 aS__4h aS__5 aS__5h aS__6 aS__6h y154_0 y154_1 y154_2 y154_3 y154_4 y154_5 y154_6 ey154) (Γi := []) H ⟨Vw.sh 2 rfl, Vw.sh 3 rfl, Vw.sh 4 rfl, Vw.sh 5 rfl, trivial⟩ ?_; clear H ey154
                  rintro _ _ w156 ⟨h157, h159, h161, h163, rfl, rfl⟩ (H : Cx w0 fp0 S0 w156 [E (List (List Int)) y154_3 h157, E (List (List Int)) y154_4 h159, E (List (List Int)) y154_5 h161, E (List (List Int)) y154_6 h163, E (List (List Int)) y142_0_1 h53, Bx b7 [(.int .i64 aS__0), (.int .i64 aS__1), (.int .i64 aS__2), (aS__3h).v, (aS__4h).v, (aS__5h).v, (aS__6h).v], Es (List (List Int)) aS__3 aS__3h, Es (List (List Int)) aS__4 aS__4h, Es (List (List Int)) aS__5 aS__5h, Es (List (List Int)) aS__6 aS__6h, Bx b32 [(.int .i64 y26_0_0), (h29).v], E (List (List Int)) y26_0_1 h29, Bx b56 [(.int .i64 y50_0_0), (h53).v], Gl 0 [.int .i64 2, .int .i64 3, .int .i64 5, .int .i64 7]])
                  obtain ⟨y165, e, hF166⟩ := bindS hF155; clear hF155
                  obtain ⟨⟨y165_0_0, y165_0_1⟩, y165_1⟩ := y165
                  have ey165 := e; clear e
                  refine callF (impl_ReachableSpace_c aP_ y154_0 y154_1 y154_2 y154_3 h157 y154_4 h159 y154_5 h161 y154_6 h163 y165_0_0 y165_0_1 y165_1 ey165) (Γi := []) H ⟨Vw.own 0 rfl, Vw.own 1 rfl, Vw.own 2 rfl, Vw.own 3 rfl, Vw.gl 13 rfl, trivial⟩ ?_; clear H ey165
                  rintro _ _ w167 ⟨h168, rfl, rfl⟩ (H : Cx w0 fp0 S0 w167 [E (List (List Int)) y165_0_1 h168, E (List (List Int)) y154_3 h157, E (List (List Int)) y154_4 h159, E (List (List Int)) y154_5 h161, E (List (List Int)) y154_6 h163, E (List (List Int)) y142_0_1 h53, Bx b7 [(.int .i64 aS__0), (.int .i64 aS__1), (.int .i64 aS__2), (aS__3h).v, (aS__4h).v, (aS__5h).v, (aS__6h).v], Es (List (List Int)) aS__3 aS__3h, Es (List (List Int)) aS__4 aS__4h, Es (List (List Int)) aS__5 aS__5h, Es (List (List Int)) aS__6 aS__6h, Bx b32 [(.int .i64 y26_0_0), (h29).v], E (List (List Int)) y26_0_1 h29, Bx b56 [(.int .i64 y50_0_0), (h53).v], Gl 0 [.int .i64 2, .int .i64 3, .int .i64 5, .int .i64 7]])
                  refine alloc_ gok rfl H ?_; clear H; intro b171 w170 hx H
                  clear hx
                  replace H : Cx w0 fp0 S0 w170 [Bx b171 [(.int .i64 0), (.slice none 0 0)], E (List (List Int)) y165_0_1 h168, E (List (List Int)) y154_3 h157, E (List (List Int)) y154_4 h159, E (List (List Int)) y154_5 h161, E (List (List Int)) y154_6 h163, E (List (List Int)) y142_0_1 h53, Bx b7 [(.int .i64 aS__0), (.int .i64 aS__1), (.int .i64 aS__2), (aS__3h).v, (aS__4h).v, (aS__5h).v, (aS__6h).v], Es (List (List Int)) aS__3 aS__3h, Es (List (List Int)) aS__4 aS__4h, Es (List (List Int)) aS__5 aS__5h, Es (List (List Int)) aS__6 aS__6h, Bx b32 [(.int .i64 y26_0_0), (h29).v], E (List (List Int)) y26_0_1 h29, Bx b56 [(.int .i64 y50_0_0), (h53).v], Gl 0 [.int .i64 2, .int .i64 3, .int .i64 5, .int .i64 7]] := H
                  refine stA gok [(.int .i64 y165_0_0), (h168).v] rfl H rfl rfl rfl ?_; clear H; intro w173 H
                  replace H : Cx w0 fp0 S0 w173 [Bx b171 [(.int .i64 y165_0_0), (h168).v], E (List (List Int)) y165_0_1 h168, E (List (List Int)) y154_3 h157, E (List (List Int)) y154_4 h159, E (List (List Int)) y154_5 h161, E (List (List Int)) y154_6 h163, E (List (List Int)) y142_0_1 h53, Bx b7 [(.int .i64 aS__0), (.int .i64 aS__1), (.int .i64 aS__2), (aS__3h).v, (aS__4h).v, (aS__5h).v, (aS__6h).v], Es (List (List Int)) aS__3 aS__3h, Es (List (List Int)) aS__4 aS__4h, Es (List (List Int)) aS__5 aS__5h, Es (List (List Int)) aS__6 aS__6h, Bx b32 [(.int .i64 y26_0_0), (h29).v], E (List (List Int)) y26_0_1 h29, Bx b56 [(.int .i64 y50_0_0), (h53).v], Gl 0 [.int .i64 2, .int .i64 3, .int .i64 5, .int .i64 7]] := H
                  refine sq ?_
                  obtain ⟨r185, hF187, hF186⟩ := bindS hF166; clear hF166
                  refine cut (fun (q188 : Bool) => [(9, (.pointer (some ⟨b56, 0, none⟩))), (12, (.int .i64 y142_1)), (92, (.bool q188))]) (fun (q188 : Bool) w' => q188 = r185 ∧ Cx w0 fp0 S0 w' [Bx b56 [(.int .i64 y50_0_0), (h53).v], E (List (List Int)) y142_0_1 h53, Gl 0 [.int .i64 2, .int .i64 3, .int .i64 5, .int .i64 7]]) ?_ ?_
                  · skip
                    refine loadN [(.int .i64 y165_0_0), (h168).v] rfl (fun j u hj => H.bx 0 rfl hj) ?_
                    refine loadN [(.int .i64 y26_0_0), (h29).v] rfl (fun j u hj => H.bx 12 rfl hj) ?_
                    obtain ⟨y189, e, hF190⟩ := bindS hF187; clear hF187
                    have ey189 := e; clear e
                    refine callF (laws_eqSpace_c y165_0_0 y165_0_1 h168 y26_0_0 y26_0_1 h29 y189 ey189) (Γi := []) H ⟨Vw.own 1 rfl, Vw.own 13 rfl, trivial⟩ ?_; clear H ey189
                    rintro _ _ w191 ⟨rfl, rfl⟩ (H : Cx w0 fp0 S0 w191 [Bx b171 [(.int .i64 y165_0_0), (h168).v], E (List (List Int)) y165_0_1 h168, E (List (List Int)) y154_3 h157, E (List (List Int)) y154_4 h159, E (List (List Int)) y154_5 h161, E (List (List Int)) y154_6 h163, E (List (List Int)) y142_0_1 h53, Bx b7 [(.int .i64 aS__0), (.int .i64 aS__1), (.int .i64 aS__2), (aS__3h).v, (aS__4h).v, (aS__5h).v, (aS__6h).v], Es (List (List Int)) aS__3 aS__3h, Es (List (List Int)) aS__4 aS__4h, Es (List (List Int)) aS__5 aS__5h, Es (List (List Int)) aS__6 aS__6h, Bx b32 [(.int .i64 y26_0_0), (h29).v], E (List (List Int)) y26_0_1 h29, Bx b56 [(.int .i64 y50_0_0), (h53).v], Gl 0 [.int .i64 2, .int .i64 3, .int .i64 5, .int .i64 7]])
                    obtain ⟨a192, e, hF193⟩ := bindS hF190; clear hF190
                    refine boolO e ?_; clear e
                    cases a192
                    · have hF194 := condF hF193; clear hF193
                      obtain ⟨a195, e, hF196⟩ := bindS hF194; clear hF194
                      refine boolO e ?_; clear e
                      exact ⟨a195, ⟨rfl, rfl, rfl, trivial⟩, Option.some.inj hF196, H.sel [14, 6, 15] rfl⟩
                    · have hF197 := condT hF193; clear hF193
                      exact ⟨true, ⟨rfl, rfl, rfl, trivial⟩, Option.some.inj hF197, H.sel [14, 6, 15] rfl⟩
                  · clear hF187 H
                    rintro T199 s183 w198 ⟨hr, (H : Cx w0 fp0 S0 w198 [Bx b56 [(.int .i64 y50_0_0), (h53).v], E (List (List Int)) y142_0_1 h53, Gl 0 [.int .i64 2, .int .i64 3, .int .i64 5, .int .i64 7]])⟩
                    subst hr
                    cases s183
                    · have hF200 := condF hF186; clear hF186
                      refine loadN [(.int .i64 y50_0_0), (h53).v] rfl (fun j u hj => H.bx 0 rfl hj) ?_
                      obtain ⟨y201, e, hF202⟩ := bindS hF200; clear hF200
                      have ey201 := e; clear e
                      refine callF (laws_heldSpace_c y50_0_0 y142_0_1 h53 1 y201 ey201) (Γi := []) H ⟨Vw.own 1 rfl, trivial⟩ ?_; clear H ey201
                      rintro _ _ w203 ⟨rfl, rfl⟩ (H : Cx w0 fp0 S0 w203 [Bx b56 [(.int .i64 y50_0_0), (h53).v], E (List (List Int)) y142_0_1 h53, Gl 0 [.int .i64 2, .int .i64 3, .int .i64 5, .int .i64 7]])
                      refine sq ?_
                      obtain ⟨a204, e, hF205⟩ := bindS hF202; clear hF202
                      refine boolO e ?_; clear e
                      cases a204
                      · have hF206 := condF hF205; clear hF205
                        refine sq ?_
                        obtain ⟨a207, e, hF208⟩ := bindS hF206; clear hF206
                        refine boolO e ?_; clear e
                        cases a207
                        · have hF209 := condF hF208; clear hF208
                          cases hF209
                          exact ⟨_, _, rfl, ⟨rfl, rfl⟩, (H.sel [] rfl).close trivial⟩
                        · have hF210 := condT hF208; clear hF208
                          cases hF210
                          exact ⟨_, _, rfl, ⟨rfl, rfl⟩, (H.sel [] rfl).close trivial⟩
                      · have hF211 := condT hF205; clear hF205
                        cases hF211
                        exact ⟨_, _, rfl, ⟨rfl, rfl⟩, (H.sel [] rfl).close trivial⟩
                    · have hF212 := condT hF186; clear hF186
                      cases hF212
                      exact ⟨_, _, rfl, ⟨rfl, rfl⟩, (H.sel [] rfl).close trivial⟩
                · have hF213 := condT hF152; clear hF152
                  cases hF213
                  exact ⟨_, _, rfl, ⟨rfl, rfl⟩, (H.sel [] rfl).close trivial⟩
              · have hF214 := condT hF149; clear hF149
                cases hF214
                exact ⟨_, _, rfl, ⟨rfl, rfl⟩, (H.sel [] rfl).close trivial⟩
            · have hF215 := condT hF123; clear hF123
              cases hF215
              exact ⟨_, _, rfl, ⟨rfl, rfl⟩, (H.sel [] rfl).close trivial⟩
        · have hF216 := condT hF102; clear hF102
          cases hF216
          exact ⟨_, _, rfl, ⟨rfl, rfl⟩, (H.sel [] rfl).close trivial⟩
      · have hF217 := condT hF71; clear hF71
        cases hF217
        exact ⟨_, _, rfl, ⟨rfl, rfl⟩, (H.sel [] rfl).close trivial⟩
  · have hF218 := condT hF13; clear hF13
    cases hF218
    exact ⟨_, _, rfl, ⟨rfl, rfl⟩, (H.sel [] rfl).close trivial⟩
end Go.Proofs.YteikcdofblclhaaDoor
