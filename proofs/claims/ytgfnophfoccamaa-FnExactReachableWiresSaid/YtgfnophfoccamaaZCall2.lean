/-
  Contracts, printed by a program (wip/y/gen.py): each function of Go computes its partial function. Condition of each: its partial function yields a value.
-/
import Derived.Test.YtgfnophfoccamaaZCall
namespace Go.Proofs.Ytgfnophfoccamaa
open Go Go.Proofs.Ytgfnophfoccamaa.RW
set_option maxRecDepth 100000
set_option linter.unusedVariables false

theorem laws_FnExactReachableWires_c (aG__0 : Int) (aG__1 : List (Int × Int × List Int × List Int)) (aG__1h : Hd) (aG__2 : List Int) (aG__2h : Hd) (aG__3 : List Int) (aG__3h : Hd) (aW_ : Int) (y : Bool) (hF : F_laws_FnExactReachableWires (aG__0, aG__1, aG__2, aG__3) aW_ = some y) :
    ConF Try.prog 4 #[(.agg #[(.int .i64 aG__0), (aG__1h).v, (aG__2h).v, (aG__3h).v]), (.int .i64 aW_)] [Es (List (Int × Int × List Int × List Int)) aG__1 aG__1h, Es (List Int) aG__2 aG__2h, Es (List Int) aG__3 aG__3h] [] (fun v Γ' => v = (.bool y) ∧ Γ' = []) := by
  intro w0 S0 fp0 hI hS
  have H : Cx w0 fp0 S0 w0 [Es (List (Int × Int × List Int × List Int)) aG__1 aG__1h, Es (List Int) aG__2 aG__2h, Es (List Int) aG__3 aG__3h] := Cx.start hI hS
  clear hI hS
  refine enterC (args := [_, _]) gok Try.func4 rfl _ rfl rfl rfl ?_
  refine box_ H ?_; clear H; intro b5 w4 hx H
  clear hx
  replace H : Cx w0 fp0 S0 w4 [Bx b5 [(.int .i64 aG__0), (aG__1h).v, (aG__2h).v, (aG__3h).v], Es (List (Int × Int × List Int × List Int)) aG__1 aG__1h, Es (List Int) aG__2 aG__2h, Es (List Int) aG__3 aG__3h] := H
  refine loadN [(.int .i64 aG__0), (aG__1h).v, (aG__2h).v, (aG__3h).v] rfl (fun j u hj => H.bx 0 rfl hj) ?_
  obtain ⟨y7, e, hF8⟩ := bindS hF; clear hF
  have ey7 := e; clear e
  refine callF (laws_szGraph_c aG__0 aG__1 aG__1h aG__2 aG__2h aG__3 aG__3h 1048576 y7 ey7) (Γi := []) H ⟨Vw.sh 1 rfl, Vw.sh 2 rfl, Vw.sh 3 rfl, trivial⟩ ?_; clear H ey7
  rintro _ _ w9 ⟨rfl, rfl⟩ (H : Cx w0 fp0 S0 w9 [Bx b5 [(.int .i64 aG__0), (aG__1h).v, (aG__2h).v, (aG__3h).v], Es (List (Int × Int × List Int × List Int)) aG__1 aG__1h, Es (List Int) aG__2 aG__2h, Es (List Int) aG__3 aG__3h])
  refine sq ?_
  obtain ⟨a10, e, hF11⟩ := bindS hF8; clear hF8
  refine boolO e ?_; clear e
  cases a10
  · have hF12 := condF hF11; clear hF11
    refine loadN [(.int .i64 aG__0), (aG__1h).v, (aG__2h).v, (aG__3h).v] rfl (fun j u hj => H.bx 0 rfl hj) ?_
    obtain ⟨y13, e, hF14⟩ := bindS hF12; clear hF12
    obtain ⟨y13_0, y13_1, y13_2, y13_3⟩ := y13
    have ey13 := e; clear e
    refine callF (laws_toGraph_c aG__0 aG__1 aG__1h aG__2 aG__2h aG__3 aG__3h y13_0 y13_1 y13_2 y13_3 ey13) (Γi := []) H ⟨Vw.sh 1 rfl, Vw.sh 2 rfl, Vw.sh 3 rfl, trivial⟩ ?_; clear H ey13
    rintro _ _ w15 ⟨h16, h18, h20, rfl, rfl⟩ (H : Cx w0 fp0 S0 w15 [E (List (Int × Int × List Int × List Int)) y13_1 h16, E (List Int) y13_2 h18, E (List Int) y13_3 h20, Bx b5 [(.int .i64 aG__0), (aG__1h).v, (aG__2h).v, (aG__3h).v], Es (List (Int × Int × List Int × List Int)) aG__1 aG__1h, Es (List Int) aG__2 aG__2h, Es (List Int) aG__3 aG__3h])
    obtain ⟨y22, e, hF23⟩ := bindS hF14; clear hF14
    obtain ⟨y22_0, y22_1⟩ := y22
    have ey22 := e; clear e
    replace H := H.frz
    replace H := H.sel [1, 0, 2, 3, 4, 5, 6] rfl
    replace H := H.frz
    replace H := H.sel [2, 0, 1, 3, 4, 5, 6] rfl
    replace H := H.frz
    refine callS (spec_ReachableWires_c y13_0 y13_1 h16 y13_2 h18 y13_3 h20 aW_ y22_0 y22_1 ey22) (Γi := []) H [2, 1, 0] rfl (persC persS (persC persS (persC persS persN))) ?_; clear H ey22
    rintro _ _ w24 ⟨h25, rfl, rfl⟩ (H : Cx w0 fp0 S0 w24 [Es (List Int) y22_0 h25, Es (List Int) y13_3 h20, Es (List Int) y13_2 h18, Es (List (Int × Int × List Int × List Int)) y13_1 h16, Bx b5 [(.int .i64 aG__0), (aG__1h).v, (aG__2h).v, (aG__3h).v], Es (List (Int × Int × List Int × List Int)) aG__1 aG__1h, Es (List Int) aG__2 aG__2h, Es (List Int) aG__3 aG__3h])
    refine loadN [(.int .i64 aG__0), (aG__1h).v, (aG__2h).v, (aG__3h).v] rfl (fun j u hj => H.bx 4 rfl hj) ?_
    obtain ⟨y27, e, hF28⟩ := bindS hF23; clear hF23
    obtain ⟨y27_0, y27_1, y27_2, y27_3⟩ := y27
    have ey27 := e; clear e
    refine callF (laws_toGraph_c aG__0 aG__1 aG__1h aG__2 aG__2h aG__3 aG__3h y27_0 y27_1 y27_2 y27_3 ey27) (Γi := []) H ⟨Vw.sh 5 rfl, Vw.sh 6 rfl, Vw.sh 7 rfl, trivial⟩ ?_; clear H ey27
    rintro _ _ w29 ⟨h30, h32, h34, rfl, rfl⟩ (H : Cx w0 fp0 S0 w29 [E (List (Int × Int × List Int × List Int)) y27_1 h30, E (List Int) y27_2 h32, E (List Int) y27_3 h34, Es (List Int) y22_0 h25, Es (List Int) y13_3 h20, Es (List Int) y13_2 h18, Es (List (Int × Int × List Int × List Int)) y13_1 h16, Bx b5 [(.int .i64 aG__0), (aG__1h).v, (aG__2h).v, (aG__3h).v], Es (List (Int × Int × List Int × List Int)) aG__1 aG__1h, Es (List Int) aG__2 aG__2h, Es (List Int) aG__3 aG__3h])
    refine alloc_ gok rfl H ?_; clear H; intro b37 w36 hx H
    clear hx
    replace H : Cx w0 fp0 S0 w36 [Bx b37 [(.int .i64 0), (.slice none 0 0), (.slice none 0 0), (.slice none 0 0)], E (List (Int × Int × List Int × List Int)) y27_1 h30, E (List Int) y27_2 h32, E (List Int) y27_3 h34, Es (List Int) y22_0 h25, Es (List Int) y13_3 h20, Es (List Int) y13_2 h18, Es (List (Int × Int × List Int × List Int)) y13_1 h16, Bx b5 [(.int .i64 aG__0), (aG__1h).v, (aG__2h).v, (aG__3h).v], Es (List (Int × Int × List Int × List Int)) aG__1 aG__1h, Es (List Int) aG__2 aG__2h, Es (List Int) aG__3 aG__3h] := H
    refine stA gok [(.int .i64 y27_0), (h30).v, (h32).v, (h34).v] rfl H rfl rfl rfl ?_; clear H; intro w39 H
    replace H : Cx w0 fp0 S0 w39 [Bx b37 [(.int .i64 y27_0), (h30).v, (h32).v, (h34).v], E (List (Int × Int × List Int × List Int)) y27_1 h30, E (List Int) y27_2 h32, E (List Int) y27_3 h34, Es (List Int) y22_0 h25, Es (List Int) y13_3 h20, Es (List Int) y13_2 h18, Es (List (Int × Int × List Int × List Int)) y13_1 h16, Bx b5 [(.int .i64 aG__0), (aG__1h).v, (aG__2h).v, (aG__3h).v], Es (List (Int × Int × List Int × List Int)) aG__1 aG__1h, Es (List Int) aG__2 aG__2h, Es (List Int) aG__3 aG__3h] := H
    refine loadN [(.int .i64 y27_0), (h30).v, (h32).v, (h34).v] rfl (fun j u hj => H.bx 0 rfl hj) ?_
    obtain ⟨y40, e, hF41⟩ := bindS hF28; clear hF28
    obtain ⟨y40_0, y40_1⟩ := y40
    have ey40 := e; clear e
    refine callF (impl_ReachableWires_c y27_0 y27_1 h30 y27_2 h32 y27_3 h34 aW_ y40_0 y40_1 ey40) (Γi := []) H ⟨Vw.own 1 rfl, Vw.own 2 rfl, Vw.own 3 rfl, trivial⟩ ?_; clear H ey40
    rintro _ _ w42 ⟨h43, rfl, rfl⟩ (H : Cx w0 fp0 S0 w42 [E (List Int) y40_0 h43, Bx b37 [(.int .i64 y27_0), (h30).v, (h32).v, (h34).v], E (List (Int × Int × List Int × List Int)) y27_1 h30, E (List Int) y27_2 h32, E (List Int) y27_3 h34, Es (List Int) y22_0 h25, Es (List Int) y13_3 h20, Es (List Int) y13_2 h18, Es (List (Int × Int × List Int × List Int)) y13_1 h16, Bx b5 [(.int .i64 aG__0), (aG__1h).v, (aG__2h).v, (aG__3h).v], Es (List (Int × Int × List Int × List Int)) aG__1 aG__1h, Es (List Int) aG__2 aG__2h, Es (List Int) aG__3 aG__3h])
    refine sq ?_
    obtain ⟨r56, hF58, hF57⟩ := bindS hF41; clear hF41
    refine cut (fun (q59 : Bool) => [(1, (.int .i64 aW_)), (2, (.pointer (some ⟨b5, 0, none⟩))), (6, (h25).v), (7, (.bool y22_1)), (8, (.pointer (some ⟨b37, 0, none⟩))), (9, (h43).v), (10, (.bool y40_1)), (44, (.bool q59))]) (fun (q59 : Bool) w' => q59 = r56 ∧ Cx w0 fp0 S0 w' [Bx b5 [(.int .i64 aG__0), (aG__1h).v, (aG__2h).v, (aG__3h).v], Es (List (Int × Int × List Int × List Int)) aG__1 aG__1h, Es (List Int) aG__2 aG__2h, Es (List Int) aG__3 aG__3h, Es (List Int) y22_0 h25, Bx b37 [(.int .i64 y27_0), (h30).v, (h32).v, (h34).v], E (List (Int × Int × List Int × List Int)) y27_1 h30, E (List Int) y27_2 h32, E (List Int) y27_3 h34, E (List Int) y40_0 h43]) ?_ ?_
    · skip
      obtain ⟨y60, e, hF61⟩ := bindS hF58; clear hF58
      have ey60 := e; clear e
      refine callF (laws_eqIntS_c y40_0 h43 y22_0 h25 y60 ey60) (Γi := []) H ⟨Vw.own 0 rfl, Vw.sh 5 rfl, trivial⟩ ?_; clear H ey60
      rintro _ _ w62 ⟨rfl, rfl⟩ (H : Cx w0 fp0 S0 w62 [E (List Int) y40_0 h43, Bx b37 [(.int .i64 y27_0), (h30).v, (h32).v, (h34).v], E (List (Int × Int × List Int × List Int)) y27_1 h30, E (List Int) y27_2 h32, E (List Int) y27_3 h34, Es (List Int) y22_0 h25, Es (List Int) y13_3 h20, Es (List Int) y13_2 h18, Es (List (Int × Int × List Int × List Int)) y13_1 h16, Bx b5 [(.int .i64 aG__0), (aG__1h).v, (aG__2h).v, (aG__3h).v], Es (List (Int × Int × List Int × List Int)) aG__1 aG__1h, Es (List Int) aG__2 aG__2h, Es (List Int) aG__3 aG__3h])
      obtain ⟨a63, e, hF64⟩ := bindS hF61; clear hF61
      refine boolO e ?_; clear e
      cases a63
      · have hF65 := condF hF64; clear hF64
        obtain ⟨a66, e, hF67⟩ := bindS hF65; clear hF65
        refine boolO e ?_; clear e
        exact ⟨a66, ⟨rfl, rfl, rfl, rfl, rfl, rfl, rfl, rfl, trivial⟩, Option.some.inj hF67, H.sel [9, 10, 11, 12, 5, 1, 2, 3, 4, 0] rfl⟩
      · have hF68 := condT hF64; clear hF64
        exact ⟨true, ⟨rfl, rfl, rfl, rfl, rfl, rfl, rfl, rfl, trivial⟩, Option.some.inj hF68, H.sel [9, 10, 11, 12, 5, 1, 2, 3, 4, 0] rfl⟩
    · clear hF58 H
      rintro T70 s54 w69 ⟨hr, (H : Cx w0 fp0 S0 w69 [Bx b5 [(.int .i64 aG__0), (aG__1h).v, (aG__2h).v, (aG__3h).v], Es (List (Int × Int × List Int × List Int)) aG__1 aG__1h, Es (List Int) aG__2 aG__2h, Es (List Int) aG__3 aG__3h, Es (List Int) y22_0 h25, Bx b37 [(.int .i64 y27_0), (h30).v, (h32).v, (h34).v], E (List (Int × Int × List Int × List Int)) y27_1 h30, E (List Int) y27_2 h32, E (List Int) y27_3 h34, E (List Int) y40_0 h43])⟩
      subst hr
      cases s54
      · have hF71 := condF hF57; clear hF57
        refine sq ?_
        refine heldX H [] (.fst 0 (.fst 1 (.act 2 (.act 3 (.fst 4 .done))))) mixed [] trivial (by kernel_rfl) ?_
        clear H; intro w72 H
        have hX : Ext w72 w72 := Upd.refl _ _
        have H0 := H
        refine loadNX [(.int .i64 y27_0), (h30).v, (h32).v, (h34).v] rfl (fun j u hj => H.bx 5 rfl hj) ?_
        refine loadNX [(.int .i64 aG__0), (aG__1h).v, (aG__2h).v, (aG__3h).v] rfl (fun j u hj => H.bx 0 rfl hj) ?_
        obtain ⟨y73, e, hF74⟩ := bindS hF71; clear hF71
        obtain ⟨y73_0, y73_1, y73_2, y73_3⟩ := y73
        have ey73 := e; clear e
        refine callFx (laws_toGraph_c aG__0 aG__1 aG__1h aG__2 aG__2h aG__3 aG__3h y73_0 y73_1 y73_2 y73_3 ey73) H ⟨Vw.sh 1 rfl, Vw.sh 2 rfl, Vw.sh 3 rfl, trivial⟩ ?_; clear H ey73
        rintro _ _ w75 ⟨h76, h78, h80, rfl, rfl⟩ hx (H : Cx w0 fp0 S0 w75 [E (List (Int × Int × List Int × List Int)) y73_1 h76, E (List Int) y73_2 h78, E (List Int) y73_3 h80, Bx b5 [(.int .i64 aG__0), (aG__1h).v, (aG__2h).v, (aG__3h).v], Es (List (Int × Int × List Int × List Int)) aG__1 aG__1h, Es (List Int) aG__2 aG__2h, Es (List Int) aG__3 aG__3h, Es (List Int) y22_0 h25, Bx b37 [(.int .i64 y27_0), (h30).v, (h32).v, (h34).v], E (List (Int × Int × List Int × List Int)) y27_1 h30, E (List Int) y27_2 h32, E (List Int) y27_3 h34, E (List Int) y40_0 h43])
        replace hX := hX.trans0 hx; clear hx
        refine hold hX ?_
        obtain ⟨y82, e, hF83⟩ := bindS hF74; clear hF74
        have ey82 := e; clear e
        refine callFx (laws_eqGraph_c y27_0 y27_1 h30 y27_2 h32 y27_3 h34 y73_0 y73_1 h76 y73_2 h78 y73_3 h80 y82 ey82) H ⟨Vw.own 9 rfl, Vw.own 10 rfl, Vw.own 11 rfl, Vw.own 0 rfl, Vw.own 1 rfl, Vw.own 2 rfl, trivial⟩ ?_; clear H ey82
        rintro _ _ w84 ⟨rfl, rfl⟩ hx (H : Cx w0 fp0 S0 w84 [E (List (Int × Int × List Int × List Int)) y73_1 h76, E (List Int) y73_2 h78, E (List Int) y73_3 h80, Bx b5 [(.int .i64 aG__0), (aG__1h).v, (aG__2h).v, (aG__3h).v], Es (List (Int × Int × List Int × List Int)) aG__1 aG__1h, Es (List Int) aG__2 aG__2h, Es (List Int) aG__3 aG__3h, Es (List Int) y22_0 h25, Bx b37 [(.int .i64 y27_0), (h30).v, (h32).v, (h34).v], E (List (Int × Int × List Int × List Int)) y27_1 h30, E (List Int) y27_2 h32, E (List Int) y27_3 h34, E (List Int) y40_0 h43])
        replace hX := hX.trans0 hx; clear hx
        refine hold hX ?_
        obtain ⟨a85, e, hF86⟩ := bindS hF83; clear hF83
        refine boolO e ?_; clear e
        cases a85
        · have hF87 := condF hF86; clear hF86
          refine loadN [(.int .i64 y27_0), (h30).v, (h32).v, (h34).v] rfl (fun j u hj => H.bx 8 rfl hj) ?_
          obtain ⟨y88, e, hF89⟩ := bindS hF87; clear hF87
          obtain ⟨⟨y88_0_0, y88_0_1, y88_0_2, y88_0_3⟩, y88_1⟩ := y88
          have ey88 := e; clear e
          replace H := H.sel [9, 10, 11, 0, 1, 2, 3, 4, 5, 6, 7, 8, 12] rfl
          refine callF (laws_markGraph_c y27_0 y27_1 h30 y27_2 h32 y27_3 h34 1 y88_0_0 y88_0_1 y88_0_2 y88_0_3 y88_1 ey88) (Γi := [E (List (Int × Int × List Int × List Int)) y27_1 h30, E (List Int) y27_2 h32, E (List Int) y27_3 h34]) H trivial ?_; clear H ey88
          rintro _ _ w90 ⟨rfl, rfl⟩ (H : Cx w0 fp0 S0 w90 [E (List (Int × Int × List Int × List Int)) y88_0_1 h30, E (List Int) y88_0_2 h32, E (List Int) y88_0_3 h34, E (List (Int × Int × List Int × List Int)) y73_1 h76, E (List Int) y73_2 h78, E (List Int) y73_3 h80, Bx b5 [(.int .i64 aG__0), (aG__1h).v, (aG__2h).v, (aG__3h).v], Es (List (Int × Int × List Int × List Int)) aG__1 aG__1h, Es (List Int) aG__2 aG__2h, Es (List Int) aG__3 aG__3h, Es (List Int) y22_0 h25, Bx b37 [(.int .i64 y27_0), (h30).v, (h32).v, (h34).v], E (List Int) y40_0 h43])
          refine sq ?_
          obtain ⟨r106, hF108, hF107⟩ := bindS hF89; clear hF89
          refine cut (fun (q109 : Bool) => [(1, (.int .i64 aW_)), (2, (.pointer (some ⟨b5, 0, none⟩))), (6, (h25).v), (7, (.bool y22_1)), (9, (h43).v), (65, (.bool q109))]) (fun (q109 : Bool) w' => q109 = r106 ∧ Cx w0 fp0 S0 w' [Bx b5 [(.int .i64 aG__0), (aG__1h).v, (aG__2h).v, (aG__3h).v], Es (List (Int × Int × List Int × List Int)) aG__1 aG__1h, Es (List Int) aG__2 aG__2h, Es (List Int) aG__3 aG__3h, Es (List Int) y22_0 h25, E (List Int) y40_0 h43]) ?_ ?_
          · skip
            obtain ⟨a110, e, hF111⟩ := bindS hF108; clear hF108
            refine boolO e ?_; clear e
            cases a110
            · have hF112 := condF hF111; clear hF111
              obtain ⟨y113, e, hF114⟩ := bindS hF112; clear hF112
              have ey113 := e; clear e
              refine callF (laws_eqIntS_c y40_0 h43 y22_0 h25 y113 ey113) (Γi := []) H ⟨Vw.own 12 rfl, Vw.sh 10 rfl, trivial⟩ ?_; clear H ey113
              rintro _ _ w115 ⟨rfl, rfl⟩ (H : Cx w0 fp0 S0 w115 [E (List (Int × Int × List Int × List Int)) y88_0_1 h30, E (List Int) y88_0_2 h32, E (List Int) y88_0_3 h34, E (List (Int × Int × List Int × List Int)) y73_1 h76, E (List Int) y73_2 h78, E (List Int) y73_3 h80, Bx b5 [(.int .i64 aG__0), (aG__1h).v, (aG__2h).v, (aG__3h).v], Es (List (Int × Int × List Int × List Int)) aG__1 aG__1h, Es (List Int) aG__2 aG__2h, Es (List Int) aG__3 aG__3h, Es (List Int) y22_0 h25, Bx b37 [(.int .i64 y27_0), (h30).v, (h32).v, (h34).v], E (List Int) y40_0 h43])
              obtain ⟨a116, e, hF117⟩ := bindS hF114; clear hF114
              refine boolO e ?_; clear e
              cases a116
              · have hF118 := condF hF117; clear hF117
                obtain ⟨a119, e, hF120⟩ := bindS hF118; clear hF118
                refine boolO e ?_; clear e
                exact ⟨a119, ⟨rfl, rfl, rfl, rfl, rfl, rfl, trivial⟩, Option.some.inj hF120, H.sel [6, 7, 8, 9, 10, 12] rfl⟩
              · have hF121 := condT hF117; clear hF117
                exact ⟨true, ⟨rfl, rfl, rfl, rfl, rfl, rfl, trivial⟩, Option.some.inj hF121, H.sel [6, 7, 8, 9, 10, 12] rfl⟩
            · have hF122 := condT hF111; clear hF111
              exact ⟨true, ⟨rfl, rfl, rfl, rfl, rfl, rfl, trivial⟩, Option.some.inj hF122, H.sel [6, 7, 8, 9, 10, 12] rfl⟩
          · clear hF108 H
            rintro T124 s104 w123 ⟨hr, (H : Cx w0 fp0 S0 w123 [Bx b5 [(.int .i64 aG__0), (aG__1h).v, (aG__2h).v, (aG__3h).v], Es (List (Int × Int × List Int × List Int)) aG__1 aG__1h, Es (List Int) aG__2 aG__2h, Es (List Int) aG__3 aG__3h, Es (List Int) y22_0 h25, E (List Int) y40_0 h43])⟩
            subst hr
            cases s104
            · have hF125 := condF hF107; clear hF107
              obtain ⟨y126, e, hF127⟩ := bindS hF125; clear hF125
              obtain ⟨y126_0, y126_1⟩ := y126
              have ey126 := e; clear e
              replace H := H.sel [5, 0, 1, 2, 3, 4] rfl
              refine callF (laws_markIntS_c y40_0 h43 1 y126_0 y126_1 ey126) (Γi := [E (List Int) y40_0 h43]) H trivial ?_; clear H ey126
              rintro _ _ w128 ⟨rfl, rfl⟩ (H : Cx w0 fp0 S0 w128 [E (List Int) y126_0 h43, Bx b5 [(.int .i64 aG__0), (aG__1h).v, (aG__2h).v, (aG__3h).v], Es (List (Int × Int × List Int × List Int)) aG__1 aG__1h, Es (List Int) aG__2 aG__2h, Es (List Int) aG__3 aG__3h, Es (List Int) y22_0 h25])
              obtain ⟨y129, e, hF130⟩ := bindS hF127; clear hF127
              have ey129 := e; clear e
              refine callF (laws_heldIntS_c y126_0 h43 1 y129 ey129) (Γi := []) H ⟨Vw.own 0 rfl, trivial⟩ ?_; clear H ey129
              rintro _ _ w131 ⟨rfl, rfl⟩ (H : Cx w0 fp0 S0 w131 [E (List Int) y126_0 h43, Bx b5 [(.int .i64 aG__0), (aG__1h).v, (aG__2h).v, (aG__3h).v], Es (List (Int × Int × List Int × List Int)) aG__1 aG__1h, Es (List Int) aG__2 aG__2h, Es (List Int) aG__3 aG__3h, Es (List Int) y22_0 h25])
              refine sq ?_
              obtain ⟨a132, e, hF133⟩ := bindS hF130; clear hF130
              refine boolO e ?_; clear e
              cases a132
              · have hF134 := condF hF133; clear hF133
                refine sq ?_
                obtain ⟨a135, e, hF136⟩ := bindS hF134; clear hF134
                refine boolO e ?_; clear e
                cases a135
                · have hF137 := condF hF136; clear hF136
                  refine loadN [(.int .i64 aG__0), (aG__1h).v, (aG__2h).v, (aG__3h).v] rfl (fun j u hj => H.bx 1 rfl hj) ?_
                  obtain ⟨y138, e, hF139⟩ := bindS hF137; clear hF137
                  obtain ⟨y138_0, y138_1, y138_2, y138_3⟩ := y138
                  have ey138 := e; clear e
                  refine callF (laws_toGraph_c aG__0 aG__1 aG__1h aG__2 aG__2h aG__3 aG__3h y138_0 y138_1 y138_2 y138_3 ey138) (Γi := []) H ⟨Vw.sh 2 rfl, Vw.sh 3 rfl, Vw.sh 4 rfl, trivial⟩ ?_; clear H ey138
                  rintro _ _ w140 ⟨h141, h143, h145, rfl, rfl⟩ (H : Cx w0 fp0 S0 w140 [E (List (Int × Int × List Int × List Int)) y138_1 h141, E (List Int) y138_2 h143, E (List Int) y138_3 h145, E (List Int) y126_0 h43, Bx b5 [(.int .i64 aG__0), (aG__1h).v, (aG__2h).v, (aG__3h).v], Es (List (Int × Int × List Int × List Int)) aG__1 aG__1h, Es (List Int) aG__2 aG__2h, Es (List Int) aG__3 aG__3h, Es (List Int) y22_0 h25])
                  obtain ⟨y147, e, hF148⟩ := bindS hF139; clear hF139
                  obtain ⟨y147_0, y147_1⟩ := y147
                  have ey147 := e; clear e
                  refine callF (impl_ReachableWires_c y138_0 y138_1 h141 y138_2 h143 y138_3 h145 aW_ y147_0 y147_1 ey147) (Γi := []) H ⟨Vw.own 0 rfl, Vw.own 1 rfl, Vw.own 2 rfl, trivial⟩ ?_; clear H ey147
                  rintro _ _ w149 ⟨h150, rfl, rfl⟩ (H : Cx w0 fp0 S0 w149 [E (List Int) y147_0 h150, E (List (Int × Int × List Int × List Int)) y138_1 h141, E (List Int) y138_2 h143, E (List Int) y138_3 h145, E (List Int) y126_0 h43, Bx b5 [(.int .i64 aG__0), (aG__1h).v, (aG__2h).v, (aG__3h).v], Es (List (Int × Int × List Int × List Int)) aG__1 aG__1h, Es (List Int) aG__2 aG__2h, Es (List Int) aG__3 aG__3h, Es (List Int) y22_0 h25])
                  refine sq ?_
                  obtain ⟨r163, hF165, hF164⟩ := bindS hF148; clear hF148
                  refine cut (fun (q166 : Bool) => [(9, (h43).v), (12, (.int .i64 y126_1)), (92, (.bool q166))]) (fun (q166 : Bool) w' => q166 = r163 ∧ Cx w0 fp0 S0 w' [E (List Int) y126_0 h43]) ?_ ?_
                  · skip
                    obtain ⟨y167, e, hF168⟩ := bindS hF165; clear hF165
                    have ey167 := e; clear e
                    refine callF (laws_eqIntS_c y147_0 h150 y22_0 h25 y167 ey167) (Γi := []) H ⟨Vw.own 0 rfl, Vw.sh 9 rfl, trivial⟩ ?_; clear H ey167
                    rintro _ _ w169 ⟨rfl, rfl⟩ (H : Cx w0 fp0 S0 w169 [E (List Int) y147_0 h150, E (List (Int × Int × List Int × List Int)) y138_1 h141, E (List Int) y138_2 h143, E (List Int) y138_3 h145, E (List Int) y126_0 h43, Bx b5 [(.int .i64 aG__0), (aG__1h).v, (aG__2h).v, (aG__3h).v], Es (List (Int × Int × List Int × List Int)) aG__1 aG__1h, Es (List Int) aG__2 aG__2h, Es (List Int) aG__3 aG__3h, Es (List Int) y22_0 h25])
                    obtain ⟨a170, e, hF171⟩ := bindS hF168; clear hF168
                    refine boolO e ?_; clear e
                    cases a170
                    · have hF172 := condF hF171; clear hF171
                      obtain ⟨a173, e, hF174⟩ := bindS hF172; clear hF172
                      refine boolO e ?_; clear e
                      exact ⟨a173, ⟨rfl, rfl, rfl, trivial⟩, Option.some.inj hF174, H.sel [4] rfl⟩
                    · have hF175 := condT hF171; clear hF171
                      exact ⟨true, ⟨rfl, rfl, rfl, trivial⟩, Option.some.inj hF175, H.sel [4] rfl⟩
                  · clear hF165 H
                    rintro T177 s161 w176 ⟨hr, (H : Cx w0 fp0 S0 w176 [E (List Int) y126_0 h43])⟩
                    subst hr
                    cases s161
                    · have hF178 := condF hF164; clear hF164
                      obtain ⟨y179, e, hF180⟩ := bindS hF178; clear hF178
                      have ey179 := e; clear e
                      refine callF (laws_heldIntS_c y126_0 h43 1 y179 ey179) (Γi := []) H ⟨Vw.own 0 rfl, trivial⟩ ?_; clear H ey179
                      rintro _ _ w181 ⟨rfl, rfl⟩ (H : Cx w0 fp0 S0 w181 [E (List Int) y126_0 h43])
                      refine sq ?_
                      obtain ⟨a182, e, hF183⟩ := bindS hF180; clear hF180
                      refine boolO e ?_; clear e
                      cases a182
                      · have hF184 := condF hF183; clear hF183
                        refine sq ?_
                        obtain ⟨a185, e, hF186⟩ := bindS hF184; clear hF184
                        refine boolO e ?_; clear e
                        cases a185
                        · have hF187 := condF hF186; clear hF186
                          cases hF187
                          exact ⟨_, _, rfl, ⟨rfl, rfl⟩, (H.sel [] rfl).close trivial⟩
                        · have hF188 := condT hF186; clear hF186
                          cases hF188
                          exact ⟨_, _, rfl, ⟨rfl, rfl⟩, (H.sel [] rfl).close trivial⟩
                      · have hF189 := condT hF183; clear hF183
                        cases hF189
                        exact ⟨_, _, rfl, ⟨rfl, rfl⟩, (H.sel [] rfl).close trivial⟩
                    · have hF190 := condT hF164; clear hF164
                      cases hF190
                      exact ⟨_, _, rfl, ⟨rfl, rfl⟩, (H.sel [] rfl).close trivial⟩
                · have hF191 := condT hF136; clear hF136
                  cases hF191
                  exact ⟨_, _, rfl, ⟨rfl, rfl⟩, (H.sel [] rfl).close trivial⟩
              · have hF192 := condT hF133; clear hF133
                cases hF192
                exact ⟨_, _, rfl, ⟨rfl, rfl⟩, (H.sel [] rfl).close trivial⟩
            · have hF193 := condT hF107; clear hF107
              cases hF193
              exact ⟨_, _, rfl, ⟨rfl, rfl⟩, (H.sel [] rfl).close trivial⟩
        · have hF194 := condT hF86; clear hF86
          cases hF194
          exact ⟨_, _, rfl, ⟨rfl, rfl⟩, (H.sel [] rfl).close trivial⟩
      · have hF195 := condT hF57; clear hF57
        cases hF195
        exact ⟨_, _, rfl, ⟨rfl, rfl⟩, (H.sel [] rfl).close trivial⟩
  · have hF196 := condT hF11; clear hF11
    cases hF196
    exact ⟨_, _, rfl, ⟨rfl, rfl⟩, (H.sel [] rfl).close trivial⟩
end Go.Proofs.Ytgfnophfoccamaa
