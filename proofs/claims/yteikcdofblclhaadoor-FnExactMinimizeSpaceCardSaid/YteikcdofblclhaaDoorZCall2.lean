/-
  Contracts, printed by a program (wip/y/gen.py): each function of Go computes its partial function. Condition of each: its partial function yields a value.
-/
import Derived.Test.YteikcdofblclhaaDoorZCall
namespace Go.Proofs.YteikcdofblclhaaDoor
open Go Go.Proofs.YteikcdofblclhaaDoor.RW
set_option maxRecDepth 100000
set_option linter.unusedVariables false

theorem impl_isStateSpace_c (p_ : Int) (s__0 : Int) (s__1 : Int) (s__2 : Int) (s__3 : List (List Int)) (s__3h : Hd) (s__4 : List (List Int)) (s__4h : Hd) (s__5 : List (List Int)) (s__5h : Hd) (s__6 : List (List Int)) (s__6h : Hd) (y : Bool) (hF : F_impl_isStateSpace p_ (s__0, s__1, s__2, s__3, s__4, s__5, s__6) = some y) :
    ConF Tryd.prog 70 #[(.int .i64 p_), (.agg #[(.int .i64 s__0), (.int .i64 s__1), (.int .i64 s__2), (s__3h).v, (s__4h).v, (s__5h).v, (s__6h).v])] [Es (List (List Int)) s__3 s__3h, Es (List (List Int)) s__4 s__4h, Es (List (List Int)) s__5 s__5h, Es (List (List Int)) s__6 s__6h, Gl 0 [.int .i64 2, .int .i64 3, .int .i64 5, .int .i64 7]] [] (fun v Γ' => v = (.bool y) ∧ Γ' = []) := by
  intro w0 S0 fp0 hI hS
  have H : Cx w0 fp0 S0 w0 [Es (List (List Int)) s__3 s__3h, Es (List (List Int)) s__4 s__4h, Es (List (List Int)) s__5 s__5h, Es (List (List Int)) s__6 s__6h, Gl 0 [.int .i64 2, .int .i64 3, .int .i64 5, .int .i64 7]] := Cx.start hI hS
  clear hI hS
  refine enterC (args := [_, _]) gok Tryd.func70 rfl _ rfl rfl rfl ?_
  refine box_ H ?_; clear H; intro b7 w6 hx H
  clear hx
  replace H : Cx w0 fp0 S0 w6 [Bx b7 [(.int .i64 s__0), (.int .i64 s__1), (.int .i64 s__2), (s__3h).v, (s__4h).v, (s__5h).v, (s__6h).v], Es (List (List Int)) s__3 s__3h, Es (List (List Int)) s__4 s__4h, Es (List (List Int)) s__5 s__5h, Es (List (List Int)) s__6 s__6h, Gl 0 [.int .i64 2, .int .i64 3, .int .i64 5, .int .i64 7]] := H
  refine sq ?_
  obtain ⟨r37, hF39, hF38⟩ := bindS hF; clear hF
  refine cut (fun (q40 : Bool) => [(0, (.int .i64 p_)), (3, (.pointer (some ⟨b7, 0, none⟩))), (25, (.bool q40))]) (fun (q40 : Bool) w' => q40 = r37 ∧ Cx w0 fp0 S0 w' [Bx b7 [(.int .i64 s__0), (.int .i64 s__1), (.int .i64 s__2), (s__3h).v, (s__4h).v, (s__5h).v, (s__6h).v], Es (List (List Int)) s__3 s__3h, Es (List (List Int)) s__4 s__4h, Es (List (List Int)) s__5 s__5h, Es (List (List Int)) s__6 s__6h, Gl 0 [.int .i64 2, .int .i64 3, .int .i64 5, .int .i64 7]]) ?_ ?_
  · skip
    obtain ⟨y41, e, hF42⟩ := bindS hF39; clear hF39
    have ey41 := e; clear e
    refine callF (impl_isField_c p_ y41 ey41) (Γi := []) H ⟨Vw.gl 5 rfl, trivial⟩ ?_; clear H ey41
    rintro _ _ w43 ⟨rfl, rfl⟩ (H : Cx w0 fp0 S0 w43 [Bx b7 [(.int .i64 s__0), (.int .i64 s__1), (.int .i64 s__2), (s__3h).v, (s__4h).v, (s__5h).v, (s__6h).v], Es (List (List Int)) s__3 s__3h, Es (List (List Int)) s__4 s__4h, Es (List (List Int)) s__5 s__5h, Es (List (List Int)) s__6 s__6h, Gl 0 [.int .i64 2, .int .i64 3, .int .i64 5, .int .i64 7]])
    obtain ⟨a44, e, hF45⟩ := bindS hF42; clear hF42
    refine boolO e ?_; clear e
    cases a44
    · have hF46 := condF hF45; clear hF45
      refine fld gok rfl rfl rfl rfl ?_
      refine load1 (H.bx 0 rfl (j := 0) rfl) ?_
      obtain ⟨y47, e, hF48⟩ := bindS hF46; clear hF46
      have ey47 := e; clear e
      refine callF (impl_within_c s__0 0 24 y47 ey47) (Γi := []) H trivial ?_; clear H ey47
      rintro _ _ w49 ⟨rfl, rfl⟩ (H : Cx w0 fp0 S0 w49 [Bx b7 [(.int .i64 s__0), (.int .i64 s__1), (.int .i64 s__2), (s__3h).v, (s__4h).v, (s__5h).v, (s__6h).v], Es (List (List Int)) s__3 s__3h, Es (List (List Int)) s__4 s__4h, Es (List (List Int)) s__5 s__5h, Es (List (List Int)) s__6 s__6h, Gl 0 [.int .i64 2, .int .i64 3, .int .i64 5, .int .i64 7]])
      obtain ⟨a50, e, hF51⟩ := bindS hF48; clear hF48
      refine boolO e ?_; clear e
      cases a50
      · have hF52 := condF hF51; clear hF51
        refine fld gok rfl rfl rfl rfl ?_
        refine load1 (H.bx 0 rfl (j := 1) rfl) ?_
        obtain ⟨y53, e, hF54⟩ := bindS hF52; clear hF52
        have ey53 := e; clear e
        refine callF (impl_within_c s__1 0 8 y53 ey53) (Γi := []) H trivial ?_; clear H ey53
        rintro _ _ w55 ⟨rfl, rfl⟩ (H : Cx w0 fp0 S0 w55 [Bx b7 [(.int .i64 s__0), (.int .i64 s__1), (.int .i64 s__2), (s__3h).v, (s__4h).v, (s__5h).v, (s__6h).v], Es (List (List Int)) s__3 s__3h, Es (List (List Int)) s__4 s__4h, Es (List (List Int)) s__5 s__5h, Es (List (List Int)) s__6 s__6h, Gl 0 [.int .i64 2, .int .i64 3, .int .i64 5, .int .i64 7]])
        obtain ⟨a56, e, hF57⟩ := bindS hF54; clear hF54
        refine boolO e ?_; clear e
        cases a56
        · have hF58 := condF hF57; clear hF57
          refine fld gok rfl rfl rfl rfl ?_
          refine load1 (H.bx 0 rfl (j := 2) rfl) ?_
          obtain ⟨y59, e, hF60⟩ := bindS hF58; clear hF58
          have ey59 := e; clear e
          refine callF (impl_within_c s__2 0 8 y59 ey59) (Γi := []) H trivial ?_; clear H ey59
          rintro _ _ w61 ⟨rfl, rfl⟩ (H : Cx w0 fp0 S0 w61 [Bx b7 [(.int .i64 s__0), (.int .i64 s__1), (.int .i64 s__2), (s__3h).v, (s__4h).v, (s__5h).v, (s__6h).v], Es (List (List Int)) s__3 s__3h, Es (List (List Int)) s__4 s__4h, Es (List (List Int)) s__5 s__5h, Es (List (List Int)) s__6 s__6h, Gl 0 [.int .i64 2, .int .i64 3, .int .i64 5, .int .i64 7]])
          obtain ⟨a62, e, hF63⟩ := bindS hF60; clear hF60
          refine boolO e ?_; clear e
          exact ⟨a62, ⟨rfl, rfl, rfl, trivial⟩, Option.some.inj hF63, H.sel [0, 1, 2, 3, 4, 5] rfl⟩
        · have hF64 := condT hF57; clear hF57
          exact ⟨true, ⟨rfl, rfl, rfl, trivial⟩, Option.some.inj hF64, H.sel [0, 1, 2, 3, 4, 5] rfl⟩
      · have hF65 := condT hF51; clear hF51
        exact ⟨true, ⟨rfl, rfl, rfl, trivial⟩, Option.some.inj hF65, H.sel [0, 1, 2, 3, 4, 5] rfl⟩
    · have hF66 := condT hF45; clear hF45
      exact ⟨true, ⟨rfl, rfl, rfl, trivial⟩, Option.some.inj hF66, H.sel [0, 1, 2, 3, 4, 5] rfl⟩
  · clear hF39 H
    rintro T68 s35 w67 ⟨hr, (H : Cx w0 fp0 S0 w67 [Bx b7 [(.int .i64 s__0), (.int .i64 s__1), (.int .i64 s__2), (s__3h).v, (s__4h).v, (s__5h).v, (s__6h).v], Es (List (List Int)) s__3 s__3h, Es (List (List Int)) s__4 s__4h, Es (List (List Int)) s__5 s__5h, Es (List (List Int)) s__6 s__6h, Gl 0 [.int .i64 2, .int .i64 3, .int .i64 5, .int .i64 7]])⟩
    subst hr
    cases s35
    · have hF69 := condF hF38; clear hF38
      refine sq ?_
      obtain ⟨r98, hF100, hF99⟩ := bindS hF69; clear hF69
      refine cut (fun (q101 : Bool) => [(0, (.int .i64 p_)), (3, (.pointer (some ⟨b7, 0, none⟩))), (63, (.bool q101))]) (fun (q101 : Bool) w' => q101 = r98 ∧ Cx w0 fp0 S0 w' [Bx b7 [(.int .i64 s__0), (.int .i64 s__1), (.int .i64 s__2), (s__3h).v, (s__4h).v, (s__5h).v, (s__6h).v], Es (List (List Int)) s__3 s__3h, Es (List (List Int)) s__4 s__4h, Es (List (List Int)) s__5 s__5h, Es (List (List Int)) s__6 s__6h, Gl 0 [.int .i64 2, .int .i64 3, .int .i64 5, .int .i64 7]]) ?_ ?_
      · skip
        refine fld gok rfl rfl rfl rfl ?_
        refine load1 (H.bx 0 rfl (j := 3) rfl) ?_
        refine fld gok rfl rfl rfl rfl ?_
        refine load1 (H.bx 0 rfl (j := 0) rfl) ?_
        refine fld gok rfl rfl rfl rfl ?_
        refine load1 (H.bx 0 rfl (j := 0) rfl) ?_
        obtain ⟨y102, e, hF103⟩ := bindS hF100; clear hF100
        have ey102 := e; clear e
        refine callF (impl_table_int_hasShape_c s__3 s__3h s__0 s__0 y102 ey102) (Γi := []) H ⟨Vw.sh 1 rfl, trivial⟩ ?_; clear H ey102
        rintro _ _ w104 ⟨rfl, rfl⟩ (H : Cx w0 fp0 S0 w104 [Bx b7 [(.int .i64 s__0), (.int .i64 s__1), (.int .i64 s__2), (s__3h).v, (s__4h).v, (s__5h).v, (s__6h).v], Es (List (List Int)) s__3 s__3h, Es (List (List Int)) s__4 s__4h, Es (List (List Int)) s__5 s__5h, Es (List (List Int)) s__6 s__6h, Gl 0 [.int .i64 2, .int .i64 3, .int .i64 5, .int .i64 7]])
        obtain ⟨a105, e, hF106⟩ := bindS hF103; clear hF103
        refine boolO e ?_; clear e
        cases a105
        · have hF107 := condF hF106; clear hF106
          refine fld gok rfl rfl rfl rfl ?_
          refine load1 (H.bx 0 rfl (j := 4) rfl) ?_
          refine fld gok rfl rfl rfl rfl ?_
          refine load1 (H.bx 0 rfl (j := 1) rfl) ?_
          refine fld gok rfl rfl rfl rfl ?_
          refine load1 (H.bx 0 rfl (j := 0) rfl) ?_
          obtain ⟨y108, e, hF109⟩ := bindS hF107; clear hF107
          have ey108 := e; clear e
          refine callF (impl_table_int_hasShape_c s__4 s__4h s__1 s__0 y108 ey108) (Γi := []) H ⟨Vw.sh 2 rfl, trivial⟩ ?_; clear H ey108
          rintro _ _ w110 ⟨rfl, rfl⟩ (H : Cx w0 fp0 S0 w110 [Bx b7 [(.int .i64 s__0), (.int .i64 s__1), (.int .i64 s__2), (s__3h).v, (s__4h).v, (s__5h).v, (s__6h).v], Es (List (List Int)) s__3 s__3h, Es (List (List Int)) s__4 s__4h, Es (List (List Int)) s__5 s__5h, Es (List (List Int)) s__6 s__6h, Gl 0 [.int .i64 2, .int .i64 3, .int .i64 5, .int .i64 7]])
          obtain ⟨a111, e, hF112⟩ := bindS hF109; clear hF109
          refine boolO e ?_; clear e
          cases a111
          · have hF113 := condF hF112; clear hF112
            refine fld gok rfl rfl rfl rfl ?_
            refine load1 (H.bx 0 rfl (j := 5) rfl) ?_
            refine fld gok rfl rfl rfl rfl ?_
            refine load1 (H.bx 0 rfl (j := 0) rfl) ?_
            refine fld gok rfl rfl rfl rfl ?_
            refine load1 (H.bx 0 rfl (j := 2) rfl) ?_
            obtain ⟨y114, e, hF115⟩ := bindS hF113; clear hF113
            have ey114 := e; clear e
            refine callF (impl_table_int_hasShape_c s__5 s__5h s__0 s__2 y114 ey114) (Γi := []) H ⟨Vw.sh 3 rfl, trivial⟩ ?_; clear H ey114
            rintro _ _ w116 ⟨rfl, rfl⟩ (H : Cx w0 fp0 S0 w116 [Bx b7 [(.int .i64 s__0), (.int .i64 s__1), (.int .i64 s__2), (s__3h).v, (s__4h).v, (s__5h).v, (s__6h).v], Es (List (List Int)) s__3 s__3h, Es (List (List Int)) s__4 s__4h, Es (List (List Int)) s__5 s__5h, Es (List (List Int)) s__6 s__6h, Gl 0 [.int .i64 2, .int .i64 3, .int .i64 5, .int .i64 7]])
            obtain ⟨a117, e, hF118⟩ := bindS hF115; clear hF115
            refine boolO e ?_; clear e
            cases a117
            · have hF119 := condF hF118; clear hF118
              refine fld gok rfl rfl rfl rfl ?_
              refine load1 (H.bx 0 rfl (j := 6) rfl) ?_
              refine fld gok rfl rfl rfl rfl ?_
              refine load1 (H.bx 0 rfl (j := 1) rfl) ?_
              refine fld gok rfl rfl rfl rfl ?_
              refine load1 (H.bx 0 rfl (j := 2) rfl) ?_
              obtain ⟨y120, e, hF121⟩ := bindS hF119; clear hF119
              have ey120 := e; clear e
              refine callF (impl_table_int_hasShape_c s__6 s__6h s__1 s__2 y120 ey120) (Γi := []) H ⟨Vw.sh 4 rfl, trivial⟩ ?_; clear H ey120
              rintro _ _ w122 ⟨rfl, rfl⟩ (H : Cx w0 fp0 S0 w122 [Bx b7 [(.int .i64 s__0), (.int .i64 s__1), (.int .i64 s__2), (s__3h).v, (s__4h).v, (s__5h).v, (s__6h).v], Es (List (List Int)) s__3 s__3h, Es (List (List Int)) s__4 s__4h, Es (List (List Int)) s__5 s__5h, Es (List (List Int)) s__6 s__6h, Gl 0 [.int .i64 2, .int .i64 3, .int .i64 5, .int .i64 7]])
              obtain ⟨a123, e, hF124⟩ := bindS hF121; clear hF121
              refine boolO e ?_; clear e
              exact ⟨a123, ⟨rfl, rfl, rfl, trivial⟩, Option.some.inj hF124, H.sel [0, 1, 2, 3, 4, 5] rfl⟩
            · have hF125 := condT hF118; clear hF118
              exact ⟨true, ⟨rfl, rfl, rfl, trivial⟩, Option.some.inj hF125, H.sel [0, 1, 2, 3, 4, 5] rfl⟩
          · have hF126 := condT hF112; clear hF112
            exact ⟨true, ⟨rfl, rfl, rfl, trivial⟩, Option.some.inj hF126, H.sel [0, 1, 2, 3, 4, 5] rfl⟩
        · have hF127 := condT hF106; clear hF106
          exact ⟨true, ⟨rfl, rfl, rfl, trivial⟩, Option.some.inj hF127, H.sel [0, 1, 2, 3, 4, 5] rfl⟩
      · clear hF100 H
        rintro T129 s96 w128 ⟨hr, (H : Cx w0 fp0 S0 w128 [Bx b7 [(.int .i64 s__0), (.int .i64 s__1), (.int .i64 s__2), (s__3h).v, (s__4h).v, (s__5h).v, (s__6h).v], Es (List (List Int)) s__3 s__3h, Es (List (List Int)) s__4 s__4h, Es (List (List Int)) s__5 s__5h, Es (List (List Int)) s__6 s__6h, Gl 0 [.int .i64 2, .int .i64 3, .int .i64 5, .int .i64 7]])⟩
        subst hr
        cases s96
        · have hF130 := condF hF99; clear hF99
          obtain ⟨r151, hF153, hF152⟩ := bindS hF130; clear hF130
          refine cut (fun (q154 : Bool) => [(4, (.bool q154))]) (fun (q154 : Bool) w' => q154 = r151 ∧ Cx w0 fp0 S0 w' [Gl 0 [.int .i64 2, .int .i64 3, .int .i64 5, .int .i64 7]]) ?_ ?_
          · skip
            refine fld gok rfl rfl rfl rfl ?_
            refine load1 (H.bx 0 rfl (j := 3) rfl) ?_
            refine fld gok rfl rfl rfl rfl ?_
            refine load1 (H.bx 0 rfl (j := 0) rfl) ?_
            obtain ⟨y155, e, hF156⟩ := bindS hF153; clear hF153
            have ey155 := e; clear e
            refine callF (impl_areVectors_c p_ s__3 s__3h s__0 y155 ey155) (Γi := []) H ⟨Vw.sh 1 rfl, trivial⟩ ?_; clear H ey155
            rintro _ _ w157 ⟨rfl, rfl⟩ (H : Cx w0 fp0 S0 w157 [Bx b7 [(.int .i64 s__0), (.int .i64 s__1), (.int .i64 s__2), (s__3h).v, (s__4h).v, (s__5h).v, (s__6h).v], Es (List (List Int)) s__3 s__3h, Es (List (List Int)) s__4 s__4h, Es (List (List Int)) s__5 s__5h, Es (List (List Int)) s__6 s__6h, Gl 0 [.int .i64 2, .int .i64 3, .int .i64 5, .int .i64 7]])
            cases y155
            · have hF158 := condF hF156; clear hF156
              exact ⟨false, ⟨rfl, trivial⟩, Option.some.inj hF158, H.sel [5] rfl⟩
            · have hF159 := condT hF156; clear hF156
              refine fld gok rfl rfl rfl rfl ?_
              refine load1 (H.bx 0 rfl (j := 4) rfl) ?_
              refine fld gok rfl rfl rfl rfl ?_
              refine load1 (H.bx 0 rfl (j := 0) rfl) ?_
              obtain ⟨y160, e, hF161⟩ := bindS hF159; clear hF159
              have ey160 := e; clear e
              refine callF (impl_areVectors_c p_ s__4 s__4h s__0 y160 ey160) (Γi := []) H ⟨Vw.sh 2 rfl, trivial⟩ ?_; clear H ey160
              rintro _ _ w162 ⟨rfl, rfl⟩ (H : Cx w0 fp0 S0 w162 [Bx b7 [(.int .i64 s__0), (.int .i64 s__1), (.int .i64 s__2), (s__3h).v, (s__4h).v, (s__5h).v, (s__6h).v], Es (List (List Int)) s__3 s__3h, Es (List (List Int)) s__4 s__4h, Es (List (List Int)) s__5 s__5h, Es (List (List Int)) s__6 s__6h, Gl 0 [.int .i64 2, .int .i64 3, .int .i64 5, .int .i64 7]])
              cases y160
              · have hF163 := condF hF161; clear hF161
                exact ⟨false, ⟨rfl, trivial⟩, Option.some.inj hF163, H.sel [5] rfl⟩
              · have hF164 := condT hF161; clear hF161
                refine fld gok rfl rfl rfl rfl ?_
                refine load1 (H.bx 0 rfl (j := 5) rfl) ?_
                refine fld gok rfl rfl rfl rfl ?_
                refine load1 (H.bx 0 rfl (j := 2) rfl) ?_
                obtain ⟨y165, e, hF166⟩ := bindS hF164; clear hF164
                have ey165 := e; clear e
                refine callF (impl_areVectors_c p_ s__5 s__5h s__2 y165 ey165) (Γi := []) H ⟨Vw.sh 3 rfl, trivial⟩ ?_; clear H ey165
                rintro _ _ w167 ⟨rfl, rfl⟩ (H : Cx w0 fp0 S0 w167 [Bx b7 [(.int .i64 s__0), (.int .i64 s__1), (.int .i64 s__2), (s__3h).v, (s__4h).v, (s__5h).v, (s__6h).v], Es (List (List Int)) s__3 s__3h, Es (List (List Int)) s__4 s__4h, Es (List (List Int)) s__5 s__5h, Es (List (List Int)) s__6 s__6h, Gl 0 [.int .i64 2, .int .i64 3, .int .i64 5, .int .i64 7]])
                cases y165
                · have hF168 := condF hF166; clear hF166
                  exact ⟨false, ⟨rfl, trivial⟩, Option.some.inj hF168, H.sel [5] rfl⟩
                · have hF169 := condT hF166; clear hF166
                  refine fld gok rfl rfl rfl rfl ?_
                  refine load1 (H.bx 0 rfl (j := 6) rfl) ?_
                  refine fld gok rfl rfl rfl rfl ?_
                  refine load1 (H.bx 0 rfl (j := 2) rfl) ?_
                  obtain ⟨y170, e, hF171⟩ := bindS hF169; clear hF169
                  have ey170 := e; clear e
                  refine callF (impl_areVectors_c p_ s__6 s__6h s__2 y170 ey170) (Γi := []) H ⟨Vw.sh 4 rfl, trivial⟩ ?_; clear H ey170
                  rintro _ _ w172 ⟨rfl, rfl⟩ (H : Cx w0 fp0 S0 w172 [Bx b7 [(.int .i64 s__0), (.int .i64 s__1), (.int .i64 s__2), (s__3h).v, (s__4h).v, (s__5h).v, (s__6h).v], Es (List (List Int)) s__3 s__3h, Es (List (List Int)) s__4 s__4h, Es (List (List Int)) s__5 s__5h, Es (List (List Int)) s__6 s__6h, Gl 0 [.int .i64 2, .int .i64 3, .int .i64 5, .int .i64 7]])
                  exact ⟨y170, ⟨rfl, trivial⟩, Option.some.inj hF171, H.sel [5] rfl⟩
          · clear hF153 H
            rintro T174 s149 w173 ⟨hr, (H : Cx w0 fp0 S0 w173 [Gl 0 [.int .i64 2, .int .i64 3, .int .i64 5, .int .i64 7]])⟩
            subst hr
            cases hF152
            exact ⟨_, _, rfl, ⟨rfl, rfl⟩, (H.sel [] rfl).close trivial⟩
        · have hF175 := condT hF99; clear hF99
          cases hF175
          exact ⟨_, _, rfl, ⟨rfl, rfl⟩, (H.sel [] rfl).close trivial⟩
    · have hF176 := condT hF38; clear hF38
      cases hF176
      exact ⟨_, _, rfl, ⟨rfl, rfl⟩, (H.sel [] rfl).close trivial⟩

theorem impl_clone_c (list_ : List Int) (list_h : Hd) (y : List Int) (hF : F_impl_clone list_ = some y) :
    ConF Tryd.prog 172 #[(list_h).v] [Es (List Int) list_ list_h] [] (fun v Γ' => ∃ z0 : Hd, v = (z0).v ∧ Γ' = [E (List Int) y z0]) := by
  intro w0 S0 fp0 hI hS
  have H : Cx w0 fp0 S0 w0 [Es (List Int) list_ list_h] := Cx.start hI hS
  clear hI hS
  refine enterC (args := [_]) gok Tryd.func172 rfl _ rfl rfl rfl ?_
  refine lit0 (α := Int) gok rfl rfl H ?_; clear H; intro h3 w2 hx H
  clear hx
  obtain ⟨a5, e, hF6⟩ := bindS hF; clear hF
  refine appendS (α := Int) gok rfl rfl rfl rfl H (Vw.sh 0 rfl) e ?_; clear e H; intro h8 w7 H
  cases hF6
  exact ⟨_, _, rfl, ⟨h8, rfl, rfl⟩, (H.sel [0] rfl).close ⟨cloE, trivial⟩⟩

theorem impl_clones_c (list_ : List (List Int)) (list_h : Hd) (y : List (List Int)) (hF : F_impl_clones list_ = some y) :
    ConF Tryd.prog 138 #[(list_h).v] [Es (List (List Int)) list_ list_h] [] (fun v Γ' => ∃ z0 : Hd, v = (z0).v ∧ Γ' = [E (List (List Int)) y z0]) := by
  intro w0 S0 fp0 hI hS
  have H : Cx w0 fp0 S0 w0 [Es (List (List Int)) list_ list_h] := Cx.start hI hS
  clear hI hS
  refine enterC (args := [_]) gok Tryd.func138 rfl _ rfl rfl rfl ?_
  refine lenE (H.rs (α := List (List Int)) 0 rfl).len ?_
  obtain ⟨a2, e, hF3⟩ := bindS hF; clear hF
  refine make_ (α := List Int) gok rfl rfl rfl rfl e H ?_; clear e H; intro h5 w4 hx H
  clear hx
  refine sq ?_
  refine lenE (H.rs (α := List (List Int)) 1 rfl).len ?_
  have hmx62 := (H.rs (α := List (List Int)) 1 rfl).max
  obtain ⟨r63, e, hF64⟩ := bindS hF3; clear hF3
  refine loopS _ list_.length (fun (k7 : Nat) (s59 : List (List Int)) (g60 : Hd) => [(3, (g60).v), (9, (list_h).v), (10, (.int .i64 ((list_.length : Nat) : Int))), (11, (.int .i64 ((k7 : Nat) : Int)))]) (fun _ (s59 : List (List Int)) (g60 : Hd) w' => Cx w0 fp0 S0 w' [E (List (List Int)) s59 g60, Es (List (List Int)) list_ list_h]) a2 h5 e ⟨rfl, rfl, rfl, rfl, trivial⟩ (H.sel [0, 1] rfl) ?_ ?_
  · clear H e
    rintro T66 k7 s59 g60 w65 o67 hk (H : Cx w0 fp0 S0 w65 [E (List (List Int)) s59 g60, Es (List (List Int)) list_ list_h]) hF68
    refine boolE (z := true) (ltLen hk) ?_
    refine sq ?_
    refine sq ?_
    obtain ⟨a75, e, hF76⟩ := bindS hF68; clear hF68
    have HH := H; clear H; obtain ⟨p73, m74, h77, c69, c70, c71, c72, H⟩ := HH.elL 1 rfl e; clear HH
    clear e
    refine idxE c69 c70 c71 ?_; clear c69 c70 c71
    refine load1 c72 ?_; clear c72
    obtain ⟨y79, e, hF80⟩ := bindS hF76; clear hF76
    have ey79 := e; clear e
    refine callF (impl_clone_c a75 h77 y79 ey79) (Γi := []) H ⟨Vw.sh 0 rfl, trivial⟩ ?_; clear H ey79
    rintro _ _ w81 ⟨h82, rfl, rfl⟩ (H : Cx w0 fp0 S0 w81 [E (List Int) y79 h82, Es (List Int) a75 h77, E (List (List Int)) s59 g60, Es (List (List Int)) list_ list_h])
    refine lit1 (α := List Int) (g := h82) gok rfl rfl rfl rfl rfl H ?_; clear H; intro h85 w84 hx H
    clear hx
    obtain ⟨a87, e, hF88⟩ := bindS hF80; clear hF80
    replace H := H.sel [2, 0, 1, 3] rfl
    refine append_ (α := List Int) gok rfl rfl rfl rfl H e ?_; clear e H; intro h90 w89 H
    refine arK hk hmx62 ?_
    have hs := Option.some.inj hF88; subst hs; clear hF88
    exact ⟨h90, ⟨rfl, rfl, rfl, rfl, trivial⟩, H.sel [0, 2] rfl⟩
  · clear H e
    rintro T93 g95 w92 (H : Cx w0 fp0 S0 w92 [E (List (List Int)) r63 g95, Es (List (List Int)) list_ list_h])
    refine boolE (z := false) geLen ?_
    refine sq ?_
    cases hF64
    exact ⟨_, _, rfl, ⟨g95, rfl, rfl⟩, (H.sel [0] rfl).close ⟨cloE, trivial⟩⟩

theorem impl_bit_c (yes_ : Bool) (y : Int) (hF : F_impl_bit yes_ = some y) :
    ConF Tryd.prog 197 #[(.bool yes_)] [] [] (fun v Γ' => v = (.int .i64 y) ∧ Γ' = []) := by
  intro w0 S0 fp0 hI hS
  have H : Cx w0 fp0 S0 w0 [] := Cx.start hI hS
  clear hI hS
  refine enterC (args := [_]) gok Tryd.func197 rfl _ rfl rfl rfl ?_
  refine sq ?_
  cases yes_
  · have hF1 := condF hF; clear hF
    cases hF1
    exact ⟨_, _, rfl, ⟨rfl, rfl⟩, (H.sel [] rfl).close trivial⟩
  · have hF2 := condT hF; clear hF
    cases hF2
    exact ⟨_, _, rfl, ⟨rfl, rfl⟩, (H.sel [] rfl).close trivial⟩

theorem impl_power_c (p_ : Int) (a_ : Int) (n_ : Int) (y : Int) (hF : F_impl_power p_ a_ n_ = some y) :
    ConF Tryd.prog 196 #[(.int .i64 p_), (.int .i64 a_), (.int .i64 n_)] [] [] (fun v Γ' => v = (.int .i64 y) ∧ Γ' = []) := by
  intro w0 S0 fp0 hI hS
  have H : Cx w0 fp0 S0 w0 [] := Cx.start hI hS
  clear hI hS
  refine enterC (args := [_, _, _]) gok Tryd.func196 rfl _ rfl rfl rfl ?_
  obtain ⟨a1, e, hF2⟩ := bindS hF; clear hF
  refine remO_ e ?_; clear e
  obtain ⟨r133, hF135, hF134⟩ := bindS hF2; clear hF2
  refine cut (fun (q136 : Int) => [(7, (.int .i64 q136))]) (fun (q136 : Int) w' => q136 = r133 ∧ Cx w0 fp0 S0 w' []) ?_ ?_
  · skip
    refine loopW _ (fun (s217 : Int × Int × Int) (_ : Unit) => [(0, (.int .i64 p_)), (1, (.int .i64 s217.1)), (2, (.int .i64 s217.2.1)), (7, (.int .i64 s217.2.2))]) (fun (s217 : Int × Int × Int) (_ : Unit) w' => Cx w0 fp0 S0 w' []) (a_, n_, a1) () hF135 ⟨rfl, rfl, rfl, rfl, trivial⟩ (H.sel [] rfl) ?_
    · clear H
      rintro T223 ⟨s217_0, s217_1, s217_2⟩ _ w222 o224 (H : Cx w0 fp0 S0 w222 []) hrt hF225
      refine sq ?_
      obtain ⟨a226, e, hF227⟩ := bindS hF225; clear hF225
      refine boolO e ?_; clear e
      cases a226
      · have hF228 := condF hF227; clear hF227
        have hs := Option.some.inj hF228; subst hs; clear hF228
        have hF229 : some _ = some _ := congrArg some (hrt _ rfl).symm
        exact ⟨s217_2, ⟨rfl, trivial⟩, Option.some.inj hF229, H.sel [] rfl⟩
      · have hF230 := condT hF227; clear hF227
        refine sq ?_
        obtain ⟨r243, hF245, hF244⟩ := bindS hF230; clear hF230
        refine cut (fun (q246 : Int) => [(0, (.int .i64 p_)), (1, (.int .i64 s217_0)), (2, (.int .i64 s217_1)), (7, (.int .i64 q246))]) (fun (q246 : Int) w' => q246 = r243 ∧ Cx w0 fp0 S0 w' []) ?_ ?_
        · skip
          obtain ⟨a247, e, hF248⟩ := bindS hF245; clear hF245
          refine remO_ e ?_; clear e
          obtain ⟨a249, e, hF250⟩ := bindS hF248; clear hF248
          refine boolO e ?_; clear e
          cases a249
          · have hF251 := condF hF250; clear hF250
            exact ⟨s217_2, ⟨rfl, rfl, rfl, rfl, trivial⟩, Option.some.inj hF251, H.sel [] rfl⟩
          · have hF252 := condT hF250; clear hF250
            obtain ⟨a253, e, hF254⟩ := bindS hF252; clear hF252
            refine arO e ?_; clear e
            obtain ⟨a255, e, hF256⟩ := bindS hF254; clear hF254
            refine remO_ e ?_; clear e
            exact ⟨a255, ⟨rfl, rfl, rfl, rfl, trivial⟩, Option.some.inj hF256, H.sel [] rfl⟩
        · clear hF245 H
          rintro T258 s241 w257 ⟨hr, (H : Cx w0 fp0 S0 w257 [])⟩
          subst hr
          obtain ⟨a259, e, hF260⟩ := bindS hF244; clear hF244
          refine arO e ?_; clear e
          obtain ⟨a261, e, hF262⟩ := bindS hF260; clear hF260
          refine remO_ e ?_; clear e
          obtain ⟨a263, e, hF264⟩ := bindS hF262; clear hF262
          refine quoO_ e ?_; clear e
          have hs := Option.some.inj hF264; subst hs; clear hF264
          exact ⟨(a261, a263, s241), (), rfl, ⟨rfl, rfl, rfl, rfl, trivial⟩, H.sel [] rfl⟩
  · clear hF135 H
    rintro T266 s131 w265 ⟨hr, (H : Cx w0 fp0 S0 w265 [])⟩
    subst hr
    cases hF134
    exact ⟨_, _, rfl, ⟨rfl, rfl⟩, (H.sel [] rfl).close trivial⟩

theorem impl_inverse_c (p_ : Int) (a_ : Int) (y : Int) (hF : F_impl_inverse p_ a_ = some y) :
    ConF Tryd.prog 187 #[(.int .i64 p_), (.int .i64 a_)] [] [] (fun v Γ' => v = (.int .i64 y) ∧ Γ' = []) := by
  intro w0 S0 fp0 hI hS
  have H : Cx w0 fp0 S0 w0 [] := Cx.start hI hS
  clear hI hS
  refine enterC (args := [_, _]) gok Tryd.func187 rfl _ rfl rfl rfl ?_
  obtain ⟨a1, e, hF2⟩ := bindS hF; clear hF
  refine arO e ?_; clear e
  obtain ⟨a3, e, hF4⟩ := bindS hF2; clear hF2
  refine boolO e ?_; clear e
  obtain ⟨y5, e, hF6⟩ := bindS hF4; clear hF4
  have ey5 := e; clear e
  refine callF (impl_bit_c a3 y5 ey5) (Γi := []) H trivial ?_; clear H ey5
  rintro _ _ w7 ⟨rfl, rfl⟩ (H : Cx w0 fp0 S0 w7 [])
  obtain ⟨a8, e, hF9⟩ := bindS hF6; clear hF6
  refine arO e ?_; clear e
  obtain ⟨y10, e, hF11⟩ := bindS hF9; clear hF9
  have ey10 := e; clear e
  refine callF (impl_power_c p_ a_ a8 y10 ey10) (Γi := []) H trivial ?_; clear H ey10
  rintro _ _ w12 ⟨rfl, rfl⟩ (H : Cx w0 fp0 S0 w12 [])
  cases hF11
  exact ⟨_, _, rfl, ⟨rfl, rfl⟩, (H.sel [] rfl).close trivial⟩

theorem impl_mod_c (p_ : Int) (a_ : Int) (y : Int) (hF : F_impl_mod p_ a_ = some y) :
    ConF Tryd.prog 195 #[(.int .i64 p_), (.int .i64 a_)] [] [] (fun v Γ' => v = (.int .i64 y) ∧ Γ' = []) := by
  intro w0 S0 fp0 hI hS
  have H : Cx w0 fp0 S0 w0 [] := Cx.start hI hS
  clear hI hS
  refine enterC (args := [_, _]) gok Tryd.func195 rfl _ rfl rfl rfl ?_
  obtain ⟨a1, e, hF2⟩ := bindS hF; clear hF
  refine remO_ e ?_; clear e
  refine sq ?_
  obtain ⟨a3, e, hF4⟩ := bindS hF2; clear hF2
  refine boolO e ?_; clear e
  cases a3
  · have hF5 := condF hF4; clear hF4
    cases hF5
    exact ⟨_, _, rfl, ⟨rfl, rfl⟩, (H.sel [] rfl).close trivial⟩
  · have hF6 := condT hF4; clear hF4
    obtain ⟨a7, e, hF8⟩ := bindS hF6; clear hF6
    refine arO e ?_; clear e
    cases hF8
    exact ⟨_, _, rfl, ⟨rfl, rfl⟩, (H.sel [] rfl).close trivial⟩

theorem impl_addTimes_c (p_ : Int) (v_ : List Int) (v_h : Hd) (by_ : Int) (w_ : List Int) (w_h : Hd) (y : List Int) (hF : F_impl_addTimes p_ v_ by_ w_ = some y) :
    ConF Tryd.prog 186 #[(.int .i64 p_), (v_h).v, (.int .i64 by_), (w_h).v] [Es (List Int) w_ w_h] [E (List Int) v_ v_h] (fun v Γ' => v = (.tuple #[]) ∧ Γ' = [E (List Int) y v_h]) := by
  intro w0 S0 fp0 hI hS
  have H : Cx w0 fp0 S0 w0 [Es (List Int) w_ w_h, E (List Int) v_ v_h] := Cx.start hI hS
  clear hI hS
  refine enterC (args := [_, _, _, _]) gok Tryd.func186 rfl _ rfl rfl rfl ?_
  refine lenE (H.rs (α := List Int) 0 rfl).len ?_
  have hmx74 := (H.rs (α := List Int) 0 rfl).max
  obtain ⟨r75, e, hF76⟩ := bindS hF; clear hF
  refine loopS _ w_.length (fun (k3 : Nat) (s72 : List Int) (_ : Unit) => [(0, (.int .i64 p_)), (1, (v_h).v), (2, (.int .i64 by_)), (10, (w_h).v), (11, (.int .i64 ((w_.length : Nat) : Int))), (12, (.int .i64 ((k3 : Nat) : Int)))]) (fun _ (s72 : List Int) (_ : Unit) w' => Cx w0 fp0 S0 w' [E (List Int) s72 v_h, Es (List Int) w_ w_h]) v_ () e ⟨rfl, rfl, rfl, rfl, rfl, rfl, trivial⟩ (H.sel [1, 0] rfl) ?_ ?_
  · clear H e
    rintro T78 k3 s72 _ w77 o79 hk (H : Cx w0 fp0 S0 w77 [E (List Int) s72 v_h, Es (List Int) w_ w_h]) hF80
    refine boolE (z := true) (ltLen hk) ?_
    refine sq ?_
    refine sq ?_
    obtain ⟨a87, e, hF88⟩ := bindS hF80; clear hF80
    obtain ⟨p85, m86, c81, c82, c83, c84⟩ := (H.rs (α := List Int) 1 rfl).at1 e; clear e
    refine idxE c81 c82 c83 ?_; clear c81 c82 c83
    refine load1 c84 ?_; clear c84
    obtain ⟨a95, e, hF96⟩ := bindS hF88; clear hF88
    obtain ⟨p93, m94, c89, c90, c91, c92⟩ := (H.ro (α := List Int) 0 rfl).at1 e; clear e
    refine idxE c89 c90 c91 ?_; clear c89 c90 c91
    refine load1 c92 ?_; clear c92
    obtain ⟨a97, e, hF98⟩ := bindS hF96; clear hF96
    refine arO e ?_; clear e
    obtain ⟨a99, e, hF100⟩ := bindS hF98; clear hF98
    refine arO e ?_; clear e
    obtain ⟨y101, e, hF102⟩ := bindS hF100; clear hF100
    have ey101 := e; clear e
    refine callF (impl_mod_c p_ a99 y101 ey101) (Γi := []) H trivial ?_; clear H ey101
    rintro _ _ w103 ⟨rfl, rfl⟩ (H : Cx w0 fp0 S0 w103 [E (List Int) s72 v_h, Es (List Int) w_ w_h])
    obtain ⟨a110, e, hF111⟩ := bindS hF102; clear hF102
    have ea110 := e; clear e
    obtain ⟨p108, m109, c104, c105, c106⟩ := (H.ro (α := List Int) 0 rfl).setp ea110
    refine idxE c104 c105 c106 ?_
    refine setS (α := Int) H c104 c105 ea110 ?_; clear H c104 c105 c106 ea110; intro w112 H
    refine arK hk hmx74 ?_
    have hs := Option.some.inj hF111; subst hs; clear hF111
    exact ⟨(), ⟨rfl, rfl, rfl, rfl, rfl, rfl, trivial⟩, H.sel [0, 1] rfl⟩
  · clear H e
    rintro T114 _ w113 (H : Cx w0 fp0 S0 w113 [E (List Int) r75 v_h, Es (List Int) w_ w_h])
    refine boolE (z := false) geLen ?_
    refine sq ?_
    cases hF76
    exact ⟨_, _, rfl, ⟨rfl, rfl⟩, (H.sel [0] rfl).close ⟨cloE, trivial⟩⟩

theorem impl_rowOperation_apply_c (o__0 : Int) (o__1 : Int) (o__2 : Int) (o__3 : Int) (p_ : Int) (rows_ : List (List Int)) (rows_h : Hd) (y : List (List Int)) (hF : F_impl_rowOperation_apply (o__0, o__1, o__2, o__3) p_ rows_ = some y) :
    ConF Tryd.prog 164 #[(.agg #[(.int .i64 o__0), (.int .i64 o__1), (.int .i64 o__2), (.int .i64 o__3)]), (.int .i64 p_), (rows_h).v] [] [E (List (List Int)) rows_ rows_h] (fun v Γ' => v = (.tuple #[]) ∧ Γ' = [E (List (List Int)) y rows_h]) := by
  intro w0 S0 fp0 hI hS
  have H : Cx w0 fp0 S0 w0 [E (List (List Int)) rows_ rows_h] := Cx.start hI hS
  clear hI hS
  refine enterC (args := [_, _, _]) gok Tryd.func164 rfl _ rfl rfl rfl ?_
  refine box_ H ?_; clear H; intro b3 w2 hx H
  clear hx
  replace H : Cx w0 fp0 S0 w2 [Bx b3 [(.int .i64 o__0), (.int .i64 o__1), (.int .i64 o__2), (.int .i64 o__3)], E (List (List Int)) rows_ rows_h] := H
  refine fld gok rfl rfl rfl rfl ?_
  refine load1 (H.bx 0 rfl (j := 0) rfl) ?_
  obtain ⟨a5, e, hF6⟩ := bindS hF; clear hF
  refine boolO e ?_; clear e
  cases a5
  · have hF7 := condF hF6; clear hF6
    obtain ⟨a8, e, hF9⟩ := bindS hF7; clear hF7
    refine boolO e ?_; clear e
    cases a8
    · have hF10 := condF hF9; clear hF9
      obtain ⟨a11, e, hF12⟩ := bindS hF10; clear hF10
      refine boolO e ?_; clear e
      cases a11
      · have hF13 := condF hF12; clear hF12
        cases hF13
        exact ⟨_, _, rfl, ⟨rfl, rfl⟩, (H.sel [1] rfl).close ⟨cloE, trivial⟩⟩
      · have hF14 := condT hF12; clear hF12
        refine heldX H [14] (.fst 0 (.fst 1 (.fst 2 (.fst 6 (.fst 9 (.fst 10 (.fst 3 (.fst 4 (.fst 5 (.fst 7 (.fst 8 (.fst 11 (.fst 12 (.fst 13 (.act 14 .done))))))))))))))) mixed [] trivial (by kernel_rfl) ?_
        clear H; intro w15 H
        have hX : Ext w15 w15 := Upd.refl _ _
        have H0 := H
        refine anyH (fun _ => fld gok rfl rfl rfl rfl ⟨rfl, rfl⟩) ?_
        refine anyH (fun _ => fld gok rfl rfl rfl rfl ⟨rfl, rfl⟩) ?_
        refine anyH (fun _ => fld gok rfl rfl rfl rfl ⟨rfl, rfl⟩) ?_
        refine load1X (H.bx 0 rfl (j := 1) rfl) ?_
        obtain ⟨a22, e, hF23⟩ := bindS hF14; clear hF14
        replace H := H.sel [1, 0] rfl
        replace H := H.toEH (α := List Int)
        have HH := H; clear H; obtain ⟨p20, m21, h24, c16, c17, c18, c19, H⟩ := HH.peekL e; clear HH
        clear e
        refine idxE c16 c17 c18 ?_
        refine load1X c19 ?_; clear c19
        refine load1X (H.bx 1 rfl (j := 3) rfl) ?_
        obtain ⟨a25, e, hF26⟩ := bindS hF23; clear hF23
        refine arO e ?_; clear e
        refine load1X (H.bx 1 rfl (j := 2) rfl) ?_
        obtain ⟨a33, e, hF34⟩ := bindS hF26; clear hF26
        have HH := H; clear H; obtain ⟨p31, m32, h35, c27, c28, c29, c30, H⟩ := HH.peekL e; clear HH
        clear e
        refine idxE c27 c28 c29 ?_
        refine load1X c30 ?_; clear c30
        obtain ⟨y36, e, hF37⟩ := bindS hF34; clear hF34
        have ey36 := e; clear e
        have kn38 := H.kn 0 rfl 0 rfl
        obtain ⟨u41, en40, hF42⟩ := bindS hF37; clear hF37
        have hm39 : m32 ≠ m21 := fun q => neqO_some en40 (by omega)
        replace H := H.takeK 1 rfl
        refine callF (impl_addTimes_c p_ a22 h24 a25 a33 h35 y36 ey36) (Γi := [E (List Int) a22 h24]) H ⟨Vw.ex (α := List Int) (k := ⟨m32, a33, h35⟩) 0 rfl kn38 hm39, trivial⟩ ?_; clear H ey36
        rintro _ _ w44 ⟨rfl, rfl⟩ (H : Cx w0 fp0 S0 w44 [E (List Int) y36 h24, EX (List Int) m21 [(h24).v] rows_ rows_h, Bx b3 [(.int .i64 o__0), (.int .i64 o__1), (.int .i64 o__2), (.int .i64 o__3)]])
        obtain ⟨a45, e, hF46⟩ := bindS hF42; clear hF42
        replace H := H.put c17 e; clear e
        refine hold trivial ?_
        cases hF46
        exact ⟨_, _, rfl, ⟨rfl, rfl⟩, (H.sel [0] rfl).close ⟨cloE, trivial⟩⟩
    · have hF47 := condT hF9; clear hF9
      refine fld gok rfl rfl rfl rfl ?_
      refine load1 (H.bx 0 rfl (j := 3) rfl) ?_
      obtain ⟨y48, e, hF49⟩ := bindS hF47; clear hF47
      have ey48 := e; clear e
      refine callF (impl_inverse_c p_ o__3 y48 ey48) (Γi := []) H trivial ?_; clear H ey48
      rintro _ _ w50 ⟨rfl, rfl⟩ (H : Cx w0 fp0 S0 w50 [Bx b3 [(.int .i64 o__0), (.int .i64 o__1), (.int .i64 o__2), (.int .i64 o__3)], E (List (List Int)) rows_ rows_h])
      refine fld gok rfl rfl rfl rfl ?_
      refine load1 (H.bx 0 rfl (j := 1) rfl) ?_
      obtain ⟨a57, e, hF58⟩ := bindS hF49; clear hF49
      replace H := H.sel [1, 0] rfl
      have HH := H; clear H; obtain ⟨p55, m56, h59, c51, c52, c53, H⟩ := HH.take e; clear HH
      clear e
      have c54 := H.hx0 1 rfl c51 rfl
      refine idxE c51 c52 c53 ?_
      refine load1 c54 ?_; clear c54
      refine lenE (H.ro (α := List Int) 0 rfl).len ?_
      have hmx124 := (H.ro (α := List Int) 0 rfl).max
      obtain ⟨r125, e, hF126⟩ := bindS hF58; clear hF58
      refine loopS _ a57.length (fun (k61 : Nat) (s122 : List Int) (_ : Unit) => [(1, (.int .i64 p_)), (2, (rows_h).v), (3, (.pointer (some ⟨b3, 0, none⟩))), (6, (.int .i64 y48)), (41, (h59).v), (42, (.int .i64 ((a57.length : Nat) : Int))), (43, (.int .i64 ((k61 : Nat) : Int)))]) (fun _ (s122 : List Int) (_ : Unit) w' => Cx w0 fp0 S0 w' [EX (List Int) m56 [(h59).v] rows_ rows_h, Bx b3 [(.int .i64 o__0), (.int .i64 o__1), (.int .i64 o__2), (.int .i64 o__3)], E (List Int) s122 h59]) a57 () e ⟨rfl, rfl, rfl, rfl, rfl, rfl, rfl, trivial⟩ (H.sel [1, 2, 0] rfl) ?_ ?_
      · clear H e
        rintro T128 k61 s122 _ w127 o129 hk (H : Cx w0 fp0 S0 w127 [EX (List Int) m56 [(h59).v] rows_ rows_h, Bx b3 [(.int .i64 o__0), (.int .i64 o__1), (.int .i64 o__2), (.int .i64 o__3)], E (List Int) s122 h59]) hF130
        refine boolE (z := true) (ltLen hk) ?_
        refine sq ?_
        refine sq ?_
        obtain ⟨a137, e, hF138⟩ := bindS hF130; clear hF130
        obtain ⟨p135, m136, c131, c132, c133, c134⟩ := (H.ro (α := List Int) 2 rfl).at1 e; clear e
        refine idxE c131 c132 c133 ?_; clear c131 c132 c133
        refine load1 c134 ?_; clear c134
        refine heldX H [12] (.fst 0 (.fst 1 (.fst 5 (.fst 6 (.fst 7 (.fst 8 (.fst 9 (.fst 10 (.fst 2 (.fst 3 (.fst 4 (.fst 11 (.act 12 .done))))))))))))) mixed [] trivial (by kernel_rfl) ?_
        clear H; intro w139 H
        have hX : Ext w139 w139 := Upd.refl _ _
        have H0 := H
        refine anyH (fun _ => fld gok rfl rfl rfl rfl ⟨rfl, rfl⟩) ?_
        obtain ⟨a140, e, hF141⟩ := bindS hF138; clear hF138
        refine arO e ?_; clear e
        obtain ⟨a142, e, hF143⟩ := bindS hF141; clear hF141
        refine remO_ e ?_; clear e
        refine load1X (H.bx 1 rfl (j := 1) rfl) ?_
        have c147 := H.hx0 0 rfl c51 rfl
        refine idxE c51 c52 c53 ?_
        refine load1X c147 ?_; clear c147
        obtain ⟨a156, e, hF157⟩ := bindS hF143; clear hF143
        have ea156 := e; clear e
        obtain ⟨p154, m155, c150, c151, c152⟩ := (H.ro (α := List Int) 2 rfl).setp ea156
        refine idxE c150 c151 c152 ?_
        replace H := H.sel [2, 0, 1] rfl
        refine setS (α := Int) H c150 c151 ea156 ?_; clear H c150 c151 c152 ea156; intro w158 H
        refine hold trivial ?_
        refine arK hk hmx124 ?_
        have hs := Option.some.inj hF157; subst hs; clear hF157
        exact ⟨(), ⟨rfl, rfl, rfl, rfl, rfl, rfl, rfl, trivial⟩, H.sel [1, 2, 0] rfl⟩
      · clear H e
        rintro T160 _ w159 (H : Cx w0 fp0 S0 w159 [EX (List Int) m56 [(h59).v] rows_ rows_h, Bx b3 [(.int .i64 o__0), (.int .i64 o__1), (.int .i64 o__2), (.int .i64 o__3)], E (List Int) r125 h59])
        refine boolE (z := false) geLen ?_
        refine sq ?_
        obtain ⟨a163, e, hF164⟩ := bindS hF126; clear hF126
        replace H := H.sel [2, 0, 1] rfl
        replace H := H.put c52 e; clear e
        cases hF164
        exact ⟨_, _, rfl, ⟨rfl, rfl⟩, (H.sel [0] rfl).close ⟨cloE, trivial⟩⟩
  · have hF165 := condT hF6; clear hF6
    refine heldX H [17, 19, 18, 3, 4, 5] (.pure 3 (.pure 4 (.pure 5 (.fst 0 (.fst 1 (.fst 6 (.fst 7 (.fst 11 (.fst 12 (.fst 2 (.fst 8 (.fst 9 (.fst 10 (.fst 13 (.fst 14 (.fst 15 (.fst 16 (.act 17 (.act 18 (.act 19 .done)))))))))))))))))))) mixed [((Addr.add ⟨b3, 0, none⟩ 2), (.int .i64 o__2))] ⟨H.bx 0 rfl (j := 2) rfl, trivial⟩ (by kernel_rfl) ?_
    clear H; intro w166 H
    have hX : Ext w166 w166 := Upd.refl _ _
    have H0 := H
    refine anyH (fun _ => fld gok rfl rfl rfl rfl ⟨rfl, rfl⟩) ?_
    refine load1W 0 rfl ?_
    refine anyH (fun _ => fld gok rfl rfl rfl rfl ⟨rfl, rfl⟩) ?_
    refine anyH (fun _ => fld gok rfl rfl rfl rfl ⟨rfl, rfl⟩) ?_
    refine anyH (fun _ => fld gok rfl rfl rfl rfl ⟨rfl, rfl⟩) ?_
    refine load1X (H.bx 0 rfl (j := 1) rfl) ?_
    refine load1X (H.bx 0 rfl (j := 2) rfl) ?_
    obtain ⟨a173, e, hF174⟩ := bindS hF165; clear hF165
    replace H := H.sel [1, 0] rfl
    replace H := H.toEH (α := List Int)
    have HH := H; clear H; obtain ⟨p171, m172, h175, c167, c168, c169, c170, H⟩ := HH.peekL e; clear HH
    clear e
    refine idxE c167 c168 c169 ?_
    refine load1X c170 ?_; clear c170
    refine load1X (H.bx 1 rfl (j := 1) rfl) ?_
    obtain ⟨a182, e, hF183⟩ := bindS hF174; clear hF174
    have HH := H; clear H; obtain ⟨p180, m181, h184, c176, c177, c178, c179, H⟩ := HH.peekL e; clear HH
    clear e
    refine idxE c176 c177 c178 ?_
    refine load1X c179 ?_; clear c179
    refine idxE c176 c177 c178 ?_
    refine stZ1 (ki := 0) (kj := 1) H rfl rfl c176 ?_; clear H; intro w191 H
    replace H : Cx w0 fp0 S0 w191 [EZ (List Int) m181 m172 a182 a173 h184 h175 rows_ rows_h, Bx b3 [(.int .i64 o__0), (.int .i64 o__1), (.int .i64 o__2), (.int .i64 o__3)]] := H
    refine hold ⟨H.bx 1 rfl (j := 2) rfl, trivial⟩ ?_
    refine idxE c167 c168 c169 ?_
    refine hold ⟨H.bx 1 rfl (j := 2) rfl, trivial⟩ ?_
    obtain ⟨a199, e, hF200⟩ := bindS hF183; clear hF183
    refine stZ2 H c177 c168 c167 e ?_; clear H e; intro w198 H
    refine hold ⟨H.bx 1 rfl (j := 2) rfl, trivial⟩ ?_
    cases hF200
    exact ⟨_, _, rfl, ⟨rfl, rfl⟩, (H.sel [0] rfl).close ⟨cloE, trivial⟩⟩

theorem impl_reduction_1_c (o__0 : Int) (o__1 : Int) (o__2 : Int) (o__3 : Int) (c0_b : Nat) (c0_ : Int) (c1_b : Nat) (c1_ : List (List Int)) (c1_h : Hd) (c2_b : Nat) (c2_ : List (List Int)) (c2_h : Hd) (y0 : List (List Int)) (y1 : List (List Int)) (hF : F_impl_reduction_1 (o__0, o__1, o__2, o__3) c0_ c1_ c2_ = some (y0, y1)) :
    ConF Tryd.prog 163 #[(.agg #[(.int .i64 o__0), (.int .i64 o__1), (.int .i64 o__2), (.int .i64 o__3)]), (.pointer (some ⟨c0_b, 0, none⟩)), (.pointer (some ⟨c1_b, 0, none⟩)), (.pointer (some ⟨c2_b, 0, none⟩))] [] [Bx c0_b [(.int .i64 c0_)], Bx c1_b [(c1_h).v], E (List (List Int)) c1_ c1_h, Bx c2_b [(c2_h).v], E (List (List Int)) c2_ c2_h] (fun v Γ' => v = (.tuple #[]) ∧ Γ' = [Bx c0_b [(.int .i64 c0_)], Bx c1_b [(c1_h).v], E (List (List Int)) y0 c1_h, Bx c2_b [(c2_h).v], E (List (List Int)) y1 c2_h]) := by
  intro w0 S0 fp0 hI hS
  have H : Cx w0 fp0 S0 w0 [Bx c0_b [(.int .i64 c0_)], Bx c1_b [(c1_h).v], E (List (List Int)) c1_ c1_h, Bx c2_b [(c2_h).v], E (List (List Int)) c2_ c2_h] := Cx.start hI hS
  clear hI hS
  refine enterC (args := [_, _, _, _]) gok Tryd.func163 rfl _ rfl rfl rfl ?_
  refine box_ H ?_; clear H; intro b7 w6 hx H
  clear hx
  replace H : Cx w0 fp0 S0 w6 [Bx b7 [(.int .i64 o__0), (.int .i64 o__1), (.int .i64 o__2), (.int .i64 o__3)], Bx c0_b [(.int .i64 c0_)], Bx c1_b [(c1_h).v], E (List (List Int)) c1_ c1_h, Bx c2_b [(c2_h).v], E (List (List Int)) c2_ c2_h] := H
  refine sq ?_
  refine loadN [(.int .i64 o__0), (.int .i64 o__1), (.int .i64 o__2), (.int .i64 o__3)] rfl (fun j u hj => H.bx 0 rfl hj) ?_
  refine fld gok rfl rfl rfl rfl ?_
  refine load1 (H.bx 0 rfl (j := 1) rfl) ?_
  refine fld gok rfl rfl rfl rfl ?_
  refine load1 (H.bx 0 rfl (j := 1) rfl) ?_
  refine build_ (cs := #[(.int .i64 0), (.int .i64 o__1), (.int .i64 o__1), (.int .i64 0)]) gok rfl rfl rfl ?_
  obtain ⟨a9, e, hF10⟩ := bindS hF; clear hF
  refine eqA gok rfl Tryd.underlying141 (by kernel_rfl) (by kernel_rfl) (by kernel_rfl) (by refine ⟨rfl, ⟨_, _, rfl⟩, rfl, ⟨_, _, rfl⟩, rfl, ⟨_, _, rfl⟩, rfl, ⟨_, _, rfl⟩, trivial⟩) (ls := [o__0, o__1, o__2, o__3]) (bs := [0, o__1, o__1, 0]) rfl rfl rfl rfl e ?_; clear e
  cases a9
  · have hF11 := condF hF10; clear hF10
    refine loadN [(.int .i64 o__0), (.int .i64 o__1), (.int .i64 o__2), (.int .i64 o__3)] rfl (fun j u hj => H.bx 0 rfl hj) ?_
    refine load1 (H.bx0 1 rfl) ?_
    refine load1 (H.bx0 2 rfl) ?_
    obtain ⟨y12, e, hF13⟩ := bindS hF11; clear hF11
    have ey12 := e; clear e
    replace H := H.sel [3, 0, 1, 2, 4, 5] rfl
    refine callF (impl_rowOperation_apply_c o__0 o__1 o__2 o__3 c0_ c1_ c1_h y12 ey12) (Γi := [E (List (List Int)) c1_ c1_h]) H trivial ?_; clear H ey12
    rintro _ _ w14 ⟨rfl, rfl⟩ (H : Cx w0 fp0 S0 w14 [E (List (List Int)) y12 c1_h, Bx b7 [(.int .i64 o__0), (.int .i64 o__1), (.int .i64 o__2), (.int .i64 o__3)], Bx c0_b [(.int .i64 c0_)], Bx c1_b [(c1_h).v], Bx c2_b [(c2_h).v], E (List (List Int)) c2_ c2_h])
    refine loadN [(.int .i64 o__0), (.int .i64 o__1), (.int .i64 o__2), (.int .i64 o__3)] rfl (fun j u hj => H.bx 1 rfl hj) ?_
    refine load1 (H.bx0 2 rfl) ?_
    refine load1 (H.bx0 4 rfl) ?_
    obtain ⟨y15, e, hF16⟩ := bindS hF13; clear hF13
    have ey15 := e; clear e
    replace H := H.sel [5, 0, 1, 2, 3, 4] rfl
    refine callF (impl_rowOperation_apply_c o__0 o__1 o__2 o__3 c0_ c2_ c2_h y15 ey15) (Γi := [E (List (List Int)) c2_ c2_h]) H trivial ?_; clear H ey15
    rintro _ _ w17 ⟨rfl, rfl⟩ (H : Cx w0 fp0 S0 w17 [E (List (List Int)) y15 c2_h, E (List (List Int)) y12 c1_h, Bx b7 [(.int .i64 o__0), (.int .i64 o__1), (.int .i64 o__2), (.int .i64 o__3)], Bx c0_b [(.int .i64 c0_)], Bx c1_b [(c1_h).v], Bx c2_b [(c2_h).v]])
    cases hF16
    exact ⟨_, _, rfl, ⟨rfl, rfl⟩, (H.sel [3, 4, 1, 5, 0] rfl).close ⟨cloB, cloB, cloE, cloB, cloE, trivial⟩⟩
  · have hF18 := condT hF10; clear hF10
    cases hF18
    exact ⟨_, _, rfl, ⟨rfl, rfl⟩, (H.sel [1, 2, 3, 4, 5] rfl).close ⟨cloB, cloB, cloE, cloB, cloE, trivial⟩⟩

theorem impl_reduction_c (p_ : Int) (rows_ : List (List Int)) (rows_h : Hd) (n_ : Int) (also_ : List (List Int)) (also_h : Hd) (y0 : List (List Int)) (y1 : List (List Int)) (y2 : Int) (hF : F_impl_reduction p_ rows_ n_ also_ = some (y0, y1, y2)) :
    ConF Tryd.prog 126 #[(.int .i64 p_), (rows_h).v, (.int .i64 n_), (also_h).v] [] [E (List (List Int)) rows_ rows_h, E (List (List Int)) also_ also_h] (fun v Γ' => v = (.int .i64 y2) ∧ Γ' = [E (List (List Int)) y0 rows_h, E (List (List Int)) y1 also_h]) := by
  intro w0 S0 fp0 hI hS
  have H : Cx w0 fp0 S0 w0 [E (List (List Int)) rows_ rows_h, E (List (List Int)) also_ also_h] := Cx.start hI hS
  clear hI hS
  refine enterC (args := [_, _, _, _]) gok Tryd.func126 rfl _ rfl rfl rfl ?_
  refine box_ H ?_; clear H; intro b4 w3 hx H
  clear hx
  replace H : Cx w0 fp0 S0 w3 [Bx b4 [(.int .i64 p_)], E (List (List Int)) rows_ rows_h, E (List (List Int)) also_ also_h] := H
  refine box_ H ?_; clear H; intro b7 w6 hx H
  clear hx
  replace H : Cx w0 fp0 S0 w6 [Bx b7 [(rows_h).v], Bx b4 [(.int .i64 p_)], E (List (List Int)) rows_ rows_h, E (List (List Int)) also_ also_h] := H
  refine box_ H ?_; clear H; intro b10 w9 hx H
  clear hx
  replace H : Cx w0 fp0 S0 w9 [Bx b10 [(also_h).v], Bx b7 [(rows_h).v], Bx b4 [(.int .i64 p_)], E (List (List Int)) rows_ rows_h, E (List (List Int)) also_ also_h] := H
  obtain ⟨r4078, hF4080, hF4079⟩ := bindS hF; clear hF
  refine cut (fun (q4081 : List (List Int) × List (List Int) × Int) => [(9, (.int .i64 q4081.2.2))]) (fun (q4081 : List (List Int) × List (List Int) × Int) w' => (q4081.1, q4081.2.1, q4081.2.2) = r4078 ∧ Cx w0 fp0 S0 w' [E (List (List Int)) q4081.1 rows_h, E (List (List Int)) q4081.2.1 also_h]) ?_ ?_
  · skip
    refine loopW _ (fun (s6786 : List (List Int) × List (List Int) × Int × Int) (_ : Unit) => [(2, (.int .i64 n_)), (5, (.pointer (some ⟨b7, 0, none⟩))), (9, (.int .i64 s6786.2.2.2)), (10, (.func (.func 163) #[] #[(.pointer (some ⟨b4, 0, none⟩)), (.pointer (some ⟨b7, 0, none⟩)), (.pointer (some ⟨b10, 0, none⟩))])), (11, (.int .i64 s6786.2.2.1))]) (fun (s6786 : List (List Int) × List (List Int) × Int × Int) (_ : Unit) w' => Cx w0 fp0 S0 w' [Bx b7 [(rows_h).v], E (List (List Int)) s6786.1 rows_h, Bx b4 [(.int .i64 p_)], Bx b10 [(also_h).v], E (List (List Int)) s6786.2.1 also_h]) (rows_, also_, 0, 0) () hF4080 ⟨rfl, rfl, rfl, rfl, rfl, trivial⟩ (H.sel [1, 3, 2, 0, 4] rfl) ?_
    · clear H
      rintro T6792 ⟨s6786_0, s6786_1, s6786_2, s6786_3⟩ _ w6791 o6793 (H : Cx w0 fp0 S0 w6791 [Bx b7 [(rows_h).v], E (List (List Int)) s6786_0 rows_h, Bx b4 [(.int .i64 p_)], Bx b10 [(also_h).v], E (List (List Int)) s6786_1 also_h]) hrt hF6794
      refine sq ?_
      obtain ⟨r6803, hF6805, hF6804⟩ := bindS hF6794; clear hF6794
      refine cut (fun (q6806 : Bool) => [(2, (.int .i64 n_)), (5, (.pointer (some ⟨b7, 0, none⟩))), (9, (.int .i64 s6786_3)), (10, (.func (.func 163) #[] #[(.pointer (some ⟨b4, 0, none⟩)), (.pointer (some ⟨b7, 0, none⟩)), (.pointer (some ⟨b10, 0, none⟩))])), (11, (.int .i64 s6786_2)), (23, (.bool q6806))]) (fun (q6806 : Bool) w' => q6806 = r6803 ∧ Cx w0 fp0 S0 w' [Bx b7 [(rows_h).v], E (List (List Int)) s6786_0 rows_h, Bx b4 [(.int .i64 p_)], Bx b10 [(also_h).v], E (List (List Int)) s6786_1 also_h]) ?_ ?_
      · skip
        obtain ⟨a6807, e, hF6808⟩ := bindS hF6805; clear hF6805
        refine boolO e ?_; clear e
        cases a6807
        · have hF6809 := condF hF6808; clear hF6808
          exact ⟨false, ⟨rfl, rfl, rfl, rfl, rfl, rfl, trivial⟩, Option.some.inj hF6809, H.sel [0, 1, 2, 3, 4] rfl⟩
        · have hF6810 := condT hF6808; clear hF6808
          refine load1 (H.bx0 0 rfl) ?_
          refine lenE (H.ro (α := List (List Int)) 1 rfl).len ?_
          obtain ⟨a6811, e, hF6812⟩ := bindS hF6810; clear hF6810
          refine boolO e ?_; clear e
          exact ⟨a6811, ⟨rfl, rfl, rfl, rfl, rfl, rfl, trivial⟩, Option.some.inj hF6812, H.sel [0, 1, 2, 3, 4] rfl⟩
      · clear hF6805 H
        rintro T6814 s6801 w6813 ⟨hr, (H : Cx w0 fp0 S0 w6813 [Bx b7 [(rows_h).v], E (List (List Int)) s6786_0 rows_h, Bx b4 [(.int .i64 p_)], Bx b10 [(also_h).v], E (List (List Int)) s6786_1 also_h])⟩
        subst hr
        cases s6801
        · have hF6815 := condF hF6804; clear hF6804
          have hs := Option.some.inj hF6815; subst hs; clear hF6815
          have hF6816 : some _ = some _ := congrArg some (hrt _ rfl).symm
          exact ⟨(s6786_0, s6786_1, s6786_3), ⟨rfl, trivial⟩, Option.some.inj hF6816, H.sel [1, 4] rfl⟩
        · have hF6817 := condT hF6804; clear hF6804
          obtain ⟨r7479, hF7481, hF7480⟩ := bindS hF6817; clear hF6817
          refine cut (fun (q7482 : List (List Int) × List (List Int) × Int) => [(2, (.int .i64 n_)), (5, (.pointer (some ⟨b7, 0, none⟩))), (9, (.int .i64 q7482.2.2)), (10, (.func (.func 163) #[] #[(.pointer (some ⟨b4, 0, none⟩)), (.pointer (some ⟨b7, 0, none⟩)), (.pointer (some ⟨b10, 0, none⟩))])), (11, (.int .i64 s6786_2))]) (fun (q7482 : List (List Int) × List (List Int) × Int) w' => (q7482.1, q7482.2.1, q7482.2.2) = r7479 ∧ Cx w0 fp0 S0 w' [Bx b7 [(rows_h).v], E (List (List Int)) q7482.1 rows_h, Bx b4 [(.int .i64 p_)], Bx b10 [(also_h).v], E (List (List Int)) q7482.2.1 also_h]) ?_ ?_
          · skip
            obtain ⟨r7673, hF7675, hF7674⟩ := bindS hF7481; clear hF7481
            refine cut (fun (q7676 : Int) => [(2, (.int .i64 n_)), (5, (.pointer (some ⟨b7, 0, none⟩))), (9, (.int .i64 s6786_3)), (10, (.func (.func 163) #[] #[(.pointer (some ⟨b4, 0, none⟩)), (.pointer (some ⟨b7, 0, none⟩)), (.pointer (some ⟨b10, 0, none⟩))])), (11, (.int .i64 s6786_2)), (12, (.int .i64 q7676))]) (fun (q7676 : Int) w' => q7676 = r7673 ∧ Cx w0 fp0 S0 w' [Bx b7 [(rows_h).v], E (List (List Int)) s6786_0 rows_h, Bx b4 [(.int .i64 p_)], Bx b10 [(also_h).v], E (List (List Int)) s6786_1 also_h]) ?_ ?_
            · skip
              refine loopW _ (fun (s7797 : Int) (_ : Unit) => [(2, (.int .i64 n_)), (5, (.pointer (some ⟨b7, 0, none⟩))), (9, (.int .i64 s6786_3)), (10, (.func (.func 163) #[] #[(.pointer (some ⟨b4, 0, none⟩)), (.pointer (some ⟨b7, 0, none⟩)), (.pointer (some ⟨b10, 0, none⟩))])), (11, (.int .i64 s6786_2)), (12, (.int .i64 s7797))]) (fun (s7797 : Int) (_ : Unit) w' => Cx w0 fp0 S0 w' [Bx b7 [(rows_h).v], E (List (List Int)) s6786_0 rows_h, Bx b4 [(.int .i64 p_)], Bx b10 [(also_h).v], E (List (List Int)) s6786_1 also_h]) s6786_3 () hF7675 ⟨rfl, rfl, rfl, rfl, rfl, rfl, trivial⟩ (H.sel [0, 1, 2, 3, 4] rfl) ?_
              · clear H
                rintro T7803 s7797 _ w7802 o7804 (H : Cx w0 fp0 S0 w7802 [Bx b7 [(rows_h).v], E (List (List Int)) s6786_0 rows_h, Bx b4 [(.int .i64 p_)], Bx b10 [(also_h).v], E (List (List Int)) s6786_1 also_h]) hrt hF7805
                refine sq ?_
                obtain ⟨r7831, hF7833, hF7832⟩ := bindS hF7805; clear hF7805
                refine cut (fun (q7834 : Bool) => [(2, (.int .i64 n_)), (5, (.pointer (some ⟨b7, 0, none⟩))), (9, (.int .i64 s6786_3)), (10, (.func (.func 163) #[] #[(.pointer (some ⟨b4, 0, none⟩)), (.pointer (some ⟨b7, 0, none⟩)), (.pointer (some ⟨b10, 0, none⟩))])), (11, (.int .i64 s6786_2)), (12, (.int .i64 s7797)), (40, (.bool q7834))]) (fun (q7834 : Bool) w' => q7834 = r7831 ∧ Cx w0 fp0 S0 w' [Bx b7 [(rows_h).v], E (List (List Int)) s6786_0 rows_h, Bx b4 [(.int .i64 p_)], Bx b10 [(also_h).v], E (List (List Int)) s6786_1 also_h]) ?_ ?_
                · skip
                  refine load1 (H.bx0 0 rfl) ?_
                  refine lenE (H.ro (α := List (List Int)) 1 rfl).len ?_
                  obtain ⟨a7835, e, hF7836⟩ := bindS hF7833; clear hF7833
                  refine boolO e ?_; clear e
                  cases a7835
                  · have hF7837 := condF hF7836; clear hF7836
                    exact ⟨false, ⟨rfl, rfl, rfl, rfl, rfl, rfl, rfl, trivial⟩, Option.some.inj hF7837, H.sel [0, 1, 2, 3, 4] rfl⟩
                  · have hF7838 := condT hF7836; clear hF7836
                    refine load1 (H.bx0 0 rfl) ?_
                    obtain ⟨a7845, e, hF7846⟩ := bindS hF7838; clear hF7838
                    replace H := H.sel [1, 0, 2, 3, 4] rfl
                    replace H := H.toEH (α := List Int)
                    have HH := H; clear H; obtain ⟨p7843, m7844, h7847, c7839, c7840, c7841, c7842, H⟩ := HH.peekL e; clear HH
                    clear e
                    refine idxE c7839 c7840 c7841 ?_
                    refine load1 c7842 ?_; clear c7842
                    obtain ⟨a7854, e, hF7855⟩ := bindS hF7846; clear hF7846
                    obtain ⟨p7852, m7853, c7848, c7849, c7850, c7851⟩ := (H.rh (α := List Int) 0 rfl 0 rfl).at1 e; clear e
                    refine idxE c7848 c7849 c7850 ?_; clear c7848 c7849 c7850
                    refine load1 c7851 ?_; clear c7851
                    obtain ⟨a7856, e, hF7857⟩ := bindS hF7855; clear hF7855
                    refine boolO e ?_; clear e
                    replace H := H.ofEH
                    exact ⟨a7856, ⟨rfl, rfl, rfl, rfl, rfl, rfl, rfl, trivial⟩, Option.some.inj hF7857, H.sel [1, 0, 2, 3, 4] rfl⟩
                · clear hF7833 H
                  rintro T7859 s7829 w7858 ⟨hr, (H : Cx w0 fp0 S0 w7858 [Bx b7 [(rows_h).v], E (List (List Int)) s6786_0 rows_h, Bx b4 [(.int .i64 p_)], Bx b10 [(also_h).v], E (List (List Int)) s6786_1 also_h])⟩
                  subst hr
                  cases s7829
                  · have hF7860 := condF hF7832; clear hF7832
                    have hs := Option.some.inj hF7860; subst hs; clear hF7860
                    have hF7861 : some _ = some _ := congrArg some (hrt _ rfl).symm
                    exact ⟨s7797, ⟨rfl, rfl, rfl, rfl, rfl, rfl, trivial⟩, Option.some.inj hF7861, H.sel [0, 1, 2, 3, 4] rfl⟩
                  · have hF7862 := condT hF7832; clear hF7832
                    obtain ⟨a7863, e, hF7864⟩ := bindS hF7862; clear hF7862
                    refine arO e ?_; clear e
                    have hs := Option.some.inj hF7864; subst hs; clear hF7864
                    exact ⟨a7863, (), rfl, ⟨rfl, rfl, rfl, rfl, rfl, rfl, trivial⟩, H.sel [0, 1, 2, 3, 4] rfl⟩
            · clear hF7675 H
              rintro T7866 s7671 w7865 ⟨hr, (H : Cx w0 fp0 S0 w7865 [Bx b7 [(rows_h).v], E (List (List Int)) s6786_0 rows_h, Bx b4 [(.int .i64 p_)], Bx b10 [(also_h).v], E (List (List Int)) s6786_1 also_h])⟩
              subst hr
              refine sq ?_
              refine load1 (H.bx0 0 rfl) ?_
              refine lenE (H.ro (α := List (List Int)) 1 rfl).len ?_
              obtain ⟨a7867, e, hF7868⟩ := bindS hF7674; clear hF7674
              refine boolO e ?_; clear e
              cases a7867
              · have hF7869 := condF hF7868; clear hF7868
                refine build_ (cs := #[(.int .i64 0), (.int .i64 s6786_3), (.int .i64 s7671), (.int .i64 0)]) gok rfl rfl rfl ?_
                obtain ⟨y7870, e, hF7871⟩ := bindS hF7869; clear hF7869
                obtain ⟨y7870_0, y7870_1⟩ := y7870
                have ey7870 := e; clear e
                replace H := H.sel [2, 0, 1, 3, 4] rfl
                refine callF (impl_reduction_1_c 0 s6786_3 s7671 0 b4 p_ b7 s6786_0 rows_h b10 s6786_1 also_h y7870_0 y7870_1 ey7870) (Γi := [Bx b4 [(.int .i64 p_)], Bx b7 [(rows_h).v], E (List (List Int)) s6786_0 rows_h, Bx b10 [(also_h).v], E (List (List Int)) s6786_1 also_h]) H trivial ?_; clear H ey7870
                rintro _ _ w7872 ⟨rfl, rfl⟩ (H : Cx w0 fp0 S0 w7872 [Bx b4 [(.int .i64 p_)], Bx b7 [(rows_h).v], E (List (List Int)) y7870_0 rows_h, Bx b10 [(also_h).v], E (List (List Int)) y7870_1 also_h])
                refine load1 (H.bx0 1 rfl) ?_
                obtain ⟨a7879, e, hF7880⟩ := bindS hF7871; clear hF7871
                replace H := H.sel [2, 0, 1, 3, 4] rfl
                replace H := H.toEH (α := List Int)
                have HH := H; clear H; obtain ⟨p7877, m7878, h7881, c7873, c7874, c7875, c7876, H⟩ := HH.peekL e; clear HH
                clear e
                refine idxE c7873 c7874 c7875 ?_
                refine load1 c7876 ?_; clear c7876
                obtain ⟨a7888, e, hF7889⟩ := bindS hF7880; clear hF7880
                obtain ⟨p7886, m7887, c7882, c7883, c7884, c7885⟩ := (H.rh (α := List Int) 0 rfl 0 rfl).at1 e; clear e
                refine idxE c7882 c7883 c7884 ?_; clear c7882 c7883 c7884
                refine load1 c7885 ?_; clear c7885
                refine build_ (cs := #[(.int .i64 1), (.int .i64 s6786_3), (.int .i64 0), (.int .i64 a7888)]) gok rfl rfl rfl ?_
                replace H := H.ofEH
                obtain ⟨y7890, e, hF7891⟩ := bindS hF7889; clear hF7889
                obtain ⟨y7890_0, y7890_1⟩ := y7890
                have ey7890 := e; clear e
                replace H := H.sel [1, 2, 0, 3, 4] rfl
                refine callF (impl_reduction_1_c 1 s6786_3 0 a7888 b4 p_ b7 y7870_0 rows_h b10 y7870_1 also_h y7890_0 y7890_1 ey7890) (Γi := [Bx b4 [(.int .i64 p_)], Bx b7 [(rows_h).v], E (List (List Int)) y7870_0 rows_h, Bx b10 [(also_h).v], E (List (List Int)) y7870_1 also_h]) H trivial ?_; clear H ey7890
                rintro _ _ w7892 ⟨rfl, rfl⟩ (H : Cx w0 fp0 S0 w7892 [Bx b4 [(.int .i64 p_)], Bx b7 [(rows_h).v], E (List (List Int)) y7890_0 rows_h, Bx b10 [(also_h).v], E (List (List Int)) y7890_1 also_h])
                refine sq ?_
                refine load1 (H.bx0 1 rfl) ?_
                refine lenE (H.ro (α := List (List Int)) 2 rfl).len ?_
                have hmx8052 := (H.ro (α := List (List Int)) 2 rfl).max
                obtain ⟨r8053, e, hF8054⟩ := bindS hF7891; clear hF7891
                refine loopS _ y7890_0.length (fun (k7893 : Nat) (s8050 : List (List Int) × List (List Int)) (_ : Unit) => [(2, (.int .i64 n_)), (5, (.pointer (some ⟨b7, 0, none⟩))), (9, (.int .i64 s6786_3)), (10, (.func (.func 163) #[] #[(.pointer (some ⟨b4, 0, none⟩)), (.pointer (some ⟨b7, 0, none⟩)), (.pointer (some ⟨b10, 0, none⟩))])), (11, (.int .i64 s6786_2)), (64, (.int .i64 ((y7890_0.length : Nat) : Int))), (65, (.int .i64 ((k7893 : Nat) : Int)))]) (fun _ (s8050 : List (List Int) × List (List Int)) (_ : Unit) w' => Cx w0 fp0 S0 w' [Bx b7 [(rows_h).v], E (List (List Int)) s8050.1 rows_h, Bx b4 [(.int .i64 p_)], Bx b10 [(also_h).v], E (List (List Int)) s8050.2 also_h]) (y7890_0, y7890_1) () e ⟨rfl, rfl, rfl, rfl, rfl, rfl, rfl, trivial⟩ (H.sel [1, 2, 0, 3, 4] rfl) ?_ ?_
                · clear H e
                  rintro T8056 k7893 ⟨s8050_0, s8050_1⟩ _ w8055 o8057 hk (H : Cx w0 fp0 S0 w8055 [Bx b7 [(rows_h).v], E (List (List Int)) s8050_0 rows_h, Bx b4 [(.int .i64 p_)], Bx b10 [(also_h).v], E (List (List Int)) s8050_1 also_h]) hF8058
                  refine boolE (z := true) (ltLen hk) ?_
                  refine sq ?_
                  refine sq ?_
                  obtain ⟨r8084, hF8086, hF8085⟩ := bindS hF8058; clear hF8058
                  refine cut (fun (q8087 : Bool) => [(2, (.int .i64 n_)), (5, (.pointer (some ⟨b7, 0, none⟩))), (9, (.int .i64 s6786_3)), (10, (.func (.func 163) #[] #[(.pointer (some ⟨b4, 0, none⟩)), (.pointer (some ⟨b7, 0, none⟩)), (.pointer (some ⟨b10, 0, none⟩))])), (11, (.int .i64 s6786_2)), (13, (.int .i64 ((k7893 : Nat) : Int))), (64, (.int .i64 ((y7890_0.length : Nat) : Int))), (65, (.int .i64 ((k7893 : Nat) : Int))), (80, (.bool q8087))]) (fun (q8087 : Bool) w' => q8087 = r8084 ∧ Cx w0 fp0 S0 w' [Bx b7 [(rows_h).v], E (List (List Int)) s8050_0 rows_h, Bx b4 [(.int .i64 p_)], Bx b10 [(also_h).v], E (List (List Int)) s8050_1 also_h]) ?_ ?_
                  · skip
                    obtain ⟨a8088, e, hF8089⟩ := bindS hF8086; clear hF8086
                    refine boolO e ?_; clear e
                    cases a8088
                    · have hF8090 := condF hF8089; clear hF8089
                      exact ⟨false, ⟨rfl, rfl, rfl, rfl, rfl, rfl, rfl, rfl, rfl, trivial⟩, Option.some.inj hF8090, H.sel [0, 1, 2, 3, 4] rfl⟩
                    · have hF8091 := condT hF8089; clear hF8089
                      refine load1 (H.bx0 0 rfl) ?_
                      obtain ⟨a8098, e, hF8099⟩ := bindS hF8091; clear hF8091
                      replace H := H.sel [1, 0, 2, 3, 4] rfl
                      replace H := H.toEH (α := List Int)
                      have HH := H; clear H; obtain ⟨p8096, m8097, h8100, c8092, c8093, c8094, c8095, H⟩ := HH.peekL e; clear HH
                      clear e
                      refine idxE c8092 c8093 c8094 ?_
                      refine load1 c8095 ?_; clear c8095
                      obtain ⟨a8107, e, hF8108⟩ := bindS hF8099; clear hF8099
                      obtain ⟨p8105, m8106, c8101, c8102, c8103, c8104⟩ := (H.rh (α := List Int) 0 rfl 0 rfl).at1 e; clear e
                      refine idxE c8101 c8102 c8103 ?_; clear c8101 c8102 c8103
                      refine load1 c8104 ?_; clear c8104
                      obtain ⟨a8109, e, hF8110⟩ := bindS hF8108; clear hF8108
                      refine boolO e ?_; clear e
                      replace H := H.ofEH
                      exact ⟨a8109, ⟨rfl, rfl, rfl, rfl, rfl, rfl, rfl, rfl, rfl, trivial⟩, Option.some.inj hF8110, H.sel [1, 0, 2, 3, 4] rfl⟩
                  · clear hF8086 H
                    rintro T8112 s8082 w8111 ⟨hr, (H : Cx w0 fp0 S0 w8111 [Bx b7 [(rows_h).v], E (List (List Int)) s8050_0 rows_h, Bx b4 [(.int .i64 p_)], Bx b10 [(also_h).v], E (List (List Int)) s8050_1 also_h])⟩
                    subst hr
                    cases s8082
                    · have hF8113 := condF hF8085; clear hF8085
                      refine arK hk hmx8052 ?_
                      have hs := Option.some.inj hF8113; subst hs; clear hF8113
                      exact ⟨(), ⟨rfl, rfl, rfl, rfl, rfl, rfl, rfl, trivial⟩, H.sel [0, 1, 2, 3, 4] rfl⟩
                    · have hF8114 := condT hF8085; clear hF8085
                      refine load1 (H.bx0 0 rfl) ?_
                      obtain ⟨a8121, e, hF8122⟩ := bindS hF8114; clear hF8114
                      replace H := H.sel [1, 0, 2, 3, 4] rfl
                      replace H := H.toEH (α := List Int)
                      have HH := H; clear H; obtain ⟨p8119, m8120, h8123, c8115, c8116, c8117, c8118, H⟩ := HH.peekL e; clear HH
                      clear e
                      refine idxE c8115 c8116 c8117 ?_
                      refine load1 c8118 ?_; clear c8118
                      obtain ⟨a8130, e, hF8131⟩ := bindS hF8122; clear hF8122
                      obtain ⟨p8128, m8129, c8124, c8125, c8126, c8127⟩ := (H.rh (α := List Int) 0 rfl 0 rfl).at1 e; clear e
                      refine idxE c8124 c8125 c8126 ?_; clear c8124 c8125 c8126
                      refine load1 c8127 ?_; clear c8127
                      refine build_ (cs := #[(.int .i64 2), (.int .i64 ((k7893 : Nat) : Int)), (.int .i64 s6786_3), (.int .i64 a8130)]) gok rfl rfl rfl ?_
                      replace H := H.ofEH
                      obtain ⟨y8132, e, hF8133⟩ := bindS hF8131; clear hF8131
                      obtain ⟨y8132_0, y8132_1⟩ := y8132
                      have ey8132 := e; clear e
                      replace H := H.sel [2, 1, 0, 3, 4] rfl
                      refine callF (impl_reduction_1_c 2 ((k7893 : Nat) : Int) s6786_3 a8130 b4 p_ b7 s8050_0 rows_h b10 s8050_1 also_h y8132_0 y8132_1 ey8132) (Γi := [Bx b4 [(.int .i64 p_)], Bx b7 [(rows_h).v], E (List (List Int)) s8050_0 rows_h, Bx b10 [(also_h).v], E (List (List Int)) s8050_1 also_h]) H trivial ?_; clear H ey8132
                      rintro _ _ w8134 ⟨rfl, rfl⟩ (H : Cx w0 fp0 S0 w8134 [Bx b4 [(.int .i64 p_)], Bx b7 [(rows_h).v], E (List (List Int)) y8132_0 rows_h, Bx b10 [(also_h).v], E (List (List Int)) y8132_1 also_h])
                      refine arK hk hmx8052 ?_
                      have hs := Option.some.inj hF8133; subst hs; clear hF8133
                      exact ⟨(), ⟨rfl, rfl, rfl, rfl, rfl, rfl, rfl, trivial⟩, H.sel [1, 2, 0, 3, 4] rfl⟩
                · clear H e
                  obtain ⟨s8137_0, s8137_1⟩ := r8053
                  rintro T8136 _ w8135 (H : Cx w0 fp0 S0 w8135 [Bx b7 [(rows_h).v], E (List (List Int)) s8137_0 rows_h, Bx b4 [(.int .i64 p_)], Bx b10 [(also_h).v], E (List (List Int)) s8137_1 also_h])
                  refine boolE (z := false) geLen ?_
                  refine sq ?_
                  obtain ⟨a8139, e, hF8140⟩ := bindS hF8054; clear hF8054
                  refine arO e ?_; clear e
                  exact ⟨(s8137_0, s8137_1, a8139), ⟨rfl, rfl, rfl, rfl, rfl, trivial⟩, Option.some.inj hF8140, H.sel [0, 1, 2, 3, 4] rfl⟩
              · have hF8141 := condT hF7868; clear hF7868
                exact ⟨(s6786_0, s6786_1, s6786_3), ⟨rfl, rfl, rfl, rfl, rfl, trivial⟩, Option.some.inj hF8141, H.sel [0, 1, 2, 3, 4] rfl⟩
          · clear hF7481 H
            rintro T8143 ⟨s7477_0, s7477_1, s7477_2⟩ w8142 ⟨hr, (H : Cx w0 fp0 S0 w8142 [Bx b7 [(rows_h).v], E (List (List Int)) s7477_0 rows_h, Bx b4 [(.int .i64 p_)], Bx b10 [(also_h).v], E (List (List Int)) s7477_1 also_h])⟩
            subst hr
            obtain ⟨a8144, e, hF8145⟩ := bindS hF7480; clear hF7480
            refine arO e ?_; clear e
            have hs := Option.some.inj hF8145; subst hs; clear hF8145
            exact ⟨(s7477_0, s7477_1, a8144, s7477_2), (), rfl, ⟨rfl, rfl, rfl, rfl, rfl, trivial⟩, H.sel [0, 1, 2, 3, 4] rfl⟩
  · clear hF4080 H
    rintro T8147 ⟨s4076_0, s4076_1, s4076_2⟩ w8146 ⟨hr, (H : Cx w0 fp0 S0 w8146 [E (List (List Int)) s4076_0 rows_h, E (List (List Int)) s4076_1 also_h])⟩
    subst hr
    cases hF4079
    exact ⟨_, _, rfl, ⟨rfl, rfl⟩, (H.sel [0, 1] rfl).close ⟨cloE, cloE, trivial⟩⟩

theorem impl_reduced_c (p_ : Int) (rows_ : List (List Int)) (rows_h : Hd) (n_ : Int) (y : List (List Int)) (hF : F_impl_reduced p_ rows_ n_ = some y) :
    ConF Tryd.prog 100 #[(.int .i64 p_), (rows_h).v, (.int .i64 n_)] [Es (List (List Int)) rows_ rows_h] [] (fun v Γ' => ∃ z0 : Hd, v = (z0).v ∧ Γ' = [E (List (List Int)) y z0]) := by
  intro w0 S0 fp0 hI hS
  have H : Cx w0 fp0 S0 w0 [Es (List (List Int)) rows_ rows_h] := Cx.start hI hS
  clear hI hS
  refine enterC (args := [_, _, _]) gok Tryd.func100 rfl _ rfl rfl rfl ?_
  obtain ⟨y2, e, hF3⟩ := bindS hF; clear hF
  have ey2 := e; clear e
  refine callF (impl_clones_c rows_ rows_h y2 ey2) (Γi := []) H ⟨Vw.sh 0 rfl, trivial⟩ ?_; clear H ey2
  rintro _ _ w4 ⟨h5, rfl, rfl⟩ (H : Cx w0 fp0 S0 w4 [E (List (List Int)) y2 h5, Es (List (List Int)) rows_ rows_h])
  refine lenE (H.ro (α := List (List Int)) 0 rfl).len ?_
  obtain ⟨a7, e, hF8⟩ := bindS hF3; clear hF3
  refine make_ (α := List Int) gok rfl rfl rfl rfl (makeCO_of e) H ?_; clear e H; intro h10 w9 hx H
  clear hx
  obtain ⟨y12, e, hF13⟩ := bindS hF8; clear hF8
  obtain ⟨y12_0, y12_1, y12_2⟩ := y12
  have ey12 := e; clear e
  replace H := H.sel [1, 0, 2] rfl
  refine callF (impl_reduction_c p_ y2 h5 n_ a7 h10 y12_0 y12_1 y12_2 ey12) (Γi := [E (List (List Int)) y2 h5, E (List (List Int)) a7 h10]) H trivial ?_; clear H ey12
  rintro _ _ w14 ⟨rfl, rfl⟩ (H : Cx w0 fp0 S0 w14 [E (List (List Int)) y12_0 h5, E (List (List Int)) y12_1 h10, Es (List (List Int)) rows_ rows_h])
  obtain ⟨a15, e, hF16⟩ := bindS hF13; clear hF13
  refine slO3 (α := List Int) gok rfl rfl H e ?_; clear e H; intro h17 H
  cases hF16
  exact ⟨_, _, rfl, ⟨h17, rfl, rfl⟩, (H.sel [0] rfl).close ⟨cloE, trivial⟩⟩

theorem impl_zeros_c (n_ : Int) (y : List Int) (hF : F_impl_zeros n_ = some y) :
    ConF Tryd.prog 148 #[(.int .i64 n_)] [] [] (fun v Γ' => ∃ z0 : Hd, v = (z0).v ∧ Γ' = [E (List Int) y z0]) := by
  intro w0 S0 fp0 hI hS
  have H : Cx w0 fp0 S0 w0 [] := Cx.start hI hS
  clear hI hS
  refine enterC (args := [_]) gok Tryd.func148 rfl _ rfl rfl rfl ?_
  obtain ⟨a1, e, hF2⟩ := bindS hF; clear hF
  refine make_ (α := Int) gok rfl rfl rfl rfl (makeCO_of e) H ?_; clear e H; intro h4 w3 hx H
  clear hx
  cases hF2
  exact ⟨_, _, rfl, ⟨h4, rfl, rfl⟩, (H.sel [0] rfl).close ⟨cloE, trivial⟩⟩

theorem impl_combine_c (p_ : Int) (x_ : List Int) (x_h : Hd) (rows_ : List (List Int)) (rows_h : Hd) (n_ : Int) (y : List Int) (hF : F_impl_combine p_ x_ rows_ n_ = some y) :
    ConF Tryd.prog 175 #[(.int .i64 p_), (x_h).v, (rows_h).v, (.int .i64 n_)] [Es (List Int) x_ x_h, Es (List (List Int)) rows_ rows_h] [] (fun v Γ' => ∃ z0 : Hd, v = (z0).v ∧ Γ' = [E (List Int) y z0]) := by
  intro w0 S0 fp0 hI hS
  have H : Cx w0 fp0 S0 w0 [Es (List Int) x_ x_h, Es (List (List Int)) rows_ rows_h] := Cx.start hI hS
  clear hI hS
  refine enterC (args := [_, _, _, _]) gok Tryd.func175 rfl _ rfl rfl rfl ?_
  obtain ⟨y3, e, hF4⟩ := bindS hF; clear hF
  have ey3 := e; clear e
  refine callF (impl_zeros_c n_ y3 ey3) (Γi := []) H trivial ?_; clear H ey3
  rintro _ _ w5 ⟨h6, rfl, rfl⟩ (H : Cx w0 fp0 S0 w5 [E (List Int) y3 h6, Es (List Int) x_ x_h, Es (List (List Int)) rows_ rows_h])
  refine sq ?_
  refine lenE (H.rs (α := List (List Int)) 2 rfl).len ?_
  have hmx57 := (H.rs (α := List (List Int)) 2 rfl).max
  obtain ⟨r58, e, hF59⟩ := bindS hF4; clear hF4
  refine loopS _ rows_.length (fun (k8 : Nat) (s55 : List Int) (_ : Unit) => [(0, (.int .i64 p_)), (1, (x_h).v), (9, (h6).v), (14, (rows_h).v), (15, (.int .i64 ((rows_.length : Nat) : Int))), (16, (.int .i64 ((k8 : Nat) : Int)))]) (fun _ (s55 : List Int) (_ : Unit) w' => Cx w0 fp0 S0 w' [Es (List Int) x_ x_h, E (List Int) s55 h6, Es (List (List Int)) rows_ rows_h]) y3 () e ⟨rfl, rfl, rfl, rfl, rfl, rfl, trivial⟩ (H.sel [1, 0, 2] rfl) ?_ ?_
  · clear H e
    rintro T61 k8 s55 _ w60 o62 hk (H : Cx w0 fp0 S0 w60 [Es (List Int) x_ x_h, E (List Int) s55 h6, Es (List (List Int)) rows_ rows_h]) hF63
    refine boolE (z := true) (ltLen hk) ?_
    refine sq ?_
    refine sq ?_
    obtain ⟨a70, e, hF71⟩ := bindS hF63; clear hF63
    have HH := H; clear H; obtain ⟨p68, m69, h72, c64, c65, c66, c67, H⟩ := HH.elL 2 rfl e; clear HH
    clear e
    refine idxE c64 c65 c66 ?_; clear c64 c65 c66
    refine load1 c67 ?_; clear c67
    obtain ⟨a80, e, hF81⟩ := bindS hF71; clear hF71
    obtain ⟨p78, m79, c74, c75, c76, c77⟩ := (H.rs (α := List Int) 1 rfl).at1 e; clear e
    refine idxE c74 c75 c76 ?_; clear c74 c75 c76
    refine load1 c77 ?_; clear c77
    obtain ⟨y82, e, hF83⟩ := bindS hF81; clear hF81
    have ey82 := e; clear e
    replace H := H.sel [2, 0, 1, 3] rfl
    refine callF (impl_addTimes_c p_ s55 h6 a80 a70 h72 y82 ey82) (Γi := [E (List Int) s55 h6]) H ⟨Vw.sh 0 rfl, trivial⟩ ?_; clear H ey82
    rintro _ _ w84 ⟨rfl, rfl⟩ (H : Cx w0 fp0 S0 w84 [E (List Int) y82 h6, Es (List Int) a70 h72, Es (List Int) x_ x_h, Es (List (List Int)) rows_ rows_h])
    refine arK hk hmx57 ?_
    have hs := Option.some.inj hF83; subst hs; clear hF83
    exact ⟨(), ⟨rfl, rfl, rfl, rfl, rfl, rfl, trivial⟩, H.sel [2, 0, 3] rfl⟩
  · clear H e
    rintro T86 _ w85 (H : Cx w0 fp0 S0 w85 [Es (List Int) x_ x_h, E (List Int) r58 h6, Es (List (List Int)) rows_ rows_h])
    refine boolE (z := false) geLen ?_
    refine sq ?_
    cases hF59
    exact ⟨_, _, rfl, ⟨h6, rfl, rfl⟩, (H.sel [1] rfl).close ⟨cloE, trivial⟩⟩

theorem impl_product_c (p_ : Int) (rows_ : List (List Int)) (rows_h : Hd) (m_ : List (List Int)) (m_h : Hd) (n_ : Int) (y : List (List Int)) (hF : F_impl_product p_ rows_ m_ n_ = some y) :
    ConF Tryd.prog 139 #[(.int .i64 p_), (rows_h).v, (m_h).v, (.int .i64 n_)] [Es (List (List Int)) rows_ rows_h, Es (List (List Int)) m_ m_h] [] (fun v Γ' => ∃ z0 : Hd, v = (z0).v ∧ Γ' = [E (List (List Int)) y z0]) := by
  intro w0 S0 fp0 hI hS
  have H : Cx w0 fp0 S0 w0 [Es (List (List Int)) rows_ rows_h, Es (List (List Int)) m_ m_h] := Cx.start hI hS
  clear hI hS
  refine enterC (args := [_, _, _, _]) gok Tryd.func139 rfl _ rfl rfl rfl ?_
  refine lit0 (α := List Int) gok rfl rfl H ?_; clear H; intro h4 w3 hx H
  clear hx
  refine sq ?_
  refine lenE (H.rs (α := List (List Int)) 1 rfl).len ?_
  have hmx61 := (H.rs (α := List (List Int)) 1 rfl).max
  obtain ⟨r62, e, hF63⟩ := bindS hF; clear hF
  refine loopS _ rows_.length (fun (k6 : Nat) (s58 : List (List Int)) (g59 : Hd) => [(0, (.int .i64 p_)), (2, (m_h).v), (3, (.int .i64 n_)), (9, (g59).v), (13, (rows_h).v), (14, (.int .i64 ((rows_.length : Nat) : Int))), (15, (.int .i64 ((k6 : Nat) : Int)))]) (fun _ (s58 : List (List Int)) (g59 : Hd) w' => Cx w0 fp0 S0 w' [Es (List (List Int)) m_ m_h, E (List (List Int)) s58 g59, Es (List (List Int)) rows_ rows_h]) ([] : List (List Int)) h4 e ⟨rfl, rfl, rfl, rfl, rfl, rfl, rfl, trivial⟩ (H.sel [2, 0, 1] rfl) ?_ ?_
  · clear H e
    rintro T65 k6 s58 g59 w64 o66 hk (H : Cx w0 fp0 S0 w64 [Es (List (List Int)) m_ m_h, E (List (List Int)) s58 g59, Es (List (List Int)) rows_ rows_h]) hF67
    refine boolE (z := true) (ltLen hk) ?_
    refine sq ?_
    refine sq ?_
    obtain ⟨a74, e, hF75⟩ := bindS hF67; clear hF67
    have HH := H; clear H; obtain ⟨p72, m73, h76, c68, c69, c70, c71, H⟩ := HH.elL 2 rfl e; clear HH
    clear e
    refine idxE c68 c69 c70 ?_; clear c68 c69 c70
    refine load1 c71 ?_; clear c71
    obtain ⟨y78, e, hF79⟩ := bindS hF75; clear hF75
    have ey78 := e; clear e
    refine callF (impl_combine_c p_ a74 h76 m_ m_h n_ y78 ey78) (Γi := []) H ⟨Vw.sh 0 rfl, Vw.sh 1 rfl, trivial⟩ ?_; clear H ey78
    rintro _ _ w80 ⟨h81, rfl, rfl⟩ (H : Cx w0 fp0 S0 w80 [E (List Int) y78 h81, Es (List Int) a74 h76, Es (List (List Int)) m_ m_h, E (List (List Int)) s58 g59, Es (List (List Int)) rows_ rows_h])
    refine lit1 (α := List Int) (g := h81) gok rfl rfl rfl rfl rfl H ?_; clear H; intro h84 w83 hx H
    clear hx
    obtain ⟨a86, e, hF87⟩ := bindS hF79; clear hF79
    replace H := H.sel [3, 0, 1, 2, 4] rfl
    refine append_ (α := List Int) gok rfl rfl rfl rfl H e ?_; clear e H; intro h89 w88 H
    refine arK hk hmx61 ?_
    have hs := Option.some.inj hF87; subst hs; clear hF87
    exact ⟨h89, ⟨rfl, rfl, rfl, rfl, rfl, rfl, rfl, trivial⟩, H.sel [2, 0, 3] rfl⟩
  · clear H e
    rintro T92 g94 w91 (H : Cx w0 fp0 S0 w91 [Es (List (List Int)) m_ m_h, E (List (List Int)) r62 g94, Es (List (List Int)) rows_ rows_h])
    refine boolE (z := false) geLen ?_
    refine sq ?_
    cases hF63
    exact ⟨_, _, rfl, ⟨g94, rfl, rfl⟩, (H.sel [1] rfl).close ⟨cloE, trivial⟩⟩

theorem impl_StateSpace_reachable_c (s__0 : Int) (s__1 : Int) (s__2 : Int) (s__3 : List (List Int)) (s__3h : Hd) (s__4 : List (List Int)) (s__4h : Hd) (s__5 : List (List Int)) (s__5h : Hd) (s__6 : List (List Int)) (s__6h : Hd) (p_ : Int) (y : List (List Int)) (hF : F_impl_StateSpace_reachable (s__0, s__1, s__2, s__3, s__4, s__5, s__6) p_ = some y) :
    ConF Tryd.prog 77 #[(.agg #[(.int .i64 s__0), (.int .i64 s__1), (.int .i64 s__2), (s__3h).v, (s__4h).v, (s__5h).v, (s__6h).v]), (.int .i64 p_)] [Es (List (List Int)) s__3 s__3h, Es (List (List Int)) s__4 s__4h, Es (List (List Int)) s__5 s__5h, Es (List (List Int)) s__6 s__6h] [] (fun v Γ' => ∃ z0 : Hd, v = (z0).v ∧ Γ' = [E (List (List Int)) y z0]) := by
  intro w0 S0 fp0 hI hS
  have H : Cx w0 fp0 S0 w0 [Es (List (List Int)) s__3 s__3h, Es (List (List Int)) s__4 s__4h, Es (List (List Int)) s__5 s__5h, Es (List (List Int)) s__6 s__6h] := Cx.start hI hS
  clear hI hS
  refine enterC (args := [_, _]) gok Tryd.func77 rfl _ rfl rfl rfl ?_
  refine box_ H ?_; clear H; intro b6 w5 hx H
  clear hx
  replace H : Cx w0 fp0 S0 w5 [Bx b6 [(.int .i64 s__0), (.int .i64 s__1), (.int .i64 s__2), (s__3h).v, (s__4h).v, (s__5h).v, (s__6h).v], Es (List (List Int)) s__3 s__3h, Es (List (List Int)) s__4 s__4h, Es (List (List Int)) s__5 s__5h, Es (List (List Int)) s__6 s__6h] := H
  refine fld gok rfl rfl rfl rfl ?_
  refine load1 (H.bx 0 rfl (j := 4) rfl) ?_
  refine fld gok rfl rfl rfl rfl ?_
  refine load1 (H.bx 0 rfl (j := 0) rfl) ?_
  obtain ⟨y8, e, hF9⟩ := bindS hF; clear hF
  have ey8 := e; clear e
  refine callF (impl_reduced_c p_ s__4 s__4h s__0 y8 ey8) (Γi := []) H ⟨Vw.sh 2 rfl, trivial⟩ ?_; clear H ey8
  rintro _ _ w10 ⟨h11, rfl, rfl⟩ (H : Cx w0 fp0 S0 w10 [E (List (List Int)) y8 h11, Bx b6 [(.int .i64 s__0), (.int .i64 s__1), (.int .i64 s__2), (s__3h).v, (s__4h).v, (s__5h).v, (s__6h).v], Es (List (List Int)) s__3 s__3h, Es (List (List Int)) s__4 s__4h, Es (List (List Int)) s__5 s__5h, Es (List (List Int)) s__6 s__6h])
  refine sq ?_
  refine fld gok rfl rfl rfl rfl ?_
  refine load1 (H.bx 1 rfl (j := 0) rfl) ?_
  obtain ⟨a64, hn, hF65⟩ := bindS hF9; clear hF9
  obtain ⟨r67, e, hF68⟩ := bindS hF65; clear hF65
  refine loopS _ s__0.toNat (fun (k13 : Nat) (s61 : List (List Int)) (g62 : Hd) => [(1, (.int .i64 p_)), (2, (.pointer (some ⟨b6, 0, none⟩))), (5, (g62).v), (13, (.int .i64 s__0)), (14, (.int .i64 ((k13 : Nat) : Int)))]) (fun _ (s61 : List (List Int)) (g62 : Hd) w' => Cx w0 fp0 S0 w' [Bx b6 [(.int .i64 s__0), (.int .i64 s__1), (.int .i64 s__2), (s__3h).v, (s__4h).v, (s__5h).v, (s__6h).v], Es (List (List Int)) s__3 s__3h, Es (List (List Int)) s__4 s__4h, Es (List (List Int)) s__5 s__5h, Es (List (List Int)) s__6 s__6h, E (List (List Int)) s61 g62]) y8 h11 e ⟨rfl, rfl, rfl, rfl, rfl, trivial⟩ (H.sel [1, 2, 3, 4, 5, 0] rfl) ?_ ?_
  · clear H e
    rintro T70 k13 s61 g62 w69 o71 hk (H : Cx w0 fp0 S0 w69 [Bx b6 [(.int .i64 s__0), (.int .i64 s__1), (.int .i64 s__2), (s__3h).v, (s__4h).v, (s__5h).v, (s__6h).v], Es (List (List Int)) s__3 s__3h, Es (List (List Int)) s__4 s__4h, Es (List (List Int)) s__5 s__5h, Es (List (List Int)) s__6 s__6h, E (List (List Int)) s61 g62]) hF72
    refine boolE (z := true) (ltNat hk) ?_
    refine sq ?_
    refine sq ?_
    refine heldX H [10, 13, 14, 0, 11, 12] (.pure 0 (.pure 11 (.pure 12 (.fst 1 (.fst 3 (.fst 4 (.fst 5 (.fst 7 (.fst 6 (.fst 8 (.act 2 (.act 9 (.act 10 (.act 13 (.act 14 .done))))))))))))))) mixed [((Addr.add ⟨b6, 0, none⟩ 0), (.int .i64 s__0))] ⟨H.bx 0 rfl (j := 0) rfl, trivial⟩ (by kernel_rfl) ?_
    clear H; intro w73 H
    have hX : Ext w73 w73 := Upd.refl _ _
    have H0 := H
    refine anyH (fun _ => fld gok rfl rfl rfl rfl ⟨rfl, rfl⟩) ?_
    refine load1W 0 rfl ?_
    refine anyH (fun _ => fld gok rfl rfl rfl rfl ⟨rfl, rfl⟩) ?_
    refine anyH (fun _ => fld gok rfl rfl rfl rfl ⟨rfl, rfl⟩) ?_
    refine load1X (H.bx 0 rfl (j := 3) rfl) ?_
    refine load1X (H.bx 0 rfl (j := 0) rfl) ?_
    obtain ⟨y74, e, hF75⟩ := bindS hF72; clear hF72
    have ey74 := e; clear e
    refine callFx (impl_clones_c s61 g62 y74 ey74) H ⟨Vw.own 5 rfl, trivial⟩ ?_; clear H ey74
    rintro _ _ w76 ⟨h77, rfl, rfl⟩ hx (H : Cx w0 fp0 S0 w76 [E (List (List Int)) y74 h77, Bx b6 [(.int .i64 s__0), (.int .i64 s__1), (.int .i64 s__2), (s__3h).v, (s__4h).v, (s__5h).v, (s__6h).v], Es (List (List Int)) s__3 s__3h, Es (List (List Int)) s__4 s__4h, Es (List (List Int)) s__5 s__5h, Es (List (List Int)) s__6 s__6h, E (List (List Int)) s61 g62])
    replace hX := hX.trans0 hx; clear hx
    refine hold hX ?_
    obtain ⟨y79, e, hF80⟩ := bindS hF75; clear hF75
    have ey79 := e; clear e
    refine callFx (impl_product_c p_ s61 g62 s__3 s__3h s__0 y79 ey79) H ⟨Vw.own 6 rfl, Vw.sh 2 rfl, trivial⟩ ?_; clear H ey79
    rintro _ _ w81 ⟨h82, rfl, rfl⟩ hx (H : Cx w0 fp0 S0 w81 [E (List (List Int)) y79 h82, E (List (List Int)) y74 h77, Bx b6 [(.int .i64 s__0), (.int .i64 s__1), (.int .i64 s__2), (s__3h).v, (s__4h).v, (s__5h).v, (s__6h).v], Es (List (List Int)) s__3 s__3h, Es (List (List Int)) s__4 s__4h, Es (List (List Int)) s__5 s__5h, Es (List (List Int)) s__6 s__6h, E (List (List Int)) s61 g62])
    replace hX := hX.trans0 hx; clear hx
    refine hold hX ?_
    obtain ⟨a84, e, hF85⟩ := bindS hF80; clear hF80
    replace H := H.sel [1, 0, 2, 3, 4, 5, 6, 7] rfl
    refine append_ (α := List Int) gok rfl rfl rfl rfl H e ?_; clear e H; intro h87 w86 H
    refine hold ⟨H.bx 1 rfl (j := 0) rfl, trivial⟩ ?_
    obtain ⟨y89, e, hF90⟩ := bindS hF85; clear hF85
    have ey89 := e; clear e
    refine callF (impl_reduced_c p_ a84 h87 s__0 y89 ey89) (Γi := []) H ⟨Vw.own 0 rfl, trivial⟩ ?_; clear H ey89
    rintro _ _ w91 ⟨h92, rfl, rfl⟩ (H : Cx w0 fp0 S0 w91 [E (List (List Int)) y89 h92, E (List (List Int)) a84 h87, Bx b6 [(.int .i64 s__0), (.int .i64 s__1), (.int .i64 s__2), (s__3h).v, (s__4h).v, (s__5h).v, (s__6h).v], Es (List (List Int)) s__3 s__3h, Es (List (List Int)) s__4 s__4h, Es (List (List Int)) s__5 s__5h, Es (List (List Int)) s__6 s__6h, E (List (List Int)) s61 g62])
    refine hold ⟨H.bx 2 rfl (j := 0) rfl, trivial⟩ ?_
    refine hold ⟨H.bx 2 rfl (j := 0) rfl, trivial⟩ ?_
    refine arK hk (maxI hn) ?_
    have hs := Option.some.inj hF90; subst hs; clear hF90
    exact ⟨h92, ⟨rfl, rfl, rfl, rfl, rfl, trivial⟩, H.sel [2, 3, 4, 5, 6, 0] rfl⟩
  · clear H e
    rintro T95 g97 w94 (H : Cx w0 fp0 S0 w94 [Bx b6 [(.int .i64 s__0), (.int .i64 s__1), (.int .i64 s__2), (s__3h).v, (s__4h).v, (s__5h).v, (s__6h).v], Es (List (List Int)) s__3 s__3h, Es (List (List Int)) s__4 s__4h, Es (List (List Int)) s__5 s__5h, Es (List (List Int)) s__6 s__6h, E (List (List Int)) r67 g97])
    refine boolE (z := false) geNat ?_
    refine sq ?_
    cases hF68
    exact ⟨_, _, rfl, ⟨g97, rfl, rfl⟩, (H.sel [5] rfl).close ⟨cloE, trivial⟩⟩

theorem impl_lead_c (v_ : List Int) (v_h : Hd) (y : Int) (hF : F_impl_lead v_ = some y) :
    ConF Tryd.prog 183 #[(v_h).v] [Es (List Int) v_ v_h] [] (fun v Γ' => v = (.int .i64 y) ∧ Γ' = []) := by
  intro w0 S0 fp0 hI hS
  have H : Cx w0 fp0 S0 w0 [Es (List Int) v_ v_h] := Cx.start hI hS
  clear hI hS
  refine enterC (args := [_]) gok Tryd.func183 rfl _ rfl rfl rfl ?_
  refine sq ?_
  refine lenE (H.rs (α := List Int) 0 rfl).len ?_
  have hmx19 := (H.rs (α := List Int) 0 rfl).max
  obtain ⟨r20, e, hF21⟩ := bindS hF; clear hF
  refine loopO _ v_.length (fun (k2 : Nat) (_ : Unit) (_ : Unit) => [(0, (v_h).v), (5, (v_h).v), (6, (.int .i64 ((v_.length : Nat) : Int))), (7, (.int .i64 ((k2 : Nat) : Int)))]) (fun _ (_ : Unit) (_ : Unit) w' => Cx w0 fp0 S0 w' [Es (List Int) v_ v_h]) () () e ⟨rfl, rfl, rfl, rfl, trivial⟩ (H.sel [0] rfl) ?_ ?_
  · clear H e
    rintro T23 k2 _ _ w22 o24 hk (H : Cx w0 fp0 S0 w22 [Es (List Int) v_ v_h]) hrt hF25
    refine boolE (z := true) (ltLen hk) ?_
    refine sq ?_
    refine sq ?_
    obtain ⟨a32, e, hF33⟩ := bindS hF25; clear hF25
    obtain ⟨p30, m31, c26, c27, c28, c29⟩ := (H.rs (α := List Int) 0 rfl).at1 e; clear e
    refine idxE c26 c27 c28 ?_; clear c26 c27 c28
    refine load1 c29 ?_; clear c29
    obtain ⟨a34, e, hF35⟩ := bindS hF33; clear hF33
    refine boolO e ?_; clear e
    cases a34
    · have hF36 := condF hF35; clear hF35
      refine arK hk hmx19 ?_
      have hs := Option.some.inj hF36; subst hs; clear hF36
      exact ⟨(), (), rfl, ⟨rfl, rfl, rfl, rfl, trivial⟩, H.sel [0] rfl⟩
    · have hF37 := condT hF35; clear hF35
      have hs := Option.some.inj hF37; subst hs; clear hF37
      have hr := hrt _ rfl; subst hr
      have hF38 : some _ = some _ := hF21
      cases hF38
      exact ⟨_, _, rfl, ⟨rfl, rfl⟩, (H.sel [] rfl).close trivial⟩
  · clear H e
    rintro T40 _ _ w39 hr (H : Cx w0 fp0 S0 w39 [Es (List Int) v_ v_h])
    subst hr
    refine boolE (z := false) geLen ?_
    refine sq ?_
    refine lenE (H.rs (α := List Int) 0 rfl).len ?_
    cases hF21
    exact ⟨_, _, rfl, ⟨rfl, rfl⟩, (H.sel [] rfl).close trivial⟩

theorem impl_isZero_c (v_ : List Int) (v_h : Hd) (y : Bool) (hF : F_impl_isZero v_ = some y) :
    ConF Tryd.prog 200 #[(v_h).v] [Es (List Int) v_ v_h] [] (fun v Γ' => v = (.bool y) ∧ Γ' = []) := by
  intro w0 S0 fp0 hI hS
  have H : Cx w0 fp0 S0 w0 [Es (List Int) v_ v_h] := Cx.start hI hS
  clear hI hS
  refine enterC (args := [_]) gok Tryd.func200 rfl _ rfl rfl rfl ?_
  obtain ⟨y2, e, hF3⟩ := bindS hF; clear hF
  have ey2 := e; clear e
  refine callF (impl_lead_c v_ v_h y2 ey2) (Γi := []) H ⟨Vw.sh 0 rfl, trivial⟩ ?_; clear H ey2
  rintro _ _ w4 ⟨rfl, rfl⟩ (H : Cx w0 fp0 S0 w4 [Es (List Int) v_ v_h])
  refine lenE (H.rs (α := List Int) 0 rfl).len ?_
  obtain ⟨a5, e, hF6⟩ := bindS hF3; clear hF3
  refine boolO e ?_; clear e
  cases hF6
  exact ⟨_, _, rfl, ⟨rfl, rfl⟩, (H.sel [] rfl).close trivial⟩

theorem impl_coordinates_c (p_ : Int) (basis_ : List (List Int)) (basis_h : Hd) (v_ : List Int) (v_h : Hd) (y0 : List Int) (y1 : Bool) (hF : F_impl_coordinates p_ basis_ v_ = some (y0, y1)) :
    ConF Tryd.prog 191 #[(.int .i64 p_), (basis_h).v, (v_h).v] [Es (List (List Int)) basis_ basis_h, Es (List Int) v_ v_h] [] (fun v Γ' => ∃ z0 : Hd, v = (.tuple #[(z0).v, (.bool y1)]) ∧ Γ' = [E (List Int) y0 z0]) := by
  intro w0 S0 fp0 hI hS
  have H : Cx w0 fp0 S0 w0 [Es (List (List Int)) basis_ basis_h, Es (List Int) v_ v_h] := Cx.start hI hS
  clear hI hS
  refine enterC (args := [_, _, _]) gok Tryd.func191 rfl _ rfl rfl rfl ?_
  obtain ⟨y3, e, hF4⟩ := bindS hF; clear hF
  have ey3 := e; clear e
  refine callF (impl_clone_c v_ v_h y3 ey3) (Γi := []) H ⟨Vw.sh 1 rfl, trivial⟩ ?_; clear H ey3
  rintro _ _ w5 ⟨h6, rfl, rfl⟩ (H : Cx w0 fp0 S0 w5 [E (List Int) y3 h6, Es (List (List Int)) basis_ basis_h, Es (List Int) v_ v_h])
  refine lit0 (α := Int) gok rfl rfl H ?_; clear H; intro h9 w8 hx H
  clear hx
  refine sq ?_
  refine lenE (H.rs (α := List (List Int)) 2 rfl).len ?_
  have hmx88 := (H.rs (α := List (List Int)) 2 rfl).max
  obtain ⟨r89, e, hF90⟩ := bindS hF4; clear hF4
  refine loopS _ basis_.length (fun (k11 : Nat) (s85 : List Int × List Int) (g86 : Hd) => [(0, (.int .i64 p_)), (8, (h6).v), (9, (g86).v), (16, (basis_h).v), (17, (.int .i64 ((basis_.length : Nat) : Int))), (18, (.int .i64 ((k11 : Nat) : Int)))]) (fun _ (s85 : List Int × List Int) (g86 : Hd) w' => Cx w0 fp0 S0 w' [E (List Int) s85.1 h6, E (List Int) s85.2 g86, Es (List (List Int)) basis_ basis_h]) (y3, ([] : List Int)) h9 e ⟨rfl, rfl, rfl, rfl, rfl, rfl, trivial⟩ (H.sel [1, 0, 2] rfl) ?_ ?_
  · clear H e
    rintro T92 k11 ⟨s85_0, s85_1⟩ g86 w91 o93 hk (H : Cx w0 fp0 S0 w91 [E (List Int) s85_0 h6, E (List Int) s85_1 g86, Es (List (List Int)) basis_ basis_h]) hF94
    refine boolE (z := true) (ltLen hk) ?_
    refine sq ?_
    refine sq ?_
    obtain ⟨a101, e, hF102⟩ := bindS hF94; clear hF94
    have HH := H; clear H; obtain ⟨p99, m100, h103, c95, c96, c97, c98, H⟩ := HH.elL 2 rfl e; clear HH
    clear e
    refine idxE c95 c96 c97 ?_; clear c95 c96 c97
    refine load1 c98 ?_; clear c98
    obtain ⟨y105, e, hF106⟩ := bindS hF102; clear hF102
    have ey105 := e; clear e
    refine callF (impl_lead_c a101 h103 y105 ey105) (Γi := []) H ⟨Vw.sh 0 rfl, trivial⟩ ?_; clear H ey105
    rintro _ _ w107 ⟨rfl, rfl⟩ (H : Cx w0 fp0 S0 w107 [Es (List Int) a101 h103, E (List Int) s85_0 h6, E (List Int) s85_1 g86, Es (List (List Int)) basis_ basis_h])
    obtain ⟨a114, e, hF115⟩ := bindS hF106; clear hF106
    obtain ⟨p112, m113, c108, c109, c110, c111⟩ := (H.ro (α := List Int) 1 rfl).at1 e; clear e
    refine idxE c108 c109 c110 ?_; clear c108 c109 c110
    refine load1 c111 ?_; clear c111
    refine lit1S (α := Int) gok rfl rfl rfl rfl H ?_; clear H; intro h117 w116 hx H
    clear hx
    obtain ⟨a119, e, hF120⟩ := bindS hF115; clear hF115
    replace H := H.sel [3, 0, 1, 2, 4] rfl
    refine append_ (α := Int) gok rfl rfl rfl rfl H e ?_; clear e H; intro h122 w121 H
    obtain ⟨a124, e, hF125⟩ := bindS hF120; clear hF120
    refine arO e ?_; clear e
    obtain ⟨y126, e, hF127⟩ := bindS hF125; clear hF125
    have ey126 := e; clear e
    replace H := H.sel [2, 0, 1, 3] rfl
    refine callF (impl_addTimes_c p_ s85_0 h6 a124 a101 h103 y126 ey126) (Γi := [E (List Int) s85_0 h6]) H ⟨Vw.sh 1 rfl, trivial⟩ ?_; clear H ey126
    rintro _ _ w128 ⟨rfl, rfl⟩ (H : Cx w0 fp0 S0 w128 [E (List Int) y126 h6, E (List Int) a119 h122, Es (List Int) a101 h103, Es (List (List Int)) basis_ basis_h])
    refine arK hk hmx88 ?_
    have hs := Option.some.inj hF127; subst hs; clear hF127
    exact ⟨h122, ⟨rfl, rfl, rfl, rfl, rfl, rfl, trivial⟩, H.sel [0, 1, 3] rfl⟩
  · clear H e
    obtain ⟨s131_0, s131_1⟩ := r89
    rintro T130 g132 w129 (H : Cx w0 fp0 S0 w129 [E (List Int) s131_0 h6, E (List Int) s131_1 g132, Es (List (List Int)) basis_ basis_h])
    refine boolE (z := false) geLen ?_
    refine sq ?_
    obtain ⟨y134, e, hF135⟩ := bindS hF90; clear hF90
    have ey134 := e; clear e
    refine callF (impl_isZero_c s131_0 h6 y134 ey134) (Γi := []) H ⟨Vw.own 0 rfl, trivial⟩ ?_; clear H ey134
    rintro _ _ w136 ⟨rfl, rfl⟩ (H : Cx w0 fp0 S0 w136 [E (List Int) s131_0 h6, E (List Int) s131_1 g132, Es (List (List Int)) basis_ basis_h])
    cases hF135
    exact ⟨_, _, rfl, ⟨g132, rfl, rfl⟩, (H.sel [1] rfl).close ⟨cloE, trivial⟩⟩

theorem impl_allCoordinates_c (p_ : Int) (basis_ : List (List Int)) (basis_h : Hd) (rows_ : List (List Int)) (rows_h : Hd) (y : List (List Int)) (hF : F_impl_allCoordinates p_ basis_ rows_ = some y) :
    ConF Tryd.prog 182 #[(.int .i64 p_), (basis_h).v, (rows_h).v] [Es (List (List Int)) basis_ basis_h, Es (List (List Int)) rows_ rows_h] [] (fun v Γ' => ∃ z0 : Hd, v = (z0).v ∧ Γ' = [E (List (List Int)) y z0]) := by
  intro w0 S0 fp0 hI hS
  have H : Cx w0 fp0 S0 w0 [Es (List (List Int)) basis_ basis_h, Es (List (List Int)) rows_ rows_h] := Cx.start hI hS
  clear hI hS
  refine enterC (args := [_, _, _]) gok Tryd.func182 rfl _ rfl rfl rfl ?_
  refine lit0 (α := List Int) gok rfl rfl H ?_; clear H; intro h4 w3 hx H
  clear hx
  refine sq ?_
  refine lenE (H.rs (α := List (List Int)) 2 rfl).len ?_
  have hmx61 := (H.rs (α := List (List Int)) 2 rfl).max
  obtain ⟨r62, e, hF63⟩ := bindS hF; clear hF
  refine loopS _ rows_.length (fun (k6 : Nat) (s58 : List (List Int)) (g59 : Hd) => [(0, (.int .i64 p_)), (1, (basis_h).v), (7, (g59).v), (13, (rows_h).v), (14, (.int .i64 ((rows_.length : Nat) : Int))), (15, (.int .i64 ((k6 : Nat) : Int)))]) (fun _ (s58 : List (List Int)) (g59 : Hd) w' => Cx w0 fp0 S0 w' [Es (List (List Int)) basis_ basis_h, E (List (List Int)) s58 g59, Es (List (List Int)) rows_ rows_h]) ([] : List (List Int)) h4 e ⟨rfl, rfl, rfl, rfl, rfl, rfl, trivial⟩ (H.sel [1, 0, 2] rfl) ?_ ?_
  · clear H e
    rintro T65 k6 s58 g59 w64 o66 hk (H : Cx w0 fp0 S0 w64 [Es (List (List Int)) basis_ basis_h, E (List (List Int)) s58 g59, Es (List (List Int)) rows_ rows_h]) hF67
    refine boolE (z := true) (ltLen hk) ?_
    refine sq ?_
    refine sq ?_
    obtain ⟨a74, e, hF75⟩ := bindS hF67; clear hF67
    have HH := H; clear H; obtain ⟨p72, m73, h76, c68, c69, c70, c71, H⟩ := HH.elL 2 rfl e; clear HH
    clear e
    refine idxE c68 c69 c70 ?_; clear c68 c69 c70
    refine load1 c71 ?_; clear c71
    obtain ⟨y78, e, hF79⟩ := bindS hF75; clear hF75
    obtain ⟨y78_0, y78_1⟩ := y78
    have ey78 := e; clear e
    refine callF (impl_coordinates_c p_ basis_ basis_h a74 h76 y78_0 y78_1 ey78) (Γi := []) H ⟨Vw.sh 1 rfl, Vw.sh 0 rfl, trivial⟩ ?_; clear H ey78
    rintro _ _ w80 ⟨h81, rfl, rfl⟩ (H : Cx w0 fp0 S0 w80 [E (List Int) y78_0 h81, Es (List Int) a74 h76, Es (List (List Int)) basis_ basis_h, E (List (List Int)) s58 g59, Es (List (List Int)) rows_ rows_h])
    refine lit1 (α := List Int) (g := h81) gok rfl rfl rfl rfl rfl H ?_; clear H; intro h84 w83 hx H
    clear hx
    obtain ⟨a86, e, hF87⟩ := bindS hF79; clear hF79
    replace H := H.sel [3, 0, 1, 2, 4] rfl
    refine append_ (α := List Int) gok rfl rfl rfl rfl H e ?_; clear e H; intro h89 w88 H
    refine arK hk hmx61 ?_
    have hs := Option.some.inj hF87; subst hs; clear hF87
    exact ⟨h89, ⟨rfl, rfl, rfl, rfl, rfl, rfl, trivial⟩, H.sel [2, 0, 3] rfl⟩
  · clear H e
    rintro T92 g94 w91 (H : Cx w0 fp0 S0 w91 [Es (List (List Int)) basis_ basis_h, E (List (List Int)) r62 g94, Es (List (List Int)) rows_ rows_h])
    refine boolE (z := false) geLen ?_
    refine sq ?_
    cases hF63
    exact ⟨_, _, rfl, ⟨g94, rfl, rfl⟩, (H.sel [1] rfl).close ⟨cloE, trivial⟩⟩

theorem impl_StateSpace_withoutUnreachable_c (s__0 : Int) (s__1 : Int) (s__2 : Int) (s__3 : List (List Int)) (s__3h : Hd) (s__4 : List (List Int)) (s__4h : Hd) (s__5 : List (List Int)) (s__5h : Hd) (s__6 : List (List Int)) (s__6h : Hd) (p_ : Int) (y_0 : Int) (y_1 : Int) (y_2 : Int) (y_3 : List (List Int)) (y_4 : List (List Int)) (y_5 : List (List Int)) (y_6 : List (List Int)) (hF : F_impl_StateSpace_withoutUnreachable (s__0, s__1, s__2, s__3, s__4, s__5, s__6) p_ = some (y_0, y_1, y_2, y_3, y_4, y_5, y_6)) :
    ConF Tryd.prog 161 #[(.agg #[(.int .i64 s__0), (.int .i64 s__1), (.int .i64 s__2), (s__3h).v, (s__4h).v, (s__5h).v, (s__6h).v]), (.int .i64 p_)] [Es (List (List Int)) s__3 s__3h, Es (List (List Int)) s__4 s__4h, Es (List (List Int)) s__5 s__5h, Es (List (List Int)) s__6 s__6h] [] (fun v Γ' => ∃ z0 z1 z2 z3 : Hd, v = (.agg #[(.int .i64 y_0), (.int .i64 y_1), (.int .i64 y_2), (z0).v, (z1).v, (z2).v, (z3).v]) ∧ Γ' = [E (List (List Int)) y_3 z0, E (List (List Int)) y_4 z1, E (List (List Int)) y_5 z2, E (List (List Int)) y_6 z3]) := by
  intro w0 S0 fp0 hI hS
  have H : Cx w0 fp0 S0 w0 [Es (List (List Int)) s__3 s__3h, Es (List (List Int)) s__4 s__4h, Es (List (List Int)) s__5 s__5h, Es (List (List Int)) s__6 s__6h] := Cx.start hI hS
  clear hI hS
  refine enterC (args := [_, _]) gok Tryd.func161 rfl _ rfl rfl rfl ?_
  refine box_ H ?_; clear H; intro b6 w5 hx H
  clear hx
  replace H : Cx w0 fp0 S0 w5 [Bx b6 [(.int .i64 s__0), (.int .i64 s__1), (.int .i64 s__2), (s__3h).v, (s__4h).v, (s__5h).v, (s__6h).v], Es (List (List Int)) s__3 s__3h, Es (List (List Int)) s__4 s__4h, Es (List (List Int)) s__5 s__5h, Es (List (List Int)) s__6 s__6h] := H
  refine alloc_ gok rfl H ?_; clear H; intro b9 w8 hx H
  clear hx
  replace H : Cx w0 fp0 S0 w8 [Bx b9 [(.int .i64 0), (.int .i64 0), (.int .i64 0), (.slice none 0 0), (.slice none 0 0), (.slice none 0 0), (.slice none 0 0)], Bx b6 [(.int .i64 s__0), (.int .i64 s__1), (.int .i64 s__2), (s__3h).v, (s__4h).v, (s__5h).v, (s__6h).v], Es (List (List Int)) s__3 s__3h, Es (List (List Int)) s__4 s__4h, Es (List (List Int)) s__5 s__5h, Es (List (List Int)) s__6 s__6h] := H
  refine loadN [(.int .i64 s__0), (.int .i64 s__1), (.int .i64 s__2), (s__3h).v, (s__4h).v, (s__5h).v, (s__6h).v] rfl (fun j u hj => H.bx 1 rfl hj) ?_
  obtain ⟨y11, e, hF12⟩ := bindS hF; clear hF
  have ey11 := e; clear e
  refine callF (impl_StateSpace_reachable_c s__0 s__1 s__2 s__3 s__3h s__4 s__4h s__5 s__5h s__6 s__6h p_ y11 ey11) (Γi := []) H ⟨Vw.sh 2 rfl, Vw.sh 3 rfl, Vw.sh 4 rfl, Vw.sh 5 rfl, trivial⟩ ?_; clear H ey11
  rintro _ _ w13 ⟨h14, rfl, rfl⟩ (H : Cx w0 fp0 S0 w13 [E (List (List Int)) y11 h14, Bx b9 [(.int .i64 0), (.int .i64 0), (.int .i64 0), (.slice none 0 0), (.slice none 0 0), (.slice none 0 0), (.slice none 0 0)], Bx b6 [(.int .i64 s__0), (.int .i64 s__1), (.int .i64 s__2), (s__3h).v, (s__4h).v, (s__5h).v, (s__6h).v], Es (List (List Int)) s__3 s__3h, Es (List (List Int)) s__4 s__4h, Es (List (List Int)) s__5 s__5h, Es (List (List Int)) s__6 s__6h])
  obtain ⟨r49, hF51, hF50⟩ := bindS hF12; clear hF12
  refine heldJ H [11] (.fst 0 (.fst 1 (.fst 2 (.fst 4 (.fst 6 (.fst 3 (.fst 5 (.fst 7 (.alts (.alt 8 (.fst 9 (.act 10 (.act 11 .done))) (.alt 10 (.act 8 (.fst 9 (.act 11 .done))) .no))))))))))) mixed [] trivial (by kernel_rfl) (fun (q52 : (Int × Int × Int × List (List Int)) × (Hd × Nat)) => [(1, (.int .i64 p_)), (2, (.pointer (some ⟨b6, 0, none⟩))), (4, (.pointer (some ⟨b9, 0, none⟩))), (5, (h14).v), (6, (.pointer (some ⟨q52.2.2, 0, none⟩)))]) (fun (q52 : (Int × Int × Int × List (List Int)) × (Hd × Nat)) w' => (q52.1.1, q52.1.2.1, q52.1.2.2.1, q52.1.2.2.2) = r49 ∧ Cx w0 fp0 S0 w' [Bx b6 [(.int .i64 s__0), (.int .i64 s__1), (.int .i64 s__2), (s__3h).v, (s__4h).v, (s__5h).v, (s__6h).v], Es (List (List Int)) s__3 s__3h, Es (List (List Int)) s__4 s__4h, Es (List (List Int)) s__5 s__5h, Es (List (List Int)) s__6 s__6h, Bx b9 [(.int .i64 0), (.int .i64 0), (.int .i64 0), (.slice none 0 0), (.slice none 0 0), (.slice none 0 0), (.slice none 0 0)], E (List (List Int)) y11 h14, Bx q52.2.2 [(.int .i64 q52.1.1), (.int .i64 q52.1.2.1), (.int .i64 q52.1.2.2.1), (.slice none 0 0), (.slice none 0 0), (.slice none 0 0), (q52.2.1).v], E (List (List Int)) q52.1.2.2.2 q52.2.1]) ?_ ?_
  · skip
    clear H; intro w53 H
    have hX : Ext w53 w53 := Upd.refl _ _
    have H0 := H
    refine lenE (H.ro (α := List (List Int)) 0 rfl).len ?_
    refine anyH (fun _ => fld gok rfl rfl rfl rfl ⟨rfl, rfl⟩) ?_
    refine anyH (fun _ => fld gok rfl rfl rfl rfl ⟨rfl, rfl⟩) ?_
    refine anyH (fun _ => fld gok rfl rfl rfl rfl ⟨rfl, rfl⟩) ?_
    refine load1X (H.bx 2 rfl (j := 1) rfl) ?_
    refine load1X (H.bx 2 rfl (j := 2) rfl) ?_
    refine load1X (H.bx 2 rfl (j := 6) rfl) ?_
    refine both ?_ ?_
    · skip
      obtain ⟨y63, e, hF64⟩ := bindS hF51; clear hF51
      have ey63 := e; clear e
      refine callFx (impl_clones_c s__6 s__6h y63 ey63) H ⟨Vw.sh 6 rfl, trivial⟩ ?_; clear H ey63
      rintro _ _ w65 ⟨h66, rfl, rfl⟩ hx (H : Cx w0 fp0 S0 w65 [E (List (List Int)) y63 h66, E (List (List Int)) y11 h14, Bx b9 [(.int .i64 0), (.int .i64 0), (.int .i64 0), (.slice none 0 0), (.slice none 0 0), (.slice none 0 0), (.slice none 0 0)], Bx b6 [(.int .i64 s__0), (.int .i64 s__1), (.int .i64 s__2), (s__3h).v, (s__4h).v, (s__5h).v, (s__6h).v], Es (List (List Int)) s__3 s__3h, Es (List (List Int)) s__4 s__4h, Es (List (List Int)) s__5 s__5h, Es (List (List Int)) s__6 s__6h])
      replace hX := hX.trans0 hx; clear hx
      refine hold hX ?_
      refine anyH (fun _ => build_ (cs := #[(.int .i64 ((y11.length : Nat) : Int)), (.int .i64 s__1), (.int .i64 s__2), (.slice none 0 0), (.slice none 0 0), (.slice none 0 0), (h66).v]) gok rfl rfl rfl ⟨rfl, rfl⟩) ?_
      refine alloc_ gok rfl H ?_; clear H; intro b69 w68 hx H
      replace hX := hX.trans0 hx; clear hx
      replace H : Cx w0 fp0 S0 w68 [Bx b69 [(.int .i64 0), (.int .i64 0), (.int .i64 0), (.slice none 0 0), (.slice none 0 0), (.slice none 0 0), (.slice none 0 0)], E (List (List Int)) y63 h66, E (List (List Int)) y11 h14, Bx b9 [(.int .i64 0), (.int .i64 0), (.int .i64 0), (.slice none 0 0), (.slice none 0 0), (.slice none 0 0), (.slice none 0 0)], Bx b6 [(.int .i64 s__0), (.int .i64 s__1), (.int .i64 s__2), (s__3h).v, (s__4h).v, (s__5h).v, (s__6h).v], Es (List (List Int)) s__3 s__3h, Es (List (List Int)) s__4 s__4h, Es (List (List Int)) s__5 s__5h, Es (List (List Int)) s__6 s__6h] := H
      refine hold hX ?_
      refine stA gok [(.int .i64 ((y11.length : Nat) : Int)), (.int .i64 s__1), (.int .i64 s__2), (.slice none 0 0), (.slice none 0 0), (.slice none 0 0), (h66).v] rfl H rfl rfl rfl ?_; clear H; intro w71 H
      replace H : Cx w0 fp0 S0 w71 [Bx b69 [(.int .i64 ((y11.length : Nat) : Int)), (.int .i64 s__1), (.int .i64 s__2), (.slice none 0 0), (.slice none 0 0), (.slice none 0 0), (h66).v], E (List (List Int)) y63 h66, E (List (List Int)) y11 h14, Bx b9 [(.int .i64 0), (.int .i64 0), (.int .i64 0), (.slice none 0 0), (.slice none 0 0), (.slice none 0 0), (.slice none 0 0)], Bx b6 [(.int .i64 s__0), (.int .i64 s__1), (.int .i64 s__2), (s__3h).v, (s__4h).v, (s__5h).v, (s__6h).v], Es (List (List Int)) s__3 s__3h, Es (List (List Int)) s__4 s__4h, Es (List (List Int)) s__5 s__5h, Es (List (List Int)) s__6 s__6h] := H
      refine hold trivial ?_
      exact ⟨((((y11.length : Nat) : Int), s__1, s__2, y63), (h66, b69)), ⟨rfl, rfl, rfl, rfl, rfl, trivial⟩, Option.some.inj hF64, H.sel [4, 5, 6, 7, 8, 3, 2, 0, 1] rfl⟩
    · skip
      refine both ?_ ?_
      · skip
        obtain ⟨a72, eq73, hF74⟩ := bindS hF51; clear hF51
        refine alloc_ gok rfl H ?_; clear H; intro b76 w75 hx H
        replace hX := hX.trans0 hx; clear hx
        replace H : Cx w0 fp0 S0 w75 [Bx b76 [(.int .i64 0), (.int .i64 0), (.int .i64 0), (.slice none 0 0), (.slice none 0 0), (.slice none 0 0), (.slice none 0 0)], E (List (List Int)) y11 h14, Bx b9 [(.int .i64 0), (.int .i64 0), (.int .i64 0), (.slice none 0 0), (.slice none 0 0), (.slice none 0 0), (.slice none 0 0)], Bx b6 [(.int .i64 s__0), (.int .i64 s__1), (.int .i64 s__2), (s__3h).v, (s__4h).v, (s__5h).v, (s__6h).v], Es (List (List Int)) s__3 s__3h, Es (List (List Int)) s__4 s__4h, Es (List (List Int)) s__5 s__5h, Es (List (List Int)) s__6 s__6h] := H
        refine hold hX ?_
        have e := eq73; clear eq73
        have ea72 := e; clear e
        refine callFx (impl_clones_c s__6 s__6h a72 ea72) H ⟨Vw.sh 7 rfl, trivial⟩ ?_; clear H ea72
        rintro _ _ w78 ⟨h79, rfl, rfl⟩ hx (H : Cx w0 fp0 S0 w78 [E (List (List Int)) a72 h79, Bx b76 [(.int .i64 0), (.int .i64 0), (.int .i64 0), (.slice none 0 0), (.slice none 0 0), (.slice none 0 0), (.slice none 0 0)], E (List (List Int)) y11 h14, Bx b9 [(.int .i64 0), (.int .i64 0), (.int .i64 0), (.slice none 0 0), (.slice none 0 0), (.slice none 0 0), (.slice none 0 0)], Bx b6 [(.int .i64 s__0), (.int .i64 s__1), (.int .i64 s__2), (s__3h).v, (s__4h).v, (s__5h).v, (s__6h).v], Es (List (List Int)) s__3 s__3h, Es (List (List Int)) s__4 s__4h, Es (List (List Int)) s__5 s__5h, Es (List (List Int)) s__6 s__6h])
        replace hX := hX.trans0 hx; clear hx
        refine hold hX ?_
        refine anyH (fun _ => build_ (cs := #[(.int .i64 ((y11.length : Nat) : Int)), (.int .i64 s__1), (.int .i64 s__2), (.slice none 0 0), (.slice none 0 0), (.slice none 0 0), (h79).v]) gok rfl rfl rfl ⟨rfl, rfl⟩) ?_
        replace H := H.sel [1, 0, 2, 3, 4, 5, 6, 7, 8] rfl
        refine stA gok [(.int .i64 ((y11.length : Nat) : Int)), (.int .i64 s__1), (.int .i64 s__2), (.slice none 0 0), (.slice none 0 0), (.slice none 0 0), (h79).v] rfl H rfl rfl rfl ?_; clear H; intro w81 H
        replace H : Cx w0 fp0 S0 w81 [Bx b76 [(.int .i64 ((y11.length : Nat) : Int)), (.int .i64 s__1), (.int .i64 s__2), (.slice none 0 0), (.slice none 0 0), (.slice none 0 0), (h79).v], E (List (List Int)) a72 h79, E (List (List Int)) y11 h14, Bx b9 [(.int .i64 0), (.int .i64 0), (.int .i64 0), (.slice none 0 0), (.slice none 0 0), (.slice none 0 0), (.slice none 0 0)], Bx b6 [(.int .i64 s__0), (.int .i64 s__1), (.int .i64 s__2), (s__3h).v, (s__4h).v, (s__5h).v, (s__6h).v], Es (List (List Int)) s__3 s__3h, Es (List (List Int)) s__4 s__4h, Es (List (List Int)) s__5 s__5h, Es (List (List Int)) s__6 s__6h] := H
        refine hold trivial ?_
        exact ⟨((((y11.length : Nat) : Int), s__1, s__2, a72), (h79, b76)), ⟨rfl, rfl, rfl, rfl, rfl, trivial⟩, Option.some.inj hF74, H.sel [4, 5, 6, 7, 8, 3, 2, 0, 1] rfl⟩
      · skip
        exact trivial
  · clear hF51 H
    rintro T83 ⟨⟨s45_0, s45_1, s45_2, s45_3⟩, ⟨g46_0, g46_1⟩⟩ w82 ⟨hr, (H : Cx w0 fp0 S0 w82 [Bx b6 [(.int .i64 s__0), (.int .i64 s__1), (.int .i64 s__2), (s__3h).v, (s__4h).v, (s__5h).v, (s__6h).v], Es (List (List Int)) s__3 s__3h, Es (List (List Int)) s__4 s__4h, Es (List (List Int)) s__5 s__5h, Es (List (List Int)) s__6 s__6h, Bx b9 [(.int .i64 0), (.int .i64 0), (.int .i64 0), (.slice none 0 0), (.slice none 0 0), (.slice none 0 0), (.slice none 0 0)], E (List (List Int)) y11 h14, Bx g46_1 [(.int .i64 s45_0), (.int .i64 s45_1), (.int .i64 s45_2), (.slice none 0 0), (.slice none 0 0), (.slice none 0 0), (g46_0).v], E (List (List Int)) s45_3 g46_0])⟩
    subst hr
    refine fld gok rfl rfl rfl rfl ?_
    refine load1 (H.bx 0 rfl (j := 3) rfl) ?_
    refine fld gok rfl rfl rfl rfl ?_
    refine load1 (H.bx 0 rfl (j := 0) rfl) ?_
    obtain ⟨y84, e, hF85⟩ := bindS hF50; clear hF50
    have ey84 := e; clear e
    refine callF (impl_product_c p_ y11 h14 s__3 s__3h s__0 y84 ey84) (Γi := []) H ⟨Vw.own 6 rfl, Vw.sh 1 rfl, trivial⟩ ?_; clear H ey84
    rintro _ _ w86 ⟨h87, rfl, rfl⟩ (H : Cx w0 fp0 S0 w86 [E (List (List Int)) y84 h87, Bx b6 [(.int .i64 s__0), (.int .i64 s__1), (.int .i64 s__2), (s__3h).v, (s__4h).v, (s__5h).v, (s__6h).v], Es (List (List Int)) s__3 s__3h, Es (List (List Int)) s__4 s__4h, Es (List (List Int)) s__5 s__5h, Es (List (List Int)) s__6 s__6h, Bx b9 [(.int .i64 0), (.int .i64 0), (.int .i64 0), (.slice none 0 0), (.slice none 0 0), (.slice none 0 0), (.slice none 0 0)], E (List (List Int)) y11 h14, Bx g46_1 [(.int .i64 s45_0), (.int .i64 s45_1), (.int .i64 s45_2), (.slice none 0 0), (.slice none 0 0), (.slice none 0 0), (g46_0).v], E (List (List Int)) s45_3 g46_0])
    obtain ⟨y89, e, hF90⟩ := bindS hF85; clear hF85
    have ey89 := e; clear e
    refine callF (impl_allCoordinates_c p_ y11 h14 y84 h87 y89 ey89) (Γi := []) H ⟨Vw.own 7 rfl, Vw.own 0 rfl, trivial⟩ ?_; clear H ey89
    rintro _ _ w91 ⟨h92, rfl, rfl⟩ (H : Cx w0 fp0 S0 w91 [E (List (List Int)) y89 h92, E (List (List Int)) y84 h87, Bx b6 [(.int .i64 s__0), (.int .i64 s__1), (.int .i64 s__2), (s__3h).v, (s__4h).v, (s__5h).v, (s__6h).v], Es (List (List Int)) s__3 s__3h, Es (List (List Int)) s__4 s__4h, Es (List (List Int)) s__5 s__5h, Es (List (List Int)) s__6 s__6h, Bx b9 [(.int .i64 0), (.int .i64 0), (.int .i64 0), (.slice none 0 0), (.slice none 0 0), (.slice none 0 0), (.slice none 0 0)], E (List (List Int)) y11 h14, Bx g46_1 [(.int .i64 s45_0), (.int .i64 s45_1), (.int .i64 s45_2), (.slice none 0 0), (.slice none 0 0), (.slice none 0 0), (g46_0).v], E (List (List Int)) s45_3 g46_0])
    refine fld gok rfl rfl rfl rfl ?_
    replace H := H.sel [9, 0, 1, 2, 3, 4, 5, 6, 7, 8, 10] rfl
    refine stB (j := 3) H rfl rfl ?_; clear H; intro w94 H
    replace H : Cx w0 fp0 S0 w94 [Bx g46_1 [(.int .i64 s45_0), (.int .i64 s45_1), (.int .i64 s45_2), (h92).v, (.slice none 0 0), (.slice none 0 0), (g46_0).v], E (List (List Int)) y89 h92, E (List (List Int)) y84 h87, Bx b6 [(.int .i64 s__0), (.int .i64 s__1), (.int .i64 s__2), (s__3h).v, (s__4h).v, (s__5h).v, (s__6h).v], Es (List (List Int)) s__3 s__3h, Es (List (List Int)) s__4 s__4h, Es (List (List Int)) s__5 s__5h, Es (List (List Int)) s__6 s__6h, Bx b9 [(.int .i64 0), (.int .i64 0), (.int .i64 0), (.slice none 0 0), (.slice none 0 0), (.slice none 0 0), (.slice none 0 0)], E (List (List Int)) y11 h14, E (List (List Int)) s45_3 g46_0] := H
    refine fld gok rfl rfl rfl rfl ?_
    refine load1 (H.bx 3 rfl (j := 4) rfl) ?_
    obtain ⟨y95, e, hF96⟩ := bindS hF90; clear hF90
    have ey95 := e; clear e
    refine callF (impl_allCoordinates_c p_ y11 h14 s__4 s__4h y95 ey95) (Γi := []) H ⟨Vw.own 9 rfl, Vw.sh 5 rfl, trivial⟩ ?_; clear H ey95
    rintro _ _ w97 ⟨h98, rfl, rfl⟩ (H : Cx w0 fp0 S0 w97 [E (List (List Int)) y95 h98, Bx g46_1 [(.int .i64 s45_0), (.int .i64 s45_1), (.int .i64 s45_2), (h92).v, (.slice none 0 0), (.slice none 0 0), (g46_0).v], E (List (List Int)) y89 h92, E (List (List Int)) y84 h87, Bx b6 [(.int .i64 s__0), (.int .i64 s__1), (.int .i64 s__2), (s__3h).v, (s__4h).v, (s__5h).v, (s__6h).v], Es (List (List Int)) s__3 s__3h, Es (List (List Int)) s__4 s__4h, Es (List (List Int)) s__5 s__5h, Es (List (List Int)) s__6 s__6h, Bx b9 [(.int .i64 0), (.int .i64 0), (.int .i64 0), (.slice none 0 0), (.slice none 0 0), (.slice none 0 0), (.slice none 0 0)], E (List (List Int)) y11 h14, E (List (List Int)) s45_3 g46_0])
    refine fld gok rfl rfl rfl rfl ?_
    replace H := H.sel [1, 0, 2, 3, 4, 5, 6, 7, 8, 9, 10, 11] rfl
    refine stB (j := 4) H rfl rfl ?_; clear H; intro w100 H
    replace H : Cx w0 fp0 S0 w100 [Bx g46_1 [(.int .i64 s45_0), (.int .i64 s45_1), (.int .i64 s45_2), (h92).v, (h98).v, (.slice none 0 0), (g46_0).v], E (List (List Int)) y95 h98, E (List (List Int)) y89 h92, E (List (List Int)) y84 h87, Bx b6 [(.int .i64 s__0), (.int .i64 s__1), (.int .i64 s__2), (s__3h).v, (s__4h).v, (s__5h).v, (s__6h).v], Es (List (List Int)) s__3 s__3h, Es (List (List Int)) s__4 s__4h, Es (List (List Int)) s__5 s__5h, Es (List (List Int)) s__6 s__6h, Bx b9 [(.int .i64 0), (.int .i64 0), (.int .i64 0), (.slice none 0 0), (.slice none 0 0), (.slice none 0 0), (.slice none 0 0)], E (List (List Int)) y11 h14, E (List (List Int)) s45_3 g46_0] := H
    refine fld gok rfl rfl rfl rfl ?_
    refine load1 (H.bx 4 rfl (j := 5) rfl) ?_
    refine fld gok rfl rfl rfl rfl ?_
    refine load1 (H.bx 4 rfl (j := 2) rfl) ?_
    obtain ⟨y101, e, hF102⟩ := bindS hF96; clear hF96
    have ey101 := e; clear e
    refine callF (impl_product_c p_ y11 h14 s__5 s__5h s__2 y101 ey101) (Γi := []) H ⟨Vw.own 10 rfl, Vw.sh 7 rfl, trivial⟩ ?_; clear H ey101
    rintro _ _ w103 ⟨h104, rfl, rfl⟩ (H : Cx w0 fp0 S0 w103 [E (List (List Int)) y101 h104, Bx g46_1 [(.int .i64 s45_0), (.int .i64 s45_1), (.int .i64 s45_2), (h92).v, (h98).v, (.slice none 0 0), (g46_0).v], E (List (List Int)) y95 h98, E (List (List Int)) y89 h92, E (List (List Int)) y84 h87, Bx b6 [(.int .i64 s__0), (.int .i64 s__1), (.int .i64 s__2), (s__3h).v, (s__4h).v, (s__5h).v, (s__6h).v], Es (List (List Int)) s__3 s__3h, Es (List (List Int)) s__4 s__4h, Es (List (List Int)) s__5 s__5h, Es (List (List Int)) s__6 s__6h, Bx b9 [(.int .i64 0), (.int .i64 0), (.int .i64 0), (.slice none 0 0), (.slice none 0 0), (.slice none 0 0), (.slice none 0 0)], E (List (List Int)) y11 h14, E (List (List Int)) s45_3 g46_0])
    refine fld gok rfl rfl rfl rfl ?_
    replace H := H.sel [1, 0, 2, 3, 4, 5, 6, 7, 8, 9, 10, 11, 12] rfl
    refine stB (j := 5) H rfl rfl ?_; clear H; intro w106 H
    replace H : Cx w0 fp0 S0 w106 [Bx g46_1 [(.int .i64 s45_0), (.int .i64 s45_1), (.int .i64 s45_2), (h92).v, (h98).v, (h104).v, (g46_0).v], E (List (List Int)) y101 h104, E (List (List Int)) y95 h98, E (List (List Int)) y89 h92, E (List (List Int)) y84 h87, Bx b6 [(.int .i64 s__0), (.int .i64 s__1), (.int .i64 s__2), (s__3h).v, (s__4h).v, (s__5h).v, (s__6h).v], Es (List (List Int)) s__3 s__3h, Es (List (List Int)) s__4 s__4h, Es (List (List Int)) s__5 s__5h, Es (List (List Int)) s__6 s__6h, Bx b9 [(.int .i64 0), (.int .i64 0), (.int .i64 0), (.slice none 0 0), (.slice none 0 0), (.slice none 0 0), (.slice none 0 0)], E (List (List Int)) y11 h14, E (List (List Int)) s45_3 g46_0] := H
    refine loadN [(.int .i64 s45_0), (.int .i64 s45_1), (.int .i64 s45_2), (h92).v, (h98).v, (h104).v, (g46_0).v] rfl (fun j u hj => H.bx 0 rfl hj) ?_
    replace H := H.sel [10, 0, 1, 2, 3, 4, 5, 6, 7, 8, 9, 11, 12] rfl
    refine stA gok [(.int .i64 s45_0), (.int .i64 s45_1), (.int .i64 s45_2), (h92).v, (h98).v, (h104).v, (g46_0).v] rfl H rfl rfl rfl ?_; clear H; intro w107 H
    replace H : Cx w0 fp0 S0 w107 [Bx b9 [(.int .i64 s45_0), (.int .i64 s45_1), (.int .i64 s45_2), (h92).v, (h98).v, (h104).v, (g46_0).v], Bx g46_1 [(.int .i64 s45_0), (.int .i64 s45_1), (.int .i64 s45_2), (h92).v, (h98).v, (h104).v, (g46_0).v], E (List (List Int)) y101 h104, E (List (List Int)) y95 h98, E (List (List Int)) y89 h92, E (List (List Int)) y84 h87, Bx b6 [(.int .i64 s__0), (.int .i64 s__1), (.int .i64 s__2), (s__3h).v, (s__4h).v, (s__5h).v, (s__6h).v], Es (List (List Int)) s__3 s__3h, Es (List (List Int)) s__4 s__4h, Es (List (List Int)) s__5 s__5h, Es (List (List Int)) s__6 s__6h, E (List (List Int)) y11 h14, E (List (List Int)) s45_3 g46_0] := H
    refine loadN [(.int .i64 s45_0), (.int .i64 s45_1), (.int .i64 s45_2), (h92).v, (h98).v, (h104).v, (g46_0).v] rfl (fun j u hj => H.bx 0 rfl hj) ?_
    cases hF102
    exact ⟨_, _, rfl, ⟨h92, h98, h104, g46_0, rfl, rfl⟩, (H.sel [4, 3, 2, 12] rfl).close ⟨cloE, cloE, cloE, cloE, trivial⟩⟩

theorem impl_unit_c (n_ : Int) (at_ : Int) (y : List Int) (hF : F_impl_unit n_ at_ = some y) :
    ConF Tryd.prog 91 #[(.int .i64 n_), (.int .i64 at_)] [] [] (fun v Γ' => ∃ z0 : Hd, v = (z0).v ∧ Γ' = [E (List Int) y z0]) := by
  intro w0 S0 fp0 hI hS
  have H : Cx w0 fp0 S0 w0 [] := Cx.start hI hS
  clear hI hS
  refine enterC (args := [_, _]) gok Tryd.func91 rfl _ rfl rfl rfl ?_
  obtain ⟨y1, e, hF2⟩ := bindS hF; clear hF
  have ey1 := e; clear e
  refine callF (impl_zeros_c n_ y1 ey1) (Γi := []) H trivial ?_; clear H ey1
  rintro _ _ w3 ⟨h4, rfl, rfl⟩ (H : Cx w0 fp0 S0 w3 [E (List Int) y1 h4])
  obtain ⟨a12, e, hF13⟩ := bindS hF2; clear hF2
  have ea12 := e; clear e
  obtain ⟨p10, m11, c6, c7, c8⟩ := (H.ro (α := List Int) 0 rfl).setp ea12
  refine idxE c6 c7 c8 ?_
  refine setS (α := Int) H c6 c7 ea12 ?_; clear H c6 c7 c8 ea12; intro w14 H
  cases hF13
  exact ⟨_, _, rfl, ⟨h4, rfl, rfl⟩, (H.sel [0] rfl).close ⟨cloE, trivial⟩⟩

theorem impl_identityRows_c (n_ : Int) (y : List (List Int)) (hF : F_impl_identityRows n_ = some y) :
    ConF Tryd.prog 181 #[(.int .i64 n_)] [] [] (fun v Γ' => ∃ z0 : Hd, v = (z0).v ∧ Γ' = [E (List (List Int)) y z0]) := by
  intro w0 S0 fp0 hI hS
  have H : Cx w0 fp0 S0 w0 [] := Cx.start hI hS
  clear hI hS
  refine enterC (args := [_]) gok Tryd.func181 rfl _ rfl rfl rfl ?_
  refine lit0 (α := List Int) gok rfl rfl H ?_; clear H; intro h2 w1 hx H
  clear hx
  refine sq ?_
  obtain ⟨a39, hn, hF40⟩ := bindS hF; clear hF
  obtain ⟨r42, e, hF43⟩ := bindS hF40; clear hF40
  refine loopS _ n_.toNat (fun (k4 : Nat) (s36 : List (List Int)) (g37 : Hd) => [(0, (.int .i64 n_)), (3, (g37).v), (6, (.int .i64 n_)), (7, (.int .i64 ((k4 : Nat) : Int)))]) (fun _ (s36 : List (List Int)) (g37 : Hd) w' => Cx w0 fp0 S0 w' [E (List (List Int)) s36 g37]) ([] : List (List Int)) h2 e ⟨rfl, rfl, rfl, rfl, trivial⟩ (H.sel [0] rfl) ?_ ?_
  · clear H e
    rintro T45 k4 s36 g37 w44 o46 hk (H : Cx w0 fp0 S0 w44 [E (List (List Int)) s36 g37]) hF47
    refine boolE (z := true) (ltNat hk) ?_
    refine sq ?_
    refine sq ?_
    obtain ⟨y48, e, hF49⟩ := bindS hF47; clear hF47
    have ey48 := e; clear e
    refine callF (impl_unit_c n_ ((k4 : Nat) : Int) y48 ey48) (Γi := []) H trivial ?_; clear H ey48
    rintro _ _ w50 ⟨h51, rfl, rfl⟩ (H : Cx w0 fp0 S0 w50 [E (List Int) y48 h51, E (List (List Int)) s36 g37])
    refine lit1 (α := List Int) (g := h51) gok rfl rfl rfl rfl rfl H ?_; clear H; intro h54 w53 hx H
    clear hx
    obtain ⟨a56, e, hF57⟩ := bindS hF49; clear hF49
    replace H := H.sel [1, 0] rfl
    refine append_ (α := List Int) gok rfl rfl rfl rfl H e ?_; clear e H; intro h59 w58 H
    refine arK hk (maxI hn) ?_
    have hs := Option.some.inj hF57; subst hs; clear hF57
    exact ⟨h59, ⟨rfl, rfl, rfl, rfl, trivial⟩, H.sel [0] rfl⟩
  · clear H e
    rintro T62 g64 w61 (H : Cx w0 fp0 S0 w61 [E (List (List Int)) r42 g64])
    refine boolE (z := false) geNat ?_
    refine sq ?_
    cases hF43
    exact ⟨_, _, rfl, ⟨g64, rfl, rfl⟩, (H.sel [0] rfl).close ⟨cloE, trivial⟩⟩

theorem impl_kernel_c (p_ : Int) (rows_ : List (List Int)) (rows_h : Hd) (n_ : Int) (y : List (List Int)) (hF : F_impl_kernel p_ rows_ n_ = some y) :
    ConF Tryd.prog 158 #[(.int .i64 p_), (rows_h).v, (.int .i64 n_)] [Es (List (List Int)) rows_ rows_h] [] (fun v Γ' => ∃ z0 : Hd, v = (z0).v ∧ Γ' = [E (List (List Int)) y z0]) := by
  intro w0 S0 fp0 hI hS
  have H : Cx w0 fp0 S0 w0 [Es (List (List Int)) rows_ rows_h] := Cx.start hI hS
  clear hI hS
  refine enterC (args := [_, _, _]) gok Tryd.func158 rfl _ rfl rfl rfl ?_
  obtain ⟨y2, e, hF3⟩ := bindS hF; clear hF
  have ey2 := e; clear e
  refine callF (impl_clones_c rows_ rows_h y2 ey2) (Γi := []) H ⟨Vw.sh 0 rfl, trivial⟩ ?_; clear H ey2
  rintro _ _ w4 ⟨h5, rfl, rfl⟩ (H : Cx w0 fp0 S0 w4 [E (List (List Int)) y2 h5, Es (List (List Int)) rows_ rows_h])
  refine lenE (H.rs (α := List (List Int)) 1 rfl).len ?_
  obtain ⟨y7, e, hF8⟩ := bindS hF3; clear hF3
  have ey7 := e; clear e
  refine callF (impl_identityRows_c ((rows_.length : Nat) : Int) y7 ey7) (Γi := []) H trivial ?_; clear H ey7
  rintro _ _ w9 ⟨h10, rfl, rfl⟩ (H : Cx w0 fp0 S0 w9 [E (List (List Int)) y7 h10, E (List (List Int)) y2 h5, Es (List (List Int)) rows_ rows_h])
  obtain ⟨y12, e, hF13⟩ := bindS hF8; clear hF8
  obtain ⟨y12_0, y12_1, y12_2⟩ := y12
  have ey12 := e; clear e
  replace H := H.sel [1, 0, 2] rfl
  refine callF (impl_reduction_c p_ y2 h5 n_ y7 h10 y12_0 y12_1 y12_2 ey12) (Γi := [E (List (List Int)) y2 h5, E (List (List Int)) y7 h10]) H trivial ?_; clear H ey12
  rintro _ _ w14 ⟨rfl, rfl⟩ (H : Cx w0 fp0 S0 w14 [E (List (List Int)) y12_0 h5, E (List (List Int)) y12_1 h10, Es (List (List Int)) rows_ rows_h])
  obtain ⟨a15, e, hF16⟩ := bindS hF13; clear hF13
  replace H := H.sel [1, 0, 2] rfl
  replace H := H.frz
  refine slS (α := List Int) (hi := none) gok rfl rfl H 0 rfl e rfl (congrArg (fun n : Nat => some (n : Int)) (H.rs (α := List (List Int)) 0 rfl).len) ?_; clear e H; intro h17 H
  refine lenE (H.rs (α := List (List Int)) 3 rfl).len ?_
  obtain ⟨y19, e, hF20⟩ := bindS hF16; clear hF16
  have ey19 := e; clear e
  refine callF (impl_reduced_c p_ a15 h17 ((rows_.length : Nat) : Int) y19 ey19) (Γi := []) H ⟨Vw.sh 0 rfl, trivial⟩ ?_; clear H ey19
  rintro _ _ w21 ⟨h22, rfl, rfl⟩ (H : Cx w0 fp0 S0 w21 [E (List (List Int)) y19 h22, Es (List (List Int)) a15 h17, Es (List (List Int)) y12_1 h10, E (List (List Int)) y12_0 h5, Es (List (List Int)) rows_ rows_h])
  cases hF20
  exact ⟨_, _, rfl, ⟨h22, rfl, rfl⟩, (H.sel [0] rfl).close ⟨cloE, trivial⟩⟩

theorem impl_StateSpace_hidden_c (s__0 : Int) (s__1 : Int) (s__2 : Int) (s__3 : List (List Int)) (s__3h : Hd) (s__4 : List (List Int)) (s__4h : Hd) (s__5 : List (List Int)) (s__5h : Hd) (s__6 : List (List Int)) (s__6h : Hd) (p_ : Int) (y : List (List Int)) (hF : F_impl_StateSpace_hidden (s__0, s__1, s__2, s__3, s__4, s__5, s__6) p_ = some y) :
    ConF Tryd.prog 115 #[(.agg #[(.int .i64 s__0), (.int .i64 s__1), (.int .i64 s__2), (s__3h).v, (s__4h).v, (s__5h).v, (s__6h).v]), (.int .i64 p_)] [Es (List (List Int)) s__3 s__3h, Es (List (List Int)) s__4 s__4h, Es (List (List Int)) s__5 s__5h, Es (List (List Int)) s__6 s__6h] [] (fun v Γ' => ∃ z0 : Hd, v = (z0).v ∧ Γ' = [E (List (List Int)) y z0]) := by
  intro w0 S0 fp0 hI hS
  have H : Cx w0 fp0 S0 w0 [Es (List (List Int)) s__3 s__3h, Es (List (List Int)) s__4 s__4h, Es (List (List Int)) s__5 s__5h, Es (List (List Int)) s__6 s__6h] := Cx.start hI hS
  clear hI hS
  refine enterC (args := [_, _]) gok Tryd.func115 rfl _ rfl rfl rfl ?_
  refine box_ H ?_; clear H; intro b6 w5 hx H
  clear hx
  replace H : Cx w0 fp0 S0 w5 [Bx b6 [(.int .i64 s__0), (.int .i64 s__1), (.int .i64 s__2), (s__3h).v, (s__4h).v, (s__5h).v, (s__6h).v], Es (List (List Int)) s__3 s__3h, Es (List (List Int)) s__4 s__4h, Es (List (List Int)) s__5 s__5h, Es (List (List Int)) s__6 s__6h] := H
  refine fld gok rfl rfl rfl rfl ?_
  refine load1 (H.bx 0 rfl (j := 0) rfl) ?_
  obtain ⟨a8, e, hF9⟩ := bindS hF; clear hF
  refine make_ (α := List Int) gok rfl rfl rfl rfl (makeCO_of e) H ?_; clear e H; intro h11 w10 hx H
  clear hx
  refine fld gok rfl rfl rfl rfl ?_
  refine load1 (H.bx 1 rfl (j := 5) rfl) ?_
  obtain ⟨y13, e, hF14⟩ := bindS hF9; clear hF9
  have ey13 := e; clear e
  refine callF (impl_clones_c s__5 s__5h y13 ey13) (Γi := []) H ⟨Vw.sh 4 rfl, trivial⟩ ?_; clear H ey13
  rintro _ _ w15 ⟨h16, rfl, rfl⟩ (H : Cx w0 fp0 S0 w15 [E (List (List Int)) y13 h16, E (List (List Int)) a8 h11, Bx b6 [(.int .i64 s__0), (.int .i64 s__1), (.int .i64 s__2), (s__3h).v, (s__4h).v, (s__5h).v, (s__6h).v], Es (List (List Int)) s__3 s__3h, Es (List (List Int)) s__4 s__4h, Es (List (List Int)) s__5 s__5h, Es (List (List Int)) s__6 s__6h])
  refine sq ?_
  refine fld gok rfl rfl rfl rfl ?_
  refine load1 (H.bx 2 rfl (j := 0) rfl) ?_
  replace H := H.frz
  obtain ⟨a450, hn, hF451⟩ := bindS hF14; clear hF14
  obtain ⟨r453, e, hF454⟩ := bindS hF451; clear hF451
  refine loopS _ s__0.toNat (fun (k18 : Nat) (s447 : List (List Int) × List (List Int)) (g448 : Hd) => [(1, (.int .i64 p_)), (2, (.pointer (some ⟨b6, 0, none⟩))), (5, (h11).v), (6, (g448).v), (15, (.int .i64 s__0)), (16, (.int .i64 ((k18 : Nat) : Int)))]) (fun _ (s447 : List (List Int) × List (List Int)) (g448 : Hd) w' => Cx w0 fp0 S0 w' [Bx b6 [(.int .i64 s__0), (.int .i64 s__1), (.int .i64 s__2), (s__3h).v, (s__4h).v, (s__5h).v, (s__6h).v], Es (List (List Int)) s__3 s__3h, Es (List (List Int)) s__4 s__4h, Es (List (List Int)) s__5 s__5h, Es (List (List Int)) s__6 s__6h, E (List (List Int)) s447.1 h11, Es (List (List Int)) s447.2 g448]) (a8, y13) h16 e ⟨rfl, rfl, rfl, rfl, rfl, rfl, trivial⟩ (H.sel [2, 3, 4, 5, 6, 1, 0] rfl) ?_ ?_
  · clear H e
    rintro T456 k18 ⟨s447_0, s447_1⟩ g448 w455 o457 hk (H : Cx w0 fp0 S0 w455 [Bx b6 [(.int .i64 s__0), (.int .i64 s__1), (.int .i64 s__2), (s__3h).v, (s__4h).v, (s__5h).v, (s__6h).v], Es (List (List Int)) s__3 s__3h, Es (List (List Int)) s__4 s__4h, Es (List (List Int)) s__5 s__5h, Es (List (List Int)) s__6 s__6h, E (List (List Int)) s447_0 h11, Es (List (List Int)) s447_1 g448]) hF458
    refine boolE (z := true) (ltNat hk) ?_
    refine sq ?_
    refine sq ?_
    refine sq ?_
    refine lenE (H.ro (α := List (List Int)) 5 rfl).len ?_
    have hmx536 := (H.ro (α := List (List Int)) 5 rfl).max
    obtain ⟨r537, e, hF538⟩ := bindS hF458; clear hF458
    refine loopS _ s447_0.length (fun (k459 : Nat) (s534 : List (List Int)) (_ : Unit) => [(1, (.int .i64 p_)), (2, (.pointer (some ⟨b6, 0, none⟩))), (5, (h11).v), (6, (g448).v), (15, (.int .i64 s__0)), (16, (.int .i64 ((k18 : Nat) : Int))), (19, (.int .i64 ((s447_0.length : Nat) : Int))), (20, (.int .i64 ((k459 : Nat) : Int)))]) (fun _ (s534 : List (List Int)) (_ : Unit) w' => Cx w0 fp0 S0 w' [Bx b6 [(.int .i64 s__0), (.int .i64 s__1), (.int .i64 s__2), (s__3h).v, (s__4h).v, (s__5h).v, (s__6h).v], Es (List (List Int)) s__3 s__3h, Es (List (List Int)) s__4 s__4h, Es (List (List Int)) s__5 s__5h, Es (List (List Int)) s__6 s__6h, E (List (List Int)) s534 h11, Es (List (List Int)) s447_1 g448]) s447_0 () e ⟨rfl, rfl, rfl, rfl, rfl, rfl, rfl, rfl, trivial⟩ (H.sel [0, 1, 2, 3, 4, 5, 6] rfl) ?_ ?_
    · clear H e
      rintro T540 k459 s534 _ w539 o541 hk (H : Cx w0 fp0 S0 w539 [Bx b6 [(.int .i64 s__0), (.int .i64 s__1), (.int .i64 s__2), (s__3h).v, (s__4h).v, (s__5h).v, (s__6h).v], Es (List (List Int)) s__3 s__3h, Es (List (List Int)) s__4 s__4h, Es (List (List Int)) s__5 s__5h, Es (List (List Int)) s__6 s__6h, E (List (List Int)) s534 h11, Es (List (List Int)) s447_1 g448]) hF542
      refine boolE (z := true) (ltLen hk) ?_
      refine sq ?_
      refine sq ?_
      refine heldX H [10, 12, 11, 0, 1] (.pure 0 (.pure 1 (.fst 2 (.fst 3 (.fst 4 (.fst 6 (.fst 7 (.fst 8 (.fst 5 (.fst 9 (.act 10 (.act 11 (.act 12 .done))))))))))))) mixed [] trivial (by kernel_rfl) ?_
      clear H; intro w543 H
      have hX : Ext w543 w543 := Upd.refl _ _
      have H0 := H
      obtain ⟨a550, e, hF551⟩ := bindS hF542; clear hF542
      replace H := H.sel [5, 0, 1, 2, 3, 4, 6] rfl
      replace H := H.toEH (α := List Int)
      have HH := H; clear H; obtain ⟨p548, m549, h552, c544, c545, c546, c547, H⟩ := HH.peekL e; clear HH
      clear e
      refine idxE c544 c545 c546 ?_
      obtain ⟨a559, e, hF560⟩ := bindS hF551; clear hF551
      have HH := H; clear H; obtain ⟨p557, m558, h561, c553, c554, c555, c556, H⟩ := HH.elL 6 rfl e; clear HH
      clear e
      refine idxE c553 c554 c555 ?_; clear c553 c554 c555
      refine load1X c547 ?_; clear c547
      refine load1X c556 ?_; clear c556
      replace H := H.sel [1, 0, 2, 3, 4, 5, 6, 7] rfl
      replace H := H.takeK 0 rfl
      obtain ⟨a564, e, hF565⟩ := bindS hF560; clear hF560
      refine appendS (α := Int) gok rfl rfl rfl rfl H (Vw.sh 1 rfl) e ?_; clear e H; intro h567 w566 H
      refine hold trivial ?_
      refine idxE c544 c545 c546 ?_
      refine hold trivial ?_
      replace H := H.sel [1, 0, 2, 3, 4, 5, 6, 7, 8] rfl
      refine stX0 H c544 rfl rfl ?_; clear H; intro w575 H
      obtain ⟨a576, e, hF577⟩ := bindS hF565; clear hF565
      replace H := H.sel [1, 0, 2, 3, 4, 5, 6, 7, 8] rfl
      replace H := H.put c545 e; clear e
      refine hold trivial ?_
      refine arK hk hmx536 ?_
      have hs := Option.some.inj hF577; subst hs; clear hF577
      exact ⟨(), ⟨rfl, rfl, rfl, rfl, rfl, rfl, rfl, rfl, trivial⟩, H.sel [2, 3, 4, 5, 6, 0, 7] rfl⟩
    · clear H e
      rintro T579 _ w578 (H : Cx w0 fp0 S0 w578 [Bx b6 [(.int .i64 s__0), (.int .i64 s__1), (.int .i64 s__2), (s__3h).v, (s__4h).v, (s__5h).v, (s__6h).v], Es (List (List Int)) s__3 s__3h, Es (List (List Int)) s__4 s__4h, Es (List (List Int)) s__5 s__5h, Es (List (List Int)) s__6 s__6h, E (List (List Int)) r537 h11, Es (List (List Int)) s447_1 g448])
      refine boolE (z := false) geLen ?_
      refine sq ?_
      refine fld gok rfl rfl rfl rfl ?_
      refine load1 (H.bx 0 rfl (j := 3) rfl) ?_
      refine fld gok rfl rfl rfl rfl ?_
      refine load1 (H.bx 0 rfl (j := 2) rfl) ?_
      obtain ⟨y582, e, hF583⟩ := bindS hF538; clear hF538
      have ey582 := e; clear e
      refine callF (impl_product_c p_ s__3 s__3h s447_1 g448 s__2 y582 ey582) (Γi := []) H ⟨Vw.sh 1 rfl, Vw.sh 6 rfl, trivial⟩ ?_; clear H ey582
      rintro _ _ w584 ⟨h585, rfl, rfl⟩ (H : Cx w0 fp0 S0 w584 [E (List (List Int)) y582 h585, Bx b6 [(.int .i64 s__0), (.int .i64 s__1), (.int .i64 s__2), (s__3h).v, (s__4h).v, (s__5h).v, (s__6h).v], Es (List (List Int)) s__3 s__3h, Es (List (List Int)) s__4 s__4h, Es (List (List Int)) s__5 s__5h, Es (List (List Int)) s__6 s__6h, E (List (List Int)) r537 h11, Es (List (List Int)) s447_1 g448])
      refine arK hk (maxI hn) ?_
      replace H := H.frz
      have hs := Option.some.inj hF583; subst hs; clear hF583
      exact ⟨h585, ⟨rfl, rfl, rfl, rfl, rfl, rfl, trivial⟩, H.sel [1, 2, 3, 4, 5, 6, 0] rfl⟩
  · clear H e
    obtain ⟨s589_0, s589_1⟩ := r453
    rintro T588 g590 w587 (H : Cx w0 fp0 S0 w587 [Bx b6 [(.int .i64 s__0), (.int .i64 s__1), (.int .i64 s__2), (s__3h).v, (s__4h).v, (s__5h).v, (s__6h).v], Es (List (List Int)) s__3 s__3h, Es (List (List Int)) s__4 s__4h, Es (List (List Int)) s__5 s__5h, Es (List (List Int)) s__6 s__6h, E (List (List Int)) s589_0 h11, Es (List (List Int)) s589_1 g590])
    refine boolE (z := false) geNat ?_
    refine sq ?_
    refine fld gok rfl rfl rfl rfl ?_
    refine load1 (H.bx 0 rfl (j := 0) rfl) ?_
    refine fld gok rfl rfl rfl rfl ?_
    refine load1 (H.bx 0 rfl (j := 2) rfl) ?_
    obtain ⟨a592, e, hF593⟩ := bindS hF454; clear hF454
    refine arO e ?_; clear e
    obtain ⟨y594, e, hF595⟩ := bindS hF593; clear hF593
    have ey594 := e; clear e
    refine callF (impl_kernel_c p_ s589_0 h11 a592 y594 ey594) (Γi := []) H ⟨Vw.own 5 rfl, trivial⟩ ?_; clear H ey594
    rintro _ _ w596 ⟨h597, rfl, rfl⟩ (H : Cx w0 fp0 S0 w596 [E (List (List Int)) y594 h597, Bx b6 [(.int .i64 s__0), (.int .i64 s__1), (.int .i64 s__2), (s__3h).v, (s__4h).v, (s__5h).v, (s__6h).v], Es (List (List Int)) s__3 s__3h, Es (List (List Int)) s__4 s__4h, Es (List (List Int)) s__5 s__5h, Es (List (List Int)) s__6 s__6h, E (List (List Int)) s589_0 h11, Es (List (List Int)) s589_1 g590])
    cases hF595
    exact ⟨_, _, rfl, ⟨h597, rfl, rfl⟩, (H.sel [0] rfl).close ⟨cloE, trivial⟩⟩

theorem impl_unmarked_c (marks_ : List Bool) (marks_h : Hd) (y : List Int) (hF : F_impl_unmarked marks_ = some y) :
    ConF Tryd.prog 184 #[(marks_h).v] [Es (List Bool) marks_ marks_h] [] (fun v Γ' => ∃ z0 : Hd, v = (z0).v ∧ Γ' = [E (List Int) y z0]) := by
  intro w0 S0 fp0 hI hS
  have H : Cx w0 fp0 S0 w0 [Es (List Bool) marks_ marks_h] := Cx.start hI hS
  clear hI hS
  refine enterC (args := [_]) gok Tryd.func184 rfl _ rfl rfl rfl ?_
  refine lit0 (α := Int) gok rfl rfl H ?_; clear H; intro h3 w2 hx H
  clear hx
  refine sq ?_
  refine lenE (H.rs (α := List Bool) 1 rfl).len ?_
  have hmx54 := (H.rs (α := List Bool) 1 rfl).max
  obtain ⟨r55, e, hF56⟩ := bindS hF; clear hF
  refine loopS _ marks_.length (fun (k5 : Nat) (s51 : List Int) (g52 : Hd) => [(3, (g52).v), (7, (marks_h).v), (8, (.int .i64 ((marks_.length : Nat) : Int))), (9, (.int .i64 ((k5 : Nat) : Int)))]) (fun _ (s51 : List Int) (g52 : Hd) w' => Cx w0 fp0 S0 w' [E (List Int) s51 g52, Es (List Bool) marks_ marks_h]) ([] : List Int) h3 e ⟨rfl, rfl, rfl, rfl, trivial⟩ (H.sel [0, 1] rfl) ?_ ?_
  · clear H e
    rintro T58 k5 s51 g52 w57 o59 hk (H : Cx w0 fp0 S0 w57 [E (List Int) s51 g52, Es (List Bool) marks_ marks_h]) hF60
    refine boolE (z := true) (ltLen hk) ?_
    refine sq ?_
    refine sq ?_
    obtain ⟨a67, e, hF68⟩ := bindS hF60; clear hF60
    obtain ⟨p65, m66, c61, c62, c63, c64⟩ := (H.rs (α := List Bool) 1 rfl).at1 e; clear e
    refine idxE c61 c62 c63 ?_; clear c61 c62 c63
    refine load1 c64 ?_; clear c64
    obtain ⟨a69, e, hF70⟩ := bindS hF68; clear hF68
    refine boolO e ?_; clear e
    cases a69
    · have hF71 := condF hF70; clear hF70
      refine arK hk hmx54 ?_
      have hs := Option.some.inj hF71; subst hs; clear hF71
      exact ⟨g52, ⟨rfl, rfl, rfl, rfl, trivial⟩, H.sel [0, 1] rfl⟩
    · have hF72 := condT hF70; clear hF70
      refine lit1S (α := Int) gok rfl rfl rfl rfl H ?_; clear H; intro h74 w73 hx H
      clear hx
      obtain ⟨a76, e, hF77⟩ := bindS hF72; clear hF72
      replace H := H.sel [1, 0, 2] rfl
      refine append_ (α := Int) gok rfl rfl rfl rfl H e ?_; clear e H; intro h79 w78 H
      refine arK hk hmx54 ?_
      have hs := Option.some.inj hF77; subst hs; clear hF77
      exact ⟨h79, ⟨rfl, rfl, rfl, rfl, trivial⟩, H.sel [0, 1] rfl⟩
  · clear H e
    rintro T82 g84 w81 (H : Cx w0 fp0 S0 w81 [E (List Int) r55 g84, Es (List Bool) marks_ marks_h])
    refine boolE (z := false) geLen ?_
    refine sq ?_
    cases hF56
    exact ⟨_, _, rfl, ⟨g84, rfl, rfl⟩, (H.sel [0] rfl).close ⟨cloE, trivial⟩⟩

theorem impl_chosen_c (v_ : List Int) (v_h : Hd) (at_ : List Int) (at_h : Hd) (y : List Int) (hF : F_impl_chosen v_ at_ = some y) :
    ConF Tryd.prog 154 #[(v_h).v, (at_h).v] [Es (List Int) v_ v_h, Es (List Int) at_ at_h] [] (fun v Γ' => ∃ z0 : Hd, v = (z0).v ∧ Γ' = [E (List Int) y z0]) := by
  intro w0 S0 fp0 hI hS
  have H : Cx w0 fp0 S0 w0 [Es (List Int) v_ v_h, Es (List Int) at_ at_h] := Cx.start hI hS
  clear hI hS
  refine enterC (args := [_, _]) gok Tryd.func154 rfl _ rfl rfl rfl ?_
  refine lenE (H.rs (α := List Int) 1 rfl).len ?_
  obtain ⟨a3, e, hF4⟩ := bindS hF; clear hF
  refine make_ (α := Int) gok rfl rfl rfl rfl e H ?_; clear e H; intro h6 w5 hx H
  clear hx
  refine sq ?_
  refine lenE (H.rs (α := List Int) 2 rfl).len ?_
  have hmx65 := (H.rs (α := List Int) 2 rfl).max
  obtain ⟨r66, e, hF67⟩ := bindS hF4; clear hF4
  refine loopS _ at_.length (fun (k8 : Nat) (s62 : List Int) (g63 : Hd) => [(0, (v_h).v), (5, (g63).v), (11, (at_h).v), (12, (.int .i64 ((at_.length : Nat) : Int))), (13, (.int .i64 ((k8 : Nat) : Int)))]) (fun _ (s62 : List Int) (g63 : Hd) w' => Cx w0 fp0 S0 w' [Es (List Int) v_ v_h, E (List Int) s62 g63, Es (List Int) at_ at_h]) a3 h6 e ⟨rfl, rfl, rfl, rfl, rfl, trivial⟩ (H.sel [1, 0, 2] rfl) ?_ ?_
  · clear H e
    rintro T69 k8 s62 g63 w68 o70 hk (H : Cx w0 fp0 S0 w68 [Es (List Int) v_ v_h, E (List Int) s62 g63, Es (List Int) at_ at_h]) hF71
    refine boolE (z := true) (ltLen hk) ?_
    refine sq ?_
    refine sq ?_
    obtain ⟨a78, e, hF79⟩ := bindS hF71; clear hF71
    obtain ⟨p76, m77, c72, c73, c74, c75⟩ := (H.rs (α := List Int) 2 rfl).at1 e; clear e
    refine idxE c72 c73 c74 ?_; clear c72 c73 c74
    refine load1 c75 ?_; clear c75
    obtain ⟨a86, e, hF87⟩ := bindS hF79; clear hF79
    obtain ⟨p84, m85, c80, c81, c82, c83⟩ := (H.rs (α := List Int) 0 rfl).at1 e; clear e
    refine idxE c80 c81 c82 ?_; clear c80 c81 c82
    refine load1 c83 ?_; clear c83
    refine lit1S (α := Int) gok rfl rfl rfl rfl H ?_; clear H; intro h89 w88 hx H
    clear hx
    obtain ⟨a91, e, hF92⟩ := bindS hF87; clear hF87
    replace H := H.sel [2, 0, 1, 3] rfl
    refine append_ (α := Int) gok rfl rfl rfl rfl H e ?_; clear e H; intro h94 w93 H
    refine arK hk hmx65 ?_
    have hs := Option.some.inj hF92; subst hs; clear hF92
    exact ⟨h94, ⟨rfl, rfl, rfl, rfl, rfl, trivial⟩, H.sel [1, 0, 2] rfl⟩
  · clear H e
    rintro T97 g99 w96 (H : Cx w0 fp0 S0 w96 [Es (List Int) v_ v_h, E (List Int) r66 g99, Es (List Int) at_ at_h])
    refine boolE (z := false) geLen ?_
    refine sq ?_
    cases hF67
    exact ⟨_, _, rfl, ⟨g99, rfl, rfl⟩, (H.sel [1] rfl).close ⟨cloE, trivial⟩⟩

theorem impl_StateSpace_withoutHidden_1_c (rows_ : List (List Int)) (rows_h : Hd) (c0_b : Nat) (c0_ : List (List Int)) (c0_h : Hd) (c1_b : Nat) (c1_ : Int) (c2_b : Nat) (c2_ : List Int) (c2_h : Hd) (y : List (List Int)) (hF : F_impl_StateSpace_withoutHidden_1 rows_ c0_ c1_ c2_ = some y) :
    ConF Tryd.prog 185 #[(rows_h).v, (.pointer (some ⟨c0_b, 0, none⟩)), (.pointer (some ⟨c1_b, 0, none⟩)), (.pointer (some ⟨c2_b, 0, none⟩))] [Es (List (List Int)) rows_ rows_h, Es (List (List Int)) c0_ c0_h, Es (List Int) c2_ c2_h] [Bx c0_b [(c0_h).v], Bx c1_b [(.int .i64 c1_)], Bx c2_b [(c2_h).v]] (fun v Γ' => ∃ z0 : Hd, v = (z0).v ∧ Γ' = [Bx c0_b [(c0_h).v], Bx c1_b [(.int .i64 c1_)], Bx c2_b [(c2_h).v], E (List (List Int)) y z0]) := by
  intro w0 S0 fp0 hI hS
  have H : Cx w0 fp0 S0 w0 [Es (List (List Int)) rows_ rows_h, Es (List (List Int)) c0_ c0_h, Es (List Int) c2_ c2_h, Bx c0_b [(c0_h).v], Bx c1_b [(.int .i64 c1_)], Bx c2_b [(c2_h).v]] := Cx.start hI hS
  clear hI hS
  refine enterC (args := [_, _, _, _]) gok Tryd.func185 rfl _ rfl rfl rfl ?_
  refine lit0 (α := List Int) gok rfl rfl H ?_; clear H; intro h8 w7 hx H
  clear hx
  refine sq ?_
  refine lenE (H.rs (α := List (List Int)) 1 rfl).len ?_
  have hmx273 := (H.rs (α := List (List Int)) 1 rfl).max
  obtain ⟨r274, e, hF275⟩ := bindS hF; clear hF
  refine loopS _ rows_.length (fun (k10 : Nat) (s270 : List (List Int)) (g271 : Hd) => [(1, (.pointer (some ⟨c0_b, 0, none⟩))), (2, (.pointer (some ⟨c1_b, 0, none⟩))), (3, (.pointer (some ⟨c2_b, 0, none⟩))), (6, (g271).v), (13, (rows_h).v), (14, (.int .i64 ((rows_.length : Nat) : Int))), (15, (.int .i64 ((k10 : Nat) : Int)))]) (fun _ (s270 : List (List Int)) (g271 : Hd) w' => Cx w0 fp0 S0 w' [Bx c0_b [(c0_h).v], Es (List (List Int)) c0_ c0_h, Bx c1_b [(.int .i64 c1_)], Bx c2_b [(c2_h).v], Es (List Int) c2_ c2_h, E (List (List Int)) s270 g271, Es (List (List Int)) rows_ rows_h]) ([] : List (List Int)) h8 e ⟨rfl, rfl, rfl, rfl, rfl, rfl, rfl, trivial⟩ (H.sel [4, 2, 5, 6, 3, 0, 1] rfl) ?_ ?_
  · clear H e
    rintro T277 k10 s270 g271 w276 o278 hk (H : Cx w0 fp0 S0 w276 [Bx c0_b [(c0_h).v], Es (List (List Int)) c0_ c0_h, Bx c1_b [(.int .i64 c1_)], Bx c2_b [(c2_h).v], Es (List Int) c2_ c2_h, E (List (List Int)) s270 g271, Es (List (List Int)) rows_ rows_h]) hF279
    refine boolE (z := true) (ltLen hk) ?_
    refine sq ?_
    refine sq ?_
    obtain ⟨a286, e, hF287⟩ := bindS hF279; clear hF279
    have HH := H; clear H; obtain ⟨p284, m285, h288, c280, c281, c282, c283, H⟩ := HH.elL 6 rfl e; clear HH
    clear e
    refine idxE c280 c281 c282 ?_; clear c280 c281 c282
    refine load1 c283 ?_; clear c283
    obtain ⟨y290, e, hF291⟩ := bindS hF287; clear hF287
    have ey290 := e; clear e
    refine callF (impl_clone_c a286 h288 y290 ey290) (Γi := []) H ⟨Vw.sh 0 rfl, trivial⟩ ?_; clear H ey290
    rintro _ _ w292 ⟨h293, rfl, rfl⟩ (H : Cx w0 fp0 S0 w292 [E (List Int) y290 h293, Es (List Int) a286 h288, Bx c0_b [(c0_h).v], Es (List (List Int)) c0_ c0_h, Bx c1_b [(.int .i64 c1_)], Bx c2_b [(c2_h).v], Es (List Int) c2_ c2_h, E (List (List Int)) s270 g271, Es (List (List Int)) rows_ rows_h])
    refine sq ?_
    refine load1 (H.bx0 2 rfl) ?_
    refine lenE (H.rs (α := List (List Int)) 3 rfl).len ?_
    have hmx356 := (H.rs (α := List (List Int)) 3 rfl).max
    obtain ⟨r357, e, hF358⟩ := bindS hF291; clear hF291
    refine loopS _ c0_.length (fun (k295 : Nat) (s354 : List Int) (_ : Unit) => [(1, (.pointer (some ⟨c0_b, 0, none⟩))), (2, (.pointer (some ⟨c1_b, 0, none⟩))), (3, (.pointer (some ⟨c2_b, 0, none⟩))), (6, (g271).v), (9, (h293).v), (13, (rows_h).v), (14, (.int .i64 ((rows_.length : Nat) : Int))), (15, (.int .i64 ((k10 : Nat) : Int))), (21, (c0_h).v), (22, (.int .i64 ((c0_.length : Nat) : Int))), (23, (.int .i64 ((k295 : Nat) : Int)))]) (fun _ (s354 : List Int) (_ : Unit) w' => Cx w0 fp0 S0 w' [Bx c0_b [(c0_h).v], Es (List (List Int)) c0_ c0_h, Bx c1_b [(.int .i64 c1_)], Bx c2_b [(c2_h).v], Es (List Int) c2_ c2_h, E (List (List Int)) s270 g271, E (List Int) s354 h293, Es (List (List Int)) rows_ rows_h]) y290 () e ⟨rfl, rfl, rfl, rfl, rfl, rfl, rfl, rfl, rfl, rfl, rfl, trivial⟩ (H.sel [2, 3, 4, 5, 6, 7, 0, 8] rfl) ?_ ?_
    · clear H e
      rintro T360 k295 s354 _ w359 o361 hk (H : Cx w0 fp0 S0 w359 [Bx c0_b [(c0_h).v], Es (List (List Int)) c0_ c0_h, Bx c1_b [(.int .i64 c1_)], Bx c2_b [(c2_h).v], Es (List Int) c2_ c2_h, E (List (List Int)) s270 g271, E (List Int) s354 h293, Es (List (List Int)) rows_ rows_h]) hF362
      refine boolE (z := true) (ltLen hk) ?_
      refine sq ?_
      refine sq ?_
      obtain ⟨a369, e, hF370⟩ := bindS hF362; clear hF362
      have HH := H; clear H; obtain ⟨p367, m368, h371, c363, c364, c365, c366, H⟩ := HH.elL 1 rfl e; clear HH
      clear e
      refine idxE c363 c364 c365 ?_; clear c363 c364 c365
      refine load1 c366 ?_; clear c366
      refine heldX H [9] (.fst 1 (.fst 2 (.fst 3 (.fst 8 (.fst 0 (.act 4 (.fst 5 (.fst 6 (.fst 7 (.act 9 .done)))))))))) mixed [] trivial (by kernel_rfl) ?_
      clear H; intro w373 H
      have hX : Ext w373 w373 := Upd.refl _ _
      have H0 := H
      refine load1X (H.bx0 3 rfl) ?_
      obtain ⟨y374, e, hF375⟩ := bindS hF370; clear hF370
      have ey374 := e; clear e
      refine callFx (impl_lead_c a369 h371 y374 ey374) H ⟨Vw.sh 0 rfl, trivial⟩ ?_; clear H ey374
      rintro _ _ w376 ⟨rfl, rfl⟩ hx (H : Cx w0 fp0 S0 w376 [Es (List Int) a369 h371, Bx c0_b [(c0_h).v], Es (List (List Int)) c0_ c0_h, Bx c1_b [(.int .i64 c1_)], Bx c2_b [(c2_h).v], Es (List Int) c2_ c2_h, E (List (List Int)) s270 g271, E (List Int) s354 h293, Es (List (List Int)) rows_ rows_h])
      replace hX := hX.trans0 hx; clear hx
      refine hold hX ?_
      obtain ⟨a383, e, hF384⟩ := bindS hF375; clear hF375
      obtain ⟨p381, m382, c377, c378, c379, c380⟩ := (H0.ro (α := List Int) 7 rfl).at1 e; clear e
      refine idxE c377 c378 c379 ?_; clear c377 c378 c379
      refine load1X c380 ?_; clear c380
      obtain ⟨a385, e, hF386⟩ := bindS hF384; clear hF384
      refine arO e ?_; clear e
      obtain ⟨y387, e, hF388⟩ := bindS hF386; clear hF386
      have ey387 := e; clear e
      replace H := H.sel [7, 0, 1, 2, 3, 4, 5, 6, 8] rfl
      refine callF (impl_addTimes_c c1_ s354 h293 a385 a369 h371 y387 ey387) (Γi := [E (List Int) s354 h293]) H ⟨Vw.sh 0 rfl, trivial⟩ ?_; clear H ey387
      rintro _ _ w389 ⟨rfl, rfl⟩ (H : Cx w0 fp0 S0 w389 [E (List Int) y387 h293, Es (List Int) a369 h371, Bx c0_b [(c0_h).v], Es (List (List Int)) c0_ c0_h, Bx c1_b [(.int .i64 c1_)], Bx c2_b [(c2_h).v], Es (List Int) c2_ c2_h, E (List (List Int)) s270 g271, Es (List (List Int)) rows_ rows_h])
      refine hold trivial ?_
      refine arK hk hmx356 ?_
      have hs := Option.some.inj hF388; subst hs; clear hF388
      exact ⟨(), ⟨rfl, rfl, rfl, rfl, rfl, rfl, rfl, rfl, rfl, rfl, rfl, trivial⟩, H.sel [2, 3, 4, 5, 6, 7, 0, 8] rfl⟩
    · clear H e
      rintro T391 _ w390 (H : Cx w0 fp0 S0 w390 [Bx c0_b [(c0_h).v], Es (List (List Int)) c0_ c0_h, Bx c1_b [(.int .i64 c1_)], Bx c2_b [(c2_h).v], Es (List Int) c2_ c2_h, E (List (List Int)) s270 g271, E (List Int) r357 h293, Es (List (List Int)) rows_ rows_h])
      refine boolE (z := false) geLen ?_
      refine sq ?_
      refine load1 (H.bx0 3 rfl) ?_
      obtain ⟨y394, e, hF395⟩ := bindS hF358; clear hF358
      have ey394 := e; clear e
      refine callF (impl_chosen_c r357 h293 c2_ c2_h y394 ey394) (Γi := []) H ⟨Vw.own 6 rfl, Vw.sh 4 rfl, trivial⟩ ?_; clear H ey394
      rintro _ _ w396 ⟨h397, rfl, rfl⟩ (H : Cx w0 fp0 S0 w396 [E (List Int) y394 h397, Bx c0_b [(c0_h).v], Es (List (List Int)) c0_ c0_h, Bx c1_b [(.int .i64 c1_)], Bx c2_b [(c2_h).v], Es (List Int) c2_ c2_h, E (List (List Int)) s270 g271, E (List Int) r357 h293, Es (List (List Int)) rows_ rows_h])
      refine lit1 (α := List Int) (g := h397) gok rfl rfl rfl rfl rfl H ?_; clear H; intro h400 w399 hx H
      clear hx
      obtain ⟨a402, e, hF403⟩ := bindS hF395; clear hF395
      replace H := H.sel [6, 0, 1, 2, 3, 4, 5, 7, 8] rfl
      refine append_ (α := List Int) gok rfl rfl rfl rfl H e ?_; clear e H; intro h405 w404 H
      refine arK hk hmx273 ?_
      have hs := Option.some.inj hF403; subst hs; clear hF403
      exact ⟨h405, ⟨rfl, rfl, rfl, rfl, rfl, rfl, rfl, trivial⟩, H.sel [1, 2, 3, 4, 5, 0, 7] rfl⟩
  · clear H e
    rintro T408 g410 w407 (H : Cx w0 fp0 S0 w407 [Bx c0_b [(c0_h).v], Es (List (List Int)) c0_ c0_h, Bx c1_b [(.int .i64 c1_)], Bx c2_b [(c2_h).v], Es (List Int) c2_ c2_h, E (List (List Int)) r274 g410, Es (List (List Int)) rows_ rows_h])
    refine boolE (z := false) geLen ?_
    refine sq ?_
    cases hF275
    exact ⟨_, _, rfl, ⟨g410, rfl, rfl⟩, (H.sel [0, 2, 3, 5] rfl).close ⟨cloB, cloB, cloB, cloE, trivial⟩⟩

theorem impl_StateSpace_withoutHidden_c (s__0 : Int) (s__1 : Int) (s__2 : Int) (s__3 : List (List Int)) (s__3h : Hd) (s__4 : List (List Int)) (s__4h : Hd) (s__5 : List (List Int)) (s__5h : Hd) (s__6 : List (List Int)) (s__6h : Hd) (p_ : Int) (y_0 : Int) (y_1 : Int) (y_2 : Int) (y_3 : List (List Int)) (y_4 : List (List Int)) (y_5 : List (List Int)) (y_6 : List (List Int)) (hF : F_impl_StateSpace_withoutHidden (s__0, s__1, s__2, s__3, s__4, s__5, s__6) p_ = some (y_0, y_1, y_2, y_3, y_4, y_5, y_6)) :
    ConF Tryd.prog 162 #[(.agg #[(.int .i64 s__0), (.int .i64 s__1), (.int .i64 s__2), (s__3h).v, (s__4h).v, (s__5h).v, (s__6h).v]), (.int .i64 p_)] [Es (List (List Int)) s__3 s__3h, Es (List (List Int)) s__4 s__4h, Es (List (List Int)) s__5 s__5h, Es (List (List Int)) s__6 s__6h] [] (fun v Γ' => ∃ z0 z1 z2 z3 : Hd, v = (.agg #[(.int .i64 y_0), (.int .i64 y_1), (.int .i64 y_2), (z0).v, (z1).v, (z2).v, (z3).v]) ∧ Γ' = [E (List (List Int)) y_3 z0, E (List (List Int)) y_4 z1, E (List (List Int)) y_5 z2, E (List (List Int)) y_6 z3]) := by
  intro w0 S0 fp0 hI hS
  have H : Cx w0 fp0 S0 w0 [Es (List (List Int)) s__3 s__3h, Es (List (List Int)) s__4 s__4h, Es (List (List Int)) s__5 s__5h, Es (List (List Int)) s__6 s__6h] := Cx.start hI hS
  clear hI hS
  refine enterC (args := [_, _]) gok Tryd.func162 rfl _ rfl rfl rfl ?_
  refine box_ H ?_; clear H; intro b6 w5 hx H
  clear hx
  replace H : Cx w0 fp0 S0 w5 [Bx b6 [(.int .i64 s__0), (.int .i64 s__1), (.int .i64 s__2), (s__3h).v, (s__4h).v, (s__5h).v, (s__6h).v], Es (List (List Int)) s__3 s__3h, Es (List (List Int)) s__4 s__4h, Es (List (List Int)) s__5 s__5h, Es (List (List Int)) s__6 s__6h] := H
  refine box_ H ?_; clear H; intro b9 w8 hx H
  clear hx
  replace H : Cx w0 fp0 S0 w8 [Bx b9 [(.int .i64 p_)], Bx b6 [(.int .i64 s__0), (.int .i64 s__1), (.int .i64 s__2), (s__3h).v, (s__4h).v, (s__5h).v, (s__6h).v], Es (List (List Int)) s__3 s__3h, Es (List (List Int)) s__4 s__4h, Es (List (List Int)) s__5 s__5h, Es (List (List Int)) s__6 s__6h] := H
  refine alloc_ gok rfl H ?_; clear H; intro b12 w11 hx H
  clear hx
  replace H : Cx w0 fp0 S0 w11 [Bx b12 [(.int .i64 0), (.int .i64 0), (.int .i64 0), (.slice none 0 0), (.slice none 0 0), (.slice none 0 0), (.slice none 0 0)], Bx b9 [(.int .i64 p_)], Bx b6 [(.int .i64 s__0), (.int .i64 s__1), (.int .i64 s__2), (s__3h).v, (s__4h).v, (s__5h).v, (s__6h).v], Es (List (List Int)) s__3 s__3h, Es (List (List Int)) s__4 s__4h, Es (List (List Int)) s__5 s__5h, Es (List (List Int)) s__6 s__6h] := H
  refine loadN [(.int .i64 s__0), (.int .i64 s__1), (.int .i64 s__2), (s__3h).v, (s__4h).v, (s__5h).v, (s__6h).v] rfl (fun j u hj => H.bx 2 rfl hj) ?_
  refine load1 (H.bx0 1 rfl) ?_
  obtain ⟨y14, e, hF15⟩ := bindS hF; clear hF
  have ey14 := e; clear e
  refine callF (impl_StateSpace_hidden_c s__0 s__1 s__2 s__3 s__3h s__4 s__4h s__5 s__5h s__6 s__6h p_ y14 ey14) (Γi := []) H ⟨Vw.sh 3 rfl, Vw.sh 4 rfl, Vw.sh 5 rfl, Vw.sh 6 rfl, trivial⟩ ?_; clear H ey14
  rintro _ _ w16 ⟨h17, rfl, rfl⟩ (H : Cx w0 fp0 S0 w16 [E (List (List Int)) y14 h17, Bx b12 [(.int .i64 0), (.int .i64 0), (.int .i64 0), (.slice none 0 0), (.slice none 0 0), (.slice none 0 0), (.slice none 0 0)], Bx b9 [(.int .i64 p_)], Bx b6 [(.int .i64 s__0), (.int .i64 s__1), (.int .i64 s__2), (s__3h).v, (s__4h).v, (s__5h).v, (s__6h).v], Es (List (List Int)) s__3 s__3h, Es (List (List Int)) s__4 s__4h, Es (List (List Int)) s__5 s__5h, Es (List (List Int)) s__6 s__6h])
  refine alloc_ gok rfl H ?_; clear H; intro b20 w19 hx H
  clear hx
  replace H : Cx w0 fp0 S0 w19 [Bx b20 [(.slice none 0 0)], E (List (List Int)) y14 h17, Bx b12 [(.int .i64 0), (.int .i64 0), (.int .i64 0), (.slice none 0 0), (.slice none 0 0), (.slice none 0 0), (.slice none 0 0)], Bx b9 [(.int .i64 p_)], Bx b6 [(.int .i64 s__0), (.int .i64 s__1), (.int .i64 s__2), (s__3h).v, (s__4h).v, (s__5h).v, (s__6h).v], Es (List (List Int)) s__3 s__3h, Es (List (List Int)) s__4 s__4h, Es (List (List Int)) s__5 s__5h, Es (List (List Int)) s__6 s__6h] := H
  refine stB0 H rfl ?_; clear H; intro w22 H
  replace H : Cx w0 fp0 S0 w22 [Bx b20 [(h17).v], E (List (List Int)) y14 h17, Bx b12 [(.int .i64 0), (.int .i64 0), (.int .i64 0), (.slice none 0 0), (.slice none 0 0), (.slice none 0 0), (.slice none 0 0)], Bx b9 [(.int .i64 p_)], Bx b6 [(.int .i64 s__0), (.int .i64 s__1), (.int .i64 s__2), (s__3h).v, (s__4h).v, (s__5h).v, (s__6h).v], Es (List (List Int)) s__3 s__3h, Es (List (List Int)) s__4 s__4h, Es (List (List Int)) s__5 s__5h, Es (List (List Int)) s__6 s__6h] := H
  refine fld gok rfl rfl rfl rfl ?_
  refine load1 (H.bx 4 rfl (j := 0) rfl) ?_
  obtain ⟨a23, e, hF24⟩ := bindS hF15; clear hF15
  refine make_ (α := Bool) gok rfl rfl rfl rfl (makeCO_of e) H ?_; clear e H; intro h26 w25 hx H
  clear hx
  refine sq ?_
  refine load1 (H.bx0 1 rfl) ?_
  refine lenE (H.ro (α := List (List Int)) 2 rfl).len ?_
  replace H := H.sel [2, 0, 1, 3, 4, 5, 6, 7, 8, 9] rfl
  replace H := H.frz
  have hmx103 := (H.rs (α := List (List Int)) 0 rfl).max
  obtain ⟨r104, e, hF105⟩ := bindS hF24; clear hF24
  refine loopS _ y14.length (fun (k28 : Nat) (s101 : List Bool) (_ : Unit) => [(2, (.pointer (some ⟨b6, 0, none⟩))), (3, (.pointer (some ⟨b9, 0, none⟩))), (4, (.pointer (some ⟨b12, 0, none⟩))), (5, (.pointer (some ⟨b20, 0, none⟩))), (6, (h26).v), (20, (h17).v), (21, (.int .i64 ((y14.length : Nat) : Int))), (22, (.int .i64 ((k28 : Nat) : Int)))]) (fun _ (s101 : List Bool) (_ : Unit) w' => Cx w0 fp0 S0 w' [Bx b6 [(.int .i64 s__0), (.int .i64 s__1), (.int .i64 s__2), (s__3h).v, (s__4h).v, (s__5h).v, (s__6h).v], Es (List (List Int)) s__3 s__3h, Es (List (List Int)) s__4 s__4h, Es (List (List Int)) s__5 s__5h, Es (List (List Int)) s__6 s__6h, Bx b9 [(.int .i64 p_)], Bx b12 [(.int .i64 0), (.int .i64 0), (.int .i64 0), (.slice none 0 0), (.slice none 0 0), (.slice none 0 0), (.slice none 0 0)], Bx b20 [(h17).v], Es (List (List Int)) y14 h17, E (List Bool) s101 h26]) a23 () e ⟨rfl, rfl, rfl, rfl, rfl, rfl, rfl, rfl, trivial⟩ (H.sel [5, 6, 7, 8, 9, 4, 3, 2, 0, 1] rfl) ?_ ?_
  · clear H e
    rintro T107 k28 s101 _ w106 o108 hk (H : Cx w0 fp0 S0 w106 [Bx b6 [(.int .i64 s__0), (.int .i64 s__1), (.int .i64 s__2), (s__3h).v, (s__4h).v, (s__5h).v, (s__6h).v], Es (List (List Int)) s__3 s__3h, Es (List (List Int)) s__4 s__4h, Es (List (List Int)) s__5 s__5h, Es (List (List Int)) s__6 s__6h, Bx b9 [(.int .i64 p_)], Bx b12 [(.int .i64 0), (.int .i64 0), (.int .i64 0), (.slice none 0 0), (.slice none 0 0), (.slice none 0 0), (.slice none 0 0)], Bx b20 [(h17).v], Es (List (List Int)) y14 h17, E (List Bool) s101 h26]) hF109
    refine boolE (z := true) (ltLen hk) ?_
    refine sq ?_
    refine sq ?_
    obtain ⟨a116, e, hF117⟩ := bindS hF109; clear hF109
    have HH := H; clear H; obtain ⟨p114, m115, h118, c110, c111, c112, c113, H⟩ := HH.elL 8 rfl e; clear HH
    clear e
    refine idxE c110 c111 c112 ?_; clear c110 c111 c112
    refine load1 c113 ?_; clear c113
    obtain ⟨y120, e, hF121⟩ := bindS hF117; clear hF117
    have ey120 := e; clear e
    refine callF (impl_lead_c a116 h118 y120 ey120) (Γi := []) H ⟨Vw.sh 0 rfl, trivial⟩ ?_; clear H ey120
    rintro _ _ w122 ⟨rfl, rfl⟩ (H : Cx w0 fp0 S0 w122 [Es (List Int) a116 h118, Bx b6 [(.int .i64 s__0), (.int .i64 s__1), (.int .i64 s__2), (s__3h).v, (s__4h).v, (s__5h).v, (s__6h).v], Es (List (List Int)) s__3 s__3h, Es (List (List Int)) s__4 s__4h, Es (List (List Int)) s__5 s__5h, Es (List (List Int)) s__6 s__6h, Bx b9 [(.int .i64 p_)], Bx b12 [(.int .i64 0), (.int .i64 0), (.int .i64 0), (.slice none 0 0), (.slice none 0 0), (.slice none 0 0), (.slice none 0 0)], Bx b20 [(h17).v], Es (List (List Int)) y14 h17, E (List Bool) s101 h26])
    obtain ⟨a129, e, hF130⟩ := bindS hF121; clear hF121
    have ea129 := e; clear e
    obtain ⟨p127, m128, c123, c124, c125⟩ := (H.ro (α := List Bool) 10 rfl).setp ea129
    refine idxE c123 c124 c125 ?_
    replace H := H.sel [10, 0, 1, 2, 3, 4, 5, 6, 7, 8, 9] rfl
    refine setS (α := Bool) H c123 c124 ea129 ?_; clear H c123 c124 c125 ea129; intro w131 H
    refine arK hk hmx103 ?_
    have hs := Option.some.inj hF130; subst hs; clear hF130
    exact ⟨(), ⟨rfl, rfl, rfl, rfl, rfl, rfl, rfl, rfl, trivial⟩, H.sel [2, 3, 4, 5, 6, 7, 8, 9, 10, 0] rfl⟩
  · clear H e
    rintro T133 _ w132 (H : Cx w0 fp0 S0 w132 [Bx b6 [(.int .i64 s__0), (.int .i64 s__1), (.int .i64 s__2), (s__3h).v, (s__4h).v, (s__5h).v, (s__6h).v], Es (List (List Int)) s__3 s__3h, Es (List (List Int)) s__4 s__4h, Es (List (List Int)) s__5 s__5h, Es (List (List Int)) s__6 s__6h, Bx b9 [(.int .i64 p_)], Bx b12 [(.int .i64 0), (.int .i64 0), (.int .i64 0), (.slice none 0 0), (.slice none 0 0), (.slice none 0 0), (.slice none 0 0)], Bx b20 [(h17).v], Es (List (List Int)) y14 h17, E (List Bool) r104 h26])
    refine boolE (z := false) geLen ?_
    refine sq ?_
    obtain ⟨y136, e, hF137⟩ := bindS hF105; clear hF105
    have ey136 := e; clear e
    refine callF (impl_unmarked_c r104 h26 y136 ey136) (Γi := []) H ⟨Vw.own 9 rfl, trivial⟩ ?_; clear H ey136
    rintro _ _ w138 ⟨h139, rfl, rfl⟩ (H : Cx w0 fp0 S0 w138 [E (List Int) y136 h139, Bx b6 [(.int .i64 s__0), (.int .i64 s__1), (.int .i64 s__2), (s__3h).v, (s__4h).v, (s__5h).v, (s__6h).v], Es (List (List Int)) s__3 s__3h, Es (List (List Int)) s__4 s__4h, Es (List (List Int)) s__5 s__5h, Es (List (List Int)) s__6 s__6h, Bx b9 [(.int .i64 p_)], Bx b12 [(.int .i64 0), (.int .i64 0), (.int .i64 0), (.slice none 0 0), (.slice none 0 0), (.slice none 0 0), (.slice none 0 0)], Bx b20 [(h17).v], Es (List (List Int)) y14 h17, E (List Bool) r104 h26])
    refine alloc_ gok rfl H ?_; clear H; intro b142 w141 hx H
    clear hx
    replace H : Cx w0 fp0 S0 w141 [Bx b142 [(.slice none 0 0)], E (List Int) y136 h139, Bx b6 [(.int .i64 s__0), (.int .i64 s__1), (.int .i64 s__2), (s__3h).v, (s__4h).v, (s__5h).v, (s__6h).v], Es (List (List Int)) s__3 s__3h, Es (List (List Int)) s__4 s__4h, Es (List (List Int)) s__5 s__5h, Es (List (List Int)) s__6 s__6h, Bx b9 [(.int .i64 p_)], Bx b12 [(.int .i64 0), (.int .i64 0), (.int .i64 0), (.slice none 0 0), (.slice none 0 0), (.slice none 0 0), (.slice none 0 0)], Bx b20 [(h17).v], Es (List (List Int)) y14 h17, E (List Bool) r104 h26] := H
    refine stB0 H rfl ?_; clear H; intro w144 H
    replace H : Cx w0 fp0 S0 w144 [Bx b142 [(h139).v], E (List Int) y136 h139, Bx b6 [(.int .i64 s__0), (.int .i64 s__1), (.int .i64 s__2), (s__3h).v, (s__4h).v, (s__5h).v, (s__6h).v], Es (List (List Int)) s__3 s__3h, Es (List (List Int)) s__4 s__4h, Es (List (List Int)) s__5 s__5h, Es (List (List Int)) s__6 s__6h, Bx b9 [(.int .i64 p_)], Bx b12 [(.int .i64 0), (.int .i64 0), (.int .i64 0), (.slice none 0 0), (.slice none 0 0), (.slice none 0 0), (.slice none 0 0)], Bx b20 [(h17).v], Es (List (List Int)) y14 h17, E (List Bool) r104 h26] := H
    obtain ⟨r178, hF180, hF179⟩ := bindS hF137; clear hF137
    refine heldJ H [11] (.fst 2 (.fst 4 (.fst 6 (.fst 0 (.fst 1 (.fst 3 (.fst 5 (.fst 7 (.alts (.alt 8 (.fst 9 (.act 10 (.act 11 .done))) (.alt 10 (.act 8 (.fst 9 (.act 11 .done))) .no))))))))))) mixed [] trivial (by kernel_rfl) (fun (q181 : (Int × Int × Int × List (List Int)) × (Hd × Nat)) => [(2, (.pointer (some ⟨b6, 0, none⟩))), (4, (.pointer (some ⟨b12, 0, none⟩))), (9, (.pointer (some ⟨b142, 0, none⟩))), (10, (.func (.func 185) #[] #[(.pointer (some ⟨b20, 0, none⟩)), (.pointer (some ⟨b9, 0, none⟩)), (.pointer (some ⟨b142, 0, none⟩))])), (11, (.pointer (some ⟨q181.2.2, 0, none⟩)))]) (fun (q181 : (Int × Int × Int × List (List Int)) × (Hd × Nat)) w' => (q181.1.1, q181.1.2.1, q181.1.2.2.1, q181.1.2.2.2) = r178 ∧ Cx w0 fp0 S0 w' [Bx b6 [(.int .i64 s__0), (.int .i64 s__1), (.int .i64 s__2), (s__3h).v, (s__4h).v, (s__5h).v, (s__6h).v], Es (List (List Int)) s__3 s__3h, Es (List (List Int)) s__4 s__4h, Es (List (List Int)) s__5 s__5h, Es (List (List Int)) s__6 s__6h, Bx b12 [(.int .i64 0), (.int .i64 0), (.int .i64 0), (.slice none 0 0), (.slice none 0 0), (.slice none 0 0), (.slice none 0 0)], Bx b142 [(h139).v], E (List Int) y136 h139, Bx b20 [(h17).v], Es (List (List Int)) y14 h17, Bx b9 [(.int .i64 p_)], Bx q181.2.2 [(.int .i64 q181.1.1), (.int .i64 q181.1.2.1), (.int .i64 q181.1.2.2.1), (.slice none 0 0), (.slice none 0 0), (.slice none 0 0), (q181.2.1).v], E (List (List Int)) q181.1.2.2.2 q181.2.1]) ?_ ?_
    · skip
      clear H; intro w182 H
      have hX : Ext w182 w182 := Upd.refl _ _
      have H0 := H
      refine anyH (fun _ => fld gok rfl rfl rfl rfl ⟨rfl, rfl⟩) ?_
      refine anyH (fun _ => fld gok rfl rfl rfl rfl ⟨rfl, rfl⟩) ?_
      refine anyH (fun _ => fld gok rfl rfl rfl rfl ⟨rfl, rfl⟩) ?_
      refine load1X (H.bx0 0 rfl) ?_
      refine lenE (H.ro (α := List Int) 1 rfl).len ?_
      refine load1X (H.bx 2 rfl (j := 1) rfl) ?_
      refine load1X (H.bx 2 rfl (j := 2) rfl) ?_
      refine load1X (H.bx 2 rfl (j := 6) rfl) ?_
      refine both ?_ ?_
      · skip
        obtain ⟨y192, e, hF193⟩ := bindS hF180; clear hF180
        have ey192 := e; clear e
        refine callFx (impl_clones_c s__6 s__6h y192 ey192) H ⟨Vw.sh 6 rfl, trivial⟩ ?_; clear H ey192
        rintro _ _ w194 ⟨h195, rfl, rfl⟩ hx (H : Cx w0 fp0 S0 w194 [E (List (List Int)) y192 h195, Bx b142 [(h139).v], E (List Int) y136 h139, Bx b6 [(.int .i64 s__0), (.int .i64 s__1), (.int .i64 s__2), (s__3h).v, (s__4h).v, (s__5h).v, (s__6h).v], Es (List (List Int)) s__3 s__3h, Es (List (List Int)) s__4 s__4h, Es (List (List Int)) s__5 s__5h, Es (List (List Int)) s__6 s__6h, Bx b9 [(.int .i64 p_)], Bx b12 [(.int .i64 0), (.int .i64 0), (.int .i64 0), (.slice none 0 0), (.slice none 0 0), (.slice none 0 0), (.slice none 0 0)], Bx b20 [(h17).v], Es (List (List Int)) y14 h17, E (List Bool) r104 h26])
        replace hX := hX.trans0 hx; clear hx
        refine hold hX ?_
        refine anyH (fun _ => build_ (cs := #[(.int .i64 ((y136.length : Nat) : Int)), (.int .i64 s__1), (.int .i64 s__2), (.slice none 0 0), (.slice none 0 0), (.slice none 0 0), (h195).v]) gok rfl rfl rfl ⟨rfl, rfl⟩) ?_
        refine alloc_ gok rfl H ?_; clear H; intro b198 w197 hx H
        replace hX := hX.trans0 hx; clear hx
        replace H : Cx w0 fp0 S0 w197 [Bx b198 [(.int .i64 0), (.int .i64 0), (.int .i64 0), (.slice none 0 0), (.slice none 0 0), (.slice none 0 0), (.slice none 0 0)], E (List (List Int)) y192 h195, Bx b142 [(h139).v], E (List Int) y136 h139, Bx b6 [(.int .i64 s__0), (.int .i64 s__1), (.int .i64 s__2), (s__3h).v, (s__4h).v, (s__5h).v, (s__6h).v], Es (List (List Int)) s__3 s__3h, Es (List (List Int)) s__4 s__4h, Es (List (List Int)) s__5 s__5h, Es (List (List Int)) s__6 s__6h, Bx b9 [(.int .i64 p_)], Bx b12 [(.int .i64 0), (.int .i64 0), (.int .i64 0), (.slice none 0 0), (.slice none 0 0), (.slice none 0 0), (.slice none 0 0)], Bx b20 [(h17).v], Es (List (List Int)) y14 h17, E (List Bool) r104 h26] := H
        refine hold hX ?_
        refine stA gok [(.int .i64 ((y136.length : Nat) : Int)), (.int .i64 s__1), (.int .i64 s__2), (.slice none 0 0), (.slice none 0 0), (.slice none 0 0), (h195).v] rfl H rfl rfl rfl ?_; clear H; intro w200 H
        replace H : Cx w0 fp0 S0 w200 [Bx b198 [(.int .i64 ((y136.length : Nat) : Int)), (.int .i64 s__1), (.int .i64 s__2), (.slice none 0 0), (.slice none 0 0), (.slice none 0 0), (h195).v], E (List (List Int)) y192 h195, Bx b142 [(h139).v], E (List Int) y136 h139, Bx b6 [(.int .i64 s__0), (.int .i64 s__1), (.int .i64 s__2), (s__3h).v, (s__4h).v, (s__5h).v, (s__6h).v], Es (List (List Int)) s__3 s__3h, Es (List (List Int)) s__4 s__4h, Es (List (List Int)) s__5 s__5h, Es (List (List Int)) s__6 s__6h, Bx b9 [(.int .i64 p_)], Bx b12 [(.int .i64 0), (.int .i64 0), (.int .i64 0), (.slice none 0 0), (.slice none 0 0), (.slice none 0 0), (.slice none 0 0)], Bx b20 [(h17).v], Es (List (List Int)) y14 h17, E (List Bool) r104 h26] := H
        refine hold trivial ?_
        exact ⟨((((y136.length : Nat) : Int), s__1, s__2, y192), (h195, b198)), ⟨rfl, rfl, rfl, rfl, rfl, trivial⟩, Option.some.inj hF193, H.sel [4, 5, 6, 7, 8, 10, 2, 3, 11, 12, 9, 0, 1] rfl⟩
      · skip
        refine both ?_ ?_
        · skip
          obtain ⟨a201, eq202, hF203⟩ := bindS hF180; clear hF180
          refine alloc_ gok rfl H ?_; clear H; intro b205 w204 hx H
          replace hX := hX.trans0 hx; clear hx
          replace H : Cx w0 fp0 S0 w204 [Bx b205 [(.int .i64 0), (.int .i64 0), (.int .i64 0), (.slice none 0 0), (.slice none 0 0), (.slice none 0 0), (.slice none 0 0)], Bx b142 [(h139).v], E (List Int) y136 h139, Bx b6 [(.int .i64 s__0), (.int .i64 s__1), (.int .i64 s__2), (s__3h).v, (s__4h).v, (s__5h).v, (s__6h).v], Es (List (List Int)) s__3 s__3h, Es (List (List Int)) s__4 s__4h, Es (List (List Int)) s__5 s__5h, Es (List (List Int)) s__6 s__6h, Bx b9 [(.int .i64 p_)], Bx b12 [(.int .i64 0), (.int .i64 0), (.int .i64 0), (.slice none 0 0), (.slice none 0 0), (.slice none 0 0), (.slice none 0 0)], Bx b20 [(h17).v], Es (List (List Int)) y14 h17, E (List Bool) r104 h26] := H
          refine hold hX ?_
          have e := eq202; clear eq202
          have ea201 := e; clear e
          refine callFx (impl_clones_c s__6 s__6h a201 ea201) H ⟨Vw.sh 7 rfl, trivial⟩ ?_; clear H ea201
          rintro _ _ w207 ⟨h208, rfl, rfl⟩ hx (H : Cx w0 fp0 S0 w207 [E (List (List Int)) a201 h208, Bx b205 [(.int .i64 0), (.int .i64 0), (.int .i64 0), (.slice none 0 0), (.slice none 0 0), (.slice none 0 0), (.slice none 0 0)], Bx b142 [(h139).v], E (List Int) y136 h139, Bx b6 [(.int .i64 s__0), (.int .i64 s__1), (.int .i64 s__2), (s__3h).v, (s__4h).v, (s__5h).v, (s__6h).v], Es (List (List Int)) s__3 s__3h, Es (List (List Int)) s__4 s__4h, Es (List (List Int)) s__5 s__5h, Es (List (List Int)) s__6 s__6h, Bx b9 [(.int .i64 p_)], Bx b12 [(.int .i64 0), (.int .i64 0), (.int .i64 0), (.slice none 0 0), (.slice none 0 0), (.slice none 0 0), (.slice none 0 0)], Bx b20 [(h17).v], Es (List (List Int)) y14 h17, E (List Bool) r104 h26])
          replace hX := hX.trans0 hx; clear hx
          refine hold hX ?_
          refine anyH (fun _ => build_ (cs := #[(.int .i64 ((y136.length : Nat) : Int)), (.int .i64 s__1), (.int .i64 s__2), (.slice none 0 0), (.slice none 0 0), (.slice none 0 0), (h208).v]) gok rfl rfl rfl ⟨rfl, rfl⟩) ?_
          replace H := H.sel [1, 0, 2, 3, 4, 5, 6, 7, 8, 9, 10, 11, 12, 13] rfl
          refine stA gok [(.int .i64 ((y136.length : Nat) : Int)), (.int .i64 s__1), (.int .i64 s__2), (.slice none 0 0), (.slice none 0 0), (.slice none 0 0), (h208).v] rfl H rfl rfl rfl ?_; clear H; intro w210 H
          replace H : Cx w0 fp0 S0 w210 [Bx b205 [(.int .i64 ((y136.length : Nat) : Int)), (.int .i64 s__1), (.int .i64 s__2), (.slice none 0 0), (.slice none 0 0), (.slice none 0 0), (h208).v], E (List (List Int)) a201 h208, Bx b142 [(h139).v], E (List Int) y136 h139, Bx b6 [(.int .i64 s__0), (.int .i64 s__1), (.int .i64 s__2), (s__3h).v, (s__4h).v, (s__5h).v, (s__6h).v], Es (List (List Int)) s__3 s__3h, Es (List (List Int)) s__4 s__4h, Es (List (List Int)) s__5 s__5h, Es (List (List Int)) s__6 s__6h, Bx b9 [(.int .i64 p_)], Bx b12 [(.int .i64 0), (.int .i64 0), (.int .i64 0), (.slice none 0 0), (.slice none 0 0), (.slice none 0 0), (.slice none 0 0)], Bx b20 [(h17).v], Es (List (List Int)) y14 h17, E (List Bool) r104 h26] := H
          refine hold trivial ?_
          exact ⟨((((y136.length : Nat) : Int), s__1, s__2, a201), (h208, b205)), ⟨rfl, rfl, rfl, rfl, rfl, trivial⟩, Option.some.inj hF203, H.sel [4, 5, 6, 7, 8, 10, 2, 3, 11, 12, 9, 0, 1] rfl⟩
        · skip
          exact trivial
    · clear hF180 H
      rintro T212 ⟨⟨s174_0, s174_1, s174_2, s174_3⟩, ⟨g175_0, g175_1⟩⟩ w211 ⟨hr, (H : Cx w0 fp0 S0 w211 [Bx b6 [(.int .i64 s__0), (.int .i64 s__1), (.int .i64 s__2), (s__3h).v, (s__4h).v, (s__5h).v, (s__6h).v], Es (List (List Int)) s__3 s__3h, Es (List (List Int)) s__4 s__4h, Es (List (List Int)) s__5 s__5h, Es (List (List Int)) s__6 s__6h, Bx b12 [(.int .i64 0), (.int .i64 0), (.int .i64 0), (.slice none 0 0), (.slice none 0 0), (.slice none 0 0), (.slice none 0 0)], Bx b142 [(h139).v], E (List Int) y136 h139, Bx b20 [(h17).v], Es (List (List Int)) y14 h17, Bx b9 [(.int .i64 p_)], Bx g175_1 [(.int .i64 s174_0), (.int .i64 s174_1), (.int .i64 s174_2), (.slice none 0 0), (.slice none 0 0), (.slice none 0 0), (g175_0).v], E (List (List Int)) s174_3 g175_0])⟩
      subst hr
      refine sq ?_
      refine load1 (H.bx0 6 rfl) ?_
      refine lenE (H.ro (α := List Int) 7 rfl).len ?_
      have hmx332 := (H.ro (α := List Int) 7 rfl).max
      obtain ⟨r333, e, hF334⟩ := bindS hF179; clear hF179
      replace H := H.nil (α := Sh (List Int))
      replace H := H.nil (α := List Int)
      refine loopS _ y136.length (fun (k213 : Nat) (s328 : List (List Int) × List (List Int)) (g329 : Hd × Hd) => [(2, (.pointer (some ⟨b6, 0, none⟩))), (4, (.pointer (some ⟨b12, 0, none⟩))), (10, (.func (.func 185) #[] #[(.pointer (some ⟨b20, 0, none⟩)), (.pointer (some ⟨b9, 0, none⟩)), (.pointer (some ⟨b142, 0, none⟩))])), (11, (.pointer (some ⟨g175_1, 0, none⟩))), (44, (h139).v), (45, (.int .i64 ((y136.length : Nat) : Int))), (46, (.int .i64 ((k213 : Nat) : Int)))]) (fun _ (s328 : List (List Int) × List (List Int)) (g329 : Hd × Hd) w' => Cx w0 fp0 S0 w' [Bx b6 [(.int .i64 s__0), (.int .i64 s__1), (.int .i64 s__2), (s__3h).v, (s__4h).v, (s__5h).v, (s__6h).v], Es (List (List Int)) s__3 s__3h, Es (List (List Int)) s__4 s__4h, Es (List (List Int)) s__5 s__5h, Es (List (List Int)) s__6 s__6h, Bx b12 [(.int .i64 0), (.int .i64 0), (.int .i64 0), (.slice none 0 0), (.slice none 0 0), (.slice none 0 0), (.slice none 0 0)], Bx b20 [(h17).v], Es (List (List Int)) y14 h17, Bx b9 [(.int .i64 p_)], Bx b142 [(h139).v], E (List Int) y136 h139, Bx g175_1 [(.int .i64 s174_0), (.int .i64 s174_1), (.int .i64 s174_2), (g329.1).v, (.slice none 0 0), (g329.2).v, (g175_0).v], E (List (Sh (List Int))) s328.1 g329.1, E (List (List Int)) s328.2 g329.2, E (List (List Int)) s174_3 g175_0]) ([], []) (nilH, nilH) e ⟨rfl, rfl, rfl, rfl, rfl, rfl, rfl, trivial⟩ (H.sel [2, 3, 4, 5, 6, 7, 10, 11, 12, 8, 9, 13, 1, 0, 14] rfl) ?_ ?_
      · clear H e
        rintro T338 k213 ⟨s328_0, s328_1⟩ ⟨g329_0, g329_1⟩ w337 o339 hk (H : Cx w0 fp0 S0 w337 [Bx b6 [(.int .i64 s__0), (.int .i64 s__1), (.int .i64 s__2), (s__3h).v, (s__4h).v, (s__5h).v, (s__6h).v], Es (List (List Int)) s__3 s__3h, Es (List (List Int)) s__4 s__4h, Es (List (List Int)) s__5 s__5h, Es (List (List Int)) s__6 s__6h, Bx b12 [(.int .i64 0), (.int .i64 0), (.int .i64 0), (.slice none 0 0), (.slice none 0 0), (.slice none 0 0), (.slice none 0 0)], Bx b20 [(h17).v], Es (List (List Int)) y14 h17, Bx b9 [(.int .i64 p_)], Bx b142 [(h139).v], E (List Int) y136 h139, Bx g175_1 [(.int .i64 s174_0), (.int .i64 s174_1), (.int .i64 s174_2), (g329_0).v, (.slice none 0 0), (g329_1).v, (g175_0).v], E (List (Sh (List Int))) s328_0 g329_0, E (List (List Int)) s328_1 g329_1, E (List (List Int)) s174_3 g175_0]) hF340
        refine boolE (z := true) (ltLen hk) ?_
        refine sq ?_
        refine sq ?_
        obtain ⟨a347, e, hF348⟩ := bindS hF340; clear hF340
        obtain ⟨p345, m346, c341, c342, c343, c344⟩ := (H.ro (α := List Int) 10 rfl).at1 e; clear e
        refine idxE c341 c342 c343 ?_; clear c341 c342 c343
        refine load1 c344 ?_; clear c344
        refine heldX H [8, 10, 9] (.fst 0 (.fst 2 (.fst 4 (.fst 1 (.fst 3 (.fst 5 (.fst 6 (.act 7 (.act 8 (.act 9 (.act 10 .done))))))))))) mixed [] trivial (by kernel_rfl) ?_
        clear H; intro w349 H
        have hX : Ext w349 w349 := Upd.refl _ _
        have H0 := H
        refine anyH (fun _ => fld gok rfl rfl rfl rfl ⟨rfl, rfl⟩) ?_
        refine anyH (fun _ => fld gok rfl rfl rfl rfl ⟨rfl, rfl⟩) ?_
        refine load1X (H.bx 11 rfl (j := 3) rfl) ?_
        refine load1X (H.bx 0 rfl (j := 3) rfl) ?_
        obtain ⟨a356, e, hF357⟩ := bindS hF348; clear hF348
        have HH := H; clear H; obtain ⟨p354, m355, h358, c350, c351, c352, c353, H⟩ := HH.elL 1 rfl e; clear HH
        clear e
        refine idxE c350 c351 c352 ?_; clear c350 c351 c352
        refine load1X c353 ?_; clear c353
        refine lit1 (α := Sh (List Int)) (g := h358) gok rfl rfl rfl rfl rfl H ?_; clear H; intro h361 w360 hx H
        replace hX := hX.trans0 hx; clear hx
        refine hold hX ?_
        obtain ⟨a363, e, hF364⟩ := bindS hF357; clear hF357
        replace H := H.sel [13, 0, 1, 2, 3, 4, 5, 6, 7, 8, 9, 10, 11, 12, 14, 15] rfl
        refine append_ (α := Sh (List Int)) gok rfl rfl rfl rfl H e ?_; clear e H; intro h366 w365 H
        refine hold trivial ?_
        refine fld gok rfl rfl rfl rfl ?_
        refine hold trivial ?_
        replace H := H.sel [12, 0, 1, 2, 3, 4, 5, 6, 7, 8, 9, 10, 11, 13, 14] rfl
        refine stB (j := 3) H rfl rfl ?_; clear H; intro w368 H
        replace H : Cx w0 fp0 S0 w368 [Bx g175_1 [(.int .i64 s174_0), (.int .i64 s174_1), (.int .i64 s174_2), (h366).v, (.slice none 0 0), (g329_1).v, (g175_0).v], E (List (Sh (List Int))) a363 h366, Bx b6 [(.int .i64 s__0), (.int .i64 s__1), (.int .i64 s__2), (s__3h).v, (s__4h).v, (s__5h).v, (s__6h).v], Es (List (List Int)) s__3 s__3h, Es (List (List Int)) s__4 s__4h, Es (List (List Int)) s__5 s__5h, Es (List (List Int)) s__6 s__6h, Bx b12 [(.int .i64 0), (.int .i64 0), (.int .i64 0), (.slice none 0 0), (.slice none 0 0), (.slice none 0 0), (.slice none 0 0)], Bx b20 [(h17).v], Es (List (List Int)) y14 h17, Bx b9 [(.int .i64 p_)], Bx b142 [(h139).v], E (List Int) y136 h139, E (List (List Int)) s328_1 g329_1, E (List (List Int)) s174_3 g175_0] := H
        refine hold trivial ?_
        refine heldX H [9, 11, 10] (.fst 0 (.fst 2 (.fst 4 (.fst 1 (.fst 3 (.fst 5 (.fst 6 (.act 7 (.act 8 (.act 9 (.act 10 (.act 11 .done)))))))))))) mixed [] trivial (by kernel_rfl) ?_
        clear H; intro w369 H
        have hX : Ext w369 w369 := Upd.refl _ _
        have H0 := H
        refine anyH (fun _ => fld gok rfl rfl rfl rfl ⟨rfl, rfl⟩) ?_
        refine anyH (fun _ => fld gok rfl rfl rfl rfl ⟨rfl, rfl⟩) ?_
        refine load1X (H.bx 0 rfl (j := 5) rfl) ?_
        refine load1X (H.bx 2 rfl (j := 5) rfl) ?_
        obtain ⟨a376, e, hF377⟩ := bindS hF364; clear hF364
        have HH := H; clear H; obtain ⟨p374, m375, h378, c370, c371, c372, c373, H⟩ := HH.elL 5 rfl e; clear HH
        clear e
        refine idxE c370 c371 c372 ?_; clear c370 c371 c372
        refine load1X c373 ?_; clear c373
        obtain ⟨y380, e, hF381⟩ := bindS hF377; clear hF377
        have ey380 := e; clear e
        refine callFx (impl_clone_c a376 h378 y380 ey380) H ⟨Vw.sh 0 rfl, trivial⟩ ?_; clear H ey380
        rintro _ _ w382 ⟨h383, rfl, rfl⟩ hx (H : Cx w0 fp0 S0 w382 [E (List Int) y380 h383, Es (List Int) a376 h378, Bx g175_1 [(.int .i64 s174_0), (.int .i64 s174_1), (.int .i64 s174_2), (h366).v, (.slice none 0 0), (g329_1).v, (g175_0).v], E (List (Sh (List Int))) a363 h366, Bx b6 [(.int .i64 s__0), (.int .i64 s__1), (.int .i64 s__2), (s__3h).v, (s__4h).v, (s__5h).v, (s__6h).v], Es (List (List Int)) s__3 s__3h, Es (List (List Int)) s__4 s__4h, Es (List (List Int)) s__5 s__5h, Es (List (List Int)) s__6 s__6h, Bx b12 [(.int .i64 0), (.int .i64 0), (.int .i64 0), (.slice none 0 0), (.slice none 0 0), (.slice none 0 0), (.slice none 0 0)], Bx b20 [(h17).v], Es (List (List Int)) y14 h17, Bx b9 [(.int .i64 p_)], Bx b142 [(h139).v], E (List Int) y136 h139, E (List (List Int)) s328_1 g329_1, E (List (List Int)) s174_3 g175_0])
        replace hX := hX.trans0 hx; clear hx
        refine hold hX ?_
        refine lit1 (α := List Int) (g := h383) gok rfl rfl rfl rfl rfl H ?_; clear H; intro h386 w385 hx H
        replace hX := hX.trans0 hx; clear hx
        refine hold hX ?_
        obtain ⟨a388, e, hF389⟩ := bindS hF381; clear hF381
        replace H := H.sel [15, 0, 1, 2, 3, 4, 5, 6, 7, 8, 9, 10, 11, 12, 13, 14, 16] rfl
        refine append_ (α := List Int) gok rfl rfl rfl rfl H e ?_; clear e H; intro h391 w390 H
        refine hold trivial ?_
        refine fld gok rfl rfl rfl rfl ?_
        refine hold trivial ?_
        replace H := H.sel [2, 0, 1, 3, 4, 5, 6, 7, 8, 9, 10, 11, 12, 13, 14, 15] rfl
        refine stB (j := 5) H rfl rfl ?_; clear H; intro w393 H
        replace H : Cx w0 fp0 S0 w393 [Bx g175_1 [(.int .i64 s174_0), (.int .i64 s174_1), (.int .i64 s174_2), (h366).v, (.slice none 0 0), (h391).v, (g175_0).v], E (List (List Int)) a388 h391, Es (List Int) a376 h378, E (List (Sh (List Int))) a363 h366, Bx b6 [(.int .i64 s__0), (.int .i64 s__1), (.int .i64 s__2), (s__3h).v, (s__4h).v, (s__5h).v, (s__6h).v], Es (List (List Int)) s__3 s__3h, Es (List (List Int)) s__4 s__4h, Es (List (List Int)) s__5 s__5h, Es (List (List Int)) s__6 s__6h, Bx b12 [(.int .i64 0), (.int .i64 0), (.int .i64 0), (.slice none 0 0), (.slice none 0 0), (.slice none 0 0), (.slice none 0 0)], Bx b20 [(h17).v], Es (List (List Int)) y14 h17, Bx b9 [(.int .i64 p_)], Bx b142 [(h139).v], E (List Int) y136 h139, E (List (List Int)) s174_3 g175_0] := H
        refine hold trivial ?_
        refine arK hk hmx332 ?_
        have hs := Option.some.inj hF389; subst hs; clear hF389
        exact ⟨(h366, h391), ⟨rfl, rfl, rfl, rfl, rfl, rfl, rfl, trivial⟩, H.sel [4, 5, 6, 7, 8, 9, 10, 11, 12, 13, 14, 0, 3, 1, 15] rfl⟩
      · clear H e
        obtain ⟨s396_0, s396_1⟩ := r333
        rintro T395 ⟨g397_0, g397_1⟩ w394 (H : Cx w0 fp0 S0 w394 [Bx b6 [(.int .i64 s__0), (.int .i64 s__1), (.int .i64 s__2), (s__3h).v, (s__4h).v, (s__5h).v, (s__6h).v], Es (List (List Int)) s__3 s__3h, Es (List (List Int)) s__4 s__4h, Es (List (List Int)) s__5 s__5h, Es (List (List Int)) s__6 s__6h, Bx b12 [(.int .i64 0), (.int .i64 0), (.int .i64 0), (.slice none 0 0), (.slice none 0 0), (.slice none 0 0), (.slice none 0 0)], Bx b20 [(h17).v], Es (List (List Int)) y14 h17, Bx b9 [(.int .i64 p_)], Bx b142 [(h139).v], E (List Int) y136 h139, Bx g175_1 [(.int .i64 s174_0), (.int .i64 s174_1), (.int .i64 s174_2), (g397_0).v, (.slice none 0 0), (g397_1).v, (g175_0).v], E (List (Sh (List Int))) s396_0 g397_0, E (List (List Int)) s396_1 g397_1, E (List (List Int)) s174_3 g175_0])
        refine boolE (z := false) geLen ?_
        refine sq ?_
        refine heldX H [3, 7, 9, 11, 10, 4, 5, 6, 8] (.pure 4 (.pure 5 (.pure 6 (.fst 0 (.fst 1 (.fst 2 (.act 3 (.pure 8 (.act 7 (.act 9 (.act 10 (.act 11 .done)))))))))))) mixed [((Addr.add ⟨b6, 0, none⟩ 4), (s__4h).v)] ⟨H.bx 0 rfl (j := 4) rfl, trivial⟩ (by kernel_rfl) ?_
        clear H; intro w400 H
        have hX : Ext w400 w400 := Upd.refl _ _
        have H0 := H
        refine anyH (fun _ => fld gok rfl rfl rfl rfl ⟨rfl, rfl⟩) ?_
        refine load1W 0 rfl ?_
        refine anyH (fun _ => fld gok rfl rfl rfl rfl ⟨rfl, rfl⟩) ?_
        refine load1X (H.bx 11 rfl (j := 3) rfl) ?_
        obtain ⟨y401, e, hF402⟩ := bindS hF334; clear hF334
        have ey401 := e; clear e
        replace H := H.sel [6, 8, 9, 0, 1, 2, 3, 4, 5, 7, 10, 11, 12, 13, 14] rfl
        refine callF (impl_StateSpace_withoutHidden_1_c s396_0 g397_0 b20 y14 h17 b9 p_ b142 y136 h139 y401 ey401) (Γi := [Bx b20 [(h17).v], Bx b9 [(.int .i64 p_)], Bx b142 [(h139).v]]) H ⟨Vw.part (β := List (List Int)) (Vw.own (α := List (Sh (List Int))) 9 rfl) s396_0 g397_0 (fun S h => h), Vw.sh 6 rfl, Vw.own 7 rfl, trivial⟩ ?_; clear H ey401
        rintro _ _ w403 ⟨h404, rfl, rfl⟩ (H : Cx w0 fp0 S0 w403 [Bx b20 [(h17).v], Bx b9 [(.int .i64 p_)], Bx b142 [(h139).v], E (List (List Int)) y401 h404, Bx b6 [(.int .i64 s__0), (.int .i64 s__1), (.int .i64 s__2), (s__3h).v, (s__4h).v, (s__5h).v, (s__6h).v], Es (List (List Int)) s__3 s__3h, Es (List (List Int)) s__4 s__4h, Es (List (List Int)) s__5 s__5h, Es (List (List Int)) s__6 s__6h, Bx b12 [(.int .i64 0), (.int .i64 0), (.int .i64 0), (.slice none 0 0), (.slice none 0 0), (.slice none 0 0), (.slice none 0 0)], Es (List (List Int)) y14 h17, E (List Int) y136 h139, Bx g175_1 [(.int .i64 s174_0), (.int .i64 s174_1), (.int .i64 s174_2), (g397_0).v, (.slice none 0 0), (g397_1).v, (g175_0).v], E (List (Sh (List Int))) s396_0 g397_0, E (List (List Int)) s396_1 g397_1, E (List (List Int)) s174_3 g175_0])
        refine hold ⟨H.bx 4 rfl (j := 4) rfl, trivial⟩ ?_
        refine anyH (fun _ => fld gok rfl rfl rfl rfl ⟨rfl, rfl⟩) ?_
        obtain ⟨y406, e, hF407⟩ := bindS hF402; clear hF402
        have ey406 := e; clear e
        refine callF (impl_StateSpace_withoutHidden_1_c s__4 s__4h b20 y14 h17 b9 p_ b142 y136 h139 y406 ey406) (Γi := [Bx b20 [(h17).v], Bx b9 [(.int .i64 p_)], Bx b142 [(h139).v]]) H ⟨Vw.sh 3 rfl, Vw.sh 7 rfl, Vw.own 8 rfl, trivial⟩ ?_; clear H ey406
        rintro _ _ w408 ⟨h409, rfl, rfl⟩ (H : Cx w0 fp0 S0 w408 [Bx b20 [(h17).v], Bx b9 [(.int .i64 p_)], Bx b142 [(h139).v], E (List (List Int)) y406 h409, E (List (List Int)) y401 h404, Bx b6 [(.int .i64 s__0), (.int .i64 s__1), (.int .i64 s__2), (s__3h).v, (s__4h).v, (s__5h).v, (s__6h).v], Es (List (List Int)) s__3 s__3h, Es (List (List Int)) s__4 s__4h, Es (List (List Int)) s__5 s__5h, Es (List (List Int)) s__6 s__6h, Bx b12 [(.int .i64 0), (.int .i64 0), (.int .i64 0), (.slice none 0 0), (.slice none 0 0), (.slice none 0 0), (.slice none 0 0)], Es (List (List Int)) y14 h17, E (List Int) y136 h139, Bx g175_1 [(.int .i64 s174_0), (.int .i64 s174_1), (.int .i64 s174_2), (g397_0).v, (.slice none 0 0), (g397_1).v, (g175_0).v], E (List (Sh (List Int))) s396_0 g397_0, E (List (List Int)) s396_1 g397_1, E (List (List Int)) s174_3 g175_0])
        refine hold ⟨H.bx 5 rfl (j := 4) rfl, trivial⟩ ?_
        replace H := H.sel [13, 0, 1, 2, 3, 4, 5, 6, 7, 8, 9, 10, 11, 12, 14, 15, 16] rfl
        refine stB (j := 3) H rfl rfl ?_; clear H; intro w411 H
        replace H : Cx w0 fp0 S0 w411 [Bx g175_1 [(.int .i64 s174_0), (.int .i64 s174_1), (.int .i64 s174_2), (h404).v, (.slice none 0 0), (g397_1).v, (g175_0).v], Bx b20 [(h17).v], Bx b9 [(.int .i64 p_)], Bx b142 [(h139).v], E (List (List Int)) y406 h409, E (List (List Int)) y401 h404, Bx b6 [(.int .i64 s__0), (.int .i64 s__1), (.int .i64 s__2), (s__3h).v, (s__4h).v, (s__5h).v, (s__6h).v], Es (List (List Int)) s__3 s__3h, Es (List (List Int)) s__4 s__4h, Es (List (List Int)) s__5 s__5h, Es (List (List Int)) s__6 s__6h, Bx b12 [(.int .i64 0), (.int .i64 0), (.int .i64 0), (.slice none 0 0), (.slice none 0 0), (.slice none 0 0), (.slice none 0 0)], Es (List (List Int)) y14 h17, E (List Int) y136 h139, E (List (Sh (List Int))) s396_0 g397_0, E (List (List Int)) s396_1 g397_1, E (List (List Int)) s174_3 g175_0] := H
        refine hold ⟨H.bx 6 rfl (j := 4) rfl, trivial⟩ ?_
        refine fld gok rfl rfl rfl rfl ?_
        refine hold ⟨H.bx 6 rfl (j := 4) rfl, trivial⟩ ?_
        refine stB (j := 4) H rfl rfl ?_; clear H; intro w412 H
        replace H : Cx w0 fp0 S0 w412 [Bx g175_1 [(.int .i64 s174_0), (.int .i64 s174_1), (.int .i64 s174_2), (h404).v, (h409).v, (g397_1).v, (g175_0).v], Bx b20 [(h17).v], Bx b9 [(.int .i64 p_)], Bx b142 [(h139).v], E (List (List Int)) y406 h409, E (List (List Int)) y401 h404, Bx b6 [(.int .i64 s__0), (.int .i64 s__1), (.int .i64 s__2), (s__3h).v, (s__4h).v, (s__5h).v, (s__6h).v], Es (List (List Int)) s__3 s__3h, Es (List (List Int)) s__4 s__4h, Es (List (List Int)) s__5 s__5h, Es (List (List Int)) s__6 s__6h, Bx b12 [(.int .i64 0), (.int .i64 0), (.int .i64 0), (.slice none 0 0), (.slice none 0 0), (.slice none 0 0), (.slice none 0 0)], Es (List (List Int)) y14 h17, E (List Int) y136 h139, E (List (Sh (List Int))) s396_0 g397_0, E (List (List Int)) s396_1 g397_1, E (List (List Int)) s174_3 g175_0] := H
        refine hold ⟨H.bx 6 rfl (j := 4) rfl, trivial⟩ ?_
        refine loadN [(.int .i64 s174_0), (.int .i64 s174_1), (.int .i64 s174_2), (h404).v, (h409).v, (g397_1).v, (g175_0).v] rfl (fun j u hj => H.bx 0 rfl hj) ?_
        replace H := H.sel [11, 0, 1, 2, 3, 4, 5, 6, 7, 8, 9, 10, 12, 13, 14, 15, 16] rfl
        refine stA gok [(.int .i64 s174_0), (.int .i64 s174_1), (.int .i64 s174_2), (h404).v, (h409).v, (g397_1).v, (g175_0).v] rfl H rfl rfl rfl ?_; clear H; intro w413 H
        replace H : Cx w0 fp0 S0 w413 [Bx b12 [(.int .i64 s174_0), (.int .i64 s174_1), (.int .i64 s174_2), (h404).v, (h409).v, (g397_1).v, (g175_0).v], Bx g175_1 [(.int .i64 s174_0), (.int .i64 s174_1), (.int .i64 s174_2), (h404).v, (h409).v, (g397_1).v, (g175_0).v], Bx b20 [(h17).v], Bx b9 [(.int .i64 p_)], Bx b142 [(h139).v], E (List (List Int)) y406 h409, E (List (List Int)) y401 h404, Bx b6 [(.int .i64 s__0), (.int .i64 s__1), (.int .i64 s__2), (s__3h).v, (s__4h).v, (s__5h).v, (s__6h).v], Es (List (List Int)) s__3 s__3h, Es (List (List Int)) s__4 s__4h, Es (List (List Int)) s__5 s__5h, Es (List (List Int)) s__6 s__6h, Es (List (List Int)) y14 h17, E (List Int) y136 h139, E (List (Sh (List Int))) s396_0 g397_0, E (List (List Int)) s396_1 g397_1, E (List (List Int)) s174_3 g175_0] := H
        refine loadN [(.int .i64 s174_0), (.int .i64 s174_1), (.int .i64 s174_2), (h404).v, (h409).v, (g397_1).v, (g175_0).v] rfl (fun j u hj => H.bx 0 rfl hj) ?_
        cases hF407
        exact ⟨_, _, rfl, ⟨h404, h409, g397_1, g175_0, rfl, rfl⟩, (H.sel [6, 5, 15, 16] rfl).close ⟨cloE, cloE, cloE, cloE, trivial⟩⟩

theorem impl_StateSpace_minimized_c (s__0 : Int) (s__1 : Int) (s__2 : Int) (s__3 : List (List Int)) (s__3h : Hd) (s__4 : List (List Int)) (s__4h : Hd) (s__5 : List (List Int)) (s__5h : Hd) (s__6 : List (List Int)) (s__6h : Hd) (p_ : Int) (y_0 : Int) (y_1 : Int) (y_2 : Int) (y_3 : List (List Int)) (y_4 : List (List Int)) (y_5 : List (List Int)) (y_6 : List (List Int)) (hF : F_impl_StateSpace_minimized (s__0, s__1, s__2, s__3, s__4, s__5, s__6) p_ = some (y_0, y_1, y_2, y_3, y_4, y_5, y_6)) :
    ConF Tryd.prog 117 #[(.agg #[(.int .i64 s__0), (.int .i64 s__1), (.int .i64 s__2), (s__3h).v, (s__4h).v, (s__5h).v, (s__6h).v]), (.int .i64 p_)] [Es (List (List Int)) s__3 s__3h, Es (List (List Int)) s__4 s__4h, Es (List (List Int)) s__5 s__5h, Es (List (List Int)) s__6 s__6h] [] (fun v Γ' => ∃ z0 z1 z2 z3 : Hd, v = (.agg #[(.int .i64 y_0), (.int .i64 y_1), (.int .i64 y_2), (z0).v, (z1).v, (z2).v, (z3).v]) ∧ Γ' = [E (List (List Int)) y_3 z0, E (List (List Int)) y_4 z1, E (List (List Int)) y_5 z2, E (List (List Int)) y_6 z3]) := by
  intro w0 S0 fp0 hI hS
  have H : Cx w0 fp0 S0 w0 [Es (List (List Int)) s__3 s__3h, Es (List (List Int)) s__4 s__4h, Es (List (List Int)) s__5 s__5h, Es (List (List Int)) s__6 s__6h] := Cx.start hI hS
  clear hI hS
  refine enterC (args := [_, _]) gok Tryd.func117 rfl _ rfl rfl rfl ?_
  refine box_ H ?_; clear H; intro b6 w5 hx H
  clear hx
  replace H : Cx w0 fp0 S0 w5 [Bx b6 [(.int .i64 s__0), (.int .i64 s__1), (.int .i64 s__2), (s__3h).v, (s__4h).v, (s__5h).v, (s__6h).v], Es (List (List Int)) s__3 s__3h, Es (List (List Int)) s__4 s__4h, Es (List (List Int)) s__5 s__5h, Es (List (List Int)) s__6 s__6h] := H
  refine alloc_ gok rfl H ?_; clear H; intro b9 w8 hx H
  clear hx
  replace H : Cx w0 fp0 S0 w8 [Bx b9 [(.int .i64 0), (.int .i64 0), (.int .i64 0), (.slice none 0 0), (.slice none 0 0), (.slice none 0 0), (.slice none 0 0)], Bx b6 [(.int .i64 s__0), (.int .i64 s__1), (.int .i64 s__2), (s__3h).v, (s__4h).v, (s__5h).v, (s__6h).v], Es (List (List Int)) s__3 s__3h, Es (List (List Int)) s__4 s__4h, Es (List (List Int)) s__5 s__5h, Es (List (List Int)) s__6 s__6h] := H
  refine loadN [(.int .i64 s__0), (.int .i64 s__1), (.int .i64 s__2), (s__3h).v, (s__4h).v, (s__5h).v, (s__6h).v] rfl (fun j u hj => H.bx 1 rfl hj) ?_
  obtain ⟨y11, e, hF12⟩ := bindS hF; clear hF
  obtain ⟨y11_0, y11_1, y11_2, y11_3, y11_4, y11_5, y11_6⟩ := y11
  have ey11 := e; clear e
  refine callF (impl_StateSpace_withoutUnreachable_c s__0 s__1 s__2 s__3 s__3h s__4 s__4h s__5 s__5h s__6 s__6h p_ y11_0 y11_1 y11_2 y11_3 y11_4 y11_5 y11_6 ey11) (Γi := []) H ⟨Vw.sh 2 rfl, Vw.sh 3 rfl, Vw.sh 4 rfl, Vw.sh 5 rfl, trivial⟩ ?_; clear H ey11
  rintro _ _ w13 ⟨h14, h16, h18, h20, rfl, rfl⟩ (H : Cx w0 fp0 S0 w13 [E (List (List Int)) y11_3 h14, E (List (List Int)) y11_4 h16, E (List (List Int)) y11_5 h18, E (List (List Int)) y11_6 h20, Bx b9 [(.int .i64 0), (.int .i64 0), (.int .i64 0), (.slice none 0 0), (.slice none 0 0), (.slice none 0 0), (.slice none 0 0)], Bx b6 [(.int .i64 s__0), (.int .i64 s__1), (.int .i64 s__2), (s__3h).v, (s__4h).v, (s__5h).v, (s__6h).v], Es (List (List Int)) s__3 s__3h, Es (List (List Int)) s__4 s__4h, Es (List (List Int)) s__5 s__5h, Es (List (List Int)) s__6 s__6h])
  obtain ⟨y22, e, hF23⟩ := bindS hF12; clear hF12
  obtain ⟨y22_0, y22_1, y22_2, y22_3, y22_4, y22_5, y22_6⟩ := y22
  have ey22 := e; clear e
  refine callF (impl_StateSpace_withoutHidden_c y11_0 y11_1 y11_2 y11_3 h14 y11_4 h16 y11_5 h18 y11_6 h20 p_ y22_0 y22_1 y22_2 y22_3 y22_4 y22_5 y22_6 ey22) (Γi := []) H ⟨Vw.own 0 rfl, Vw.own 1 rfl, Vw.own 2 rfl, Vw.own 3 rfl, trivial⟩ ?_; clear H ey22
  rintro _ _ w24 ⟨h25, h27, h29, h31, rfl, rfl⟩ (H : Cx w0 fp0 S0 w24 [E (List (List Int)) y22_3 h25, E (List (List Int)) y22_4 h27, E (List (List Int)) y22_5 h29, E (List (List Int)) y22_6 h31, E (List (List Int)) y11_3 h14, E (List (List Int)) y11_4 h16, E (List (List Int)) y11_5 h18, E (List (List Int)) y11_6 h20, Bx b9 [(.int .i64 0), (.int .i64 0), (.int .i64 0), (.slice none 0 0), (.slice none 0 0), (.slice none 0 0), (.slice none 0 0)], Bx b6 [(.int .i64 s__0), (.int .i64 s__1), (.int .i64 s__2), (s__3h).v, (s__4h).v, (s__5h).v, (s__6h).v], Es (List (List Int)) s__3 s__3h, Es (List (List Int)) s__4 s__4h, Es (List (List Int)) s__5 s__5h, Es (List (List Int)) s__6 s__6h])
  replace H := H.sel [8, 0, 1, 2, 3, 4, 5, 6, 7, 9, 10, 11, 12, 13] rfl
  refine stA gok [(.int .i64 y22_0), (.int .i64 y22_1), (.int .i64 y22_2), (h25).v, (h27).v, (h29).v, (h31).v] rfl H rfl rfl rfl ?_; clear H; intro w33 H
  replace H : Cx w0 fp0 S0 w33 [Bx b9 [(.int .i64 y22_0), (.int .i64 y22_1), (.int .i64 y22_2), (h25).v, (h27).v, (h29).v, (h31).v], E (List (List Int)) y22_3 h25, E (List (List Int)) y22_4 h27, E (List (List Int)) y22_5 h29, E (List (List Int)) y22_6 h31, E (List (List Int)) y11_3 h14, E (List (List Int)) y11_4 h16, E (List (List Int)) y11_5 h18, E (List (List Int)) y11_6 h20, Bx b6 [(.int .i64 s__0), (.int .i64 s__1), (.int .i64 s__2), (s__3h).v, (s__4h).v, (s__5h).v, (s__6h).v], Es (List (List Int)) s__3 s__3h, Es (List (List Int)) s__4 s__4h, Es (List (List Int)) s__5 s__5h, Es (List (List Int)) s__6 s__6h] := H
  refine loadN [(.int .i64 y22_0), (.int .i64 y22_1), (.int .i64 y22_2), (h25).v, (h27).v, (h29).v, (h31).v] rfl (fun j u hj => H.bx 0 rfl hj) ?_
  cases hF23
  exact ⟨_, _, rfl, ⟨h25, h27, h29, h31, rfl, rfl⟩, (H.sel [1, 2, 3, 4] rfl).close ⟨cloE, cloE, cloE, cloE, trivial⟩⟩

theorem impl_MinimizeSpace_c (p_ : Int) (s__0 : Int) (s__1 : Int) (s__2 : Int) (s__3 : List (List Int)) (s__3h : Hd) (s__4 : List (List Int)) (s__4h : Hd) (s__5 : List (List Int)) (s__5h : Hd) (s__6 : List (List Int)) (s__6h : Hd) (y0_0 : Int) (y0_1 : Int) (y0_2 : Int) (y0_3 : List (List Int)) (y0_4 : List (List Int)) (y0_5 : List (List Int)) (y0_6 : List (List Int)) (y1 : Bool) (hF : F_impl_MinimizeSpace p_ (s__0, s__1, s__2, s__3, s__4, s__5, s__6) = some ((y0_0, y0_1, y0_2, y0_3, y0_4, y0_5, y0_6), y1)) :
    ConF Tryd.prog 55 #[(.int .i64 p_), (.agg #[(.int .i64 s__0), (.int .i64 s__1), (.int .i64 s__2), (s__3h).v, (s__4h).v, (s__5h).v, (s__6h).v])] [Es (List (List Int)) s__3 s__3h, Es (List (List Int)) s__4 s__4h, Es (List (List Int)) s__5 s__5h, Es (List (List Int)) s__6 s__6h, Gl 0 [.int .i64 2, .int .i64 3, .int .i64 5, .int .i64 7]] [] (fun v Γ' => ∃ z0 z1 z2 z3 : Hd, v = (.tuple #[(.agg #[(.int .i64 y0_0), (.int .i64 y0_1), (.int .i64 y0_2), (z0).v, (z1).v, (z2).v, (z3).v]), (.bool y1)]) ∧ Γ' = [E (List (List Int)) y0_3 z0, E (List (List Int)) y0_4 z1, E (List (List Int)) y0_5 z2, E (List (List Int)) y0_6 z3]) := by
  intro w0 S0 fp0 hI hS
  have H : Cx w0 fp0 S0 w0 [Es (List (List Int)) s__3 s__3h, Es (List (List Int)) s__4 s__4h, Es (List (List Int)) s__5 s__5h, Es (List (List Int)) s__6 s__6h, Gl 0 [.int .i64 2, .int .i64 3, .int .i64 5, .int .i64 7]] := Cx.start hI hS
  clear hI hS
  refine enterC (args := [_, _]) gok Tryd.func55 rfl _ rfl rfl rfl ?_
  refine box_ H ?_; clear H; intro b7 w6 hx H
  clear hx
  replace H : Cx w0 fp0 S0 w6 [Bx b7 [(.int .i64 s__0), (.int .i64 s__1), (.int .i64 s__2), (s__3h).v, (s__4h).v, (s__5h).v, (s__6h).v], Es (List (List Int)) s__3 s__3h, Es (List (List Int)) s__4 s__4h, Es (List (List Int)) s__5 s__5h, Es (List (List Int)) s__6 s__6h, Gl 0 [.int .i64 2, .int .i64 3, .int .i64 5, .int .i64 7]] := H
  refine alloc_ gok rfl H ?_; clear H; intro b10 w9 hx H
  clear hx
  replace H : Cx w0 fp0 S0 w9 [Bx b10 [(.int .i64 0), (.int .i64 0), (.int .i64 0), (.slice none 0 0), (.slice none 0 0), (.slice none 0 0), (.slice none 0 0)], Bx b7 [(.int .i64 s__0), (.int .i64 s__1), (.int .i64 s__2), (s__3h).v, (s__4h).v, (s__5h).v, (s__6h).v], Es (List (List Int)) s__3 s__3h, Es (List (List Int)) s__4 s__4h, Es (List (List Int)) s__5 s__5h, Es (List (List Int)) s__6 s__6h, Gl 0 [.int .i64 2, .int .i64 3, .int .i64 5, .int .i64 7]] := H
  refine sq ?_
  refine loadN [(.int .i64 s__0), (.int .i64 s__1), (.int .i64 s__2), (s__3h).v, (s__4h).v, (s__5h).v, (s__6h).v] rfl (fun j u hj => H.bx 1 rfl hj) ?_
  obtain ⟨y12, e, hF13⟩ := bindS hF; clear hF
  have ey12 := e; clear e
  refine callF (impl_isStateSpace_c p_ s__0 s__1 s__2 s__3 s__3h s__4 s__4h s__5 s__5h s__6 s__6h y12 ey12) (Γi := []) H ⟨Vw.sh 2 rfl, Vw.sh 3 rfl, Vw.sh 4 rfl, Vw.sh 5 rfl, Vw.gl 6 rfl, trivial⟩ ?_; clear H ey12
  rintro _ _ w14 ⟨rfl, rfl⟩ (H : Cx w0 fp0 S0 w14 [Bx b10 [(.int .i64 0), (.int .i64 0), (.int .i64 0), (.slice none 0 0), (.slice none 0 0), (.slice none 0 0), (.slice none 0 0)], Bx b7 [(.int .i64 s__0), (.int .i64 s__1), (.int .i64 s__2), (s__3h).v, (s__4h).v, (s__5h).v, (s__6h).v], Es (List (List Int)) s__3 s__3h, Es (List (List Int)) s__4 s__4h, Es (List (List Int)) s__5 s__5h, Es (List (List Int)) s__6 s__6h, Gl 0 [.int .i64 2, .int .i64 3, .int .i64 5, .int .i64 7]])
  obtain ⟨a15, e, hF16⟩ := bindS hF13; clear hF13
  refine boolO e ?_; clear e
  cases a15
  · have hF17 := condF hF16; clear hF16
    refine loadN [(.int .i64 s__0), (.int .i64 s__1), (.int .i64 s__2), (s__3h).v, (s__4h).v, (s__5h).v, (s__6h).v] rfl (fun j u hj => H.bx 1 rfl hj) ?_
    obtain ⟨y18, e, hF19⟩ := bindS hF17; clear hF17
    obtain ⟨y18_0, y18_1, y18_2, y18_3, y18_4, y18_5, y18_6⟩ := y18
    have ey18 := e; clear e
    refine callF (impl_StateSpace_minimized_c s__0 s__1 s__2 s__3 s__3h s__4 s__4h s__5 s__5h s__6 s__6h p_ y18_0 y18_1 y18_2 y18_3 y18_4 y18_5 y18_6 ey18) (Γi := []) H ⟨Vw.sh 2 rfl, Vw.sh 3 rfl, Vw.sh 4 rfl, Vw.sh 5 rfl, trivial⟩ ?_; clear H ey18
    rintro _ _ w20 ⟨h21, h23, h25, h27, rfl, rfl⟩ (H : Cx w0 fp0 S0 w20 [E (List (List Int)) y18_3 h21, E (List (List Int)) y18_4 h23, E (List (List Int)) y18_5 h25, E (List (List Int)) y18_6 h27, Bx b10 [(.int .i64 0), (.int .i64 0), (.int .i64 0), (.slice none 0 0), (.slice none 0 0), (.slice none 0 0), (.slice none 0 0)], Bx b7 [(.int .i64 s__0), (.int .i64 s__1), (.int .i64 s__2), (s__3h).v, (s__4h).v, (s__5h).v, (s__6h).v], Es (List (List Int)) s__3 s__3h, Es (List (List Int)) s__4 s__4h, Es (List (List Int)) s__5 s__5h, Es (List (List Int)) s__6 s__6h, Gl 0 [.int .i64 2, .int .i64 3, .int .i64 5, .int .i64 7]])
    replace H := H.sel [4, 0, 1, 2, 3, 5, 6, 7, 8, 9, 10] rfl
    refine stA gok [(.int .i64 y18_0), (.int .i64 y18_1), (.int .i64 y18_2), (h21).v, (h23).v, (h25).v, (h27).v] rfl H rfl rfl rfl ?_; clear H; intro w29 H
    replace H : Cx w0 fp0 S0 w29 [Bx b10 [(.int .i64 y18_0), (.int .i64 y18_1), (.int .i64 y18_2), (h21).v, (h23).v, (h25).v, (h27).v], E (List (List Int)) y18_3 h21, E (List (List Int)) y18_4 h23, E (List (List Int)) y18_5 h25, E (List (List Int)) y18_6 h27, Bx b7 [(.int .i64 s__0), (.int .i64 s__1), (.int .i64 s__2), (s__3h).v, (s__4h).v, (s__5h).v, (s__6h).v], Es (List (List Int)) s__3 s__3h, Es (List (List Int)) s__4 s__4h, Es (List (List Int)) s__5 s__5h, Es (List (List Int)) s__6 s__6h, Gl 0 [.int .i64 2, .int .i64 3, .int .i64 5, .int .i64 7]] := H
    refine loadN [(.int .i64 y18_0), (.int .i64 y18_1), (.int .i64 y18_2), (h21).v, (h23).v, (h25).v, (h27).v] rfl (fun j u hj => H.bx 0 rfl hj) ?_
    cases hF19
    exact ⟨_, _, rfl, ⟨h21, h23, h25, h27, rfl, rfl⟩, (H.sel [1, 2, 3, 4] rfl).close ⟨cloE, cloE, cloE, cloE, trivial⟩⟩
  · have hF30 := condT hF16; clear hF16
    refine build_ (cs := #[(.int .i64 0), (.int .i64 0), (.int .i64 0), (.slice none 0 0), (.slice none 0 0), (.slice none 0 0), (.slice none 0 0)]) gok rfl rfl rfl ?_
    refine stA gok [(.int .i64 0), (.int .i64 0), (.int .i64 0), (.slice none 0 0), (.slice none 0 0), (.slice none 0 0), (.slice none 0 0)] rfl H rfl rfl rfl ?_; clear H; intro w31 H
    replace H : Cx w0 fp0 S0 w31 [Bx b10 [(.int .i64 0), (.int .i64 0), (.int .i64 0), (.slice none 0 0), (.slice none 0 0), (.slice none 0 0), (.slice none 0 0)], Bx b7 [(.int .i64 s__0), (.int .i64 s__1), (.int .i64 s__2), (s__3h).v, (s__4h).v, (s__5h).v, (s__6h).v], Es (List (List Int)) s__3 s__3h, Es (List (List Int)) s__4 s__4h, Es (List (List Int)) s__5 s__5h, Es (List (List Int)) s__6 s__6h, Gl 0 [.int .i64 2, .int .i64 3, .int .i64 5, .int .i64 7]] := H
    refine loadN [(.int .i64 0), (.int .i64 0), (.int .i64 0), (.slice none 0 0), (.slice none 0 0), (.slice none 0 0), (.slice none 0 0)] rfl (fun j u hj => H.bx 0 rfl hj) ?_
    replace H := H.nil (α := List Int)
    replace H := H.nil (α := List Int)
    replace H := H.nil (α := List Int)
    replace H := H.nil (α := List Int)
    cases hF30
    exact ⟨_, _, rfl, ⟨nilH, nilH, nilH, nilH, rfl, rfl⟩, (H.sel [3, 2, 1, 0] rfl).close ⟨cloE, cloE, cloE, cloE, trivial⟩⟩

theorem laws_eqIntS_c (a_ : List Int) (a_h : Hd) (b_ : List Int) (b_h : Hd) (y : Bool) (hF : F_laws_eqIntS a_ b_ = some y) :
    ConF Tryd.prog 35 #[(a_h).v, (b_h).v] [Es (List Int) a_ a_h, Es (List Int) b_ b_h] [] (fun v Γ' => v = (.bool y) ∧ Γ' = []) := by
  intro w0 S0 fp0 hI hS
  have H : Cx w0 fp0 S0 w0 [Es (List Int) a_ a_h, Es (List Int) b_ b_h] := Cx.start hI hS
  clear hI hS
  refine enterC (args := [_, _]) gok Tryd.func35 rfl _ rfl rfl rfl ?_
  refine sq ?_
  refine lenE (H.rs (α := List Int) 0 rfl).len ?_
  refine lenE (H.rs (α := List Int) 1 rfl).len ?_
  obtain ⟨a3, e, hF4⟩ := bindS hF; clear hF
  refine boolO e ?_; clear e
  cases a3
  · have hF5 := condF hF4; clear hF4
    obtain ⟨r104, hF106, hF105⟩ := bindS hF5; clear hF5
    refine cut (fun (q107 : Unit) => []) (fun (q107 : Unit) w' => .inl () = r104 ∧ Cx w0 fp0 S0 w' []) ?_ ?_
    · skip
      refine loopW _ (fun (s166 : Int) (_ : Unit) => [(0, (a_h).v), (1, (b_h).v), (5, (.int .i64 s166))]) (fun (s166 : Int) (_ : Unit) w' => Cx w0 fp0 S0 w' [Es (List Int) a_ a_h, Es (List Int) b_ b_h]) 0 () hF106 ⟨rfl, rfl, rfl, trivial⟩ (H.sel [0, 1] rfl) ?_
      · clear H
        rintro T172 s166 _ w171 o173 (H : Cx w0 fp0 S0 w171 [Es (List Int) a_ a_h, Es (List Int) b_ b_h]) hrt hF174
        refine sq ?_
        refine lenE (H.rs (α := List Int) 0 rfl).len ?_
        obtain ⟨a175, e, hF176⟩ := bindS hF174; clear hF174
        refine boolO e ?_; clear e
        cases a175
        · have hF177 := condF hF176; clear hF176
          have hs := Option.some.inj hF177; subst hs; clear hF177
          have hF178 : some _ = some _ := congrArg some (hrt _ rfl).symm
          exact ⟨(), trivial, Option.some.inj hF178, H.sel [] rfl⟩
        · have hF179 := condT hF176; clear hF176
          refine sq ?_
          refine heldX H [] (.fst 0 (.fst 1 (.fst 2 (.fst 4 (.fst 5 (.fst 6 (.fst 3 (.fst 7 (.fst 8 .done))))))))) mixed [] trivial (by kernel_rfl) ?_
          clear H; intro w180 H
          have hX : Ext w180 w180 := Upd.refl _ _
          have H0 := H
          obtain ⟨a187, e, hF188⟩ := bindS hF179; clear hF179
          obtain ⟨p185, m186, c181, c182, c183, c184⟩ := (H.rs (α := List Int) 0 rfl).at1 e; clear e
          refine idxE c181 c182 c183 ?_; clear c181 c182 c183
          obtain ⟨a195, e, hF196⟩ := bindS hF188; clear hF188
          obtain ⟨p193, m194, c189, c190, c191, c192⟩ := (H.rs (α := List Int) 1 rfl).at1 e; clear e
          refine idxE c189 c190 c191 ?_; clear c189 c190 c191
          refine load1X c184 ?_; clear c184
          refine load1X c192 ?_; clear c192
          obtain ⟨a197, e, hF198⟩ := bindS hF196; clear hF196
          refine boolO e ?_; clear e
          cases a197
          · have hF199 := condF hF198; clear hF198
            obtain ⟨a200, e, hF201⟩ := bindS hF199; clear hF199
            refine arO e ?_; clear e
            have hs := Option.some.inj hF201; subst hs; clear hF201
            exact ⟨a200, (), rfl, ⟨rfl, rfl, rfl, trivial⟩, H.sel [0, 1] rfl⟩
          · have hF202 := condT hF198; clear hF198
            have hs := Option.some.inj hF202; subst hs; clear hF202
            have hF203 : some _ = some _ := congrArg some (hrt _ rfl).symm
            have hs := Option.some.inj hF203; subst hs; clear hF203
            have hF204 : some _ = some _ := hF105; clear hF105
            cases hF204
            exact ⟨_, _, rfl, ⟨rfl, rfl⟩, (H.sel [] rfl).close trivial⟩
    · clear hF106 H
      rintro T206 _ w205 ⟨hr, (H : Cx w0 fp0 S0 w205 [])⟩
      subst hr
      cases hF105
      exact ⟨_, _, rfl, ⟨rfl, rfl⟩, (H.sel [] rfl).close trivial⟩
  · have hF207 := condT hF4; clear hF4
    cases hF207
    exact ⟨_, _, rfl, ⟨rfl, rfl⟩, (H.sel [] rfl).close trivial⟩

theorem laws_eqIntSS_c (a_ : List (List Int)) (a_h : Hd) (b_ : List (List Int)) (b_h : Hd) (y : Bool) (hF : F_laws_eqIntSS a_ b_ = some y) :
    ConF Tryd.prog 75 #[(a_h).v, (b_h).v] [Es (List (List Int)) a_ a_h, Es (List (List Int)) b_ b_h] [] (fun v Γ' => v = (.bool y) ∧ Γ' = []) := by
  intro w0 S0 fp0 hI hS
  have H : Cx w0 fp0 S0 w0 [Es (List (List Int)) a_ a_h, Es (List (List Int)) b_ b_h] := Cx.start hI hS
  clear hI hS
  refine enterC (args := [_, _]) gok Tryd.func75 rfl _ rfl rfl rfl ?_
  refine sq ?_
  refine lenE (H.rs (α := List (List Int)) 0 rfl).len ?_
  refine lenE (H.rs (α := List (List Int)) 1 rfl).len ?_
  obtain ⟨a3, e, hF4⟩ := bindS hF; clear hF
  refine boolO e ?_; clear e
  cases a3
  · have hF5 := condF hF4; clear hF4
    obtain ⟨r125, hF127, hF126⟩ := bindS hF5; clear hF5
    refine cut (fun (q128 : Unit) => []) (fun (q128 : Unit) w' => .inl () = r125 ∧ Cx w0 fp0 S0 w' []) ?_ ?_
    · skip
      refine loopW _ (fun (s201 : Int) (_ : Unit) => [(0, (a_h).v), (1, (b_h).v), (5, (.int .i64 s201))]) (fun (s201 : Int) (_ : Unit) w' => Cx w0 fp0 S0 w' [Es (List (List Int)) a_ a_h, Es (List (List Int)) b_ b_h]) 0 () hF127 ⟨rfl, rfl, rfl, trivial⟩ (H.sel [0, 1] rfl) ?_
      · clear H
        rintro T207 s201 _ w206 o208 (H : Cx w0 fp0 S0 w206 [Es (List (List Int)) a_ a_h, Es (List (List Int)) b_ b_h]) hrt hF209
        refine sq ?_
        refine lenE (H.rs (α := List (List Int)) 0 rfl).len ?_
        obtain ⟨a210, e, hF211⟩ := bindS hF209; clear hF209
        refine boolO e ?_; clear e
        cases a210
        · have hF212 := condF hF211; clear hF211
          have hs := Option.some.inj hF212; subst hs; clear hF212
          have hF213 : some _ = some _ := congrArg some (hrt _ rfl).symm
          exact ⟨(), trivial, Option.some.inj hF213, H.sel [] rfl⟩
        · have hF214 := condT hF211; clear hF211
          refine sq ?_
          refine heldX H [] (.fst 0 (.fst 1 (.fst 2 (.fst 4 (.fst 5 (.fst 6 (.fst 3 (.fst 7 (.act 8 (.fst 9 .done)))))))))) mixed [] trivial (by kernel_rfl) ?_
          clear H; intro w215 H
          have hX : Ext w215 w215 := Upd.refl _ _
          have H0 := H
          obtain ⟨a222, e, hF223⟩ := bindS hF214; clear hF214
          have HH := H; clear H; obtain ⟨p220, m221, h224, c216, c217, c218, c219, H⟩ := HH.elL 0 rfl e; clear HH
          clear e
          refine idxE c216 c217 c218 ?_; clear c216 c217 c218
          obtain ⟨a232, e, hF233⟩ := bindS hF223; clear hF223
          have HH := H; clear H; obtain ⟨p230, m231, h234, c226, c227, c228, c229, H⟩ := HH.elL 2 rfl e; clear HH
          clear e
          refine idxE c226 c227 c228 ?_; clear c226 c227 c228
          refine load1X c219 ?_; clear c219
          refine load1X c229 ?_; clear c229
          obtain ⟨y236, e, hF237⟩ := bindS hF233; clear hF233
          have ey236 := e; clear e
          refine callFx (laws_eqIntS_c a222 h224 a232 h234 y236 ey236) H ⟨Vw.sh 1 rfl, Vw.sh 0 rfl, trivial⟩ ?_; clear H ey236
          rintro _ _ w238 ⟨rfl, rfl⟩ hx (H : Cx w0 fp0 S0 w238 [Es (List Int) a232 h234, Es (List Int) a222 h224, Es (List (List Int)) a_ a_h, Es (List (List Int)) b_ b_h])
          replace hX := hX.trans0 hx; clear hx
          refine hold hX ?_
          obtain ⟨a239, e, hF240⟩ := bindS hF237; clear hF237
          refine boolO e ?_; clear e
          cases a239
          · have hF241 := condF hF240; clear hF240
            obtain ⟨a242, e, hF243⟩ := bindS hF241; clear hF241
            refine arO e ?_; clear e
            have hs := Option.some.inj hF243; subst hs; clear hF243
            exact ⟨a242, (), rfl, ⟨rfl, rfl, rfl, trivial⟩, H.sel [2, 3] rfl⟩
          · have hF244 := condT hF240; clear hF240
            have hs := Option.some.inj hF244; subst hs; clear hF244
            have hF245 : some _ = some _ := congrArg some (hrt _ rfl).symm
            have hs := Option.some.inj hF245; subst hs; clear hF245
            have hF246 : some _ = some _ := hF126; clear hF126
            cases hF246
            exact ⟨_, _, rfl, ⟨rfl, rfl⟩, (H.sel [] rfl).close trivial⟩
    · clear hF127 H
      rintro T248 _ w247 ⟨hr, (H : Cx w0 fp0 S0 w247 [])⟩
      subst hr
      cases hF126
      exact ⟨_, _, rfl, ⟨rfl, rfl⟩, (H.sel [] rfl).close trivial⟩
  · have hF249 := condT hF4; clear hF4
    cases hF249
    exact ⟨_, _, rfl, ⟨rfl, rfl⟩, (H.sel [] rfl).close trivial⟩

theorem laws_eqStateSpace_c (a__0 : Int) (a__1 : Int) (a__2 : Int) (a__3 : List (List Int)) (a__3h : Hd) (a__4 : List (List Int)) (a__4h : Hd) (a__5 : List (List Int)) (a__5h : Hd) (a__6 : List (List Int)) (a__6h : Hd) (b__0 : Int) (b__1 : Int) (b__2 : Int) (b__3 : List (List Int)) (b__3h : Hd) (b__4 : List (List Int)) (b__4h : Hd) (b__5 : List (List Int)) (b__5h : Hd) (b__6 : List (List Int)) (b__6h : Hd) (y : Bool) (hF : F_laws_eqStateSpace (a__0, a__1, a__2, a__3, a__4, a__5, a__6) (b__0, b__1, b__2, b__3, b__4, b__5, b__6) = some y) :
    ConF Tryd.prog 21 #[(.agg #[(.int .i64 a__0), (.int .i64 a__1), (.int .i64 a__2), (a__3h).v, (a__4h).v, (a__5h).v, (a__6h).v]), (.agg #[(.int .i64 b__0), (.int .i64 b__1), (.int .i64 b__2), (b__3h).v, (b__4h).v, (b__5h).v, (b__6h).v])] [Es (List (List Int)) a__3 a__3h, Es (List (List Int)) a__4 a__4h, Es (List (List Int)) a__5 a__5h, Es (List (List Int)) a__6 a__6h, Es (List (List Int)) b__3 b__3h, Es (List (List Int)) b__4 b__4h, Es (List (List Int)) b__5 b__5h, Es (List (List Int)) b__6 b__6h] [] (fun v Γ' => v = (.bool y) ∧ Γ' = []) := by
  intro w0 S0 fp0 hI hS
  have H : Cx w0 fp0 S0 w0 [Es (List (List Int)) a__3 a__3h, Es (List (List Int)) a__4 a__4h, Es (List (List Int)) a__5 a__5h, Es (List (List Int)) a__6 a__6h, Es (List (List Int)) b__3 b__3h, Es (List (List Int)) b__4 b__4h, Es (List (List Int)) b__5 b__5h, Es (List (List Int)) b__6 b__6h] := Cx.start hI hS
  clear hI hS
  refine enterC (args := [_, _]) gok Tryd.func21 rfl _ rfl rfl rfl ?_
  refine box_ H ?_; clear H; intro b10 w9 hx H
  clear hx
  replace H : Cx w0 fp0 S0 w9 [Bx b10 [(.int .i64 a__0), (.int .i64 a__1), (.int .i64 a__2), (a__3h).v, (a__4h).v, (a__5h).v, (a__6h).v], Es (List (List Int)) a__3 a__3h, Es (List (List Int)) a__4 a__4h, Es (List (List Int)) a__5 a__5h, Es (List (List Int)) a__6 a__6h, Es (List (List Int)) b__3 b__3h, Es (List (List Int)) b__4 b__4h, Es (List (List Int)) b__5 b__5h, Es (List (List Int)) b__6 b__6h] := H
  refine box_ H ?_; clear H; intro b13 w12 hx H
  clear hx
  replace H : Cx w0 fp0 S0 w12 [Bx b13 [(.int .i64 b__0), (.int .i64 b__1), (.int .i64 b__2), (b__3h).v, (b__4h).v, (b__5h).v, (b__6h).v], Bx b10 [(.int .i64 a__0), (.int .i64 a__1), (.int .i64 a__2), (a__3h).v, (a__4h).v, (a__5h).v, (a__6h).v], Es (List (List Int)) a__3 a__3h, Es (List (List Int)) a__4 a__4h, Es (List (List Int)) a__5 a__5h, Es (List (List Int)) a__6 a__6h, Es (List (List Int)) b__3 b__3h, Es (List (List Int)) b__4 b__4h, Es (List (List Int)) b__5 b__5h, Es (List (List Int)) b__6 b__6h] := H
  refine sq ?_
  refine fld gok rfl rfl rfl rfl ?_
  refine load1 (H.bx 1 rfl (j := 0) rfl) ?_
  refine fld gok rfl rfl rfl rfl ?_
  refine load1 (H.bx 0 rfl (j := 0) rfl) ?_
  obtain ⟨a15, e, hF16⟩ := bindS hF; clear hF
  refine boolO e ?_; clear e
  cases a15
  · have hF17 := condF hF16; clear hF16
    refine sq ?_
    refine fld gok rfl rfl rfl rfl ?_
    refine load1 (H.bx 1 rfl (j := 1) rfl) ?_
    refine fld gok rfl rfl rfl rfl ?_
    refine load1 (H.bx 0 rfl (j := 1) rfl) ?_
    obtain ⟨a18, e, hF19⟩ := bindS hF17; clear hF17
    refine boolO e ?_; clear e
    cases a18
    · have hF20 := condF hF19; clear hF19
      refine sq ?_
      refine fld gok rfl rfl rfl rfl ?_
      refine load1 (H.bx 1 rfl (j := 2) rfl) ?_
      refine fld gok rfl rfl rfl rfl ?_
      refine load1 (H.bx 0 rfl (j := 2) rfl) ?_
      obtain ⟨a21, e, hF22⟩ := bindS hF20; clear hF20
      refine boolO e ?_; clear e
      cases a21
      · have hF23 := condF hF22; clear hF22
        refine sq ?_
        refine fld gok rfl rfl rfl rfl ?_
        refine load1 (H.bx 1 rfl (j := 3) rfl) ?_
        refine fld gok rfl rfl rfl rfl ?_
        refine load1 (H.bx 0 rfl (j := 3) rfl) ?_
        obtain ⟨y24, e, hF25⟩ := bindS hF23; clear hF23
        have ey24 := e; clear e
        refine callF (laws_eqIntSS_c a__3 a__3h b__3 b__3h y24 ey24) (Γi := []) H ⟨Vw.sh 2 rfl, Vw.sh 6 rfl, trivial⟩ ?_; clear H ey24
        rintro _ _ w26 ⟨rfl, rfl⟩ (H : Cx w0 fp0 S0 w26 [Bx b13 [(.int .i64 b__0), (.int .i64 b__1), (.int .i64 b__2), (b__3h).v, (b__4h).v, (b__5h).v, (b__6h).v], Bx b10 [(.int .i64 a__0), (.int .i64 a__1), (.int .i64 a__2), (a__3h).v, (a__4h).v, (a__5h).v, (a__6h).v], Es (List (List Int)) a__3 a__3h, Es (List (List Int)) a__4 a__4h, Es (List (List Int)) a__5 a__5h, Es (List (List Int)) a__6 a__6h, Es (List (List Int)) b__3 b__3h, Es (List (List Int)) b__4 b__4h, Es (List (List Int)) b__5 b__5h, Es (List (List Int)) b__6 b__6h])
        obtain ⟨a27, e, hF28⟩ := bindS hF25; clear hF25
        refine boolO e ?_; clear e
        cases a27
        · have hF29 := condF hF28; clear hF28
          refine sq ?_
          refine fld gok rfl rfl rfl rfl ?_
          refine load1 (H.bx 1 rfl (j := 4) rfl) ?_
          refine fld gok rfl rfl rfl rfl ?_
          refine load1 (H.bx 0 rfl (j := 4) rfl) ?_
          obtain ⟨y30, e, hF31⟩ := bindS hF29; clear hF29
          have ey30 := e; clear e
          refine callF (laws_eqIntSS_c a__4 a__4h b__4 b__4h y30 ey30) (Γi := []) H ⟨Vw.sh 3 rfl, Vw.sh 7 rfl, trivial⟩ ?_; clear H ey30
          rintro _ _ w32 ⟨rfl, rfl⟩ (H : Cx w0 fp0 S0 w32 [Bx b13 [(.int .i64 b__0), (.int .i64 b__1), (.int .i64 b__2), (b__3h).v, (b__4h).v, (b__5h).v, (b__6h).v], Bx b10 [(.int .i64 a__0), (.int .i64 a__1), (.int .i64 a__2), (a__3h).v, (a__4h).v, (a__5h).v, (a__6h).v], Es (List (List Int)) a__3 a__3h, Es (List (List Int)) a__4 a__4h, Es (List (List Int)) a__5 a__5h, Es (List (List Int)) a__6 a__6h, Es (List (List Int)) b__3 b__3h, Es (List (List Int)) b__4 b__4h, Es (List (List Int)) b__5 b__5h, Es (List (List Int)) b__6 b__6h])
          obtain ⟨a33, e, hF34⟩ := bindS hF31; clear hF31
          refine boolO e ?_; clear e
          cases a33
          · have hF35 := condF hF34; clear hF34
            refine sq ?_
            refine fld gok rfl rfl rfl rfl ?_
            refine load1 (H.bx 1 rfl (j := 5) rfl) ?_
            refine fld gok rfl rfl rfl rfl ?_
            refine load1 (H.bx 0 rfl (j := 5) rfl) ?_
            obtain ⟨y36, e, hF37⟩ := bindS hF35; clear hF35
            have ey36 := e; clear e
            refine callF (laws_eqIntSS_c a__5 a__5h b__5 b__5h y36 ey36) (Γi := []) H ⟨Vw.sh 4 rfl, Vw.sh 8 rfl, trivial⟩ ?_; clear H ey36
            rintro _ _ w38 ⟨rfl, rfl⟩ (H : Cx w0 fp0 S0 w38 [Bx b13 [(.int .i64 b__0), (.int .i64 b__1), (.int .i64 b__2), (b__3h).v, (b__4h).v, (b__5h).v, (b__6h).v], Bx b10 [(.int .i64 a__0), (.int .i64 a__1), (.int .i64 a__2), (a__3h).v, (a__4h).v, (a__5h).v, (a__6h).v], Es (List (List Int)) a__3 a__3h, Es (List (List Int)) a__4 a__4h, Es (List (List Int)) a__5 a__5h, Es (List (List Int)) a__6 a__6h, Es (List (List Int)) b__3 b__3h, Es (List (List Int)) b__4 b__4h, Es (List (List Int)) b__5 b__5h, Es (List (List Int)) b__6 b__6h])
            obtain ⟨a39, e, hF40⟩ := bindS hF37; clear hF37
            refine boolO e ?_; clear e
            cases a39
            · have hF41 := condF hF40; clear hF40
              refine sq ?_
              refine fld gok rfl rfl rfl rfl ?_
              refine load1 (H.bx 1 rfl (j := 6) rfl) ?_
              refine fld gok rfl rfl rfl rfl ?_
              refine load1 (H.bx 0 rfl (j := 6) rfl) ?_
              obtain ⟨y42, e, hF43⟩ := bindS hF41; clear hF41
              have ey42 := e; clear e
              refine callF (laws_eqIntSS_c a__6 a__6h b__6 b__6h y42 ey42) (Γi := []) H ⟨Vw.sh 5 rfl, Vw.sh 9 rfl, trivial⟩ ?_; clear H ey42
              rintro _ _ w44 ⟨rfl, rfl⟩ (H : Cx w0 fp0 S0 w44 [Bx b13 [(.int .i64 b__0), (.int .i64 b__1), (.int .i64 b__2), (b__3h).v, (b__4h).v, (b__5h).v, (b__6h).v], Bx b10 [(.int .i64 a__0), (.int .i64 a__1), (.int .i64 a__2), (a__3h).v, (a__4h).v, (a__5h).v, (a__6h).v], Es (List (List Int)) a__3 a__3h, Es (List (List Int)) a__4 a__4h, Es (List (List Int)) a__5 a__5h, Es (List (List Int)) a__6 a__6h, Es (List (List Int)) b__3 b__3h, Es (List (List Int)) b__4 b__4h, Es (List (List Int)) b__5 b__5h, Es (List (List Int)) b__6 b__6h])
              obtain ⟨a45, e, hF46⟩ := bindS hF43; clear hF43
              refine boolO e ?_; clear e
              cases a45
              · have hF47 := condF hF46; clear hF46
                cases hF47
                exact ⟨_, _, rfl, ⟨rfl, rfl⟩, (H.sel [] rfl).close trivial⟩
              · have hF48 := condT hF46; clear hF46
                cases hF48
                exact ⟨_, _, rfl, ⟨rfl, rfl⟩, (H.sel [] rfl).close trivial⟩
            · have hF49 := condT hF40; clear hF40
              cases hF49
              exact ⟨_, _, rfl, ⟨rfl, rfl⟩, (H.sel [] rfl).close trivial⟩
          · have hF50 := condT hF34; clear hF34
            cases hF50
            exact ⟨_, _, rfl, ⟨rfl, rfl⟩, (H.sel [] rfl).close trivial⟩
        · have hF51 := condT hF28; clear hF28
          cases hF51
          exact ⟨_, _, rfl, ⟨rfl, rfl⟩, (H.sel [] rfl).close trivial⟩
      · have hF52 := condT hF22; clear hF22
        cases hF52
        exact ⟨_, _, rfl, ⟨rfl, rfl⟩, (H.sel [] rfl).close trivial⟩
    · have hF53 := condT hF19; clear hF19
      cases hF53
      exact ⟨_, _, rfl, ⟨rfl, rfl⟩, (H.sel [] rfl).close trivial⟩
  · have hF54 := condT hF16; clear hF16
    cases hF54
    exact ⟨_, _, rfl, ⟨rfl, rfl⟩, (H.sel [] rfl).close trivial⟩

theorem laws_markIntS_c (a_ : List Int) (a_h : Hd) (k_ : Int) (y0 : List Int) (y1 : Int) (hF : F_laws_markIntS a_ k_ = some (y0, y1)) :
    ConF Tryd.prog 37 #[(a_h).v, (.int .i64 k_)] [] [E (List Int) a_ a_h] (fun v Γ' => v = (.int .i64 y1) ∧ Γ' = [E (List Int) y0 a_h]) := by
  intro w0 S0 fp0 hI hS
  have H : Cx w0 fp0 S0 w0 [E (List Int) a_ a_h] := Cx.start hI hS
  clear hI hS
  refine enterC (args := [_, _]) gok Tryd.func37 rfl _ rfl rfl rfl ?_
  obtain ⟨r69, hF71, hF70⟩ := bindS hF; clear hF
  refine cut (fun (q72 : List Int × Int) => [(1, (.int .i64 q72.2))]) (fun (q72 : List Int × Int) w' => (q72.1, q72.2) = r69 ∧ Cx w0 fp0 S0 w' [E (List Int) q72.1 a_h]) ?_ ?_
  · skip
    refine loopW _ (fun (s111 : List Int × Int × Int) (_ : Unit) => [(0, (a_h).v), (1, (.int .i64 s111.2.1)), (5, (.int .i64 s111.2.2))]) (fun (s111 : List Int × Int × Int) (_ : Unit) w' => Cx w0 fp0 S0 w' [E (List Int) s111.1 a_h]) (a_, k_, 0) () hF71 ⟨rfl, rfl, rfl, trivial⟩ (H.sel [0] rfl) ?_
    · clear H
      rintro T117 ⟨s111_0, s111_1, s111_2⟩ _ w116 o118 (H : Cx w0 fp0 S0 w116 [E (List Int) s111_0 a_h]) hrt hF119
      refine sq ?_
      refine lenE (H.ro (α := List Int) 0 rfl).len ?_
      obtain ⟨a120, e, hF121⟩ := bindS hF119; clear hF119
      refine boolO e ?_; clear e
      cases a120
      · have hF122 := condF hF121; clear hF121
        have hs := Option.some.inj hF122; subst hs; clear hF122
        have hF123 : some _ = some _ := congrArg some (hrt _ rfl).symm
        exact ⟨(s111_0, s111_1), ⟨rfl, trivial⟩, Option.some.inj hF123, H.sel [0] rfl⟩
      · have hF124 := condT hF121; clear hF121
        refine sq ?_
        obtain ⟨a131, e, hF132⟩ := bindS hF124; clear hF124
        have ea131 := e; clear e
        obtain ⟨p129, m130, c125, c126, c127⟩ := (H.ro (α := List Int) 0 rfl).setp ea131
        refine idxE c125 c126 c127 ?_
        refine setS (α := Int) H c125 c126 ea131 ?_; clear H c125 c126 c127 ea131; intro w133 H
        obtain ⟨a134, e, hF135⟩ := bindS hF132; clear hF132
        refine arO e ?_; clear e
        obtain ⟨a136, e, hF137⟩ := bindS hF135; clear hF135
        refine arO e ?_; clear e
        have hs := Option.some.inj hF137; subst hs; clear hF137
        exact ⟨(a131, a134, a136), (), rfl, ⟨rfl, rfl, rfl, trivial⟩, H.sel [0] rfl⟩
  · clear hF71 H
    rintro T139 ⟨s67_0, s67_1⟩ w138 ⟨hr, (H : Cx w0 fp0 S0 w138 [E (List Int) s67_0 a_h])⟩
    subst hr
    cases hF70
    exact ⟨_, _, rfl, ⟨rfl, rfl⟩, (H.sel [0] rfl).close ⟨cloE, trivial⟩⟩

theorem laws_markIntSS_c (a_ : List (List Int)) (a_h : Hd) (k_ : Int) (y0 : List (List Int)) (y1 : Int) (hF : F_laws_markIntSS a_ k_ = some (y0, y1)) :
    ConF Tryd.prog 78 #[(a_h).v, (.int .i64 k_)] [] [E (List (List Int)) a_ a_h] (fun v Γ' => v = (.int .i64 y1) ∧ Γ' = [E (List (List Int)) y0 a_h]) := by
  intro w0 S0 fp0 hI hS
  have H : Cx w0 fp0 S0 w0 [E (List (List Int)) a_ a_h] := Cx.start hI hS
  clear hI hS
  refine enterC (args := [_, _]) gok Tryd.func78 rfl _ rfl rfl rfl ?_
  obtain ⟨r81, hF83, hF82⟩ := bindS hF; clear hF
  refine cut (fun (q84 : List (List Int) × Int) => [(1, (.int .i64 q84.2))]) (fun (q84 : List (List Int) × Int) w' => (q84.1, q84.2) = r81 ∧ Cx w0 fp0 S0 w' [E (List (List Int)) q84.1 a_h]) ?_ ?_
  · skip
    refine loopW _ (fun (s131 : List (List Int) × Int × Int) (_ : Unit) => [(0, (a_h).v), (1, (.int .i64 s131.2.1)), (5, (.int .i64 s131.2.2))]) (fun (s131 : List (List Int) × Int × Int) (_ : Unit) w' => Cx w0 fp0 S0 w' [E (List (List Int)) s131.1 a_h]) (a_, k_, 0) () hF83 ⟨rfl, rfl, rfl, trivial⟩ (H.sel [0] rfl) ?_
    · clear H
      rintro T137 ⟨s131_0, s131_1, s131_2⟩ _ w136 o138 (H : Cx w0 fp0 S0 w136 [E (List (List Int)) s131_0 a_h]) hrt hF139
      refine sq ?_
      refine lenE (H.ro (α := List (List Int)) 0 rfl).len ?_
      obtain ⟨a140, e, hF141⟩ := bindS hF139; clear hF139
      refine boolO e ?_; clear e
      cases a140
      · have hF142 := condF hF141; clear hF141
        have hs := Option.some.inj hF142; subst hs; clear hF142
        have hF143 : some _ = some _ := congrArg some (hrt _ rfl).symm
        exact ⟨(s131_0, s131_1), ⟨rfl, trivial⟩, Option.some.inj hF143, H.sel [0] rfl⟩
      · have hF144 := condT hF141; clear hF141
        refine sq ?_
        obtain ⟨a151, e, hF152⟩ := bindS hF144; clear hF144
        replace H := H.toEH (α := List Int)
        have HH := H; clear H; obtain ⟨p149, m150, h153, c145, c146, c147, c148, H⟩ := HH.peekL e; clear HH
        clear e
        refine idxE c145 c146 c147 ?_
        refine load1 c148 ?_; clear c148
        obtain ⟨y154, e, hF155⟩ := bindS hF152; clear hF152
        obtain ⟨y154_0, y154_1⟩ := y154
        have ey154 := e; clear e
        replace H := H.takeK 0 rfl
        refine callF (laws_markIntS_c a151 h153 s131_1 y154_0 y154_1 ey154) (Γi := [E (List Int) a151 h153]) H trivial ?_; clear H ey154
        rintro _ _ w157 ⟨rfl, rfl⟩ (H : Cx w0 fp0 S0 w157 [E (List Int) y154_0 h153, EX (List Int) m150 [(h153).v] s131_0 a_h])
        obtain ⟨a158, e, hF159⟩ := bindS hF155; clear hF155
        replace H := H.put c146 e; clear e
        obtain ⟨a160, e, hF161⟩ := bindS hF159; clear hF159
        refine arO e ?_; clear e
        have hs := Option.some.inj hF161; subst hs; clear hF161
        exact ⟨(a158, y154_1, a160), (), rfl, ⟨rfl, rfl, rfl, trivial⟩, H.sel [0] rfl⟩
  · clear hF83 H
    rintro T163 ⟨s79_0, s79_1⟩ w162 ⟨hr, (H : Cx w0 fp0 S0 w162 [E (List (List Int)) s79_0 a_h])⟩
    subst hr
    cases hF82
    exact ⟨_, _, rfl, ⟨rfl, rfl⟩, (H.sel [0] rfl).close ⟨cloE, trivial⟩⟩

theorem laws_markStateSpace_c (a__0 : Int) (a__1 : Int) (a__2 : Int) (a__3 : List (List Int)) (a__3h : Hd) (a__4 : List (List Int)) (a__4h : Hd) (a__5 : List (List Int)) (a__5h : Hd) (a__6 : List (List Int)) (a__6h : Hd) (k_ : Int) (y0_0 : Int) (y0_1 : Int) (y0_2 : Int) (y0_3 : List (List Int)) (y0_4 : List (List Int)) (y0_5 : List (List Int)) (y0_6 : List (List Int)) (y1 : Int) (hF : F_laws_markStateSpace (a__0, a__1, a__2, a__3, a__4, a__5, a__6) k_ = some ((y0_0, y0_1, y0_2, y0_3, y0_4, y0_5, y0_6), y1)) :
    ConF Tryd.prog 26 #[(.agg #[(.int .i64 a__0), (.int .i64 a__1), (.int .i64 a__2), (a__3h).v, (a__4h).v, (a__5h).v, (a__6h).v]), (.int .i64 k_)] [] [E (List (List Int)) a__3 a__3h, E (List (List Int)) a__4 a__4h, E (List (List Int)) a__5 a__5h, E (List (List Int)) a__6 a__6h] (fun v Γ' => v = (.int .i64 y1) ∧ Γ' = [E (List (List Int)) y0_3 a__3h, E (List (List Int)) y0_4 a__4h, E (List (List Int)) y0_5 a__5h, E (List (List Int)) y0_6 a__6h]) := by
  intro w0 S0 fp0 hI hS
  have H : Cx w0 fp0 S0 w0 [E (List (List Int)) a__3 a__3h, E (List (List Int)) a__4 a__4h, E (List (List Int)) a__5 a__5h, E (List (List Int)) a__6 a__6h] := Cx.start hI hS
  clear hI hS
  refine enterC (args := [_, _]) gok Tryd.func26 rfl _ rfl rfl rfl ?_
  refine box_ H ?_; clear H; intro b6 w5 hx H
  clear hx
  replace H : Cx w0 fp0 S0 w5 [Bx b6 [(.int .i64 a__0), (.int .i64 a__1), (.int .i64 a__2), (a__3h).v, (a__4h).v, (a__5h).v, (a__6h).v], E (List (List Int)) a__3 a__3h, E (List (List Int)) a__4 a__4h, E (List (List Int)) a__5 a__5h, E (List (List Int)) a__6 a__6h] := H
  refine fld gok rfl rfl rfl rfl ?_
  refine load1 (H.bx 0 rfl (j := 3) rfl) ?_
  obtain ⟨y8, e, hF9⟩ := bindS hF; clear hF
  obtain ⟨y8_0, y8_1⟩ := y8
  have ey8 := e; clear e
  replace H := H.sel [1, 0, 2, 3, 4] rfl
  refine callF (laws_markIntSS_c a__3 a__3h k_ y8_0 y8_1 ey8) (Γi := [E (List (List Int)) a__3 a__3h]) H trivial ?_; clear H ey8
  rintro _ _ w10 ⟨rfl, rfl⟩ (H : Cx w0 fp0 S0 w10 [E (List (List Int)) y8_0 a__3h, Bx b6 [(.int .i64 a__0), (.int .i64 a__1), (.int .i64 a__2), (a__3h).v, (a__4h).v, (a__5h).v, (a__6h).v], E (List (List Int)) a__4 a__4h, E (List (List Int)) a__5 a__5h, E (List (List Int)) a__6 a__6h])
  refine fld gok rfl rfl rfl rfl ?_
  refine load1 (H.bx 1 rfl (j := 4) rfl) ?_
  obtain ⟨y11, e, hF12⟩ := bindS hF9; clear hF9
  obtain ⟨y11_0, y11_1⟩ := y11
  have ey11 := e; clear e
  replace H := H.sel [2, 0, 1, 3, 4] rfl
  refine callF (laws_markIntSS_c a__4 a__4h y8_1 y11_0 y11_1 ey11) (Γi := [E (List (List Int)) a__4 a__4h]) H trivial ?_; clear H ey11
  rintro _ _ w13 ⟨rfl, rfl⟩ (H : Cx w0 fp0 S0 w13 [E (List (List Int)) y11_0 a__4h, E (List (List Int)) y8_0 a__3h, Bx b6 [(.int .i64 a__0), (.int .i64 a__1), (.int .i64 a__2), (a__3h).v, (a__4h).v, (a__5h).v, (a__6h).v], E (List (List Int)) a__5 a__5h, E (List (List Int)) a__6 a__6h])
  refine fld gok rfl rfl rfl rfl ?_
  refine load1 (H.bx 2 rfl (j := 5) rfl) ?_
  obtain ⟨y14, e, hF15⟩ := bindS hF12; clear hF12
  obtain ⟨y14_0, y14_1⟩ := y14
  have ey14 := e; clear e
  replace H := H.sel [3, 0, 1, 2, 4] rfl
  refine callF (laws_markIntSS_c a__5 a__5h y11_1 y14_0 y14_1 ey14) (Γi := [E (List (List Int)) a__5 a__5h]) H trivial ?_; clear H ey14
  rintro _ _ w16 ⟨rfl, rfl⟩ (H : Cx w0 fp0 S0 w16 [E (List (List Int)) y14_0 a__5h, E (List (List Int)) y11_0 a__4h, E (List (List Int)) y8_0 a__3h, Bx b6 [(.int .i64 a__0), (.int .i64 a__1), (.int .i64 a__2), (a__3h).v, (a__4h).v, (a__5h).v, (a__6h).v], E (List (List Int)) a__6 a__6h])
  refine fld gok rfl rfl rfl rfl ?_
  refine load1 (H.bx 3 rfl (j := 6) rfl) ?_
  obtain ⟨y17, e, hF18⟩ := bindS hF15; clear hF15
  obtain ⟨y17_0, y17_1⟩ := y17
  have ey17 := e; clear e
  replace H := H.sel [4, 0, 1, 2, 3] rfl
  refine callF (laws_markIntSS_c a__6 a__6h y14_1 y17_0 y17_1 ey17) (Γi := [E (List (List Int)) a__6 a__6h]) H trivial ?_; clear H ey17
  rintro _ _ w19 ⟨rfl, rfl⟩ (H : Cx w0 fp0 S0 w19 [E (List (List Int)) y17_0 a__6h, E (List (List Int)) y14_0 a__5h, E (List (List Int)) y11_0 a__4h, E (List (List Int)) y8_0 a__3h, Bx b6 [(.int .i64 a__0), (.int .i64 a__1), (.int .i64 a__2), (a__3h).v, (a__4h).v, (a__5h).v, (a__6h).v]])
  cases hF18
  exact ⟨_, _, rfl, ⟨rfl, rfl⟩, (H.sel [3, 2, 1, 0] rfl).close ⟨cloE, cloE, cloE, cloE, trivial⟩⟩

theorem laws_heldIntS_c (a_ : List Int) (a_h : Hd) (k_ : Int) (y : Int) (hF : F_laws_heldIntS a_ k_ = some y) :
    ConF Tryd.prog 45 #[(a_h).v, (.int .i64 k_)] [Es (List Int) a_ a_h] [] (fun v Γ' => v = (.int .i64 y) ∧ Γ' = []) := by
  intro w0 S0 fp0 hI hS
  have H : Cx w0 fp0 S0 w0 [Es (List Int) a_ a_h] := Cx.start hI hS
  clear hI hS
  refine enterC (args := [_, _]) gok Tryd.func45 rfl _ rfl rfl rfl ?_
  obtain ⟨r79, hF81, hF80⟩ := bindS hF; clear hF
  refine cut (fun (q82 : Int) => [(1, (.int .i64 q82))]) (fun (q82 : Int) w' => .inl q82 = r79 ∧ Cx w0 fp0 S0 w' []) ?_ ?_
  · skip
    refine loopW _ (fun (s127 : Int × Int) (_ : Unit) => [(0, (a_h).v), (1, (.int .i64 s127.1)), (5, (.int .i64 s127.2))]) (fun (s127 : Int × Int) (_ : Unit) w' => Cx w0 fp0 S0 w' [Es (List Int) a_ a_h]) (k_, 0) () hF81 ⟨rfl, rfl, rfl, trivial⟩ (H.sel [0] rfl) ?_
    · clear H
      rintro T133 ⟨s127_0, s127_1⟩ _ w132 o134 (H : Cx w0 fp0 S0 w132 [Es (List Int) a_ a_h]) hrt hF135
      refine sq ?_
      refine lenE (H.rs (α := List Int) 0 rfl).len ?_
      obtain ⟨a136, e, hF137⟩ := bindS hF135; clear hF135
      refine boolO e ?_; clear e
      cases a136
      · have hF138 := condF hF137; clear hF137
        have hs := Option.some.inj hF138; subst hs; clear hF138
        have hF139 : some _ = some _ := congrArg some (hrt _ rfl).symm
        exact ⟨s127_0, ⟨rfl, trivial⟩, Option.some.inj hF139, H.sel [] rfl⟩
      · have hF140 := condT hF137; clear hF137
        refine sq ?_
        refine sq ?_
        obtain ⟨a147, e, hF148⟩ := bindS hF140; clear hF140
        obtain ⟨p145, m146, c141, c142, c143, c144⟩ := (H.rs (α := List Int) 0 rfl).at1 e; clear e
        refine idxE c141 c142 c143 ?_; clear c141 c142 c143
        refine load1 c144 ?_; clear c144
        obtain ⟨a149, e, hF150⟩ := bindS hF148; clear hF148
        refine boolO e ?_; clear e
        cases a149
        · have hF151 := condF hF150; clear hF150
          obtain ⟨a152, e, hF153⟩ := bindS hF151; clear hF151
          refine arO e ?_; clear e
          obtain ⟨a154, e, hF155⟩ := bindS hF153; clear hF153
          refine arO e ?_; clear e
          have hs := Option.some.inj hF155; subst hs; clear hF155
          exact ⟨(a152, a154), (), rfl, ⟨rfl, rfl, rfl, trivial⟩, H.sel [0] rfl⟩
        · have hF156 := condT hF150; clear hF150
          have hs := Option.some.inj hF156; subst hs; clear hF156
          have hF157 : some _ = some _ := congrArg some (hrt _ rfl).symm
          have hs := Option.some.inj hF157; subst hs; clear hF157
          have hF158 : some _ = some _ := hF80; clear hF80
          cases hF158
          exact ⟨_, _, rfl, ⟨rfl, rfl⟩, (H.sel [] rfl).close trivial⟩
  · clear hF81 H
    rintro T160 s77 w159 ⟨hr, (H : Cx w0 fp0 S0 w159 [])⟩
    subst hr
    cases hF80
    exact ⟨_, _, rfl, ⟨rfl, rfl⟩, (H.sel [] rfl).close trivial⟩

theorem laws_heldIntSS_c (a_ : List (List Int)) (a_h : Hd) (k_ : Int) (y : Int) (hF : F_laws_heldIntSS a_ k_ = some y) :
    ConF Tryd.prog 79 #[(a_h).v, (.int .i64 k_)] [Es (List (List Int)) a_ a_h] [] (fun v Γ' => v = (.int .i64 y) ∧ Γ' = []) := by
  intro w0 S0 fp0 hI hS
  have H : Cx w0 fp0 S0 w0 [Es (List (List Int)) a_ a_h] := Cx.start hI hS
  clear hI hS
  refine enterC (args := [_, _]) gok Tryd.func79 rfl _ rfl rfl rfl ?_
  obtain ⟨r88, hF90, hF89⟩ := bindS hF; clear hF
  refine cut (fun (q91 : Int) => [(1, (.int .i64 q91))]) (fun (q91 : Int) w' => .inl q91 = r88 ∧ Cx w0 fp0 S0 w' []) ?_ ?_
  · skip
    refine loopW _ (fun (s142 : Int × Int) (_ : Unit) => [(0, (a_h).v), (1, (.int .i64 s142.1)), (5, (.int .i64 s142.2))]) (fun (s142 : Int × Int) (_ : Unit) w' => Cx w0 fp0 S0 w' [Es (List (List Int)) a_ a_h]) (k_, 0) () hF90 ⟨rfl, rfl, rfl, trivial⟩ (H.sel [0] rfl) ?_
    · clear H
      rintro T148 ⟨s142_0, s142_1⟩ _ w147 o149 (H : Cx w0 fp0 S0 w147 [Es (List (List Int)) a_ a_h]) hrt hF150
      refine sq ?_
      refine lenE (H.rs (α := List (List Int)) 0 rfl).len ?_
      obtain ⟨a151, e, hF152⟩ := bindS hF150; clear hF150
      refine boolO e ?_; clear e
      cases a151
      · have hF153 := condF hF152; clear hF152
        have hs := Option.some.inj hF153; subst hs; clear hF153
        have hF154 : some _ = some _ := congrArg some (hrt _ rfl).symm
        exact ⟨s142_0, ⟨rfl, trivial⟩, Option.some.inj hF154, H.sel [] rfl⟩
      · have hF155 := condT hF152; clear hF152
        refine sq ?_
        obtain ⟨a162, e, hF163⟩ := bindS hF155; clear hF155
        have HH := H; clear H; obtain ⟨p160, m161, h164, c156, c157, c158, c159, H⟩ := HH.elL 0 rfl e; clear HH
        clear e
        refine idxE c156 c157 c158 ?_; clear c156 c157 c158
        refine load1 c159 ?_; clear c159
        obtain ⟨y166, e, hF167⟩ := bindS hF163; clear hF163
        have ey166 := e; clear e
        refine callF (laws_heldIntS_c a162 h164 s142_0 y166 ey166) (Γi := []) H ⟨Vw.sh 0 rfl, trivial⟩ ?_; clear H ey166
        rintro _ _ w168 ⟨rfl, rfl⟩ (H : Cx w0 fp0 S0 w168 [Es (List Int) a162 h164, Es (List (List Int)) a_ a_h])
        obtain ⟨a169, e, hF170⟩ := bindS hF167; clear hF167
        refine boolO e ?_; clear e
        cases a169
        · have hF171 := condF hF170; clear hF170
          obtain ⟨a172, e, hF173⟩ := bindS hF171; clear hF171
          refine arO e ?_; clear e
          have hs := Option.some.inj hF173; subst hs; clear hF173
          exact ⟨(y166, a172), (), rfl, ⟨rfl, rfl, rfl, trivial⟩, H.sel [1] rfl⟩
        · have hF174 := condT hF170; clear hF170
          have hs := Option.some.inj hF174; subst hs; clear hF174
          have hF175 : some _ = some _ := congrArg some (hrt _ rfl).symm
          have hs := Option.some.inj hF175; subst hs; clear hF175
          have hF176 : some _ = some _ := hF89; clear hF89
          cases hF176
          exact ⟨_, _, rfl, ⟨rfl, rfl⟩, (H.sel [] rfl).close trivial⟩
  · clear hF90 H
    rintro T178 s86 w177 ⟨hr, (H : Cx w0 fp0 S0 w177 [])⟩
    subst hr
    cases hF89
    exact ⟨_, _, rfl, ⟨rfl, rfl⟩, (H.sel [] rfl).close trivial⟩

theorem laws_heldStateSpace_c (a__0 : Int) (a__1 : Int) (a__2 : Int) (a__3 : List (List Int)) (a__3h : Hd) (a__4 : List (List Int)) (a__4h : Hd) (a__5 : List (List Int)) (a__5h : Hd) (a__6 : List (List Int)) (a__6h : Hd) (k_ : Int) (y : Int) (hF : F_laws_heldStateSpace (a__0, a__1, a__2, a__3, a__4, a__5, a__6) k_ = some y) :
    ConF Tryd.prog 56 #[(.agg #[(.int .i64 a__0), (.int .i64 a__1), (.int .i64 a__2), (a__3h).v, (a__4h).v, (a__5h).v, (a__6h).v]), (.int .i64 k_)] [Es (List (List Int)) a__3 a__3h, Es (List (List Int)) a__4 a__4h, Es (List (List Int)) a__5 a__5h, Es (List (List Int)) a__6 a__6h] [] (fun v Γ' => v = (.int .i64 y) ∧ Γ' = []) := by
  intro w0 S0 fp0 hI hS
  have H : Cx w0 fp0 S0 w0 [Es (List (List Int)) a__3 a__3h, Es (List (List Int)) a__4 a__4h, Es (List (List Int)) a__5 a__5h, Es (List (List Int)) a__6 a__6h] := Cx.start hI hS
  clear hI hS
  refine enterC (args := [_, _]) gok Tryd.func56 rfl _ rfl rfl rfl ?_
  refine box_ H ?_; clear H; intro b6 w5 hx H
  clear hx
  replace H : Cx w0 fp0 S0 w5 [Bx b6 [(.int .i64 a__0), (.int .i64 a__1), (.int .i64 a__2), (a__3h).v, (a__4h).v, (a__5h).v, (a__6h).v], Es (List (List Int)) a__3 a__3h, Es (List (List Int)) a__4 a__4h, Es (List (List Int)) a__5 a__5h, Es (List (List Int)) a__6 a__6h] := H
  refine fld gok rfl rfl rfl rfl ?_
  refine load1 (H.bx 0 rfl (j := 3) rfl) ?_
  obtain ⟨y8, e, hF9⟩ := bindS hF; clear hF
  have ey8 := e; clear e
  refine callF (laws_heldIntSS_c a__3 a__3h k_ y8 ey8) (Γi := []) H ⟨Vw.sh 1 rfl, trivial⟩ ?_; clear H ey8
  rintro _ _ w10 ⟨rfl, rfl⟩ (H : Cx w0 fp0 S0 w10 [Bx b6 [(.int .i64 a__0), (.int .i64 a__1), (.int .i64 a__2), (a__3h).v, (a__4h).v, (a__5h).v, (a__6h).v], Es (List (List Int)) a__3 a__3h, Es (List (List Int)) a__4 a__4h, Es (List (List Int)) a__5 a__5h, Es (List (List Int)) a__6 a__6h])
  refine sq ?_
  obtain ⟨a11, e, hF12⟩ := bindS hF9; clear hF9
  refine boolO e ?_; clear e
  cases a11
  · have hF13 := condF hF12; clear hF12
    refine fld gok rfl rfl rfl rfl ?_
    refine load1 (H.bx 0 rfl (j := 4) rfl) ?_
    obtain ⟨y14, e, hF15⟩ := bindS hF13; clear hF13
    have ey14 := e; clear e
    refine callF (laws_heldIntSS_c a__4 a__4h y8 y14 ey14) (Γi := []) H ⟨Vw.sh 2 rfl, trivial⟩ ?_; clear H ey14
    rintro _ _ w16 ⟨rfl, rfl⟩ (H : Cx w0 fp0 S0 w16 [Bx b6 [(.int .i64 a__0), (.int .i64 a__1), (.int .i64 a__2), (a__3h).v, (a__4h).v, (a__5h).v, (a__6h).v], Es (List (List Int)) a__3 a__3h, Es (List (List Int)) a__4 a__4h, Es (List (List Int)) a__5 a__5h, Es (List (List Int)) a__6 a__6h])
    refine sq ?_
    obtain ⟨a17, e, hF18⟩ := bindS hF15; clear hF15
    refine boolO e ?_; clear e
    cases a17
    · have hF19 := condF hF18; clear hF18
      refine fld gok rfl rfl rfl rfl ?_
      refine load1 (H.bx 0 rfl (j := 5) rfl) ?_
      obtain ⟨y20, e, hF21⟩ := bindS hF19; clear hF19
      have ey20 := e; clear e
      refine callF (laws_heldIntSS_c a__5 a__5h y14 y20 ey20) (Γi := []) H ⟨Vw.sh 3 rfl, trivial⟩ ?_; clear H ey20
      rintro _ _ w22 ⟨rfl, rfl⟩ (H : Cx w0 fp0 S0 w22 [Bx b6 [(.int .i64 a__0), (.int .i64 a__1), (.int .i64 a__2), (a__3h).v, (a__4h).v, (a__5h).v, (a__6h).v], Es (List (List Int)) a__3 a__3h, Es (List (List Int)) a__4 a__4h, Es (List (List Int)) a__5 a__5h, Es (List (List Int)) a__6 a__6h])
      refine sq ?_
      obtain ⟨a23, e, hF24⟩ := bindS hF21; clear hF21
      refine boolO e ?_; clear e
      cases a23
      · have hF25 := condF hF24; clear hF24
        refine fld gok rfl rfl rfl rfl ?_
        refine load1 (H.bx 0 rfl (j := 6) rfl) ?_
        obtain ⟨y26, e, hF27⟩ := bindS hF25; clear hF25
        have ey26 := e; clear e
        refine callF (laws_heldIntSS_c a__6 a__6h y20 y26 ey26) (Γi := []) H ⟨Vw.sh 4 rfl, trivial⟩ ?_; clear H ey26
        rintro _ _ w28 ⟨rfl, rfl⟩ (H : Cx w0 fp0 S0 w28 [Bx b6 [(.int .i64 a__0), (.int .i64 a__1), (.int .i64 a__2), (a__3h).v, (a__4h).v, (a__5h).v, (a__6h).v], Es (List (List Int)) a__3 a__3h, Es (List (List Int)) a__4 a__4h, Es (List (List Int)) a__5 a__5h, Es (List (List Int)) a__6 a__6h])
        refine sq ?_
        obtain ⟨a29, e, hF30⟩ := bindS hF27; clear hF27
        refine boolO e ?_; clear e
        cases a29
        · have hF31 := condF hF30; clear hF30
          cases hF31
          exact ⟨_, _, rfl, ⟨rfl, rfl⟩, (H.sel [] rfl).close trivial⟩
        · have hF32 := condT hF30; clear hF30
          cases hF32
          exact ⟨_, _, rfl, ⟨rfl, rfl⟩, (H.sel [] rfl).close trivial⟩
      · have hF33 := condT hF24; clear hF24
        cases hF33
        exact ⟨_, _, rfl, ⟨rfl, rfl⟩, (H.sel [] rfl).close trivial⟩
    · have hF34 := condT hF18; clear hF18
      cases hF34
      exact ⟨_, _, rfl, ⟨rfl, rfl⟩, (H.sel [] rfl).close trivial⟩
  · have hF35 := condT hF12; clear hF12
    cases hF35
    exact ⟨_, _, rfl, ⟨rfl, rfl⟩, (H.sel [] rfl).close trivial⟩
end Go.Proofs.YteikcdofblclhaaDoor
