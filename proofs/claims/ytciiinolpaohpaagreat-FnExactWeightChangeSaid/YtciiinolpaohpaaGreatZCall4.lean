/-
  Contracts, printed by a program (wip/y/gen.py): each function of Go computes its partial function. Condition of each: its partial function yields a value.
-/
import Derived.Test.YtciiinolpaohpaaGreatZCall3
namespace Go.Proofs.YtciiinolpaohpaaGreat
open Go Go.Proofs.YtciiinolpaohpaaGreat.RW
set_option maxRecDepth 100000
set_option linter.unusedVariables false

theorem laws_FnExactWeightChange_c (aR__0 : ByteArray) (aR__1_0 : List (Int × Int × ByteArray)) (aR__1_0h : Hd) (aR__2_0 : List (Int × Int × ByteArray)) (aR__2_0h : Hd) (aWeights_ : List Int) (aWeights_h : Hd) (y : Bool) (hF : F_laws_FnExactWeightChange (aR__0, aR__1_0, aR__2_0) aWeights_ = some y) :
    ConF Tryz.prog 3 #[(.agg #[(.string aR__0), (aR__1_0h).v, (aR__2_0h).v]), (aWeights_h).v] [Es (List (Int × Int × ByteArray)) aR__1_0 aR__1_0h, Es (List (Int × Int × ByteArray)) aR__2_0 aR__2_0h, Es (List Int) aWeights_ aWeights_h] [] (fun v Γ' => v = (.bool y) ∧ Γ' = []) := by
  intro w0 S0 fp0 hI hS
  have H : Cx w0 fp0 S0 w0 [Es (List (Int × Int × ByteArray)) aR__1_0 aR__1_0h, Es (List (Int × Int × ByteArray)) aR__2_0 aR__2_0h, Es (List Int) aWeights_ aWeights_h] := Cx.start hI hS
  clear hI hS
  refine enterC (args := [_, _]) gok Tryz.func3 rfl _ rfl rfl rfl ?_
  refine box_ H ?_; clear H; intro b5 w4 hx H
  clear hx
  replace H : Cx w0 fp0 S0 w4 [Bx b5 [(.string aR__0), (aR__1_0h).v, (aR__2_0h).v], Es (List (Int × Int × ByteArray)) aR__1_0 aR__1_0h, Es (List (Int × Int × ByteArray)) aR__2_0 aR__2_0h, Es (List Int) aWeights_ aWeights_h] := H
  refine sq ?_
  refine lenE (H.rs (α := List Int) 3 rfl).len ?_
  obtain ⟨a7, e, hF8⟩ := bindS hF; clear hF
  refine boolO e ?_; clear e
  cases a7
  · have hF9 := condF hF8; clear hF8
    refine loadN [(.string aR__0), (aR__1_0h).v, (aR__2_0h).v] rfl (fun j u hj => H.bx 0 rfl hj) ?_
    obtain ⟨y10, e, hF11⟩ := bindS hF9; clear hF9
    have ey10 := e; clear e
    refine callF (laws_szRule_c aR__0 aR__1_0 aR__1_0h aR__2_0 aR__2_0h 1048576 y10 ey10) (Γi := []) H ⟨Vw.sh 1 rfl, Vw.sh 2 rfl, trivial⟩ ?_; clear H ey10
    rintro _ _ w12 ⟨rfl, rfl⟩ (H : Cx w0 fp0 S0 w12 [Bx b5 [(.string aR__0), (aR__1_0h).v, (aR__2_0h).v], Es (List (Int × Int × ByteArray)) aR__1_0 aR__1_0h, Es (List (Int × Int × ByteArray)) aR__2_0 aR__2_0h, Es (List Int) aWeights_ aWeights_h])
    refine sq ?_
    obtain ⟨a13, e, hF14⟩ := bindS hF11; clear hF11
    refine boolO e ?_; clear e
    cases a13
    · have hF15 := condF hF14; clear hF14
      refine loadN [(.string aR__0), (aR__1_0h).v, (aR__2_0h).v] rfl (fun j u hj => H.bx 0 rfl hj) ?_
      obtain ⟨y16, e, hF17⟩ := bindS hF15; clear hF15
      obtain ⟨y16_0, y16_1_0, y16_2_0⟩ := y16
      have ey16 := e; clear e
      refine callF (laws_toRule_c aR__0 aR__1_0 aR__1_0h aR__2_0 aR__2_0h y16_0 y16_1_0 y16_2_0 ey16) (Γi := []) H ⟨Vw.sh 1 rfl, Vw.sh 2 rfl, trivial⟩ ?_; clear H ey16
      rintro _ _ w18 ⟨h19, h21, rfl, rfl⟩ (H : Cx w0 fp0 S0 w18 [E (List (Int × Int × ByteArray)) y16_1_0 h19, E (List (Int × Int × ByteArray)) y16_2_0 h21, Bx b5 [(.string aR__0), (aR__1_0h).v, (aR__2_0h).v], Es (List (Int × Int × ByteArray)) aR__1_0 aR__1_0h, Es (List (Int × Int × ByteArray)) aR__2_0 aR__2_0h, Es (List Int) aWeights_ aWeights_h])
      obtain ⟨y23, e, hF24⟩ := bindS hF17; clear hF17
      have ey23 := e; clear e
      refine callF (laws_toIntS_c aWeights_ aWeights_h y23 ey23) (Γi := []) H ⟨Vw.sh 5 rfl, trivial⟩ ?_; clear H ey23
      rintro _ _ w25 ⟨h26, rfl, rfl⟩ (H : Cx w0 fp0 S0 w25 [E (List Int) y23 h26, E (List (Int × Int × ByteArray)) y16_1_0 h19, E (List (Int × Int × ByteArray)) y16_2_0 h21, Bx b5 [(.string aR__0), (aR__1_0h).v, (aR__2_0h).v], Es (List (Int × Int × ByteArray)) aR__1_0 aR__1_0h, Es (List (Int × Int × ByteArray)) aR__2_0 aR__2_0h, Es (List Int) aWeights_ aWeights_h])
      obtain ⟨y28, e, hF29⟩ := bindS hF24; clear hF24
      obtain ⟨y28_0, y28_1⟩ := y28
      have ey28 := e; clear e
      refine callF (spec_WeightChange_c y16_0 y16_1_0 h19 y16_2_0 h21 y23 h26 y28_0 y28_1 ey28) (Γi := []) H ⟨Vw.own 1 rfl, Vw.own 2 rfl, Vw.own 0 rfl, trivial⟩ ?_; clear H ey28
      rintro _ _ w30 ⟨rfl, rfl⟩ (H : Cx w0 fp0 S0 w30 [E (List Int) y23 h26, E (List (Int × Int × ByteArray)) y16_1_0 h19, E (List (Int × Int × ByteArray)) y16_2_0 h21, Bx b5 [(.string aR__0), (aR__1_0h).v, (aR__2_0h).v], Es (List (Int × Int × ByteArray)) aR__1_0 aR__1_0h, Es (List (Int × Int × ByteArray)) aR__2_0 aR__2_0h, Es (List Int) aWeights_ aWeights_h])
      refine loadN [(.string aR__0), (aR__1_0h).v, (aR__2_0h).v] rfl (fun j u hj => H.bx 3 rfl hj) ?_
      obtain ⟨y31, e, hF32⟩ := bindS hF29; clear hF29
      obtain ⟨y31_0, y31_1_0, y31_2_0⟩ := y31
      have ey31 := e; clear e
      refine callF (laws_toRule_c aR__0 aR__1_0 aR__1_0h aR__2_0 aR__2_0h y31_0 y31_1_0 y31_2_0 ey31) (Γi := []) H ⟨Vw.sh 4 rfl, Vw.sh 5 rfl, trivial⟩ ?_; clear H ey31
      rintro _ _ w33 ⟨h34, h36, rfl, rfl⟩ (H : Cx w0 fp0 S0 w33 [E (List (Int × Int × ByteArray)) y31_1_0 h34, E (List (Int × Int × ByteArray)) y31_2_0 h36, E (List Int) y23 h26, E (List (Int × Int × ByteArray)) y16_1_0 h19, E (List (Int × Int × ByteArray)) y16_2_0 h21, Bx b5 [(.string aR__0), (aR__1_0h).v, (aR__2_0h).v], Es (List (Int × Int × ByteArray)) aR__1_0 aR__1_0h, Es (List (Int × Int × ByteArray)) aR__2_0 aR__2_0h, Es (List Int) aWeights_ aWeights_h])
      refine alloc_ gok rfl H ?_; clear H; intro b39 w38 hx H
      clear hx
      replace H : Cx w0 fp0 S0 w38 [Bx b39 [(.string .empty), (.slice none 0 0), (.slice none 0 0)], E (List (Int × Int × ByteArray)) y31_1_0 h34, E (List (Int × Int × ByteArray)) y31_2_0 h36, E (List Int) y23 h26, E (List (Int × Int × ByteArray)) y16_1_0 h19, E (List (Int × Int × ByteArray)) y16_2_0 h21, Bx b5 [(.string aR__0), (aR__1_0h).v, (aR__2_0h).v], Es (List (Int × Int × ByteArray)) aR__1_0 aR__1_0h, Es (List (Int × Int × ByteArray)) aR__2_0 aR__2_0h, Es (List Int) aWeights_ aWeights_h] := H
      refine stA gok [(.string y31_0), (h34).v, (h36).v] rfl H rfl rfl rfl ?_; clear H; intro w41 H
      replace H : Cx w0 fp0 S0 w41 [Bx b39 [(.string y31_0), (h34).v, (h36).v], E (List (Int × Int × ByteArray)) y31_1_0 h34, E (List (Int × Int × ByteArray)) y31_2_0 h36, E (List Int) y23 h26, E (List (Int × Int × ByteArray)) y16_1_0 h19, E (List (Int × Int × ByteArray)) y16_2_0 h21, Bx b5 [(.string aR__0), (aR__1_0h).v, (aR__2_0h).v], Es (List (Int × Int × ByteArray)) aR__1_0 aR__1_0h, Es (List (Int × Int × ByteArray)) aR__2_0 aR__2_0h, Es (List Int) aWeights_ aWeights_h] := H
      obtain ⟨y42, e, hF43⟩ := bindS hF32; clear hF32
      have ey42 := e; clear e
      refine callF (laws_toIntS_c aWeights_ aWeights_h y42 ey42) (Γi := []) H ⟨Vw.sh 9 rfl, trivial⟩ ?_; clear H ey42
      rintro _ _ w44 ⟨h45, rfl, rfl⟩ (H : Cx w0 fp0 S0 w44 [E (List Int) y42 h45, Bx b39 [(.string y31_0), (h34).v, (h36).v], E (List (Int × Int × ByteArray)) y31_1_0 h34, E (List (Int × Int × ByteArray)) y31_2_0 h36, E (List Int) y23 h26, E (List (Int × Int × ByteArray)) y16_1_0 h19, E (List (Int × Int × ByteArray)) y16_2_0 h21, Bx b5 [(.string aR__0), (aR__1_0h).v, (aR__2_0h).v], Es (List (Int × Int × ByteArray)) aR__1_0 aR__1_0h, Es (List (Int × Int × ByteArray)) aR__2_0 aR__2_0h, Es (List Int) aWeights_ aWeights_h])
      refine loadN [(.string y31_0), (h34).v, (h36).v] rfl (fun j u hj => H.bx 1 rfl hj) ?_
      obtain ⟨y47, e, hF48⟩ := bindS hF43; clear hF43
      obtain ⟨y47_0, y47_1⟩ := y47
      have ey47 := e; clear e
      refine callF (impl_WeightChange_c y31_0 y31_1_0 h34 y31_2_0 h36 y42 h45 y47_0 y47_1 ey47) (Γi := []) H ⟨Vw.own 2 rfl, Vw.own 3 rfl, Vw.own 0 rfl, trivial⟩ ?_; clear H ey47
      rintro _ _ w49 ⟨rfl, rfl⟩ (H : Cx w0 fp0 S0 w49 [E (List Int) y42 h45, Bx b39 [(.string y31_0), (h34).v, (h36).v], E (List (Int × Int × ByteArray)) y31_1_0 h34, E (List (Int × Int × ByteArray)) y31_2_0 h36, E (List Int) y23 h26, E (List (Int × Int × ByteArray)) y16_1_0 h19, E (List (Int × Int × ByteArray)) y16_2_0 h21, Bx b5 [(.string aR__0), (aR__1_0h).v, (aR__2_0h).v], Es (List (Int × Int × ByteArray)) aR__1_0 aR__1_0h, Es (List (Int × Int × ByteArray)) aR__2_0 aR__2_0h, Es (List Int) aWeights_ aWeights_h])
      refine sq ?_
      obtain ⟨r58, hF60, hF59⟩ := bindS hF48; clear hF48
      refine cut (fun (q61 : Bool) => [(1, (aWeights_h).v), (2, (.pointer (some ⟨b5, 0, none⟩))), (8, (.pointer (some ⟨b39, 0, none⟩))), (9, (h45).v), (45, (.bool q61))]) (fun (q61 : Bool) w' => q61 = r58 ∧ Cx w0 fp0 S0 w' [Es (List Int) aWeights_ aWeights_h, Bx b5 [(.string aR__0), (aR__1_0h).v, (aR__2_0h).v], Es (List (Int × Int × ByteArray)) aR__1_0 aR__1_0h, Es (List (Int × Int × ByteArray)) aR__2_0 aR__2_0h, Bx b39 [(.string y31_0), (h34).v, (h36).v], E (List (Int × Int × ByteArray)) y31_1_0 h34, E (List (Int × Int × ByteArray)) y31_2_0 h36, E (List Int) y42 h45]) ?_ ?_
      · skip
        obtain ⟨a62, e, hF63⟩ := bindS hF60; clear hF60
        refine boolO e ?_; clear e
        cases a62
        · have hF64 := condF hF63; clear hF63
          obtain ⟨a65, e, hF66⟩ := bindS hF64; clear hF64
          refine boolO e ?_; clear e
          exact ⟨a65, ⟨rfl, rfl, rfl, rfl, rfl, trivial⟩, Option.some.inj hF66, H.sel [10, 7, 8, 9, 1, 2, 3, 0] rfl⟩
        · have hF67 := condT hF63; clear hF63
          exact ⟨true, ⟨rfl, rfl, rfl, rfl, rfl, trivial⟩, Option.some.inj hF67, H.sel [10, 7, 8, 9, 1, 2, 3, 0] rfl⟩
      · clear hF60 H
        rintro T69 s56 w68 ⟨hr, (H : Cx w0 fp0 S0 w68 [Es (List Int) aWeights_ aWeights_h, Bx b5 [(.string aR__0), (aR__1_0h).v, (aR__2_0h).v], Es (List (Int × Int × ByteArray)) aR__1_0 aR__1_0h, Es (List (Int × Int × ByteArray)) aR__2_0 aR__2_0h, Bx b39 [(.string y31_0), (h34).v, (h36).v], E (List (Int × Int × ByteArray)) y31_1_0 h34, E (List (Int × Int × ByteArray)) y31_2_0 h36, E (List Int) y42 h45])⟩
        subst hr
        cases s56
        · have hF70 := condF hF59; clear hF59
          refine sq ?_
          refine heldX H [] (.fst 0 (.fst 1 (.act 2 (.act 3 (.fst 4 .done))))) mixed [] trivial (by kernel_rfl) ?_
          clear H; intro w71 H
          have hX : Ext w71 w71 := Upd.refl _ _
          have H0 := H
          refine loadNX [(.string y31_0), (h34).v, (h36).v] rfl (fun j u hj => H.bx 4 rfl hj) ?_
          refine loadNX [(.string aR__0), (aR__1_0h).v, (aR__2_0h).v] rfl (fun j u hj => H.bx 1 rfl hj) ?_
          obtain ⟨y72, e, hF73⟩ := bindS hF70; clear hF70
          obtain ⟨y72_0, y72_1_0, y72_2_0⟩ := y72
          have ey72 := e; clear e
          refine callFx (laws_toRule_c aR__0 aR__1_0 aR__1_0h aR__2_0 aR__2_0h y72_0 y72_1_0 y72_2_0 ey72) H ⟨Vw.sh 2 rfl, Vw.sh 3 rfl, trivial⟩ ?_; clear H ey72
          rintro _ _ w74 ⟨h75, h77, rfl, rfl⟩ hx (H : Cx w0 fp0 S0 w74 [E (List (Int × Int × ByteArray)) y72_1_0 h75, E (List (Int × Int × ByteArray)) y72_2_0 h77, Es (List Int) aWeights_ aWeights_h, Bx b5 [(.string aR__0), (aR__1_0h).v, (aR__2_0h).v], Es (List (Int × Int × ByteArray)) aR__1_0 aR__1_0h, Es (List (Int × Int × ByteArray)) aR__2_0 aR__2_0h, Bx b39 [(.string y31_0), (h34).v, (h36).v], E (List (Int × Int × ByteArray)) y31_1_0 h34, E (List (Int × Int × ByteArray)) y31_2_0 h36, E (List Int) y42 h45])
          replace hX := hX.trans0 hx; clear hx
          refine hold hX ?_
          obtain ⟨y79, e, hF80⟩ := bindS hF73; clear hF73
          have ey79 := e; clear e
          refine callFx (laws_eqRule_c y31_0 y31_1_0 h34 y31_2_0 h36 y72_0 y72_1_0 h75 y72_2_0 h77 y79 ey79) H ⟨Vw.own 7 rfl, Vw.own 8 rfl, Vw.own 0 rfl, Vw.own 1 rfl, trivial⟩ ?_; clear H ey79
          rintro _ _ w81 ⟨rfl, rfl⟩ hx (H : Cx w0 fp0 S0 w81 [E (List (Int × Int × ByteArray)) y72_1_0 h75, E (List (Int × Int × ByteArray)) y72_2_0 h77, Es (List Int) aWeights_ aWeights_h, Bx b5 [(.string aR__0), (aR__1_0h).v, (aR__2_0h).v], Es (List (Int × Int × ByteArray)) aR__1_0 aR__1_0h, Es (List (Int × Int × ByteArray)) aR__2_0 aR__2_0h, Bx b39 [(.string y31_0), (h34).v, (h36).v], E (List (Int × Int × ByteArray)) y31_1_0 h34, E (List (Int × Int × ByteArray)) y31_2_0 h36, E (List Int) y42 h45])
          replace hX := hX.trans0 hx; clear hx
          refine hold hX ?_
          obtain ⟨a82, e, hF83⟩ := bindS hF80; clear hF80
          refine boolO e ?_; clear e
          cases a82
          · have hF84 := condF hF83; clear hF83
            refine sq ?_
            obtain ⟨y85, e, hF86⟩ := bindS hF84; clear hF84
            have ey85 := e; clear e
            refine callF (laws_toIntS_c aWeights_ aWeights_h y85 ey85) (Γi := []) H ⟨Vw.sh 2 rfl, trivial⟩ ?_; clear H ey85
            rintro _ _ w87 ⟨h88, rfl, rfl⟩ (H : Cx w0 fp0 S0 w87 [E (List Int) y85 h88, E (List (Int × Int × ByteArray)) y72_1_0 h75, E (List (Int × Int × ByteArray)) y72_2_0 h77, Es (List Int) aWeights_ aWeights_h, Bx b5 [(.string aR__0), (aR__1_0h).v, (aR__2_0h).v], Es (List (Int × Int × ByteArray)) aR__1_0 aR__1_0h, Es (List (Int × Int × ByteArray)) aR__2_0 aR__2_0h, Bx b39 [(.string y31_0), (h34).v, (h36).v], E (List (Int × Int × ByteArray)) y31_1_0 h34, E (List (Int × Int × ByteArray)) y31_2_0 h36, E (List Int) y42 h45])
            obtain ⟨y90, e, hF91⟩ := bindS hF86; clear hF86
            have ey90 := e; clear e
            refine callF (laws_eqIntS_c y42 h45 y85 h88 y90 ey90) (Γi := []) H ⟨Vw.own 10 rfl, Vw.own 0 rfl, trivial⟩ ?_; clear H ey90
            rintro _ _ w92 ⟨rfl, rfl⟩ (H : Cx w0 fp0 S0 w92 [E (List Int) y85 h88, E (List (Int × Int × ByteArray)) y72_1_0 h75, E (List (Int × Int × ByteArray)) y72_2_0 h77, Es (List Int) aWeights_ aWeights_h, Bx b5 [(.string aR__0), (aR__1_0h).v, (aR__2_0h).v], Es (List (Int × Int × ByteArray)) aR__1_0 aR__1_0h, Es (List (Int × Int × ByteArray)) aR__2_0 aR__2_0h, Bx b39 [(.string y31_0), (h34).v, (h36).v], E (List (Int × Int × ByteArray)) y31_1_0 h34, E (List (Int × Int × ByteArray)) y31_2_0 h36, E (List Int) y42 h45])
            obtain ⟨a93, e, hF94⟩ := bindS hF91; clear hF91
            refine boolO e ?_; clear e
            cases a93
            · have hF95 := condF hF94; clear hF94
              cases hF95
              exact ⟨_, _, rfl, ⟨rfl, rfl⟩, (H.sel [] rfl).close trivial⟩
            · have hF96 := condT hF94; clear hF94
              cases hF96
              exact ⟨_, _, rfl, ⟨rfl, rfl⟩, (H.sel [] rfl).close trivial⟩
          · have hF97 := condT hF83; clear hF83
            cases hF97
            exact ⟨_, _, rfl, ⟨rfl, rfl⟩, (H.sel [] rfl).close trivial⟩
        · have hF98 := condT hF59; clear hF59
          cases hF98
          exact ⟨_, _, rfl, ⟨rfl, rfl⟩, (H.sel [] rfl).close trivial⟩
    · have hF99 := condT hF14; clear hF14
      cases hF99
      exact ⟨_, _, rfl, ⟨rfl, rfl⟩, (H.sel [] rfl).close trivial⟩
  · have hF100 := condT hF8; clear hF8
    cases hF100
    exact ⟨_, _, rfl, ⟨rfl, rfl⟩, (H.sel [] rfl).close trivial⟩
end Go.Proofs.YtciiinolpaohpaaGreat
