/-
  Contracts, printed by a program (wip/y/gen.py): each function of Go computes its partial function. Condition of each: its partial function yields a value.
-/
import Derived.Test.YtciiinolpaohpaaZCall3
namespace Go.Proofs.Ytciiinolpaohpaa
open Go Go.Proofs.Ytciiinolpaohpaa.RW
set_option maxRecDepth 100000
set_option linter.unusedVariables false

theorem laws_FnExactIsTight_c (aR__0 : ByteArray) (aR__1_0 : List (Int × Int × ByteArray)) (aR__1_0h : Hd) (aR__2_0 : List (Int × Int × ByteArray)) (aR__2_0h : Hd) (y : Bool) (hF : F_laws_FnExactIsTight (aR__0, aR__1_0, aR__2_0) = some y) :
    ConF Try.prog 4 #[(.agg #[(.string aR__0), (aR__1_0h).v, (aR__2_0h).v])] [Es (List (Int × Int × ByteArray)) aR__1_0 aR__1_0h, Es (List (Int × Int × ByteArray)) aR__2_0 aR__2_0h] [] (fun v Γ' => v = (.bool y) ∧ Γ' = []) := by
  intro w0 S0 fp0 hI hS
  have H : Cx w0 fp0 S0 w0 [Es (List (Int × Int × ByteArray)) aR__1_0 aR__1_0h, Es (List (Int × Int × ByteArray)) aR__2_0 aR__2_0h] := Cx.start hI hS
  clear hI hS
  refine enterC (args := [_]) gok Try.func4 rfl _ rfl rfl rfl ?_
  refine box_ H ?_; clear H; intro b4 w3 hx H
  clear hx
  replace H : Cx w0 fp0 S0 w3 [Bx b4 [(.string aR__0), (aR__1_0h).v, (aR__2_0h).v], Es (List (Int × Int × ByteArray)) aR__1_0 aR__1_0h, Es (List (Int × Int × ByteArray)) aR__2_0 aR__2_0h] := H
  refine loadN [(.string aR__0), (aR__1_0h).v, (aR__2_0h).v] rfl (fun j u hj => H.bx 0 rfl hj) ?_
  obtain ⟨y6, e, hF7⟩ := bindS hF; clear hF
  have ey6 := e; clear e
  refine callF (laws_szRule_c aR__0 aR__1_0 aR__1_0h aR__2_0 aR__2_0h 1048576 y6 ey6) (Γi := []) H ⟨Vw.sh 1 rfl, Vw.sh 2 rfl, trivial⟩ ?_; clear H ey6
  rintro _ _ w8 ⟨rfl, rfl⟩ (H : Cx w0 fp0 S0 w8 [Bx b4 [(.string aR__0), (aR__1_0h).v, (aR__2_0h).v], Es (List (Int × Int × ByteArray)) aR__1_0 aR__1_0h, Es (List (Int × Int × ByteArray)) aR__2_0 aR__2_0h])
  refine sq ?_
  obtain ⟨a9, e, hF10⟩ := bindS hF7; clear hF7
  refine boolO e ?_; clear e
  cases a9
  · have hF11 := condF hF10; clear hF10
    refine loadN [(.string aR__0), (aR__1_0h).v, (aR__2_0h).v] rfl (fun j u hj => H.bx 0 rfl hj) ?_
    obtain ⟨y12, e, hF13⟩ := bindS hF11; clear hF11
    obtain ⟨y12_0, y12_1_0, y12_2_0⟩ := y12
    have ey12 := e; clear e
    refine callF (laws_toRule_c aR__0 aR__1_0 aR__1_0h aR__2_0 aR__2_0h y12_0 y12_1_0 y12_2_0 ey12) (Γi := []) H ⟨Vw.sh 1 rfl, Vw.sh 2 rfl, trivial⟩ ?_; clear H ey12
    rintro _ _ w14 ⟨h15, h17, rfl, rfl⟩ (H : Cx w0 fp0 S0 w14 [E (List (Int × Int × ByteArray)) y12_1_0 h15, E (List (Int × Int × ByteArray)) y12_2_0 h17, Bx b4 [(.string aR__0), (aR__1_0h).v, (aR__2_0h).v], Es (List (Int × Int × ByteArray)) aR__1_0 aR__1_0h, Es (List (Int × Int × ByteArray)) aR__2_0 aR__2_0h])
    obtain ⟨y19, e, hF20⟩ := bindS hF13; clear hF13
    obtain ⟨y19_0, y19_1⟩ := y19
    have ey19 := e; clear e
    refine callF (spec_IsTight_c y12_0 y12_1_0 h15 y12_2_0 h17 y19_0 y19_1 ey19) (Γi := []) H ⟨Vw.own 0 rfl, Vw.own 1 rfl, trivial⟩ ?_; clear H ey19
    rintro _ _ w21 ⟨rfl, rfl⟩ (H : Cx w0 fp0 S0 w21 [E (List (Int × Int × ByteArray)) y12_1_0 h15, E (List (Int × Int × ByteArray)) y12_2_0 h17, Bx b4 [(.string aR__0), (aR__1_0h).v, (aR__2_0h).v], Es (List (Int × Int × ByteArray)) aR__1_0 aR__1_0h, Es (List (Int × Int × ByteArray)) aR__2_0 aR__2_0h])
    refine loadN [(.string aR__0), (aR__1_0h).v, (aR__2_0h).v] rfl (fun j u hj => H.bx 2 rfl hj) ?_
    obtain ⟨y22, e, hF23⟩ := bindS hF20; clear hF20
    obtain ⟨y22_0, y22_1_0, y22_2_0⟩ := y22
    have ey22 := e; clear e
    refine callF (laws_toRule_c aR__0 aR__1_0 aR__1_0h aR__2_0 aR__2_0h y22_0 y22_1_0 y22_2_0 ey22) (Γi := []) H ⟨Vw.sh 3 rfl, Vw.sh 4 rfl, trivial⟩ ?_; clear H ey22
    rintro _ _ w24 ⟨h25, h27, rfl, rfl⟩ (H : Cx w0 fp0 S0 w24 [E (List (Int × Int × ByteArray)) y22_1_0 h25, E (List (Int × Int × ByteArray)) y22_2_0 h27, E (List (Int × Int × ByteArray)) y12_1_0 h15, E (List (Int × Int × ByteArray)) y12_2_0 h17, Bx b4 [(.string aR__0), (aR__1_0h).v, (aR__2_0h).v], Es (List (Int × Int × ByteArray)) aR__1_0 aR__1_0h, Es (List (Int × Int × ByteArray)) aR__2_0 aR__2_0h])
    refine alloc_ gok rfl H ?_; clear H; intro b30 w29 hx H
    clear hx
    replace H : Cx w0 fp0 S0 w29 [Bx b30 [(.string .empty), (.slice none 0 0), (.slice none 0 0)], E (List (Int × Int × ByteArray)) y22_1_0 h25, E (List (Int × Int × ByteArray)) y22_2_0 h27, E (List (Int × Int × ByteArray)) y12_1_0 h15, E (List (Int × Int × ByteArray)) y12_2_0 h17, Bx b4 [(.string aR__0), (aR__1_0h).v, (aR__2_0h).v], Es (List (Int × Int × ByteArray)) aR__1_0 aR__1_0h, Es (List (Int × Int × ByteArray)) aR__2_0 aR__2_0h] := H
    refine stA gok [(.string y22_0), (h25).v, (h27).v] rfl H rfl rfl rfl ?_; clear H; intro w32 H
    replace H : Cx w0 fp0 S0 w32 [Bx b30 [(.string y22_0), (h25).v, (h27).v], E (List (Int × Int × ByteArray)) y22_1_0 h25, E (List (Int × Int × ByteArray)) y22_2_0 h27, E (List (Int × Int × ByteArray)) y12_1_0 h15, E (List (Int × Int × ByteArray)) y12_2_0 h17, Bx b4 [(.string aR__0), (aR__1_0h).v, (aR__2_0h).v], Es (List (Int × Int × ByteArray)) aR__1_0 aR__1_0h, Es (List (Int × Int × ByteArray)) aR__2_0 aR__2_0h] := H
    refine loadN [(.string y22_0), (h25).v, (h27).v] rfl (fun j u hj => H.bx 0 rfl hj) ?_
    obtain ⟨y33, e, hF34⟩ := bindS hF23; clear hF23
    obtain ⟨y33_0, y33_1⟩ := y33
    have ey33 := e; clear e
    refine callF (impl_IsTight_c y22_0 y22_1_0 h25 y22_2_0 h27 y33_0 y33_1 ey33) (Γi := []) H ⟨Vw.own 1 rfl, Vw.own 2 rfl, trivial⟩ ?_; clear H ey33
    rintro _ _ w35 ⟨rfl, rfl⟩ (H : Cx w0 fp0 S0 w35 [Bx b30 [(.string y22_0), (h25).v, (h27).v], E (List (Int × Int × ByteArray)) y22_1_0 h25, E (List (Int × Int × ByteArray)) y22_2_0 h27, E (List (Int × Int × ByteArray)) y12_1_0 h15, E (List (Int × Int × ByteArray)) y12_2_0 h17, Bx b4 [(.string aR__0), (aR__1_0h).v, (aR__2_0h).v], Es (List (Int × Int × ByteArray)) aR__1_0 aR__1_0h, Es (List (Int × Int × ByteArray)) aR__2_0 aR__2_0h])
    refine sq ?_
    obtain ⟨r44, hF46, hF45⟩ := bindS hF34; clear hF34
    refine cut (fun (q47 : Bool) => [(1, (.pointer (some ⟨b4, 0, none⟩))), (6, (.pointer (some ⟨b30, 0, none⟩))), (34, (.bool q47))]) (fun (q47 : Bool) w' => q47 = r44 ∧ Cx w0 fp0 S0 w' [Bx b4 [(.string aR__0), (aR__1_0h).v, (aR__2_0h).v], Es (List (Int × Int × ByteArray)) aR__1_0 aR__1_0h, Es (List (Int × Int × ByteArray)) aR__2_0 aR__2_0h, Bx b30 [(.string y22_0), (h25).v, (h27).v], E (List (Int × Int × ByteArray)) y22_1_0 h25, E (List (Int × Int × ByteArray)) y22_2_0 h27]) ?_ ?_
    · skip
      obtain ⟨a48, e, hF49⟩ := bindS hF46; clear hF46
      refine boolO e ?_; clear e
      cases a48
      · have hF50 := condF hF49; clear hF49
        obtain ⟨a51, e, hF52⟩ := bindS hF50; clear hF50
        refine boolO e ?_; clear e
        exact ⟨a51, ⟨rfl, rfl, rfl, trivial⟩, Option.some.inj hF52, H.sel [5, 6, 7, 0, 1, 2] rfl⟩
      · have hF53 := condT hF49; clear hF49
        exact ⟨true, ⟨rfl, rfl, rfl, trivial⟩, Option.some.inj hF53, H.sel [5, 6, 7, 0, 1, 2] rfl⟩
    · clear hF46 H
      rintro T55 s42 w54 ⟨hr, (H : Cx w0 fp0 S0 w54 [Bx b4 [(.string aR__0), (aR__1_0h).v, (aR__2_0h).v], Es (List (Int × Int × ByteArray)) aR__1_0 aR__1_0h, Es (List (Int × Int × ByteArray)) aR__2_0 aR__2_0h, Bx b30 [(.string y22_0), (h25).v, (h27).v], E (List (Int × Int × ByteArray)) y22_1_0 h25, E (List (Int × Int × ByteArray)) y22_2_0 h27])⟩
      subst hr
      cases s42
      · have hF56 := condF hF45; clear hF45
        refine sq ?_
        refine heldX H [] (.fst 0 (.fst 1 (.act 2 (.act 3 (.fst 4 .done))))) mixed [] trivial (by kernel_rfl) ?_
        clear H; intro w57 H
        have hX : Ext w57 w57 := Upd.refl _ _
        have H0 := H
        refine loadNX [(.string y22_0), (h25).v, (h27).v] rfl (fun j u hj => H.bx 3 rfl hj) ?_
        refine loadNX [(.string aR__0), (aR__1_0h).v, (aR__2_0h).v] rfl (fun j u hj => H.bx 0 rfl hj) ?_
        obtain ⟨y58, e, hF59⟩ := bindS hF56; clear hF56
        obtain ⟨y58_0, y58_1_0, y58_2_0⟩ := y58
        have ey58 := e; clear e
        refine callFx (laws_toRule_c aR__0 aR__1_0 aR__1_0h aR__2_0 aR__2_0h y58_0 y58_1_0 y58_2_0 ey58) H ⟨Vw.sh 1 rfl, Vw.sh 2 rfl, trivial⟩ ?_; clear H ey58
        rintro _ _ w60 ⟨h61, h63, rfl, rfl⟩ hx (H : Cx w0 fp0 S0 w60 [E (List (Int × Int × ByteArray)) y58_1_0 h61, E (List (Int × Int × ByteArray)) y58_2_0 h63, Bx b4 [(.string aR__0), (aR__1_0h).v, (aR__2_0h).v], Es (List (Int × Int × ByteArray)) aR__1_0 aR__1_0h, Es (List (Int × Int × ByteArray)) aR__2_0 aR__2_0h, Bx b30 [(.string y22_0), (h25).v, (h27).v], E (List (Int × Int × ByteArray)) y22_1_0 h25, E (List (Int × Int × ByteArray)) y22_2_0 h27])
        replace hX := hX.trans0 hx; clear hx
        refine hold hX ?_
        obtain ⟨y65, e, hF66⟩ := bindS hF59; clear hF59
        have ey65 := e; clear e
        refine callFx (laws_eqRule_c y22_0 y22_1_0 h25 y22_2_0 h27 y58_0 y58_1_0 h61 y58_2_0 h63 y65 ey65) H ⟨Vw.own 6 rfl, Vw.own 7 rfl, Vw.own 0 rfl, Vw.own 1 rfl, trivial⟩ ?_; clear H ey65
        rintro _ _ w67 ⟨rfl, rfl⟩ hx (H : Cx w0 fp0 S0 w67 [E (List (Int × Int × ByteArray)) y58_1_0 h61, E (List (Int × Int × ByteArray)) y58_2_0 h63, Bx b4 [(.string aR__0), (aR__1_0h).v, (aR__2_0h).v], Es (List (Int × Int × ByteArray)) aR__1_0 aR__1_0h, Es (List (Int × Int × ByteArray)) aR__2_0 aR__2_0h, Bx b30 [(.string y22_0), (h25).v, (h27).v], E (List (Int × Int × ByteArray)) y22_1_0 h25, E (List (Int × Int × ByteArray)) y22_2_0 h27])
        replace hX := hX.trans0 hx; clear hx
        refine hold hX ?_
        obtain ⟨a68, e, hF69⟩ := bindS hF66; clear hF66
        refine boolO e ?_; clear e
        cases a68
        · have hF70 := condF hF69; clear hF69
          cases hF70
          exact ⟨_, _, rfl, ⟨rfl, rfl⟩, (H.sel [] rfl).close trivial⟩
        · have hF71 := condT hF69; clear hF69
          cases hF71
          exact ⟨_, _, rfl, ⟨rfl, rfl⟩, (H.sel [] rfl).close trivial⟩
      · have hF72 := condT hF45; clear hF45
        cases hF72
        exact ⟨_, _, rfl, ⟨rfl, rfl⟩, (H.sel [] rfl).close trivial⟩
  · have hF73 := condT hF10; clear hF10
    cases hF73
    exact ⟨_, _, rfl, ⟨rfl, rfl⟩, (H.sel [] rfl).close trivial⟩
end Go.Proofs.Ytciiinolpaohpaa
