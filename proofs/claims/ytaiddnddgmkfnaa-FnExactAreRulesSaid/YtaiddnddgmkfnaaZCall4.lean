/-
  Contracts, printed by a program (wip/y/gen.py): each function of Go computes its partial function. Condition of each: its partial function yields a value.
-/
import Derived.Test.YtaiddnddgmkfnaaZCall3
namespace Go.Proofs.Ytaiddnddgmkfnaa
open Go Go.Proofs.Ytaiddnddgmkfnaa.RW
set_option maxRecDepth 100000
set_option linter.unusedVariables false

theorem laws_FnExactAreRules_c (aRules_ : List (ByteArray × (List (Int × Int × ByteArray)) × (List (Int × Int × ByteArray)))) (aRules_h : Hd) (y : Bool) (hF : F_laws_FnExactAreRules aRules_ = some y) :
    ConF Try.prog 3 #[(aRules_h).v] [Es (List (ByteArray × (List (Int × Int × ByteArray)) × (List (Int × Int × ByteArray)))) aRules_ aRules_h] [] (fun v Γ' => v = (.bool y) ∧ Γ' = []) := by
  intro w0 S0 fp0 hI hS
  have H : Cx w0 fp0 S0 w0 [Es (List (ByteArray × (List (Int × Int × ByteArray)) × (List (Int × Int × ByteArray)))) aRules_ aRules_h] := Cx.start hI hS
  clear hI hS
  refine enterC (args := [_]) gok Try.func3 rfl _ rfl rfl rfl ?_
  obtain ⟨y2, e, hF3⟩ := bindS hF; clear hF
  have ey2 := e; clear e
  refine callF (laws_szRuleS_c aRules_ aRules_h 1048576 y2 ey2) (Γi := []) H ⟨Vw.sh 0 rfl, trivial⟩ ?_; clear H ey2
  rintro _ _ w4 ⟨rfl, rfl⟩ (H : Cx w0 fp0 S0 w4 [Es (List (ByteArray × (List (Int × Int × ByteArray)) × (List (Int × Int × ByteArray)))) aRules_ aRules_h])
  refine sq ?_
  obtain ⟨a5, e, hF6⟩ := bindS hF3; clear hF3
  refine boolO e ?_; clear e
  cases a5
  · have hF7 := condF hF6; clear hF6
    obtain ⟨y8, e, hF9⟩ := bindS hF7; clear hF7
    have ey8 := e; clear e
    refine callF (laws_toRuleS_c aRules_ aRules_h y8 ey8) (Γi := []) H ⟨Vw.sh 0 rfl, trivial⟩ ?_; clear H ey8
    rintro _ _ w10 ⟨h11, rfl, rfl⟩ (H : Cx w0 fp0 S0 w10 [E (List (ByteArray × (List (Int × Int × ByteArray)) × (List (Int × Int × ByteArray)))) y8 h11, Es (List (ByteArray × (List (Int × Int × ByteArray)) × (List (Int × Int × ByteArray)))) aRules_ aRules_h])
    obtain ⟨y13, e, hF14⟩ := bindS hF9; clear hF9
    have ey13 := e; clear e
    refine callF (spec_AreRules_c y8 h11 y13 ey13) (Γi := []) H ⟨Vw.own 0 rfl, trivial⟩ ?_; clear H ey13
    rintro _ _ w15 ⟨rfl, rfl⟩ (H : Cx w0 fp0 S0 w15 [E (List (ByteArray × (List (Int × Int × ByteArray)) × (List (Int × Int × ByteArray)))) y8 h11, Es (List (ByteArray × (List (Int × Int × ByteArray)) × (List (Int × Int × ByteArray)))) aRules_ aRules_h])
    obtain ⟨y16, e, hF17⟩ := bindS hF14; clear hF14
    have ey16 := e; clear e
    refine callF (laws_toRuleS_c aRules_ aRules_h y16 ey16) (Γi := []) H ⟨Vw.sh 1 rfl, trivial⟩ ?_; clear H ey16
    rintro _ _ w18 ⟨h19, rfl, rfl⟩ (H : Cx w0 fp0 S0 w18 [E (List (ByteArray × (List (Int × Int × ByteArray)) × (List (Int × Int × ByteArray)))) y16 h19, E (List (ByteArray × (List (Int × Int × ByteArray)) × (List (Int × Int × ByteArray)))) y8 h11, Es (List (ByteArray × (List (Int × Int × ByteArray)) × (List (Int × Int × ByteArray)))) aRules_ aRules_h])
    obtain ⟨y21, e, hF22⟩ := bindS hF17; clear hF17
    have ey21 := e; clear e
    refine callF (impl_AreRules_c y16 h19 y21 ey21) (Γi := []) H ⟨Vw.own 0 rfl, trivial⟩ ?_; clear H ey21
    rintro _ _ w23 ⟨rfl, rfl⟩ (H : Cx w0 fp0 S0 w23 [E (List (ByteArray × (List (Int × Int × ByteArray)) × (List (Int × Int × ByteArray)))) y16 h19, E (List (ByteArray × (List (Int × Int × ByteArray)) × (List (Int × Int × ByteArray)))) y8 h11, Es (List (ByteArray × (List (Int × Int × ByteArray)) × (List (Int × Int × ByteArray)))) aRules_ aRules_h])
    refine sq ?_
    obtain ⟨a24, e, hF25⟩ := bindS hF22; clear hF22
    refine boolO e ?_; clear e
    cases a24
    · have hF26 := condF hF25; clear hF25
      refine sq ?_
      obtain ⟨y27, e, hF28⟩ := bindS hF26; clear hF26
      have ey27 := e; clear e
      refine callF (laws_toRuleS_c aRules_ aRules_h y27 ey27) (Γi := []) H ⟨Vw.sh 2 rfl, trivial⟩ ?_; clear H ey27
      rintro _ _ w29 ⟨h30, rfl, rfl⟩ (H : Cx w0 fp0 S0 w29 [E (List (ByteArray × (List (Int × Int × ByteArray)) × (List (Int × Int × ByteArray)))) y27 h30, E (List (ByteArray × (List (Int × Int × ByteArray)) × (List (Int × Int × ByteArray)))) y16 h19, E (List (ByteArray × (List (Int × Int × ByteArray)) × (List (Int × Int × ByteArray)))) y8 h11, Es (List (ByteArray × (List (Int × Int × ByteArray)) × (List (Int × Int × ByteArray)))) aRules_ aRules_h])
      obtain ⟨y32, e, hF33⟩ := bindS hF28; clear hF28
      have ey32 := e; clear e
      refine callF (laws_eqRuleS_c y16 h19 y27 h30 y32 ey32) (Γi := []) H ⟨Vw.own 1 rfl, Vw.own 0 rfl, trivial⟩ ?_; clear H ey32
      rintro _ _ w34 ⟨rfl, rfl⟩ (H : Cx w0 fp0 S0 w34 [E (List (ByteArray × (List (Int × Int × ByteArray)) × (List (Int × Int × ByteArray)))) y27 h30, E (List (ByteArray × (List (Int × Int × ByteArray)) × (List (Int × Int × ByteArray)))) y16 h19, E (List (ByteArray × (List (Int × Int × ByteArray)) × (List (Int × Int × ByteArray)))) y8 h11, Es (List (ByteArray × (List (Int × Int × ByteArray)) × (List (Int × Int × ByteArray)))) aRules_ aRules_h])
      obtain ⟨a35, e, hF36⟩ := bindS hF33; clear hF33
      refine boolO e ?_; clear e
      cases a35
      · have hF37 := condF hF36; clear hF36
        cases hF37
        exact ⟨_, _, rfl, ⟨rfl, rfl⟩, (H.sel [] rfl).close trivial⟩
      · have hF38 := condT hF36; clear hF36
        cases hF38
        exact ⟨_, _, rfl, ⟨rfl, rfl⟩, (H.sel [] rfl).close trivial⟩
    · have hF39 := condT hF25; clear hF25
      cases hF39
      exact ⟨_, _, rfl, ⟨rfl, rfl⟩, (H.sel [] rfl).close trivial⟩
  · have hF40 := condT hF6; clear hF6
    cases hF40
    exact ⟨_, _, rfl, ⟨rfl, rfl⟩, (H.sel [] rfl).close trivial⟩
end Go.Proofs.Ytaiddnddgmkfnaa
