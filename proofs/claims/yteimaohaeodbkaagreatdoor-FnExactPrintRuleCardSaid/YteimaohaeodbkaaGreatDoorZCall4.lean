/-
 Contracts, printed by a program (wip/y/gen.py): each function of Go computes its partial function. Condition of each: its partial function yields a value.
-/
import Derived.Test.YteimaohaeodbkaaGreatDoorZCall3
namespace Go.Proofs.YteimaohaeodbkaaGreatDoor
open Go Go.Proofs.YteimaohaeodbkaaGreatDoor.RW
set_option maxRecDepth 100000
set_option maxHeartbeats 1000000
set_option linter.unusedVariables false

theorem impl_PrintRule_c (r__0 : ByteArray) (r__1_0 : List (Int × Int × ByteArray)) (r__1_0h : Hd) (r__2_0 : List (Int × Int × ByteArray)) (r__2_0h : Hd) (y0 : ByteArray) (y1 : Bool) (hF : F_impl_PrintRule (r__0, r__1_0, r__2_0) = some (y0, y1)) :
  ConF Tryz.prog 7 #[(.agg #[(.string r__0), (r__1_0h).v, (r__2_0h).v])] [Es (List (Int × Int × ByteArray)) r__1_0 r__1_0h, Es (List (Int × Int × ByteArray)) r__2_0 r__2_0h] [] (fun v Γ' => v = (.tuple #[(.string y0), (.bool y1)]) ∧ Γ' = []) := by
 intro w0 S0 fp0 hI hS
 have H : Cx w0 fp0 S0 w0 [Es (List (Int × Int × ByteArray)) r__1_0 r__1_0h, Es (List (Int × Int × ByteArray)) r__2_0 r__2_0h] := Cx.start hI hS
 clear hI hS
 refine enterC (args := [_]) gok Tryz.func7 rfl _ rfl rfl rfl ?_
 refine box_ H ?_; clear H; intro b4 w3 hx H
 clear hx
 refine sq ?_
 refine loadN [(.string r__0), (r__1_0h).v, (r__2_0h).v] rfl (fun j u hj => H.bx 0 rfl hj) ?_
 obtain ⟨y6, e, hF7⟩ := bindS hF; clear hF
 have ey6 := e; clear e
 refine callF (impl_isRule_c r__0 r__1_0 r__1_0h r__2_0 r__2_0h y6 ey6) (Γi := []) H ⟨Vw.sh 1 rfl, Vw.sh 2 rfl, trivial⟩ ?_; clear H ey6
 rintro _ _ w8 ⟨rfl, rfl⟩ H
 obtain ⟨a9, e, f0⟩ := bindS hF7; clear hF7
 refine boolO e ?_; clear e
 cases a9
 ·
  have f1 := condF f0; clear f0
  obtain ⟨r0, f2, f3⟩ := bindS f1; clear f1
  refine heldJ H [] (.fst 0 (.fst 3 (.fst 4 (.fst 10 (.fst 11 (.fst 1 (.fst 5 (.fst 12 (.alts (.alt 2 (.act 6 (.act 7 (.alts (.alt 8 (.alts (.alt 9 (.act 13 (.act 14 (.act 15 (.fst 16 (.fst 17 .done))))) (.alt 13 (.alts (.alt 9 (.act 14 (.act 15 (.fst 16 (.fst 17 .done)))) (.alt 14 (.act 9 (.act 15 (.fst 16 (.fst 17 .done)))) .no))) .no))) (.alt 13 (.alts (.alt 8 (.alts (.alt 9 (.act 14 (.act 15 (.fst 16 (.fst 17 .done)))) (.alt 14 (.act 9 (.act 15 (.fst 16 (.fst 17 .done)))) .no))) (.alt 14 (.act 8 (.act 9 (.act 15 (.fst 16 (.fst 17 .done))))) .no))) .no))))) (.alt 6 (.alts (.alt 2 (.act 7 (.alts (.alt 8 (.alts (.alt 9 (.act 13 (.act 14 (.act 15 (.fst 16 (.fst 17 .done))))) (.alt 13 (.alts (.alt 9 (.act 14 (.act 15 (.fst 16 (.fst 17 .done)))) (.alt 14 (.act 9 (.act 15 (.fst 16 (.fst 17 .done)))) .no))) .no))) (.alt 13 (.alts (.alt 8 (.alts (.alt 9 (.act 14 (.act 15 (.fst 16 (.fst 17 .done)))) (.alt 14 (.act 9 (.act 15 (.fst 16 (.fst 17 .done)))) .no))) (.alt 14 (.act 8 (.act 9 (.act 15 (.fst 16 (.fst 17 .done))))) .no))) .no)))) (.alt 7 (.alts (.alt 2 (.alts (.alt 8 (.alts (.alt 9 (.act 13 (.act 14 (.act 15 (.fst 16 (.fst 17 .done))))) (.alt 13 (.alts (.alt 9 (.act 14 (.act 15 (.fst 16 (.fst 17 .done)))) (.alt 14 (.act 9 (.act 15 (.fst 16 (.fst 17 .done)))) .no))) .no))) (.alt 13 (.alts (.alt 8 (.alts (.alt 9 (.act 14 (.act 15 (.fst 16 (.fst 17 .done)))) (.alt 14 (.act 9 (.act 15 (.fst 16 (.fst 17 .done)))) .no))) (.alt 14 (.act 8 (.act 9 (.act 15 (.fst 16 (.fst 17 .done))))) .no))) .no))) (.alt 13 (.alts (.alt 2 (.alts (.alt 8 (.alts (.alt 9 (.act 14 (.act 15 (.fst 16 (.fst 17 .done)))) (.alt 14 (.act 9 (.act 15 (.fst 16 (.fst 17 .done)))) .no))) (.alt 14 (.act 8 (.act 9 (.act 15 (.fst 16 (.fst 17 .done))))) .no))) (.alt 14 (.act 2 (.act 8 (.act 9 (.act 15 (.fst 16 (.fst 17 .done)))))) .no))) .no))) .no))) .no))))))))))) mixed [] trivial (by kernel_rfl) (fun (q0 : ByteArray × Bool) => [(2, (.string q0.1)), (3, (.bool q0.2))]) (fun (q0 : ByteArray × Bool) w' => (q0.1, q0.2) = r0 ∧ Cx w0 fp0 S0 w' []) ?_ ?_
  ·
   clear H; intro w1 H
   have hX : Ext w1 w1 := Upd.refl _ _
   have H0 := H
   refine anyH (fun _ => fld gok rfl rfl rfl rfl ⟨rfl, rfl⟩) ?_
   refine anyH (fun _ => fld gok rfl rfl rfl rfl ⟨rfl, rfl⟩) ?_
   refine anyH (fun _ => fld gok rfl rfl rfl rfl ⟨rfl, rfl⟩) ?_
   refine anyH (fun _ => fld gok rfl rfl rfl rfl ⟨rfl, rfl⟩) ?_
   refine anyH (fun _ => fld gok rfl rfl rfl rfl ⟨rfl, rfl⟩) ?_
   refine load1X (H.bx 0 rfl (j := 0) rfl) ?_
   refine load1X (H.bx 0 rfl (j := 1) rfl) ?_
   refine load1X (H.bx 0 rfl (j := 2) rfl) ?_
   refine both ?_ ?_
   ·
    obtain ⟨a0, e, f4⟩ := bindS f2; clear f2
    refine catZ e ?_; clear e
    refine hold hX ?_
    obtain ⟨y2, e, f5⟩ := bindS f4; clear f4
    have i0 := e; clear e
    refine callFx (impl_treeOf_c r__1_0 r__1_0h y2 i0) H ⟨Vw.sh 1 rfl, trivial⟩ ?_; clear H i0
    rintro _ _ w2 ⟨rfl, rfl⟩ hx H
    replace hX := hX.trans0 hx; clear hx
    refine hold hX ?_
    obtain ⟨y3, e, f6⟩ := bindS f5; clear f5
    have i1 := e; clear e
    refine callFx (impl_printed_c y2 false y3 i1) H trivial ?_; clear H i1
    rintro _ _ w4 ⟨rfl, rfl⟩ hx H
    replace hX := hX.trans0 hx; clear hx
    refine hold hX ?_
    refine both ?_ ?_
    ·
     obtain ⟨a1, e, f7⟩ := bindS f6; clear f6
     refine catZ e ?_; clear e
     refine hold hX ?_
     refine both ?_ ?_
     ·
      obtain ⟨a2, e, f8⟩ := bindS f7; clear f7
      refine catZ e ?_; clear e
      refine hold hX ?_
      obtain ⟨y4, e, f9⟩ := bindS f8; clear f8
      have i2 := e; clear e
      refine callFx (impl_treeOf_c r__2_0 r__2_0h y4 i2) H ⟨Vw.sh 2 rfl, trivial⟩ ?_; clear H i2
      rintro _ _ w5 ⟨rfl, rfl⟩ hx H
      replace hX := hX.trans0 hx; clear hx
      refine hold hX ?_
      obtain ⟨y5, e, f10⟩ := bindS f9; clear f9
      have i3 := e; clear e
      refine callFx (impl_printed_c y4 false y5 i3) H trivial ?_; clear H i3
      rintro _ _ w6 ⟨rfl, rfl⟩ hx H
      replace hX := hX.trans0 hx; clear hx
      refine hold hX ?_
      obtain ⟨a3, e, f11⟩ := bindS f10; clear f10
      refine catZ e ?_; clear e
      refine hold hX ?_
      exact ⟨(a3, true), ⟨rfl, rfl, trivial⟩, Option.some.inj f11, H.sel [] rfl⟩
     ·
      refine both ?_ ?_
      ·
       obtain ⟨a4, o0, f12⟩ := bindS f7; clear f7
       obtain ⟨a5, o1, f13⟩ := bindS f12; clear f12
       obtain ⟨a6, o2, f14⟩ := bindS f13; clear f13
       obtain ⟨a7, o3, f15⟩ := bindS f14; clear f14
       have e := o1; clear o1
       have i4 := e; clear e
       refine callFx (impl_treeOf_c r__2_0 r__2_0h a5 i4) H ⟨Vw.sh 2 rfl, trivial⟩ ?_; clear H i4
       rintro _ _ w7 ⟨rfl, rfl⟩ hx H
       replace hX := hX.trans0 hx; clear hx
       refine hold hX ?_
       refine both ?_ ?_
       ·
        have e := o0; clear o0
        refine catZ e ?_; clear e
        refine hold hX ?_
        have e := o2; clear o2
        have i5 := e; clear e
        refine callFx (impl_printed_c a5 false a6 i5) H trivial ?_; clear H i5
        rintro _ _ w9 ⟨rfl, rfl⟩ hx H
        replace hX := hX.trans0 hx; clear hx
        refine hold hX ?_
        have e := o3; clear o3
        refine catZ e ?_; clear e
        refine hold hX ?_
        exact ⟨(a7, true), ⟨rfl, rfl, trivial⟩, Option.some.inj f15, H.sel [] rfl⟩
       ·
        refine both ?_ ?_
        ·
         have e := o2; clear o2
         have i5 := e; clear e
         refine callFx (impl_printed_c a5 false a6 i5) H trivial ?_; clear H i5
         rintro _ _ w10 ⟨rfl, rfl⟩ hx H
         replace hX := hX.trans0 hx; clear hx
         refine hold hX ?_
         have e := o0; clear o0
         refine catZ e ?_; clear e
         refine hold hX ?_
         have e := o3; clear o3
         refine catZ e ?_; clear e
         refine hold hX ?_
         exact ⟨(a7, true), ⟨rfl, rfl, trivial⟩, Option.some.inj f15, H.sel [] rfl⟩
        ·
         exact trivial
      ·
       exact trivial
    ·
     refine both ?_ ?_
     ·
      obtain ⟨a8, o4, f16⟩ := bindS f6; clear f6
      obtain ⟨a10, o5, f17⟩ := bindS f16; clear f16
      obtain ⟨a11, o6, f18⟩ := bindS f17; clear f17
      obtain ⟨a12, o7, f19⟩ := bindS f18; clear f18
      obtain ⟨a13, o8, f20⟩ := bindS f19; clear f19
      have e := o6; clear o6
      have i6 := e; clear e
      refine callFx (impl_treeOf_c r__2_0 r__2_0h a11 i6) H ⟨Vw.sh 2 rfl, trivial⟩ ?_; clear H i6
      rintro _ _ w11 ⟨rfl, rfl⟩ hx H
      replace hX := hX.trans0 hx; clear hx
      refine hold hX ?_
      refine both ?_ ?_
      ·
       have e := o4; clear o4
       refine catZ e ?_; clear e
       refine hold hX ?_
       refine both ?_ ?_
       ·
        have e := o5; clear o5
        refine catZ e ?_; clear e
        refine hold hX ?_
        have e := o7; clear o7
        have i7 := e; clear e
        refine callFx (impl_printed_c a11 false a12 i7) H trivial ?_; clear H i7
        rintro _ _ w12 ⟨rfl, rfl⟩ hx H
        replace hX := hX.trans0 hx; clear hx
        refine hold hX ?_
        have e := o8; clear o8
        refine catZ e ?_; clear e
        refine hold hX ?_
        exact ⟨(a13, true), ⟨rfl, rfl, trivial⟩, Option.some.inj f20, H.sel [] rfl⟩
       ·
        refine both ?_ ?_
        ·
         have e := o7; clear o7
         have i7 := e; clear e
         refine callFx (impl_printed_c a11 false a12 i7) H trivial ?_; clear H i7
         rintro _ _ w13 ⟨rfl, rfl⟩ hx H
         replace hX := hX.trans0 hx; clear hx
         refine hold hX ?_
         have e := o5; clear o5
         refine catZ e ?_; clear e
         refine hold hX ?_
         have e := o8; clear o8
         refine catZ e ?_; clear e
         refine hold hX ?_
         exact ⟨(a13, true), ⟨rfl, rfl, trivial⟩, Option.some.inj f20, H.sel [] rfl⟩
        ·
         exact trivial
      ·
       refine both ?_ ?_
       ·
        have e := o7; clear o7
        have i7 := e; clear e
        refine callFx (impl_printed_c a11 false a12 i7) H trivial ?_; clear H i7
        rintro _ _ w14 ⟨rfl, rfl⟩ hx H
        replace hX := hX.trans0 hx; clear hx
        refine hold hX ?_
        have e := o4; clear o4
        refine catZ e ?_; clear e
        refine hold hX ?_
        have e := o5; clear o5
        refine catZ e ?_; clear e
        refine hold hX ?_
        have e := o8; clear o8
        refine catZ e ?_; clear e
        refine hold hX ?_
        exact ⟨(a13, true), ⟨rfl, rfl, trivial⟩, Option.some.inj f20, H.sel [] rfl⟩
       ·
        exact trivial
     ·
      exact trivial
   ·
    refine both ?_ ?_
    ·
     obtain ⟨a14, o9, f21⟩ := bindS f2; clear f2
     obtain ⟨a15, o10, f22⟩ := bindS f21; clear f21
     obtain ⟨a16, o11, f23⟩ := bindS f22; clear f22
     obtain ⟨a17, o12, f24⟩ := bindS f23; clear f23
     obtain ⟨a18, o13, f25⟩ := bindS f24; clear f24
     obtain ⟨a19, o14, f26⟩ := bindS f25; clear f25
     obtain ⟨a20, o15, f27⟩ := bindS f26; clear f26
     obtain ⟨a21, o16, f28⟩ := bindS f27; clear f27
     have e := o10; clear o10
     have i8 := e; clear e
     refine callFx (impl_treeOf_c r__1_0 r__1_0h a15 i8) H ⟨Vw.sh 1 rfl, trivial⟩ ?_; clear H i8
     rintro _ _ w15 ⟨rfl, rfl⟩ hx H
     replace hX := hX.trans0 hx; clear hx
     refine hold hX ?_
     refine both ?_ ?_
     ·
      have e := o9; clear o9
      refine catZ e ?_; clear e
      refine hold hX ?_
      have e := o11; clear o11
      have i9 := e; clear e
      refine callFx (impl_printed_c a15 false a16 i9) H trivial ?_; clear H i9
      rintro _ _ w16 ⟨rfl, rfl⟩ hx H
      replace hX := hX.trans0 hx; clear hx
      refine hold hX ?_
      refine both ?_ ?_
      ·
       have e := o12; clear o12
       refine catZ e ?_; clear e
       refine hold hX ?_
       refine both ?_ ?_
       ·
        have e := o13; clear o13
        refine catZ e ?_; clear e
        refine hold hX ?_
        have e := o14; clear o14
        have i10 := e; clear e
        refine callFx (impl_treeOf_c r__2_0 r__2_0h a19 i10) H ⟨Vw.sh 2 rfl, trivial⟩ ?_; clear H i10
        rintro _ _ w17 ⟨rfl, rfl⟩ hx H
        replace hX := hX.trans0 hx; clear hx
        refine hold hX ?_
        have e := o15; clear o15
        have i11 := e; clear e
        refine callFx (impl_printed_c a19 false a20 i11) H trivial ?_; clear H i11
        rintro _ _ w18 ⟨rfl, rfl⟩ hx H
        replace hX := hX.trans0 hx; clear hx
        refine hold hX ?_
        have e := o16; clear o16
        refine catZ e ?_; clear e
        refine hold hX ?_
        exact ⟨(a21, true), ⟨rfl, rfl, trivial⟩, Option.some.inj f28, H.sel [] rfl⟩
       ·
        refine both ?_ ?_
        ·
         have e := o14; clear o14
         have i10 := e; clear e
         refine callFx (impl_treeOf_c r__2_0 r__2_0h a19 i10) H ⟨Vw.sh 2 rfl, trivial⟩ ?_; clear H i10
         rintro _ _ w19 ⟨rfl, rfl⟩ hx H
         replace hX := hX.trans0 hx; clear hx
         refine hold hX ?_
         refine both ?_ ?_
         ·
          have e := o13; clear o13
          refine catZ e ?_; clear e
          refine hold hX ?_
          have e := o15; clear o15
          have i11 := e; clear e
          refine callFx (impl_printed_c a19 false a20 i11) H trivial ?_; clear H i11
          rintro _ _ w20 ⟨rfl, rfl⟩ hx H
          replace hX := hX.trans0 hx; clear hx
          refine hold hX ?_
          have e := o16; clear o16
          refine catZ e ?_; clear e
          refine hold hX ?_
          exact ⟨(a21, true), ⟨rfl, rfl, trivial⟩, Option.some.inj f28, H.sel [] rfl⟩
         ·
          refine both ?_ ?_
          ·
           have e := o15; clear o15
           have i11 := e; clear e
           refine callFx (impl_printed_c a19 false a20 i11) H trivial ?_; clear H i11
           rintro _ _ w21 ⟨rfl, rfl⟩ hx H
           replace hX := hX.trans0 hx; clear hx
           refine hold hX ?_
           have e := o13; clear o13
           refine catZ e ?_; clear e
           refine hold hX ?_
           have e := o16; clear o16
           refine catZ e ?_; clear e
           refine hold hX ?_
           exact ⟨(a21, true), ⟨rfl, rfl, trivial⟩, Option.some.inj f28, H.sel [] rfl⟩
          ·
           exact trivial
        ·
         exact trivial
      ·
       refine both ?_ ?_
       ·
        have e := o14; clear o14
        have i10 := e; clear e
        refine callFx (impl_treeOf_c r__2_0 r__2_0h a19 i10) H ⟨Vw.sh 2 rfl, trivial⟩ ?_; clear H i10
        rintro _ _ w22 ⟨rfl, rfl⟩ hx H
        replace hX := hX.trans0 hx; clear hx
        refine hold hX ?_
        refine both ?_ ?_
        ·
         have e := o12; clear o12
         refine catZ e ?_; clear e
         refine hold hX ?_
         refine both ?_ ?_
         ·
          have e := o13; clear o13
          refine catZ e ?_; clear e
          refine hold hX ?_
          have e := o15; clear o15
          have i11 := e; clear e
          refine callFx (impl_printed_c a19 false a20 i11) H trivial ?_; clear H i11
          rintro _ _ w23 ⟨rfl, rfl⟩ hx H
          replace hX := hX.trans0 hx; clear hx
          refine hold hX ?_
          have e := o16; clear o16
          refine catZ e ?_; clear e
          refine hold hX ?_
          exact ⟨(a21, true), ⟨rfl, rfl, trivial⟩, Option.some.inj f28, H.sel [] rfl⟩
         ·
          refine both ?_ ?_
          ·
           have e := o15; clear o15
           have i11 := e; clear e
           refine callFx (impl_printed_c a19 false a20 i11) H trivial ?_; clear H i11
           rintro _ _ w24 ⟨rfl, rfl⟩ hx H
           replace hX := hX.trans0 hx; clear hx
           refine hold hX ?_
           have e := o13; clear o13
           refine catZ e ?_; clear e
           refine hold hX ?_
           have e := o16; clear o16
           refine catZ e ?_; clear e
           refine hold hX ?_
           exact ⟨(a21, true), ⟨rfl, rfl, trivial⟩, Option.some.inj f28, H.sel [] rfl⟩
          ·
           exact trivial
        ·
         refine both ?_ ?_
         ·
          have e := o15; clear o15
          have i11 := e; clear e
          refine callFx (impl_printed_c a19 false a20 i11) H trivial ?_; clear H i11
          rintro _ _ w25 ⟨rfl, rfl⟩ hx H
          replace hX := hX.trans0 hx; clear hx
          refine hold hX ?_
          have e := o12; clear o12
          refine catZ e ?_; clear e
          refine hold hX ?_
          have e := o13; clear o13
          refine catZ e ?_; clear e
          refine hold hX ?_
          have e := o16; clear o16
          refine catZ e ?_; clear e
          refine hold hX ?_
          exact ⟨(a21, true), ⟨rfl, rfl, trivial⟩, Option.some.inj f28, H.sel [] rfl⟩
         ·
          exact trivial
       ·
        exact trivial
     ·
      refine both ?_ ?_
      ·
       have e := o11; clear o11
       have i9 := e; clear e
       refine callFx (impl_printed_c a15 false a16 i9) H trivial ?_; clear H i9
       rintro _ _ w26 ⟨rfl, rfl⟩ hx H
       replace hX := hX.trans0 hx; clear hx
       refine hold hX ?_
       refine both ?_ ?_
       ·
        have e := o9; clear o9
        refine catZ e ?_; clear e
        refine hold hX ?_
        refine both ?_ ?_
        ·
         have e := o12; clear o12
         refine catZ e ?_; clear e
         refine hold hX ?_
         refine both ?_ ?_
         ·
          have e := o13; clear o13
          refine catZ e ?_; clear e
          refine hold hX ?_
          have e := o14; clear o14
          have i10 := e; clear e
          refine callFx (impl_treeOf_c r__2_0 r__2_0h a19 i10) H ⟨Vw.sh 2 rfl, trivial⟩ ?_; clear H i10
          rintro _ _ w27 ⟨rfl, rfl⟩ hx H
          replace hX := hX.trans0 hx; clear hx
          refine hold hX ?_
          have e := o15; clear o15
          have i11 := e; clear e
          refine callFx (impl_printed_c a19 false a20 i11) H trivial ?_; clear H i11
          rintro _ _ w28 ⟨rfl, rfl⟩ hx H
          replace hX := hX.trans0 hx; clear hx
          refine hold hX ?_
          have e := o16; clear o16
          refine catZ e ?_; clear e
          refine hold hX ?_
          exact ⟨(a21, true), ⟨rfl, rfl, trivial⟩, Option.some.inj f28, H.sel [] rfl⟩
         ·
          refine both ?_ ?_
          ·
           have e := o14; clear o14
           have i10 := e; clear e
           refine callFx (impl_treeOf_c r__2_0 r__2_0h a19 i10) H ⟨Vw.sh 2 rfl, trivial⟩ ?_; clear H i10
           rintro _ _ w29 ⟨rfl, rfl⟩ hx H
           replace hX := hX.trans0 hx; clear hx
           refine hold hX ?_
           refine both ?_ ?_
           ·
            have e := o13; clear o13
            refine catZ e ?_; clear e
            refine hold hX ?_
            have e := o15; clear o15
            have i11 := e; clear e
            refine callFx (impl_printed_c a19 false a20 i11) H trivial ?_; clear H i11
            rintro _ _ w30 ⟨rfl, rfl⟩ hx H
            replace hX := hX.trans0 hx; clear hx
            refine hold hX ?_
            have e := o16; clear o16
            refine catZ e ?_; clear e
            refine hold hX ?_
            exact ⟨(a21, true), ⟨rfl, rfl, trivial⟩, Option.some.inj f28, H.sel [] rfl⟩
           ·
            refine both ?_ ?_
            ·
             have e := o15; clear o15
             have i11 := e; clear e
             refine callFx (impl_printed_c a19 false a20 i11) H trivial ?_; clear H i11
             rintro _ _ w31 ⟨rfl, rfl⟩ hx H
             replace hX := hX.trans0 hx; clear hx
             refine hold hX ?_
             have e := o13; clear o13
             refine catZ e ?_; clear e
             refine hold hX ?_
             have e := o16; clear o16
             refine catZ e ?_; clear e
             refine hold hX ?_
             exact ⟨(a21, true), ⟨rfl, rfl, trivial⟩, Option.some.inj f28, H.sel [] rfl⟩
            ·
             exact trivial
          ·
           exact trivial
        ·
         refine both ?_ ?_
         ·
          have e := o14; clear o14
          have i10 := e; clear e
          refine callFx (impl_treeOf_c r__2_0 r__2_0h a19 i10) H ⟨Vw.sh 2 rfl, trivial⟩ ?_; clear H i10
          rintro _ _ w32 ⟨rfl, rfl⟩ hx H
          replace hX := hX.trans0 hx; clear hx
          refine hold hX ?_
          refine both ?_ ?_
          ·
           have e := o12; clear o12
           refine catZ e ?_; clear e
           refine hold hX ?_
           refine both ?_ ?_
           ·
            have e := o13; clear o13
            refine catZ e ?_; clear e
            refine hold hX ?_
            have e := o15; clear o15
            have i11 := e; clear e
            refine callFx (impl_printed_c a19 false a20 i11) H trivial ?_; clear H i11
            rintro _ _ w33 ⟨rfl, rfl⟩ hx H
            replace hX := hX.trans0 hx; clear hx
            refine hold hX ?_
            have e := o16; clear o16
            refine catZ e ?_; clear e
            refine hold hX ?_
            exact ⟨(a21, true), ⟨rfl, rfl, trivial⟩, Option.some.inj f28, H.sel [] rfl⟩
           ·
            refine both ?_ ?_
            ·
             have e := o15; clear o15
             have i11 := e; clear e
             refine callFx (impl_printed_c a19 false a20 i11) H trivial ?_; clear H i11
             rintro _ _ w34 ⟨rfl, rfl⟩ hx H
             replace hX := hX.trans0 hx; clear hx
             refine hold hX ?_
             have e := o13; clear o13
             refine catZ e ?_; clear e
             refine hold hX ?_
             have e := o16; clear o16
             refine catZ e ?_; clear e
             refine hold hX ?_
             exact ⟨(a21, true), ⟨rfl, rfl, trivial⟩, Option.some.inj f28, H.sel [] rfl⟩
            ·
             exact trivial
          ·
           refine both ?_ ?_
           ·
            have e := o15; clear o15
            have i11 := e; clear e
            refine callFx (impl_printed_c a19 false a20 i11) H trivial ?_; clear H i11
            rintro _ _ w35 ⟨rfl, rfl⟩ hx H
            replace hX := hX.trans0 hx; clear hx
            refine hold hX ?_
            have e := o12; clear o12
            refine catZ e ?_; clear e
            refine hold hX ?_
            have e := o13; clear o13
            refine catZ e ?_; clear e
            refine hold hX ?_
            have e := o16; clear o16
            refine catZ e ?_; clear e
            refine hold hX ?_
            exact ⟨(a21, true), ⟨rfl, rfl, trivial⟩, Option.some.inj f28, H.sel [] rfl⟩
           ·
            exact trivial
         ·
          exact trivial
       ·
        refine both ?_ ?_
        ·
         have e := o14; clear o14
         have i10 := e; clear e
         refine callFx (impl_treeOf_c r__2_0 r__2_0h a19 i10) H ⟨Vw.sh 2 rfl, trivial⟩ ?_; clear H i10
         rintro _ _ w36 ⟨rfl, rfl⟩ hx H
         replace hX := hX.trans0 hx; clear hx
         refine hold hX ?_
         refine both ?_ ?_
         ·
          have e := o9; clear o9
          refine catZ e ?_; clear e
          refine hold hX ?_
          refine both ?_ ?_
          ·
           have e := o12; clear o12
           refine catZ e ?_; clear e
           refine hold hX ?_
           refine both ?_ ?_
           ·
            have e := o13; clear o13
            refine catZ e ?_; clear e
            refine hold hX ?_
            have e := o15; clear o15
            have i11 := e; clear e
            refine callFx (impl_printed_c a19 false a20 i11) H trivial ?_; clear H i11
            rintro _ _ w37 ⟨rfl, rfl⟩ hx H
            replace hX := hX.trans0 hx; clear hx
            refine hold hX ?_
            have e := o16; clear o16
            refine catZ e ?_; clear e
            refine hold hX ?_
            exact ⟨(a21, true), ⟨rfl, rfl, trivial⟩, Option.some.inj f28, H.sel [] rfl⟩
           ·
            refine both ?_ ?_
            ·
             have e := o15; clear o15
             have i11 := e; clear e
             refine callFx (impl_printed_c a19 false a20 i11) H trivial ?_; clear H i11
             rintro _ _ w38 ⟨rfl, rfl⟩ hx H
             replace hX := hX.trans0 hx; clear hx
             refine hold hX ?_
             have e := o13; clear o13
             refine catZ e ?_; clear e
             refine hold hX ?_
             have e := o16; clear o16
             refine catZ e ?_; clear e
             refine hold hX ?_
             exact ⟨(a21, true), ⟨rfl, rfl, trivial⟩, Option.some.inj f28, H.sel [] rfl⟩
            ·
             exact trivial
          ·
           refine both ?_ ?_
           ·
            have e := o15; clear o15
            have i11 := e; clear e
            refine callFx (impl_printed_c a19 false a20 i11) H trivial ?_; clear H i11
            rintro _ _ w39 ⟨rfl, rfl⟩ hx H
            replace hX := hX.trans0 hx; clear hx
            refine hold hX ?_
            have e := o12; clear o12
            refine catZ e ?_; clear e
            refine hold hX ?_
            have e := o13; clear o13
            refine catZ e ?_; clear e
            refine hold hX ?_
            have e := o16; clear o16
            refine catZ e ?_; clear e
            refine hold hX ?_
            exact ⟨(a21, true), ⟨rfl, rfl, trivial⟩, Option.some.inj f28, H.sel [] rfl⟩
           ·
            exact trivial
         ·
          refine both ?_ ?_
          ·
           have e := o15; clear o15
           have i11 := e; clear e
           refine callFx (impl_printed_c a19 false a20 i11) H trivial ?_; clear H i11
           rintro _ _ w40 ⟨rfl, rfl⟩ hx H
           replace hX := hX.trans0 hx; clear hx
           refine hold hX ?_
           have e := o9; clear o9
           refine catZ e ?_; clear e
           refine hold hX ?_
           have e := o12; clear o12
           refine catZ e ?_; clear e
           refine hold hX ?_
           have e := o13; clear o13
           refine catZ e ?_; clear e
           refine hold hX ?_
           have e := o16; clear o16
           refine catZ e ?_; clear e
           refine hold hX ?_
           exact ⟨(a21, true), ⟨rfl, rfl, trivial⟩, Option.some.inj f28, H.sel [] rfl⟩
          ·
           exact trivial
        ·
         exact trivial
      ·
       exact trivial
    ·
     exact trivial
  ·
   clear f2 H
   rintro T0 ⟨s0_0, s0_1⟩ w41 ⟨hr, (H : Cx w0 fp0 S0 w41 [])⟩
   subst hr
   cases f3
   exact ⟨_, _, rfl, ⟨rfl, rfl⟩, (H.sel [] rfl).close trivial⟩
 ·
  have f29 := condT f0; clear f0
  cases f29
  exact ⟨_, _, rfl, ⟨rfl, rfl⟩, (H.sel [] rfl).close trivial⟩

theorem laws_eqNode_c (a__0 : Int) (a__1 : Int) (a__2 : ByteArray) (b__0 : Int) (b__1 : Int) (b__2 : ByteArray) (y : Bool) (hF : F_laws_eqNode (a__0, a__1, a__2) (b__0, b__1, b__2) = some y) :
  ConF Tryz.prog 48 #[(.agg #[(.int .i64 a__0), (.int .i64 a__1), (.string a__2)]), (.agg #[(.int .i64 b__0), (.int .i64 b__1), (.string b__2)])] [] [] (fun v Γ' => v = (.bool y) ∧ Γ' = []) := by
 intro w0 S0 fp0 hI hS
 have H : Cx w0 fp0 S0 w0 [] := Cx.start hI hS
 clear hI hS
 refine enterC (args := [_, _]) gok Tryz.func48 rfl _ rfl rfl rfl ?_
 refine box_ H ?_; clear H; intro b2 w1 hx H
 clear hx
 refine box_ H ?_; clear H; intro b5 w4 hx H
 clear hx
 refine sq ?_
 refine fld gok rfl rfl rfl rfl ?_
 refine load1 (H.bx 1 rfl (j := 0) rfl) ?_
 refine fld gok rfl rfl rfl rfl ?_
 refine load1 (H.bx 0 rfl (j := 0) rfl) ?_
 obtain ⟨a7, e, hF8⟩ := bindS hF; clear hF
 refine boolO e ?_; clear e
 cases a7
 ·
  have hF9 := condF hF8; clear hF8
  refine sq ?_
  refine fld gok rfl rfl rfl rfl ?_
  refine load1 (H.bx 1 rfl (j := 1) rfl) ?_
  refine fld gok rfl rfl rfl rfl ?_
  refine load1 (H.bx 0 rfl (j := 1) rfl) ?_
  obtain ⟨a0, e, f0⟩ := bindS hF9; clear hF9
  refine boolO e ?_; clear e
  cases a0
  ·
   have f1 := condF f0; clear f0
   refine sq ?_
   refine fld gok rfl rfl rfl rfl ?_
   refine load1 (H.bx 1 rfl (j := 2) rfl) ?_
   refine fld gok rfl rfl rfl rfl ?_
   refine load1 (H.bx 0 rfl (j := 2) rfl) ?_
   obtain ⟨a1, e, f2⟩ := bindS f1; clear f1
   refine neqZ e ?_; clear e
   cases a1
   ·
    have f3 := condF f2; clear f2
    cases f3
    exact ⟨_, _, rfl, ⟨rfl, rfl⟩, (H.sel [] rfl).close trivial⟩
   ·
    have f4 := condT f2; clear f2
    cases f4
    exact ⟨_, _, rfl, ⟨rfl, rfl⟩, (H.sel [] rfl).close trivial⟩
  ·
   have f5 := condT f0; clear f0
   cases f5
   exact ⟨_, _, rfl, ⟨rfl, rfl⟩, (H.sel [] rfl).close trivial⟩
 ·
  have f6 := condT hF8; clear hF8
  cases f6
  exact ⟨_, _, rfl, ⟨rfl, rfl⟩, (H.sel [] rfl).close trivial⟩

theorem laws_eqNodeS_c (a_ : List (Int × Int × ByteArray)) (a_h : Hd) (b_ : List (Int × Int × ByteArray)) (b_h : Hd) (y : Bool) (hF : F_laws_eqNodeS a_ b_ = some y) :
  ConF Tryz.prog 28 #[(a_h).v, (b_h).v] [Es (List (Int × Int × ByteArray)) a_ a_h, Es (List (Int × Int × ByteArray)) b_ b_h] [] (fun v Γ' => v = (.bool y) ∧ Γ' = []) := by
 intro w0 S0 fp0 hI hS
 have H : Cx w0 fp0 S0 w0 [Es (List (Int × Int × ByteArray)) a_ a_h, Es (List (Int × Int × ByteArray)) b_ b_h] := Cx.start hI hS
 clear hI hS
 refine enterC (args := [_, _]) gok Tryz.func28 rfl _ rfl rfl rfl ?_
 refine sq ?_
 refine lenE (H.rs (α := List (Int × Int × ByteArray)) 0 rfl).len ?_
 refine lenE (H.rs (α := List (Int × Int × ByteArray)) 1 rfl).len ?_
 obtain ⟨a3, e, hF4⟩ := bindS hF; clear hF
 refine boolO e ?_; clear e
 cases a3
 ·
  have hF5 := condF hF4; clear hF4
  obtain ⟨r0, f0, f1⟩ := bindS hF5; clear hF5
  refine cut (fun (q0 : Unit) => []) (fun (q0 : Unit) w' => .inl () = r0 ∧ Cx w0 fp0 S0 w' []) ?_ ?_
  ·
   refine loopW _ (fun (s0 : Int) (_ : Unit) => [(0, (a_h).v), (1, (b_h).v), (5, (.int .i64 s0))]) (fun (s0 : Int) (_ : Unit) w' => Cx w0 fp0 S0 w' [Es (List (Int × Int × ByteArray)) a_ a_h, Es (List (Int × Int × ByteArray)) b_ b_h]) 0 () f0 ⟨rfl, rfl, rfl, trivial⟩ (H.sel [0, 1] rfl) ?_
   ·
    clear H
    rintro T0 s0 _ w1 o0 (H : Cx w0 fp0 S0 w1 [Es (List (Int × Int × ByteArray)) a_ a_h, Es (List (Int × Int × ByteArray)) b_ b_h]) hrt f2
    refine sq ?_
    refine lenE (H.rs (α := List (Int × Int × ByteArray)) 0 rfl).len ?_
    obtain ⟨a0, e, f3⟩ := bindS f2; clear f2
    refine boolO e ?_; clear e
    cases a0
    ·
     have f4 := condF f3; clear f3
     have hs := Option.some.inj f4; subst hs; clear f4
     have f5 : some _ = some _ := congrArg some (hrt _ rfl).symm
     exact ⟨(), trivial, Option.some.inj f5, H.sel [] rfl⟩
    ·
     have f6 := condT f3; clear f3
     refine sq ?_
     refine heldX H [] (.fst 0 (.fst 1 (.fst 2 (.fst 4 (.fst 5 (.fst 6 (.fst 3 (.fst 7 (.act 8 (.fst 9 .done)))))))))) mixed [] trivial (by kernel_rfl) ?_
     clear H; intro w2 H
     have hX : Ext w2 w2 := Upd.refl _ _
     have H0 := H
     obtain ⟨a1, e, f7⟩ := bindS f6; clear f6
     have HH := H; clear H; obtain ⟨p0, m0, g0, c0, c1, c2, c3, H⟩ := HH.el (α := Int × Int × ByteArray) 0 rfl e; clear HH
     clear e
     obtain ⟨a1_0, a1_1, a1_2⟩ := a1
     obtain ⟨_, _, _⟩ := g0
     replace H := H.sel [1, 2] rfl
     refine idxE c0 c1 c2 ?_; clear c0 c1 c2
     obtain ⟨a2, e, f8⟩ := bindS f7; clear f7
     have HH := H; clear H; obtain ⟨p1, m1, g1, c4, c5, c6, c7, H⟩ := HH.el (α := Int × Int × ByteArray) 1 rfl e; clear HH
     clear e
     obtain ⟨a2_0, a2_1, a2_2⟩ := a2
     obtain ⟨_, _, _⟩ := g1
     replace H := H.sel [1, 2] rfl
     refine idxE c4 c5 c6 ?_; clear c4 c5 c6
     refine loadNX [(.int .i64 a1_0), (.int .i64 a1_1), (.string a1_2)] rfl c3 ?_; clear c3
     refine loadNX [(.int .i64 a2_0), (.int .i64 a2_1), (.string a2_2)] rfl c7 ?_; clear c7
     obtain ⟨y0, e, f9⟩ := bindS f8; clear f8
     have i0 := e; clear e
     refine callFx (laws_eqNode_c a1_0 a1_1 a1_2 a2_0 a2_1 a2_2 y0 i0) H trivial ?_; clear H i0
     rintro _ _ w3 ⟨rfl, rfl⟩ hx H
     replace hX := hX.trans0 hx; clear hx
     refine hold hX ?_
     obtain ⟨a4, e, f10⟩ := bindS f9; clear f9
     refine boolO e ?_; clear e
     cases a4
     ·
      have f11 := condF f10; clear f10
      obtain ⟨a5, e, f12⟩ := bindS f11; clear f11
      refine arO e ?_; clear e
      have hs := Option.some.inj f12; subst hs; clear f12
      exact ⟨a5, (), rfl, ⟨rfl, rfl, rfl, trivial⟩, H.sel [0, 1] rfl⟩
     ·
      have f13 := condT f10; clear f10
      have hs := Option.some.inj f13; subst hs; clear f13
      have f14 : some _ = some _ := congrArg some (hrt _ rfl).symm
      have hs := Option.some.inj f14; subst hs; clear f14
      have f15 : some _ = some _ := f1; clear f1
      cases f15
      exact ⟨_, _, rfl, ⟨rfl, rfl⟩, (H.sel [] rfl).close trivial⟩
  ·
   clear f0 H
   rintro T1 _ w4 ⟨hr, (H : Cx w0 fp0 S0 w4 [])⟩
   subst hr
   cases f1
   exact ⟨_, _, rfl, ⟨rfl, rfl⟩, (H.sel [] rfl).close trivial⟩
 ·
  have f16 := condT hF4; clear hF4
  cases f16
  exact ⟨_, _, rfl, ⟨rfl, rfl⟩, (H.sel [] rfl).close trivial⟩

theorem laws_eqTerm_c (a__0 : List (Int × Int × ByteArray)) (a__0h : Hd) (b__0 : List (Int × Int × ByteArray)) (b__0h : Hd) (y : Bool) (hF : F_laws_eqTerm a__0 b__0 = some y) :
  ConF Tryz.prog 16 #[(.agg #[(a__0h).v]), (.agg #[(b__0h).v])] [Es (List (Int × Int × ByteArray)) a__0 a__0h, Es (List (Int × Int × ByteArray)) b__0 b__0h] [] (fun v Γ' => v = (.bool y) ∧ Γ' = []) := by
 intro w0 S0 fp0 hI hS
 have H : Cx w0 fp0 S0 w0 [Es (List (Int × Int × ByteArray)) a__0 a__0h, Es (List (Int × Int × ByteArray)) b__0 b__0h] := Cx.start hI hS
 clear hI hS
 refine enterC (args := [_, _]) gok Tryz.func16 rfl _ rfl rfl rfl ?_
 refine box_ H ?_; clear H; intro b4 w3 hx H
 clear hx
 refine box_ H ?_; clear H; intro b7 w6 hx H
 clear hx
 refine sq ?_
 refine fld gok rfl rfl rfl rfl ?_
 refine load1 (H.bx 1 rfl (j := 0) rfl) ?_
 refine fld gok rfl rfl rfl rfl ?_
 refine load1 (H.bx 0 rfl (j := 0) rfl) ?_
 obtain ⟨y9, e, f0⟩ := bindS hF; clear hF
 have ey9 := e; clear e
 refine callF (laws_eqNodeS_c a__0 a__0h b__0 b__0h y9 ey9) (Γi := []) H ⟨Vw.sh 2 rfl, Vw.sh 3 rfl, trivial⟩ ?_; clear H ey9
 rintro _ _ w1 ⟨rfl, rfl⟩ H
 obtain ⟨a0, e, f1⟩ := bindS f0; clear f0
 refine boolO e ?_; clear e
 cases a0
 ·
  have f2 := condF f1; clear f1
  cases f2
  exact ⟨_, _, rfl, ⟨rfl, rfl⟩, (H.sel [] rfl).close trivial⟩
 ·
  have f3 := condT f1; clear f1
  cases f3
  exact ⟨_, _, rfl, ⟨rfl, rfl⟩, (H.sel [] rfl).close trivial⟩

theorem laws_eqRule_c (a__0 : ByteArray) (a__1_0 : List (Int × Int × ByteArray)) (a__1_0h : Hd) (a__2_0 : List (Int × Int × ByteArray)) (a__2_0h : Hd) (b__0 : ByteArray) (b__1_0 : List (Int × Int × ByteArray)) (b__1_0h : Hd) (b__2_0 : List (Int × Int × ByteArray)) (b__2_0h : Hd) (y : Bool) (hF : F_laws_eqRule (a__0, a__1_0, a__2_0) (b__0, b__1_0, b__2_0) = some y) :
  ConF Tryz.prog 8 #[(.agg #[(.string a__0), (a__1_0h).v, (a__2_0h).v]), (.agg #[(.string b__0), (b__1_0h).v, (b__2_0h).v])] [Es (List (Int × Int × ByteArray)) a__1_0 a__1_0h, Es (List (Int × Int × ByteArray)) a__2_0 a__2_0h, Es (List (Int × Int × ByteArray)) b__1_0 b__1_0h, Es (List (Int × Int × ByteArray)) b__2_0 b__2_0h] [] (fun v Γ' => v = (.bool y) ∧ Γ' = []) := by
 intro w0 S0 fp0 hI hS
 have H : Cx w0 fp0 S0 w0 [Es (List (Int × Int × ByteArray)) a__1_0 a__1_0h, Es (List (Int × Int × ByteArray)) a__2_0 a__2_0h, Es (List (Int × Int × ByteArray)) b__1_0 b__1_0h, Es (List (Int × Int × ByteArray)) b__2_0 b__2_0h] := Cx.start hI hS
 clear hI hS
 refine enterC (args := [_, _]) gok Tryz.func8 rfl _ rfl rfl rfl ?_
 refine box_ H ?_; clear H; intro b6 w5 hx H
 clear hx
 refine box_ H ?_; clear H; intro b9 w8 hx H
 clear hx
 refine sq ?_
 refine fld gok rfl rfl rfl rfl ?_
 refine load1 (H.bx 1 rfl (j := 0) rfl) ?_
 refine fld gok rfl rfl rfl rfl ?_
 refine load1 (H.bx 0 rfl (j := 0) rfl) ?_
 obtain ⟨a0, e, f0⟩ := bindS hF; clear hF
 refine neqZ e ?_; clear e
 cases a0
 ·
  have f1 := condF f0; clear f0
  refine sq ?_
  refine fld gok rfl rfl rfl rfl ?_
  refine loadN [(a__1_0h).v] rfl (H.bxs 1 rfl 1 rfl) ?_
  refine fld gok rfl rfl rfl rfl ?_
  refine loadN [(b__1_0h).v] rfl (H.bxs 0 rfl 1 rfl) ?_
  obtain ⟨y0, e, f2⟩ := bindS f1; clear f1
  have i0 := e; clear e
  refine callF (laws_eqTerm_c a__1_0 a__1_0h b__1_0 b__1_0h y0 i0) (Γi := []) H ⟨Vw.sh 2 rfl, Vw.sh 4 rfl, trivial⟩ ?_; clear H i0
  rintro _ _ w1 ⟨rfl, rfl⟩ H
  obtain ⟨a1, e, f3⟩ := bindS f2; clear f2
  refine boolO e ?_; clear e
  cases a1
  ·
   have f4 := condF f3; clear f3
   refine sq ?_
   refine fld gok rfl rfl rfl rfl ?_
   refine loadN [(a__2_0h).v] rfl (H.bxs 1 rfl 2 rfl) ?_
   refine fld gok rfl rfl rfl rfl ?_
   refine loadN [(b__2_0h).v] rfl (H.bxs 0 rfl 2 rfl) ?_
   obtain ⟨y1, e, f5⟩ := bindS f4; clear f4
   have i1 := e; clear e
   refine callF (laws_eqTerm_c a__2_0 a__2_0h b__2_0 b__2_0h y1 i1) (Γi := []) H ⟨Vw.sh 3 rfl, Vw.sh 5 rfl, trivial⟩ ?_; clear H i1
   rintro _ _ w2 ⟨rfl, rfl⟩ H
   obtain ⟨a2, e, f6⟩ := bindS f5; clear f5
   refine boolO e ?_; clear e
   cases a2
   ·
    have f7 := condF f6; clear f6
    cases f7
    exact ⟨_, _, rfl, ⟨rfl, rfl⟩, (H.sel [] rfl).close trivial⟩
   ·
    have f8 := condT f6; clear f6
    cases f8
    exact ⟨_, _, rfl, ⟨rfl, rfl⟩, (H.sel [] rfl).close trivial⟩
  ·
   have f9 := condT f3; clear f3
   cases f9
   exact ⟨_, _, rfl, ⟨rfl, rfl⟩, (H.sel [] rfl).close trivial⟩
 ·
  have f10 := condT f0; clear f0
  cases f10
  exact ⟨_, _, rfl, ⟨rfl, rfl⟩, (H.sel [] rfl).close trivial⟩

theorem laws_FnExactPrintRule_c (aR__0 : ByteArray) (aR__1_0 : List (Int × Int × ByteArray)) (aR__1_0h : Hd) (aR__2_0 : List (Int × Int × ByteArray)) (aR__2_0h : Hd) (y : Bool) (hF : F_laws_FnExactPrintRule (aR__0, aR__1_0, aR__2_0) = some y) :
  ConF Tryz.prog 3 #[(.agg #[(.string aR__0), (aR__1_0h).v, (aR__2_0h).v])] [Es (List (Int × Int × ByteArray)) aR__1_0 aR__1_0h, Es (List (Int × Int × ByteArray)) aR__2_0 aR__2_0h] [] (fun v Γ' => v = (.bool y) ∧ Γ' = []) := by
 intro w0 S0 fp0 hI hS
 have H : Cx w0 fp0 S0 w0 [Es (List (Int × Int × ByteArray)) aR__1_0 aR__1_0h, Es (List (Int × Int × ByteArray)) aR__2_0 aR__2_0h] := Cx.start hI hS
 clear hI hS
 refine enterC (args := [_]) gok Tryz.func3 rfl _ rfl rfl rfl ?_
 refine box_ H ?_; clear H; intro b4 w3 hx H
 clear hx
 refine loadN [(.string aR__0), (aR__1_0h).v, (aR__2_0h).v] rfl (fun j u hj => H.bx 0 rfl hj) ?_
 obtain ⟨y6, e, hF7⟩ := bindS hF; clear hF
 have ey6 := e; clear e
 refine callF (laws_szRule_c aR__0 aR__1_0 aR__1_0h aR__2_0 aR__2_0h 1048576 y6 ey6) (Γi := []) H ⟨Vw.sh 1 rfl, Vw.sh 2 rfl, trivial⟩ ?_; clear H ey6
 rintro _ _ w8 ⟨rfl, rfl⟩ H
 refine sq ?_
 obtain ⟨a9, e, f0⟩ := bindS hF7; clear hF7
 refine boolO e ?_; clear e
 cases a9
 ·
  have f1 := condF f0; clear f0
  refine loadN [(.string aR__0), (aR__1_0h).v, (aR__2_0h).v] rfl (fun j u hj => H.bx 0 rfl hj) ?_
  obtain ⟨y0, e, f2⟩ := bindS f1; clear f1
  obtain ⟨y0_0, y0_1_0, y0_2_0⟩ := y0
  have i0 := e; clear e
  refine callF (laws_toRule_c aR__0 aR__1_0 aR__1_0h aR__2_0 aR__2_0h y0_0 y0_1_0 y0_2_0 i0) (Γi := []) H ⟨Vw.sh 1 rfl, Vw.sh 2 rfl, trivial⟩ ?_; clear H i0
  rintro _ _ w1 ⟨h0, h1, rfl, rfl⟩ H
  obtain ⟨y1, e, f3⟩ := bindS f2; clear f2
  obtain ⟨y1_0, y1_1⟩ := y1
  have i1 := e; clear e
  refine callF (spec_PrintRule_c y0_0 y0_1_0 h0 y0_2_0 h1 y1_0 y1_1 i1) (Γi := []) H ⟨Vw.own 0 rfl, Vw.own 1 rfl, trivial⟩ ?_; clear H i1
  rintro _ _ w2 ⟨rfl, rfl⟩ H
  refine loadN [(.string aR__0), (aR__1_0h).v, (aR__2_0h).v] rfl (fun j u hj => H.bx 2 rfl hj) ?_
  obtain ⟨y2, e, f4⟩ := bindS f3; clear f3
  obtain ⟨y2_0, y2_1_0, y2_2_0⟩ := y2
  have i2 := e; clear e
  refine callF (laws_toRule_c aR__0 aR__1_0 aR__1_0h aR__2_0 aR__2_0h y2_0 y2_1_0 y2_2_0 i2) (Γi := []) H ⟨Vw.sh 3 rfl, Vw.sh 4 rfl, trivial⟩ ?_; clear H i2
  rintro _ _ w4 ⟨h2, h3, rfl, rfl⟩ H
  refine alloc_ gok rfl H ?_; clear H; intro b0 w5 hx H
  clear hx
  refine stA gok [(.string y2_0), (h2).v, (h3).v] rfl H rfl rfl rfl ?_; clear H; intro w6 H
  refine loadN [(.string y2_0), (h2).v, (h3).v] rfl (fun j u hj => H.bx 0 rfl hj) ?_
  obtain ⟨y3, e, f5⟩ := bindS f4; clear f4
  obtain ⟨y3_0, y3_1⟩ := y3
  have i3 := e; clear e
  refine callF (impl_PrintRule_c y2_0 y2_1_0 h2 y2_2_0 h3 y3_0 y3_1 i3) (Γi := []) H ⟨Vw.own 1 rfl, Vw.own 2 rfl, trivial⟩ ?_; clear H i3
  rintro _ _ w7 ⟨rfl, rfl⟩ H
  refine sq ?_
  obtain ⟨r0, f6, f7⟩ := bindS f5; clear f5
  refine cut (fun (q0 : Bool) => [(1, (.pointer (some ⟨b4, 0, none⟩))), (6, (.pointer (some ⟨b0, 0, none⟩))), (34, (.bool q0))]) (fun (q0 : Bool) w' => q0 = r0 ∧ Cx w0 fp0 S0 w' [Bx b4 [(.string aR__0), (aR__1_0h).v, (aR__2_0h).v], Es (List (Int × Int × ByteArray)) aR__1_0 aR__1_0h, Es (List (Int × Int × ByteArray)) aR__2_0 aR__2_0h, Bx b0 [(.string y2_0), (h2).v, (h3).v], E (List (Int × Int × ByteArray)) y2_1_0 h2, E (List (Int × Int × ByteArray)) y2_2_0 h3]) ?_ ?_
  ·
   obtain ⟨a0, e, f8⟩ := bindS f6; clear f6
   refine neqZ e ?_; clear e
   cases a0
   ·
    have f9 := condF f8; clear f8
    obtain ⟨a1, e, f10⟩ := bindS f9; clear f9
    refine boolO e ?_; clear e
    exact ⟨a1, ⟨rfl, rfl, rfl, trivial⟩, Option.some.inj f10, H.sel [5, 6, 7, 0, 1, 2] rfl⟩
   ·
    have f11 := condT f8; clear f8
    exact ⟨true, ⟨rfl, rfl, rfl, trivial⟩, Option.some.inj f11, H.sel [5, 6, 7, 0, 1, 2] rfl⟩
  ·
   clear f6 H
   rintro T0 s0 w9 ⟨hr, (H : Cx w0 fp0 S0 w9 [Bx b4 [(.string aR__0), (aR__1_0h).v, (aR__2_0h).v], Es (List (Int × Int × ByteArray)) aR__1_0 aR__1_0h, Es (List (Int × Int × ByteArray)) aR__2_0 aR__2_0h, Bx b0 [(.string y2_0), (h2).v, (h3).v], E (List (Int × Int × ByteArray)) y2_1_0 h2, E (List (Int × Int × ByteArray)) y2_2_0 h3])⟩
   subst hr
   cases s0
   ·
    have f12 := condF f7; clear f7
    refine sq ?_
    refine heldX H [] (.fst 0 (.fst 1 (.act 2 (.act 3 (.fst 4 .done))))) mixed [] trivial (by kernel_rfl) ?_
    clear H; intro w10 H
    have hX : Ext w10 w10 := Upd.refl _ _
    have H0 := H
    refine loadNX [(.string y2_0), (h2).v, (h3).v] rfl (fun j u hj => H.bx 3 rfl hj) ?_
    refine loadNX [(.string aR__0), (aR__1_0h).v, (aR__2_0h).v] rfl (fun j u hj => H.bx 0 rfl hj) ?_
    obtain ⟨y4, e, f13⟩ := bindS f12; clear f12
    obtain ⟨y4_0, y4_1_0, y4_2_0⟩ := y4
    have i4 := e; clear e
    refine callFx (laws_toRule_c aR__0 aR__1_0 aR__1_0h aR__2_0 aR__2_0h y4_0 y4_1_0 y4_2_0 i4) H ⟨Vw.sh 1 rfl, Vw.sh 2 rfl, trivial⟩ ?_; clear H i4
    rintro _ _ w11 ⟨h4, h5, rfl, rfl⟩ hx H
    replace hX := hX.trans0 hx; clear hx
    refine hold hX ?_
    obtain ⟨y5, e, f14⟩ := bindS f13; clear f13
    have i5 := e; clear e
    refine callFx (laws_eqRule_c y2_0 y2_1_0 h2 y2_2_0 h3 y4_0 y4_1_0 h4 y4_2_0 h5 y5 i5) H ⟨Vw.own 6 rfl, Vw.own 7 rfl, Vw.own 0 rfl, Vw.own 1 rfl, trivial⟩ ?_; clear H i5
    rintro _ _ w12 ⟨rfl, rfl⟩ hx H
    replace hX := hX.trans0 hx; clear hx
    refine hold hX ?_
    obtain ⟨a2, e, f15⟩ := bindS f14; clear f14
    refine boolO e ?_; clear e
    cases a2
    ·
     have f16 := condF f15; clear f15
     cases f16
     exact ⟨_, _, rfl, ⟨rfl, rfl⟩, (H.sel [] rfl).close trivial⟩
    ·
     have f17 := condT f15; clear f15
     cases f17
     exact ⟨_, _, rfl, ⟨rfl, rfl⟩, (H.sel [] rfl).close trivial⟩
   ·
    have f18 := condT f7; clear f7
    cases f18
    exact ⟨_, _, rfl, ⟨rfl, rfl⟩, (H.sel [] rfl).close trivial⟩
 ·
  have f19 := condT f0; clear f0
  cases f19
  exact ⟨_, _, rfl, ⟨rfl, rfl⟩, (H.sel [] rfl).close trivial⟩
end Go.Proofs.YteimaohaeodbkaaGreatDoor
