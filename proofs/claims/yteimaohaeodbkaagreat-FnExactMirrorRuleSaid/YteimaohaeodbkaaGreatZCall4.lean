/-
 Contracts, printed by a program (wip/y/gen.py): each function of Go computes its partial function. Condition of each: its partial function yields a value.
-/
import Derived.Test.YteimaohaeodbkaaGreatZCall3
namespace Go.Proofs.YteimaohaeodbkaaGreat
open Go Go.Proofs.YteimaohaeodbkaaGreat.RW
set_option maxRecDepth 100000
set_option maxHeartbeats 1000000
set_option linter.unusedVariables false

theorem impl_MirrorRule_c (r__0 : ByteArray) (r__1_0 : List (Int × Int × ByteArray)) (r__1_0h : Hd) (r__2_0 : List (Int × Int × ByteArray)) (r__2_0h : Hd) (y0_0 : ByteArray) (y0_1_0 : List (Int × Int × ByteArray)) (y0_2_0 : List (Int × Int × ByteArray)) (y1 : Bool) (hF : F_impl_MirrorRule (r__0, r__1_0, r__2_0) = some ((y0_0, y0_1_0, y0_2_0), y1)) :
  ConF Tryz.prog 7 #[(.agg #[(.string r__0), (r__1_0h).v, (r__2_0h).v])] [Es (List (Int × Int × ByteArray)) r__1_0 r__1_0h, Es (List (Int × Int × ByteArray)) r__2_0 r__2_0h] [] (fun v Γ' => ∃ z0 z1 : Hd, v = (.tuple #[(.agg #[(.string y0_0), (z0).v, (z1).v]), (.bool y1)]) ∧ Γ' = [E (List (Int × Int × ByteArray)) y0_1_0 z0, E (List (Int × Int × ByteArray)) y0_2_0 z1]) := by
 intro w0 S0 fp0 hI hS
 have H : Cx w0 fp0 S0 w0 [Es (List (Int × Int × ByteArray)) r__1_0 r__1_0h, Es (List (Int × Int × ByteArray)) r__2_0 r__2_0h] := Cx.start hI hS
 clear hI hS
 refine enterC (args := [_]) gok Tryz.func7 rfl _ rfl rfl rfl ?_
 refine box_ H ?_; clear H; intro b4 w3 hx H
 clear hx
 refine alloc_ gok rfl H ?_; clear H; intro b7 w6 hx H
 clear hx
 refine sq ?_
 refine loadN [(.string r__0), (r__1_0h).v, (r__2_0h).v] rfl (fun j u hj => H.bx 1 rfl hj) ?_
 obtain ⟨y9, e, f0⟩ := bindS hF; clear hF
 have ey9 := e; clear e
 refine callF (impl_isRule_c r__0 r__1_0 r__1_0h r__2_0 r__2_0h y9 ey9) (Γi := []) H ⟨Vw.sh 2 rfl, Vw.sh 3 rfl, trivial⟩ ?_; clear H ey9
 rintro _ _ w1 ⟨rfl, rfl⟩ H
 obtain ⟨a0, e, f1⟩ := bindS f0; clear f0
 refine boolO e ?_; clear e
 cases a0
 ·
  have f2 := condF f1; clear f1
  refine loadN [(.string r__0), (r__1_0h).v, (r__2_0h).v] rfl (fun j u hj => H.bx 1 rfl hj) ?_
  obtain ⟨y0, e, f3⟩ := bindS f2; clear f2
  obtain ⟨y0_0, y0_1_0, y0_2_0⟩ := y0
  have i0 := e; clear e
  refine callF (impl_Rule_mirrored_c r__0 r__1_0 r__1_0h r__2_0 r__2_0h y0_0 y0_1_0 y0_2_0 i0) (Γi := []) H ⟨Vw.sh 2 rfl, Vw.sh 3 rfl, trivial⟩ ?_; clear H i0
  rintro _ _ w2 ⟨h0, h1, rfl, rfl⟩ H
  replace H := H.sel [2, 0, 1, 3, 4, 5] rfl
  refine stA gok [(.string y0_0), (h0).v, (h1).v] rfl H rfl rfl rfl ?_; clear H; intro w4 H
  refine loadN [(.string y0_0), (h0).v, (h1).v] rfl (fun j u hj => H.bx 0 rfl hj) ?_
  cases f3
  exact ⟨_, _, rfl, ⟨h0, h1, rfl, rfl⟩, (H.sel [1, 2] rfl).close ⟨cloE, cloE, trivial⟩⟩
 ·
  have f4 := condT f1; clear f1
  refine build_ (cs := #[(.string .empty), (.slice none 0 0), (.slice none 0 0)]) gok rfl rfl rfl ?_
  refine stA gok [(.string .empty), (.slice none 0 0), (.slice none 0 0)] rfl H rfl rfl rfl ?_; clear H; intro w5 H
  refine loadN [(.string .empty), (.slice none 0 0), (.slice none 0 0)] rfl (fun j u hj => H.bx 0 rfl hj) ?_
  replace H := H.nil (α := Int × Int × ByteArray)
  replace H := H.nil (α := Int × Int × ByteArray)
  cases f4
  exact ⟨_, _, rfl, ⟨nilH, nilH, rfl, rfl⟩, (H.sel [1, 0] rfl).close ⟨cloE, cloE, trivial⟩⟩

theorem laws_eqNode_c (a__0 : Int) (a__1 : Int) (a__2 : ByteArray) (b__0 : Int) (b__1 : Int) (b__2 : ByteArray) (y : Bool) (hF : F_laws_eqNode (a__0, a__1, a__2) (b__0, b__1, b__2) = some y) :
  ConF Tryz.prog 58 #[(.agg #[(.int .i64 a__0), (.int .i64 a__1), (.string a__2)]), (.agg #[(.int .i64 b__0), (.int .i64 b__1), (.string b__2)])] [] [] (fun v Γ' => v = (.bool y) ∧ Γ' = []) := by
 intro w0 S0 fp0 hI hS
 have H : Cx w0 fp0 S0 w0 [] := Cx.start hI hS
 clear hI hS
 refine enterC (args := [_, _]) gok Tryz.func58 rfl _ rfl rfl rfl ?_
 refine box_ H ?_; clear H; intro b2 w1 hx H
 clear hx
 refine box_ H ?_; clear H; intro b5 w4 hx H
 clear hx
 refine sq ?_
 refine fld gok rfl rfl rfl rfl ?_
 refine load1 (H.bx 1 rfl (j := 0) rfl) ?_
 refine fld gok rfl rfl rfl rfl ?_
 refine load1 (H.bx 0 rfl (j := 0) rfl) ?_
 obtain ⟨a7, e, hF8⟩ := bindS hF; clear hF
 refine boolO e ?_; clear e
 cases a7
 ·
  have hF9 := condF hF8; clear hF8
  refine sq ?_
  refine fld gok rfl rfl rfl rfl ?_
  refine load1 (H.bx 1 rfl (j := 1) rfl) ?_
  refine fld gok rfl rfl rfl rfl ?_
  refine load1 (H.bx 0 rfl (j := 1) rfl) ?_
  obtain ⟨a0, e, f0⟩ := bindS hF9; clear hF9
  refine boolO e ?_; clear e
  cases a0
  ·
   have f1 := condF f0; clear f0
   refine sq ?_
   refine fld gok rfl rfl rfl rfl ?_
   refine load1 (H.bx 1 rfl (j := 2) rfl) ?_
   refine fld gok rfl rfl rfl rfl ?_
   refine load1 (H.bx 0 rfl (j := 2) rfl) ?_
   obtain ⟨a1, e, f2⟩ := bindS f1; clear f1
   refine neqZ e ?_; clear e
   cases a1
   ·
    have f3 := condF f2; clear f2
    cases f3
    exact ⟨_, _, rfl, ⟨rfl, rfl⟩, (H.sel [] rfl).close trivial⟩
   ·
    have f4 := condT f2; clear f2
    cases f4
    exact ⟨_, _, rfl, ⟨rfl, rfl⟩, (H.sel [] rfl).close trivial⟩
  ·
   have f5 := condT f0; clear f0
   cases f5
   exact ⟨_, _, rfl, ⟨rfl, rfl⟩, (H.sel [] rfl).close trivial⟩
 ·
  have f6 := condT hF8; clear hF8
  cases f6
  exact ⟨_, _, rfl, ⟨rfl, rfl⟩, (H.sel [] rfl).close trivial⟩

theorem laws_eqNodeS_c (a_ : List (Int × Int × ByteArray)) (a_h : Hd) (b_ : List (Int × Int × ByteArray)) (b_h : Hd) (y : Bool) (hF : F_laws_eqNodeS a_ b_ = some y) :
  ConF Tryz.prog 33 #[(a_h).v, (b_h).v] [Es (List (Int × Int × ByteArray)) a_ a_h, Es (List (Int × Int × ByteArray)) b_ b_h] [] (fun v Γ' => v = (.bool y) ∧ Γ' = []) := by
 intro w0 S0 fp0 hI hS
 have H : Cx w0 fp0 S0 w0 [Es (List (Int × Int × ByteArray)) a_ a_h, Es (List (Int × Int × ByteArray)) b_ b_h] := Cx.start hI hS
 clear hI hS
 refine enterC (args := [_, _]) gok Tryz.func33 rfl _ rfl rfl rfl ?_
 refine sq ?_
 refine lenE (H.rs (α := List (Int × Int × ByteArray)) 0 rfl).len ?_
 refine lenE (H.rs (α := List (Int × Int × ByteArray)) 1 rfl).len ?_
 obtain ⟨a3, e, hF4⟩ := bindS hF; clear hF
 refine boolO e ?_; clear e
 cases a3
 ·
  have hF5 := condF hF4; clear hF4
  obtain ⟨r0, f0, f1⟩ := bindS hF5; clear hF5
  refine cut (fun (q0 : Unit) => []) (fun (q0 : Unit) w' => .inl () = r0 ∧ Cx w0 fp0 S0 w' []) ?_ ?_
  ·
   refine loopW _ (fun (s0 : Int) (_ : Unit) => [(0, (a_h).v), (1, (b_h).v), (5, (.int .i64 s0))]) (fun (s0 : Int) (_ : Unit) w' => Cx w0 fp0 S0 w' [Es (List (Int × Int × ByteArray)) a_ a_h, Es (List (Int × Int × ByteArray)) b_ b_h]) 0 () f0 ⟨rfl, rfl, rfl, trivial⟩ (H.sel [0, 1] rfl) ?_
   ·
    clear H
    rintro T0 s0 _ w1 o0 (H : Cx w0 fp0 S0 w1 [Es (List (Int × Int × ByteArray)) a_ a_h, Es (List (Int × Int × ByteArray)) b_ b_h]) hrt f2
    refine sq ?_
    refine lenE (H.rs (α := List (Int × Int × ByteArray)) 0 rfl).len ?_
    obtain ⟨a0, e, f3⟩ := bindS f2; clear f2
    refine boolO e ?_; clear e
    cases a0
    ·
     have f4 := condF f3; clear f3
     have hs := Option.some.inj f4; subst hs; clear f4
     have f5 : some _ = some _ := congrArg some (hrt _ rfl).symm
     exact ⟨(), trivial, Option.some.inj f5, H.sel [] rfl⟩
    ·
     have f6 := condT f3; clear f3
     refine sq ?_
     refine heldX H [] (.fst 0 (.fst 1 (.fst 2 (.fst 4 (.fst 5 (.fst 6 (.fst 3 (.fst 7 (.act 8 (.fst 9 .done)))))))))) mixed [] trivial (by kernel_rfl) ?_
     clear H; intro w2 H
     have hX : Ext w2 w2 := Upd.refl _ _
     have H0 := H
     obtain ⟨a1, e, f7⟩ := bindS f6; clear f6
     have HH := H; clear H; obtain ⟨p0, m0, g0, c0, c1, c2, c3, H⟩ := HH.el (α := Int × Int × ByteArray) 0 rfl e; clear HH
     clear e
     obtain ⟨a1_0, a1_1, a1_2⟩ := a1
     obtain ⟨_, _, _⟩ := g0
     replace H := H.sel [1, 2] rfl
     refine idxE c0 c1 c2 ?_; clear c0 c1 c2
     obtain ⟨a2, e, f8⟩ := bindS f7; clear f7
     have HH := H; clear H; obtain ⟨p1, m1, g1, c4, c5, c6, c7, H⟩ := HH.el (α := Int × Int × ByteArray) 1 rfl e; clear HH
     clear e
     obtain ⟨a2_0, a2_1, a2_2⟩ := a2
     obtain ⟨_, _, _⟩ := g1
     replace H := H.sel [1, 2] rfl
     refine idxE c4 c5 c6 ?_; clear c4 c5 c6
     refine loadNX [(.int .i64 a1_0), (.int .i64 a1_1), (.string a1_2)] rfl c3 ?_; clear c3
     refine loadNX [(.int .i64 a2_0), (.int .i64 a2_1), (.string a2_2)] rfl c7 ?_; clear c7
     obtain ⟨y0, e, f9⟩ := bindS f8; clear f8
     have i0 := e; clear e
     refine callFx (laws_eqNode_c a1_0 a1_1 a1_2 a2_0 a2_1 a2_2 y0 i0) H trivial ?_; clear H i0
     rintro _ _ w3 ⟨rfl, rfl⟩ hx H
     replace hX := hX.trans0 hx; clear hx
     refine hold hX ?_
     obtain ⟨a4, e, f10⟩ := bindS f9; clear f9
     refine boolO e ?_; clear e
     cases a4
     ·
      have f11 := condF f10; clear f10
      obtain ⟨a5, e, f12⟩ := bindS f11; clear f11
      refine arO e ?_; clear e
      have hs := Option.some.inj f12; subst hs; clear f12
      exact ⟨a5, (), rfl, ⟨rfl, rfl, rfl, trivial⟩, H.sel [0, 1] rfl⟩
     ·
      have f13 := condT f10; clear f10
      have hs := Option.some.inj f13; subst hs; clear f13
      have f14 : some _ = some _ := congrArg some (hrt _ rfl).symm
      have hs := Option.some.inj f14; subst hs; clear f14
      have f15 : some _ = some _ := f1; clear f1
      cases f15
      exact ⟨_, _, rfl, ⟨rfl, rfl⟩, (H.sel [] rfl).close trivial⟩
  ·
   clear f0 H
   rintro T1 _ w4 ⟨hr, (H : Cx w0 fp0 S0 w4 [])⟩
   subst hr
   cases f1
   exact ⟨_, _, rfl, ⟨rfl, rfl⟩, (H.sel [] rfl).close trivial⟩
 ·
  have f16 := condT hF4; clear hF4
  cases f16
  exact ⟨_, _, rfl, ⟨rfl, rfl⟩, (H.sel [] rfl).close trivial⟩

theorem laws_eqTerm_c (a__0 : List (Int × Int × ByteArray)) (a__0h : Hd) (b__0 : List (Int × Int × ByteArray)) (b__0h : Hd) (y : Bool) (hF : F_laws_eqTerm a__0 b__0 = some y) :
  ConF Tryz.prog 17 #[(.agg #[(a__0h).v]), (.agg #[(b__0h).v])] [Es (List (Int × Int × ByteArray)) a__0 a__0h, Es (List (Int × Int × ByteArray)) b__0 b__0h] [] (fun v Γ' => v = (.bool y) ∧ Γ' = []) := by
 intro w0 S0 fp0 hI hS
 have H : Cx w0 fp0 S0 w0 [Es (List (Int × Int × ByteArray)) a__0 a__0h, Es (List (Int × Int × ByteArray)) b__0 b__0h] := Cx.start hI hS
 clear hI hS
 refine enterC (args := [_, _]) gok Tryz.func17 rfl _ rfl rfl rfl ?_
 refine box_ H ?_; clear H; intro b4 w3 hx H
 clear hx
 refine box_ H ?_; clear H; intro b7 w6 hx H
 clear hx
 refine sq ?_
 refine fld gok rfl rfl rfl rfl ?_
 refine load1 (H.bx 1 rfl (j := 0) rfl) ?_
 refine fld gok rfl rfl rfl rfl ?_
 refine load1 (H.bx 0 rfl (j := 0) rfl) ?_
 obtain ⟨y9, e, f0⟩ := bindS hF; clear hF
 have ey9 := e; clear e
 refine callF (laws_eqNodeS_c a__0 a__0h b__0 b__0h y9 ey9) (Γi := []) H ⟨Vw.sh 2 rfl, Vw.sh 3 rfl, trivial⟩ ?_; clear H ey9
 rintro _ _ w1 ⟨rfl, rfl⟩ H
 obtain ⟨a0, e, f1⟩ := bindS f0; clear f0
 refine boolO e ?_; clear e
 cases a0
 ·
  have f2 := condF f1; clear f1
  cases f2
  exact ⟨_, _, rfl, ⟨rfl, rfl⟩, (H.sel [] rfl).close trivial⟩
 ·
  have f3 := condT f1; clear f1
  cases f3
  exact ⟨_, _, rfl, ⟨rfl, rfl⟩, (H.sel [] rfl).close trivial⟩

theorem laws_eqRule_c (a__0 : ByteArray) (a__1_0 : List (Int × Int × ByteArray)) (a__1_0h : Hd) (a__2_0 : List (Int × Int × ByteArray)) (a__2_0h : Hd) (b__0 : ByteArray) (b__1_0 : List (Int × Int × ByteArray)) (b__1_0h : Hd) (b__2_0 : List (Int × Int × ByteArray)) (b__2_0h : Hd) (y : Bool) (hF : F_laws_eqRule (a__0, a__1_0, a__2_0) (b__0, b__1_0, b__2_0) = some y) :
  ConF Tryz.prog 8 #[(.agg #[(.string a__0), (a__1_0h).v, (a__2_0h).v]), (.agg #[(.string b__0), (b__1_0h).v, (b__2_0h).v])] [Es (List (Int × Int × ByteArray)) a__1_0 a__1_0h, Es (List (Int × Int × ByteArray)) a__2_0 a__2_0h, Es (List (Int × Int × ByteArray)) b__1_0 b__1_0h, Es (List (Int × Int × ByteArray)) b__2_0 b__2_0h] [] (fun v Γ' => v = (.bool y) ∧ Γ' = []) := by
 intro w0 S0 fp0 hI hS
 have H : Cx w0 fp0 S0 w0 [Es (List (Int × Int × ByteArray)) a__1_0 a__1_0h, Es (List (Int × Int × ByteArray)) a__2_0 a__2_0h, Es (List (Int × Int × ByteArray)) b__1_0 b__1_0h, Es (List (Int × Int × ByteArray)) b__2_0 b__2_0h] := Cx.start hI hS
 clear hI hS
 refine enterC (args := [_, _]) gok Tryz.func8 rfl _ rfl rfl rfl ?_
 refine box_ H ?_; clear H; intro b6 w5 hx H
 clear hx
 refine box_ H ?_; clear H; intro b9 w8 hx H
 clear hx
 refine sq ?_
 refine fld gok rfl rfl rfl rfl ?_
 refine load1 (H.bx 1 rfl (j := 0) rfl) ?_
 refine fld gok rfl rfl rfl rfl ?_
 refine load1 (H.bx 0 rfl (j := 0) rfl) ?_
 obtain ⟨a0, e, f0⟩ := bindS hF; clear hF
 refine neqZ e ?_; clear e
 cases a0
 ·
  have f1 := condF f0; clear f0
  refine sq ?_
  refine fld gok rfl rfl rfl rfl ?_
  refine loadN [(a__1_0h).v] rfl (H.bxs 1 rfl 1 rfl) ?_
  refine fld gok rfl rfl rfl rfl ?_
  refine loadN [(b__1_0h).v] rfl (H.bxs 0 rfl 1 rfl) ?_
  obtain ⟨y0, e, f2⟩ := bindS f1; clear f1
  have i0 := e; clear e
  refine callF (laws_eqTerm_c a__1_0 a__1_0h b__1_0 b__1_0h y0 i0) (Γi := []) H ⟨Vw.sh 2 rfl, Vw.sh 4 rfl, trivial⟩ ?_; clear H i0
  rintro _ _ w1 ⟨rfl, rfl⟩ H
  obtain ⟨a1, e, f3⟩ := bindS f2; clear f2
  refine boolO e ?_; clear e
  cases a1
  ·
   have f4 := condF f3; clear f3
   refine sq ?_
   refine fld gok rfl rfl rfl rfl ?_
   refine loadN [(a__2_0h).v] rfl (H.bxs 1 rfl 2 rfl) ?_
   refine fld gok rfl rfl rfl rfl ?_
   refine loadN [(b__2_0h).v] rfl (H.bxs 0 rfl 2 rfl) ?_
   obtain ⟨y1, e, f5⟩ := bindS f4; clear f4
   have i1 := e; clear e
   refine callF (laws_eqTerm_c a__2_0 a__2_0h b__2_0 b__2_0h y1 i1) (Γi := []) H ⟨Vw.sh 3 rfl, Vw.sh 5 rfl, trivial⟩ ?_; clear H i1
   rintro _ _ w2 ⟨rfl, rfl⟩ H
   obtain ⟨a2, e, f6⟩ := bindS f5; clear f5
   refine boolO e ?_; clear e
   cases a2
   ·
    have f7 := condF f6; clear f6
    cases f7
    exact ⟨_, _, rfl, ⟨rfl, rfl⟩, (H.sel [] rfl).close trivial⟩
   ·
    have f8 := condT f6; clear f6
    cases f8
    exact ⟨_, _, rfl, ⟨rfl, rfl⟩, (H.sel [] rfl).close trivial⟩
  ·
   have f9 := condT f3; clear f3
   cases f9
   exact ⟨_, _, rfl, ⟨rfl, rfl⟩, (H.sel [] rfl).close trivial⟩
 ·
  have f10 := condT f0; clear f0
  cases f10
  exact ⟨_, _, rfl, ⟨rfl, rfl⟩, (H.sel [] rfl).close trivial⟩

theorem laws_markText_c (k_ : Int) (y : ByteArray) (hF : F_laws_markText k_ = some y) :
  ConF Tryz.prog 59 #[(.int .i64 k_)] [] [] (fun v Γ' => v = (.string y) ∧ Γ' = []) := by
 intro w0 S0 fp0 hI hS
 have H : Cx w0 fp0 S0 w0 [] := Cx.start hI hS
 clear hI hS
 refine enterC (args := [_]) gok Tryz.func59 rfl _ rfl rfl rfl ?_
 refine sq ?_
 obtain ⟨a1, e, hF2⟩ := bindS hF; clear hF
 refine boolO e ?_; clear e
 cases a1
 ·
  have hF3 := condF hF2; clear hF2
  obtain ⟨r0, f0, f1⟩ := bindS hF3; clear hF3
  refine cut (fun (q0 : ByteArray) => [(3, (.string q0))]) (fun (q0 : ByteArray) w' => q0 = r0 ∧ Cx w0 fp0 S0 w' []) ?_ ?_
  ·
   refine loopW _ (fun (s0 : Int × ByteArray) (_ : Unit) => [(0, (.int .i64 s0.1)), (3, (.string s0.2))]) (fun (s0 : Int × ByteArray) (_ : Unit) w' => Cx w0 fp0 S0 w' []) (k_, .empty) () f0 ⟨rfl, rfl, trivial⟩ (H.sel [] rfl) ?_
   ·
    clear H
    rintro T0 ⟨s0_0, s0_1⟩ _ w1 o0 (H : Cx w0 fp0 S0 w1 []) hrt f2
    refine sq ?_
    obtain ⟨a0, e, f3⟩ := bindS f2; clear f2
    refine boolO e ?_; clear e
    cases a0
    ·
     have f4 := condF f3; clear f3
     have hs := Option.some.inj f4; subst hs; clear f4
     have f5 : some _ = some _ := congrArg some (hrt _ rfl).symm
     exact ⟨s0_1, ⟨rfl, trivial⟩, Option.some.inj f5, H.sel [] rfl⟩
    ·
     have f6 := condT f3; clear f3
     obtain ⟨a2, e, f7⟩ := bindS f6; clear f6
     refine remO_ e ?_; clear e
     obtain ⟨a3, e, f8⟩ := bindS f7; clear f7
     refine arO e ?_; clear e
     obtain ⟨a4, e, f9⟩ := bindS f8; clear f8
     refine convIY gok rfl rfl e ?_; clear e
     refine lit1S (α := By) gok rfl rfl rfl rfl H ?_; clear H; intro h0 w2 hx H
     clear hx
     obtain ⟨a5, e, f10⟩ := bindS f9; clear f9
     refine convBZ (xs := ([a4] : List By)) gok rfl rfl rfl (H.ro (α := List By) 0 rfl) e ?_; clear e
     obtain ⟨a6, e, f11⟩ := bindS f10; clear f10
     refine catZ e ?_; clear e
     obtain ⟨a7, e, f12⟩ := bindS f11; clear f11
     refine quoO_ e ?_; clear e
     have hs := Option.some.inj f12; subst hs; clear f12
     exact ⟨(a7, a6), (), rfl, ⟨rfl, rfl, trivial⟩, H.sel [] rfl⟩
  ·
   clear f0 H
   rintro T1 s1 w3 ⟨hr, (H : Cx w0 fp0 S0 w3 [])⟩
   subst hr
   obtain ⟨a8, e, f13⟩ := bindS f1; clear f1
   refine catZ e ?_; clear e
   cases f13
   exact ⟨_, _, rfl, ⟨rfl, rfl⟩, (H.sel [] rfl).close trivial⟩
 ·
  have f14 := condT hF2; clear hF2
  cases f14
  exact ⟨_, _, rfl, ⟨rfl, rfl⟩, (H.sel [] rfl).close trivial⟩

theorem laws_markNodeS_c (a_ : List (Int × Int × ByteArray)) (a_h : Hd) (k_ : Int) (y0 : List (Int × Int × ByteArray)) (y1 : Int) (hF : F_laws_markNodeS a_ k_ = some (y0, y1)) :
  ConF Tryz.prog 34 #[(a_h).v, (.int .i64 k_)] [] [E (List (Int × Int × ByteArray)) a_ a_h] (fun v Γ' => v = (.int .i64 y1) ∧ Γ' = [E (List (Int × Int × ByteArray)) y0 a_h]) := by
 intro w0 S0 fp0 hI hS
 have H : Cx w0 fp0 S0 w0 [E (List (Int × Int × ByteArray)) a_ a_h] := Cx.start hI hS
 clear hI hS
 refine enterC (args := [_, _]) gok Tryz.func34 rfl _ rfl rfl rfl ?_
 obtain ⟨r0, f0, f1⟩ := bindS hF; clear hF
 refine cut (fun (q0 : (List (Int × Int × ByteArray)) × Int) => [(1, (.int .i64 q0.2))]) (fun (q0 : (List (Int × Int × ByteArray)) × Int) w' => (q0.1, q0.2) = r0 ∧ Cx w0 fp0 S0 w' [E (List (Int × Int × ByteArray)) q0.1 a_h]) ?_ ?_
 ·
  refine loopW _ (fun (s0 : (List (Int × Int × ByteArray)) × Int × Int) (_ : Unit) => [(0, (a_h).v), (1, (.int .i64 s0.2.1)), (5, (.int .i64 s0.2.2))]) (fun (s0 : (List (Int × Int × ByteArray)) × Int × Int) (_ : Unit) w' => Cx w0 fp0 S0 w' [E (List (Int × Int × ByteArray)) s0.1 a_h]) (a_, k_, 0) () f0 ⟨rfl, rfl, rfl, trivial⟩ (H.sel [0] rfl) ?_
  ·
   clear H
   rintro T0 ⟨s0_0, s0_1, s0_2⟩ _ w1 o0 (H : Cx w0 fp0 S0 w1 [E (List (Int × Int × ByteArray)) s0_0 a_h]) hrt f2
   refine sq ?_
   refine lenE (H.ro (α := List (Int × Int × ByteArray)) 0 rfl).len ?_
   obtain ⟨a0, e, f3⟩ := bindS f2; clear f2
   refine boolO e ?_; clear e
   cases a0
   ·
    have f4 := condF f3; clear f3
    have hs := Option.some.inj f4; subst hs; clear f4
    have f5 : some _ = some _ := congrArg some (hrt _ rfl).symm
    exact ⟨(s0_0, s0_1), ⟨rfl, trivial⟩, Option.some.inj f5, H.sel [0] rfl⟩
   ·
    have f6 := condT f3; clear f3
    refine sq ?_
    obtain ⟨a1, e, f7⟩ := bindS f6; clear f6
    replace H := H.toEH (α := Int × Int × ByteArray)
    have HH := H; clear H; obtain ⟨p0, m0, g0, c0, c1, c2, c3, H⟩ := HH.peek e; clear HH
    clear e
    obtain ⟨a1_0, a1_1, a1_2⟩ := a1
    obtain ⟨_, _, _⟩ := g0
    refine idxE c0 c1 c2 ?_
    refine fld gok rfl rfl rfl rfl ?_
    replace H := H.takeK 0 rfl
    replace H := H.sel [1, 0] rfl
    refine stX (α := Int × Int × ByteArray) (j := 0) H c0 rfl rfl ?_; clear H; intro w2 H
    replace H := H.sel [1, 0] rfl
    replace H := H.split
    replace H := H.sel [1, 2] rfl
    replace H := H.split
    replace H := H.sel [1, 2] rfl
    replace H := H.sel [1] rfl
    replace H := H.sc (α := ByteArray) a1_2
    replace H := H.sc (α := Int) a1_1
    replace H := H.join (α := Int) (β := ByteArray)
    replace H := H.sc (α := Int) s0_1
    replace H := H.join (α := Int) (β := Int × ByteArray)
    obtain ⟨a2, e, f8⟩ := bindS f7; clear f7
    replace H := H.put c1 e; clear e
    obtain ⟨a3, e, f9⟩ := bindS f8; clear f8
    refine arO e ?_; clear e
    obtain ⟨a4, e, f10⟩ := bindS f9; clear f9
    replace H := H.toEH (α := Int × Int × ByteArray)
    have HH := H; clear H; obtain ⟨p1, m1, g1, c4, c5, c6, c7, H⟩ := HH.peek e; clear HH
    clear e
    obtain ⟨a4_0, a4_1, a4_2⟩ := a4
    obtain ⟨_, _, _⟩ := g1
    refine idxE c4 c5 c6 ?_
    refine fld gok rfl rfl rfl rfl ?_
    replace H := H.takeK 0 rfl
    replace H := H.sel [1, 0] rfl
    refine stX (α := Int × Int × ByteArray) (j := 1) H c4 rfl rfl ?_; clear H; intro w3 H
    replace H := H.sel [1, 0] rfl
    replace H := H.split
    replace H := H.sel [1, 2] rfl
    replace H := H.split
    replace H := H.sel [1, 2] rfl
    replace H := H.sel [1] rfl
    replace H := H.sc (α := ByteArray) a4_2
    replace H := H.sc (α := Int) a3
    replace H := H.join (α := Int) (β := ByteArray)
    replace H := H.sc (α := Int) a4_0
    replace H := H.join (α := Int) (β := Int × ByteArray)
    obtain ⟨a5, e, f11⟩ := bindS f10; clear f10
    replace H := H.put c5 e; clear e
    obtain ⟨a6, e, f12⟩ := bindS f11; clear f11
    refine arO e ?_; clear e
    obtain ⟨y2, e, f13⟩ := bindS f12; clear f12
    have i0 := e; clear e
    refine callF (laws_markText_c a6 y2 i0) (Γi := []) H trivial ?_; clear H i0
    rintro _ _ w4 ⟨rfl, rfl⟩ H
    obtain ⟨a7, e, f14⟩ := bindS f13; clear f13
    replace H := H.toEH (α := Int × Int × ByteArray)
    have HH := H; clear H; obtain ⟨p2, m2, g2, c8, c9, c10, c11, H⟩ := HH.peek e; clear HH
    clear e
    obtain ⟨a7_0, a7_1, a7_2⟩ := a7
    obtain ⟨_, _, _⟩ := g2
    refine idxE c8 c9 c10 ?_
    refine fld gok rfl rfl rfl rfl ?_
    replace H := H.takeK 0 rfl
    replace H := H.sel [1, 0] rfl
    refine stX (α := Int × Int × ByteArray) (j := 2) H c8 rfl rfl ?_; clear H; intro w5 H
    replace H := H.sel [1, 0] rfl
    replace H := H.split
    replace H := H.sel [1, 2] rfl
    replace H := H.split
    replace H := H.sel [1, 2] rfl
    replace H := H.sel [1] rfl
    replace H := H.sc (α := ByteArray) y2
    replace H := H.sc (α := Int) a7_1
    replace H := H.join (α := Int) (β := ByteArray)
    replace H := H.sc (α := Int) a7_0
    replace H := H.join (α := Int) (β := Int × ByteArray)
    obtain ⟨a8, e, f15⟩ := bindS f14; clear f14
    replace H := H.put c9 e; clear e
    obtain ⟨a9, e, f16⟩ := bindS f15; clear f15
    refine arO e ?_; clear e
    obtain ⟨a10, e, f17⟩ := bindS f16; clear f16
    refine arO e ?_; clear e
    have hs := Option.some.inj f17; subst hs; clear f17
    exact ⟨(a8, a9, a10), (), rfl, ⟨rfl, rfl, rfl, trivial⟩, H.sel [0] rfl⟩
 ·
  clear f0 H
  rintro T1 ⟨s1_0, s1_1⟩ w6 ⟨hr, (H : Cx w0 fp0 S0 w6 [E (List (Int × Int × ByteArray)) s1_0 a_h])⟩
  subst hr
  cases f1
  exact ⟨_, _, rfl, ⟨rfl, rfl⟩, (H.sel [0] rfl).close ⟨cloE, trivial⟩⟩

theorem laws_markTerm_c (a__0 : List (Int × Int × ByteArray)) (a__0h : Hd) (k_ : Int) (y0_0 : List (Int × Int × ByteArray)) (y1 : Int) (hF : F_laws_markTerm a__0 k_ = some (y0_0, y1)) :
  ConF Tryz.prog 18 #[(.agg #[(a__0h).v]), (.int .i64 k_)] [] [E (List (Int × Int × ByteArray)) a__0 a__0h] (fun v Γ' => v = (.int .i64 y1) ∧ Γ' = [E (List (Int × Int × ByteArray)) y0_0 a__0h]) := by
 intro w0 S0 fp0 hI hS
 have H : Cx w0 fp0 S0 w0 [E (List (Int × Int × ByteArray)) a__0 a__0h] := Cx.start hI hS
 clear hI hS
 refine enterC (args := [_, _]) gok Tryz.func18 rfl _ rfl rfl rfl ?_
 refine box_ H ?_; clear H; intro b3 w2 hx H
 clear hx
 refine fld gok rfl rfl rfl rfl ?_
 refine load1 (H.bx 0 rfl (j := 0) rfl) ?_
 obtain ⟨y5, e, hF6⟩ := bindS hF; clear hF
 obtain ⟨y5_0, y5_1⟩ := y5
 have ey5 := e; clear e
 replace H := H.sel [1, 0] rfl
 refine callF (laws_markNodeS_c a__0 a__0h k_ y5_0 y5_1 ey5) (Γi := [E (List (Int × Int × ByteArray)) a__0 a__0h]) H trivial ?_; clear H ey5
 rintro _ _ w7 ⟨rfl, rfl⟩ H
 cases hF6
 exact ⟨_, _, rfl, ⟨rfl, rfl⟩, (H.sel [0] rfl).close ⟨cloE, trivial⟩⟩

theorem laws_markRule_c (a__0 : ByteArray) (a__1_0 : List (Int × Int × ByteArray)) (a__1_0h : Hd) (a__2_0 : List (Int × Int × ByteArray)) (a__2_0h : Hd) (k_ : Int) (y0_0 : ByteArray) (y0_1_0 : List (Int × Int × ByteArray)) (y0_2_0 : List (Int × Int × ByteArray)) (y1 : Int) (hF : F_laws_markRule (a__0, a__1_0, a__2_0) k_ = some ((y0_0, y0_1_0, y0_2_0), y1)) :
  ConF Tryz.prog 9 #[(.agg #[(.string a__0), (a__1_0h).v, (a__2_0h).v]), (.int .i64 k_)] [] [E (List (Int × Int × ByteArray)) a__1_0 a__1_0h, E (List (Int × Int × ByteArray)) a__2_0 a__2_0h] (fun v Γ' => v = (.int .i64 y1) ∧ Γ' = [E (List (Int × Int × ByteArray)) y0_1_0 a__1_0h, E (List (Int × Int × ByteArray)) y0_2_0 a__2_0h]) := by
 intro w0 S0 fp0 hI hS
 have H : Cx w0 fp0 S0 w0 [E (List (Int × Int × ByteArray)) a__1_0 a__1_0h, E (List (Int × Int × ByteArray)) a__2_0 a__2_0h] := Cx.start hI hS
 clear hI hS
 refine enterC (args := [_, _]) gok Tryz.func9 rfl _ rfl rfl rfl ?_
 refine box_ H ?_; clear H; intro b4 w3 hx H
 clear hx
 refine fld gok rfl rfl rfl rfl ?_
 refine loadN [(a__1_0h).v] rfl (H.bxs 0 rfl 1 rfl) ?_
 obtain ⟨y6, e, hF7⟩ := bindS hF; clear hF
 obtain ⟨y6_0_0, y6_1⟩ := y6
 have ey6 := e; clear e
 replace H := H.sel [1, 0, 2] rfl
 refine callF (laws_markTerm_c a__1_0 a__1_0h k_ y6_0_0 y6_1 ey6) (Γi := [E (List (Int × Int × ByteArray)) a__1_0 a__1_0h]) H trivial ?_; clear H ey6
 rintro _ _ w8 ⟨rfl, rfl⟩ H
 refine fld gok rfl rfl rfl rfl ?_
 refine loadN [(a__2_0h).v] rfl (H.bxs 1 rfl 2 rfl) ?_
 obtain ⟨y9, e, f0⟩ := bindS hF7; clear hF7
 obtain ⟨y9_0_0, y9_1⟩ := y9
 have ey9 := e; clear e
 replace H := H.sel [2, 0, 1] rfl
 refine callF (laws_markTerm_c a__2_0 a__2_0h y6_1 y9_0_0 y9_1 ey9) (Γi := [E (List (Int × Int × ByteArray)) a__2_0 a__2_0h]) H trivial ?_; clear H ey9
 rintro _ _ w1 ⟨rfl, rfl⟩ H
 cases f0
 exact ⟨_, _, rfl, ⟨rfl, rfl⟩, (H.sel [1, 0] rfl).close ⟨cloE, cloE, trivial⟩⟩

theorem laws_heldNodeS_c (a_ : List (Int × Int × ByteArray)) (a_h : Hd) (k_ : Int) (y : Int) (hF : F_laws_heldNodeS a_ k_ = some y) :
  ConF Tryz.prog 35 #[(a_h).v, (.int .i64 k_)] [Es (List (Int × Int × ByteArray)) a_ a_h] [] (fun v Γ' => v = (.int .i64 y) ∧ Γ' = []) := by
 intro w0 S0 fp0 hI hS
 have H : Cx w0 fp0 S0 w0 [Es (List (Int × Int × ByteArray)) a_ a_h] := Cx.start hI hS
 clear hI hS
 refine enterC (args := [_, _]) gok Tryz.func35 rfl _ rfl rfl rfl ?_
 obtain ⟨r0, f0, f1⟩ := bindS hF; clear hF
 refine cut (fun (q0 : Int) => [(1, (.int .i64 q0))]) (fun (q0 : Int) w' => .inl q0 = r0 ∧ Cx w0 fp0 S0 w' []) ?_ ?_
 ·
  refine loopW _ (fun (s0 : Int × Int) (_ : Unit) => [(0, (a_h).v), (1, (.int .i64 s0.1)), (5, (.int .i64 s0.2))]) (fun (s0 : Int × Int) (_ : Unit) w' => Cx w0 fp0 S0 w' [Es (List (Int × Int × ByteArray)) a_ a_h]) (k_, 0) () f0 ⟨rfl, rfl, rfl, trivial⟩ (H.sel [0] rfl) ?_
  ·
   clear H
   rintro T0 ⟨s0_0, s0_1⟩ _ w1 o0 (H : Cx w0 fp0 S0 w1 [Es (List (Int × Int × ByteArray)) a_ a_h]) hrt f2
   refine sq ?_
   refine lenE (H.rs (α := List (Int × Int × ByteArray)) 0 rfl).len ?_
   obtain ⟨a0, e, f3⟩ := bindS f2; clear f2
   refine boolO e ?_; clear e
   cases a0
   ·
    have f4 := condF f3; clear f3
    have hs := Option.some.inj f4; subst hs; clear f4
    have f5 : some _ = some _ := congrArg some (hrt _ rfl).symm
    exact ⟨s0_0, ⟨rfl, trivial⟩, Option.some.inj f5, H.sel [] rfl⟩
   ·
    have f6 := condT f3; clear f3
    refine sq ?_
    refine sq ?_
    obtain ⟨a1, e, f7⟩ := bindS f6; clear f6
    have HH := H; clear H; obtain ⟨p0, m0, g0, c0, c1, c2, c3, H⟩ := HH.el (α := Int × Int × ByteArray) 0 rfl e; clear HH
    clear e
    obtain ⟨a1_0, a1_1, a1_2⟩ := a1
    obtain ⟨_, _, _⟩ := g0
    replace H := H.sel [1] rfl
    refine idxE c0 c1 c2 ?_; clear c0 c1 c2
    refine fld gok rfl rfl rfl rfl ?_
    refine load1 (c3 0 _ rfl) ?_
    obtain ⟨a2, e, f8⟩ := bindS f7; clear f7
    refine boolO e ?_; clear e
    cases a2
    ·
     have f9 := condF f8; clear f8
     obtain ⟨a3, e, f10⟩ := bindS f9; clear f9
     refine arO e ?_; clear e
     refine sq ?_
     obtain ⟨a4, e, f11⟩ := bindS f10; clear f10
     have HH := H; clear H; obtain ⟨p1, m1, g1, c4, c5, c6, c7, H⟩ := HH.el (α := Int × Int × ByteArray) 0 rfl e; clear HH
     clear e
     obtain ⟨a4_0, a4_1, a4_2⟩ := a4
     obtain ⟨_, _, _⟩ := g1
     replace H := H.sel [1] rfl
     refine idxE c4 c5 c6 ?_; clear c4 c5 c6
     refine fld gok rfl rfl rfl rfl ?_
     refine load1 (c7 1 _ rfl) ?_
     obtain ⟨a5, e, f12⟩ := bindS f11; clear f11
     refine boolO e ?_; clear e
     cases a5
     ·
      have f13 := condF f12; clear f12
      obtain ⟨a6, e, f14⟩ := bindS f13; clear f13
      refine arO e ?_; clear e
      refine sq ?_
      refine heldX H [] (.fst 0 (.fst 1 (.fst 2 (.fst 3 (.fst 5 (.fst 4 (.act 6 (.act 7 .done)))))))) mixed [] trivial (by kernel_rfl) ?_
      clear H; intro w2 H
      have hX : Ext w2 w2 := Upd.refl _ _
      have H0 := H
      obtain ⟨a7, e, f15⟩ := bindS f14; clear f14
      have HH := H; clear H; obtain ⟨p2, m2, g2, c8, c9, c10, c11, H⟩ := HH.el (α := Int × Int × ByteArray) 0 rfl e; clear HH
      clear e
      obtain ⟨a7_0, a7_1, a7_2⟩ := a7
      obtain ⟨_, _, _⟩ := g2
      replace H := H.sel [1] rfl
      refine idxE c8 c9 c10 ?_; clear c8 c9 c10
      refine anyH (fun _ => fld gok rfl rfl rfl rfl ⟨rfl, rfl⟩) ?_
      refine load1X (c11 2 _ rfl) ?_
      obtain ⟨y0, e, f16⟩ := bindS f15; clear f15
      have i0 := e; clear e
      refine callFx (laws_markText_c a6 y0 i0) H trivial ?_; clear H i0
      rintro _ _ w3 ⟨rfl, rfl⟩ hx H
      replace hX := hX.trans0 hx; clear hx
      refine hold hX ?_
      obtain ⟨a8, e, f17⟩ := bindS f16; clear f16
      refine neqZ e ?_; clear e
      refine hold hX ?_
      cases a8
      ·
       have f18 := condF f17; clear f17
       obtain ⟨a9, e, f19⟩ := bindS f18; clear f18
       refine arO e ?_; clear e
       obtain ⟨a10, e, f20⟩ := bindS f19; clear f19
       refine arO e ?_; clear e
       have hs := Option.some.inj f20; subst hs; clear f20
       exact ⟨(a9, a10), (), rfl, ⟨rfl, rfl, rfl, trivial⟩, H.sel [0] rfl⟩
      ·
       have f21 := condT f17; clear f17
       have hs := Option.some.inj f21; subst hs; clear f21
       have f22 : some _ = some _ := congrArg some (hrt _ rfl).symm
       have hs := Option.some.inj f22; subst hs; clear f22
       have f23 : some _ = some _ := f1; clear f1
       cases f23
       exact ⟨_, _, rfl, ⟨rfl, rfl⟩, (H.sel [] rfl).close trivial⟩
     ·
      have f24 := condT f12; clear f12
      have hs := Option.some.inj f24; subst hs; clear f24
      have f25 : some _ = some _ := congrArg some (hrt _ rfl).symm
      have hs := Option.some.inj f25; subst hs; clear f25
      have f26 : some _ = some _ := f1; clear f1
      cases f26
      exact ⟨_, _, rfl, ⟨rfl, rfl⟩, (H.sel [] rfl).close trivial⟩
    ·
     have f27 := condT f8; clear f8
     have hs := Option.some.inj f27; subst hs; clear f27
     have f28 : some _ = some _ := congrArg some (hrt _ rfl).symm
     have hs := Option.some.inj f28; subst hs; clear f28
     have f29 : some _ = some _ := f1; clear f1
     cases f29
     exact ⟨_, _, rfl, ⟨rfl, rfl⟩, (H.sel [] rfl).close trivial⟩
 ·
  clear f0 H
  rintro T1 s1 w4 ⟨hr, (H : Cx w0 fp0 S0 w4 [])⟩
  subst hr
  cases f1
  exact ⟨_, _, rfl, ⟨rfl, rfl⟩, (H.sel [] rfl).close trivial⟩

theorem laws_heldTerm_c (a__0 : List (Int × Int × ByteArray)) (a__0h : Hd) (k_ : Int) (y : Int) (hF : F_laws_heldTerm a__0 k_ = some y) :
  ConF Tryz.prog 19 #[(.agg #[(a__0h).v]), (.int .i64 k_)] [Es (List (Int × Int × ByteArray)) a__0 a__0h] [] (fun v Γ' => v = (.int .i64 y) ∧ Γ' = []) := by
 intro w0 S0 fp0 hI hS
 have H : Cx w0 fp0 S0 w0 [Es (List (Int × Int × ByteArray)) a__0 a__0h] := Cx.start hI hS
 clear hI hS
 refine enterC (args := [_, _]) gok Tryz.func19 rfl _ rfl rfl rfl ?_
 refine box_ H ?_; clear H; intro b3 w2 hx H
 clear hx
 refine fld gok rfl rfl rfl rfl ?_
 refine load1 (H.bx 0 rfl (j := 0) rfl) ?_
 obtain ⟨y5, e, hF6⟩ := bindS hF; clear hF
 have ey5 := e; clear e
 refine callF (laws_heldNodeS_c a__0 a__0h k_ y5 ey5) (Γi := []) H ⟨Vw.sh 1 rfl, trivial⟩ ?_; clear H ey5
 rintro _ _ w7 ⟨rfl, rfl⟩ H
 refine sq ?_
 obtain ⟨a8, e, hF9⟩ := bindS hF6; clear hF6
 refine boolO e ?_; clear e
 cases a8
 ·
  have f0 := condF hF9; clear hF9
  cases f0
  exact ⟨_, _, rfl, ⟨rfl, rfl⟩, (H.sel [] rfl).close trivial⟩
 ·
  have f1 := condT hF9; clear hF9
  cases f1
  exact ⟨_, _, rfl, ⟨rfl, rfl⟩, (H.sel [] rfl).close trivial⟩

theorem laws_heldRule_c (a__0 : ByteArray) (a__1_0 : List (Int × Int × ByteArray)) (a__1_0h : Hd) (a__2_0 : List (Int × Int × ByteArray)) (a__2_0h : Hd) (k_ : Int) (y : Int) (hF : F_laws_heldRule (a__0, a__1_0, a__2_0) k_ = some y) :
  ConF Tryz.prog 10 #[(.agg #[(.string a__0), (a__1_0h).v, (a__2_0h).v]), (.int .i64 k_)] [Es (List (Int × Int × ByteArray)) a__1_0 a__1_0h, Es (List (Int × Int × ByteArray)) a__2_0 a__2_0h] [] (fun v Γ' => v = (.int .i64 y) ∧ Γ' = []) := by
 intro w0 S0 fp0 hI hS
 have H : Cx w0 fp0 S0 w0 [Es (List (Int × Int × ByteArray)) a__1_0 a__1_0h, Es (List (Int × Int × ByteArray)) a__2_0 a__2_0h] := Cx.start hI hS
 clear hI hS
 refine enterC (args := [_, _]) gok Tryz.func10 rfl _ rfl rfl rfl ?_
 refine box_ H ?_; clear H; intro b4 w3 hx H
 clear hx
 refine fld gok rfl rfl rfl rfl ?_
 refine loadN [(a__1_0h).v] rfl (H.bxs 0 rfl 1 rfl) ?_
 obtain ⟨y6, e, hF7⟩ := bindS hF; clear hF
 have ey6 := e; clear e
 refine callF (laws_heldTerm_c a__1_0 a__1_0h k_ y6 ey6) (Γi := []) H ⟨Vw.sh 1 rfl, trivial⟩ ?_; clear H ey6
 rintro _ _ w8 ⟨rfl, rfl⟩ H
 refine sq ?_
 obtain ⟨a9, e, f0⟩ := bindS hF7; clear hF7
 refine boolO e ?_; clear e
 cases a9
 ·
  have f1 := condF f0; clear f0
  refine fld gok rfl rfl rfl rfl ?_
  refine loadN [(a__2_0h).v] rfl (H.bxs 0 rfl 2 rfl) ?_
  obtain ⟨y0, e, f2⟩ := bindS f1; clear f1
  have i0 := e; clear e
  refine callF (laws_heldTerm_c a__2_0 a__2_0h y6 y0 i0) (Γi := []) H ⟨Vw.sh 2 rfl, trivial⟩ ?_; clear H i0
  rintro _ _ w1 ⟨rfl, rfl⟩ H
  refine sq ?_
  obtain ⟨a0, e, f3⟩ := bindS f2; clear f2
  refine boolO e ?_; clear e
  cases a0
  ·
   have f4 := condF f3; clear f3
   cases f4
   exact ⟨_, _, rfl, ⟨rfl, rfl⟩, (H.sel [] rfl).close trivial⟩
  ·
   have f5 := condT f3; clear f3
   cases f5
   exact ⟨_, _, rfl, ⟨rfl, rfl⟩, (H.sel [] rfl).close trivial⟩
 ·
  have f6 := condT f0; clear f0
  cases f6
  exact ⟨_, _, rfl, ⟨rfl, rfl⟩, (H.sel [] rfl).close trivial⟩

theorem laws_FnExactMirrorRule_c (aR__0 : ByteArray) (aR__1_0 : List (Int × Int × ByteArray)) (aR__1_0h : Hd) (aR__2_0 : List (Int × Int × ByteArray)) (aR__2_0h : Hd) (y : Bool) (hF : F_laws_FnExactMirrorRule (aR__0, aR__1_0, aR__2_0) = some y) :
  ConF Tryz.prog 3 #[(.agg #[(.string aR__0), (aR__1_0h).v, (aR__2_0h).v])] [Es (List (Int × Int × ByteArray)) aR__1_0 aR__1_0h, Es (List (Int × Int × ByteArray)) aR__2_0 aR__2_0h] [] (fun v Γ' => v = (.bool y) ∧ Γ' = []) := by
 intro w0 S0 fp0 hI hS
 have H : Cx w0 fp0 S0 w0 [Es (List (Int × Int × ByteArray)) aR__1_0 aR__1_0h, Es (List (Int × Int × ByteArray)) aR__2_0 aR__2_0h] := Cx.start hI hS
 clear hI hS
 refine enterC (args := [_]) gok Tryz.func3 rfl _ rfl rfl rfl ?_
 refine box_ H ?_; clear H; intro b4 w3 hx H
 clear hx
 refine loadN [(.string aR__0), (aR__1_0h).v, (aR__2_0h).v] rfl (fun j u hj => H.bx 0 rfl hj) ?_
 obtain ⟨y6, e, hF7⟩ := bindS hF; clear hF
 have ey6 := e; clear e
 refine callF (laws_szRule_c aR__0 aR__1_0 aR__1_0h aR__2_0 aR__2_0h 1048576 y6 ey6) (Γi := []) H ⟨Vw.sh 1 rfl, Vw.sh 2 rfl, trivial⟩ ?_; clear H ey6
 rintro _ _ w8 ⟨rfl, rfl⟩ H
 refine sq ?_
 obtain ⟨a9, e, f0⟩ := bindS hF7; clear hF7
 refine boolO e ?_; clear e
 cases a9
 ·
  have f1 := condF f0; clear f0
  refine loadN [(.string aR__0), (aR__1_0h).v, (aR__2_0h).v] rfl (fun j u hj => H.bx 0 rfl hj) ?_
  obtain ⟨y0, e, f2⟩ := bindS f1; clear f1
  obtain ⟨y0_0, y0_1_0, y0_2_0⟩ := y0
  have i0 := e; clear e
  refine callF (laws_toRule_c aR__0 aR__1_0 aR__1_0h aR__2_0 aR__2_0h y0_0 y0_1_0 y0_2_0 i0) (Γi := []) H ⟨Vw.sh 1 rfl, Vw.sh 2 rfl, trivial⟩ ?_; clear H i0
  rintro _ _ w1 ⟨h0, h1, rfl, rfl⟩ H
  obtain ⟨y1, e, f3⟩ := bindS f2; clear f2
  obtain ⟨⟨y1_0_0, y1_0_1_0, y1_0_2_0⟩, y1_1⟩ := y1
  have i1 := e; clear e
  refine callF (spec_MirrorRule_c y0_0 y0_1_0 h0 y0_2_0 h1 y1_0_0 y1_0_1_0 y1_0_2_0 y1_1 i1) (Γi := []) H ⟨Vw.own 0 rfl, Vw.own 1 rfl, trivial⟩ ?_; clear H i1
  rintro _ _ w2 ⟨h2, h3, rfl, rfl⟩ H
  refine alloc_ gok rfl H ?_; clear H; intro b0 w4 hx H
  clear hx
  refine stA gok [(.string y1_0_0), (h2).v, (h3).v] rfl H rfl rfl rfl ?_; clear H; intro w5 H
  refine loadN [(.string aR__0), (aR__1_0h).v, (aR__2_0h).v] rfl (fun j u hj => H.bx 5 rfl hj) ?_
  obtain ⟨y2, e, f4⟩ := bindS f3; clear f3
  obtain ⟨y2_0, y2_1_0, y2_2_0⟩ := y2
  have i2 := e; clear e
  refine callF (laws_toRule_c aR__0 aR__1_0 aR__1_0h aR__2_0 aR__2_0h y2_0 y2_1_0 y2_2_0 i2) (Γi := []) H ⟨Vw.sh 6 rfl, Vw.sh 7 rfl, trivial⟩ ?_; clear H i2
  rintro _ _ w6 ⟨h4, h5, rfl, rfl⟩ H
  refine alloc_ gok rfl H ?_; clear H; intro b1 w7 hx H
  clear hx
  refine stA gok [(.string y2_0), (h4).v, (h5).v] rfl H rfl rfl rfl ?_; clear H; intro w9 H
  refine loadN [(.string y2_0), (h4).v, (h5).v] rfl (fun j u hj => H.bx 0 rfl hj) ?_
  obtain ⟨y3, e, f5⟩ := bindS f4; clear f4
  obtain ⟨⟨y3_0_0, y3_0_1_0, y3_0_2_0⟩, y3_1⟩ := y3
  have i3 := e; clear e
  refine callF (impl_MirrorRule_c y2_0 y2_1_0 h4 y2_2_0 h5 y3_0_0 y3_0_1_0 y3_0_2_0 y3_1 i3) (Γi := []) H ⟨Vw.own 1 rfl, Vw.own 2 rfl, trivial⟩ ?_; clear H i3
  rintro _ _ w10 ⟨h6, h7, rfl, rfl⟩ H
  refine alloc_ gok rfl H ?_; clear H; intro b2 w11 hx H
  clear hx
  refine stA gok [(.string y3_0_0), (h6).v, (h7).v] rfl H rfl rfl rfl ?_; clear H; intro w12 H
  refine sq ?_
  obtain ⟨r0, f6, f7⟩ := bindS f5; clear f5
  refine cut (fun (q0 : Bool) => [(1, (.pointer (some ⟨b4, 0, none⟩))), (4, (.pointer (some ⟨b0, 0, none⟩))), (5, (.bool y1_1)), (6, (.pointer (some ⟨b1, 0, none⟩))), (7, (.pointer (some ⟨b2, 0, none⟩))), (8, (.bool y3_1)), (40, (.bool q0))]) (fun (q0 : Bool) w' => q0 = r0 ∧ Cx w0 fp0 S0 w' [Bx b4 [(.string aR__0), (aR__1_0h).v, (aR__2_0h).v], Es (List (Int × Int × ByteArray)) aR__1_0 aR__1_0h, Es (List (Int × Int × ByteArray)) aR__2_0 aR__2_0h, Bx b0 [(.string y1_0_0), (h2).v, (h3).v], E (List (Int × Int × ByteArray)) y1_0_1_0 h2, E (List (Int × Int × ByteArray)) y1_0_2_0 h3, Bx b1 [(.string y2_0), (h4).v, (h5).v], E (List (Int × Int × ByteArray)) y2_1_0 h4, E (List (Int × Int × ByteArray)) y2_2_0 h5, Bx b2 [(.string y3_0_0), (h6).v, (h7).v], E (List (Int × Int × ByteArray)) y3_0_1_0 h6, E (List (Int × Int × ByteArray)) y3_0_2_0 h7]) ?_ ?_
  ·
   refine loadN [(.string y3_0_0), (h6).v, (h7).v] rfl (fun j u hj => H.bx 0 rfl hj) ?_
   refine loadN [(.string y1_0_0), (h2).v, (h3).v] rfl (fun j u hj => H.bx 6 rfl hj) ?_
   obtain ⟨y4, e, f8⟩ := bindS f6; clear f6
   have i4 := e; clear e
   refine callF (laws_eqRule_c y3_0_0 y3_0_1_0 h6 y3_0_2_0 h7 y1_0_0 y1_0_1_0 h2 y1_0_2_0 h3 y4 i4) (Γi := []) H ⟨Vw.own 1 rfl, Vw.own 2 rfl, Vw.own 7 rfl, Vw.own 8 rfl, trivial⟩ ?_; clear H i4
   rintro _ _ w13 ⟨rfl, rfl⟩ H
   obtain ⟨a0, e, f9⟩ := bindS f8; clear f8
   refine boolO e ?_; clear e
   cases a0
   ·
    have f10 := condF f9; clear f9
    obtain ⟨a1, e, f11⟩ := bindS f10; clear f10
    refine boolO e ?_; clear e
    exact ⟨a1, ⟨rfl, rfl, rfl, rfl, rfl, rfl, rfl, trivial⟩, Option.some.inj f11, H.sel [11, 12, 13, 6, 7, 8, 3, 4, 5, 0, 1, 2] rfl⟩
   ·
    have f12 := condT f9; clear f9
    exact ⟨true, ⟨rfl, rfl, rfl, rfl, rfl, rfl, rfl, trivial⟩, Option.some.inj f12, H.sel [11, 12, 13, 6, 7, 8, 3, 4, 5, 0, 1, 2] rfl⟩
  ·
   clear f6 H
   rintro T0 s0 w15 ⟨hr, (H : Cx w0 fp0 S0 w15 [Bx b4 [(.string aR__0), (aR__1_0h).v, (aR__2_0h).v], Es (List (Int × Int × ByteArray)) aR__1_0 aR__1_0h, Es (List (Int × Int × ByteArray)) aR__2_0 aR__2_0h, Bx b0 [(.string y1_0_0), (h2).v, (h3).v], E (List (Int × Int × ByteArray)) y1_0_1_0 h2, E (List (Int × Int × ByteArray)) y1_0_2_0 h3, Bx b1 [(.string y2_0), (h4).v, (h5).v], E (List (Int × Int × ByteArray)) y2_1_0 h4, E (List (Int × Int × ByteArray)) y2_2_0 h5, Bx b2 [(.string y3_0_0), (h6).v, (h7).v], E (List (Int × Int × ByteArray)) y3_0_1_0 h6, E (List (Int × Int × ByteArray)) y3_0_2_0 h7])⟩
   subst hr
   cases s0
   ·
    have f13 := condF f7; clear f7
    refine sq ?_
    refine heldX H [] (.fst 0 (.fst 1 (.act 2 (.act 3 (.fst 4 .done))))) mixed [] trivial (by kernel_rfl) ?_
    clear H; intro w16 H
    have hX : Ext w16 w16 := Upd.refl _ _
    have H0 := H
    refine loadNX [(.string y2_0), (h4).v, (h5).v] rfl (fun j u hj => H.bx 6 rfl hj) ?_
    refine loadNX [(.string aR__0), (aR__1_0h).v, (aR__2_0h).v] rfl (fun j u hj => H.bx 0 rfl hj) ?_
    obtain ⟨y5, e, f14⟩ := bindS f13; clear f13
    obtain ⟨y5_0, y5_1_0, y5_2_0⟩ := y5
    have i5 := e; clear e
    refine callFx (laws_toRule_c aR__0 aR__1_0 aR__1_0h aR__2_0 aR__2_0h y5_0 y5_1_0 y5_2_0 i5) H ⟨Vw.sh 1 rfl, Vw.sh 2 rfl, trivial⟩ ?_; clear H i5
    rintro _ _ w17 ⟨h8, h9, rfl, rfl⟩ hx H
    replace hX := hX.trans0 hx; clear hx
    refine hold hX ?_
    obtain ⟨y7, e, f15⟩ := bindS f14; clear f14
    have i6 := e; clear e
    refine callFx (laws_eqRule_c y2_0 y2_1_0 h4 y2_2_0 h5 y5_0 y5_1_0 h8 y5_2_0 h9 y7 i6) H ⟨Vw.own 9 rfl, Vw.own 10 rfl, Vw.own 0 rfl, Vw.own 1 rfl, trivial⟩ ?_; clear H i6
    rintro _ _ w18 ⟨rfl, rfl⟩ hx H
    replace hX := hX.trans0 hx; clear hx
    refine hold hX ?_
    obtain ⟨a2, e, f16⟩ := bindS f15; clear f15
    refine boolO e ?_; clear e
    cases a2
    ·
     have f17 := condF f16; clear f16
     refine loadN [(.string y2_0), (h4).v, (h5).v] rfl (fun j u hj => H.bx 8 rfl hj) ?_
     obtain ⟨y8, e, f18⟩ := bindS f17; clear f17
     obtain ⟨⟨y8_0_0, y8_0_1_0, y8_0_2_0⟩, y8_1⟩ := y8
     have i7 := e; clear e
     replace H := H.sel [9, 10, 0, 1, 2, 3, 4, 5, 6, 7, 8, 11, 12, 13] rfl
     refine callF (laws_markRule_c y2_0 y2_1_0 h4 y2_2_0 h5 1 y8_0_0 y8_0_1_0 y8_0_2_0 y8_1 i7) (Γi := [E (List (Int × Int × ByteArray)) y2_1_0 h4, E (List (Int × Int × ByteArray)) y2_2_0 h5]) H trivial ?_; clear H i7
     rintro _ _ w19 ⟨rfl, rfl⟩ H
     refine sq ?_
     obtain ⟨r1, f19, f20⟩ := bindS f18; clear f18
     refine cut (fun (q1 : Bool) => [(1, (.pointer (some ⟨b4, 0, none⟩))), (4, (.pointer (some ⟨b0, 0, none⟩))), (5, (.bool y1_1)), (7, (.pointer (some ⟨b2, 0, none⟩))), (61, (.bool q1))]) (fun (q1 : Bool) w' => q1 = r1 ∧ Cx w0 fp0 S0 w' [Bx b4 [(.string aR__0), (aR__1_0h).v, (aR__2_0h).v], Es (List (Int × Int × ByteArray)) aR__1_0 aR__1_0h, Es (List (Int × Int × ByteArray)) aR__2_0 aR__2_0h, Bx b0 [(.string y1_0_0), (h2).v, (h3).v], E (List (Int × Int × ByteArray)) y1_0_1_0 h2, E (List (Int × Int × ByteArray)) y1_0_2_0 h3, Bx b2 [(.string y3_0_0), (h6).v, (h7).v], E (List (Int × Int × ByteArray)) y3_0_1_0 h6, E (List (Int × Int × ByteArray)) y3_0_2_0 h7]) ?_ ?_
     ·
      obtain ⟨a3, e, f21⟩ := bindS f19; clear f19
      refine boolO e ?_; clear e
      cases a3
      ·
       have f22 := condF f21; clear f21
       refine loadN [(.string y3_0_0), (h6).v, (h7).v] rfl (fun j u hj => H.bx 11 rfl hj) ?_
       refine loadN [(.string y1_0_0), (h2).v, (h3).v] rfl (fun j u hj => H.bx 7 rfl hj) ?_
       obtain ⟨y9, e, f23⟩ := bindS f22; clear f22
       have i8 := e; clear e
       refine callF (laws_eqRule_c y3_0_0 y3_0_1_0 h6 y3_0_2_0 h7 y1_0_0 y1_0_1_0 h2 y1_0_2_0 h3 y9 i8) (Γi := []) H ⟨Vw.own 12 rfl, Vw.own 13 rfl, Vw.own 8 rfl, Vw.own 9 rfl, trivial⟩ ?_; clear H i8
       rintro _ _ w20 ⟨rfl, rfl⟩ H
       obtain ⟨a4, e, f24⟩ := bindS f23; clear f23
       refine boolO e ?_; clear e
       cases a4
       ·
        have f25 := condF f24; clear f24
        obtain ⟨a5, e, f26⟩ := bindS f25; clear f25
        refine boolO e ?_; clear e
        exact ⟨a5, ⟨rfl, rfl, rfl, rfl, rfl, trivial⟩, Option.some.inj f26, H.sel [4, 5, 6, 7, 8, 9, 11, 12, 13] rfl⟩
       ·
        have f27 := condT f24; clear f24
        exact ⟨true, ⟨rfl, rfl, rfl, rfl, rfl, trivial⟩, Option.some.inj f27, H.sel [4, 5, 6, 7, 8, 9, 11, 12, 13] rfl⟩
      ·
       have f28 := condT f21; clear f21
       exact ⟨true, ⟨rfl, rfl, rfl, rfl, rfl, trivial⟩, Option.some.inj f28, H.sel [4, 5, 6, 7, 8, 9, 11, 12, 13] rfl⟩
     ·
      clear f19 H
      rintro T1 s1 w22 ⟨hr, (H : Cx w0 fp0 S0 w22 [Bx b4 [(.string aR__0), (aR__1_0h).v, (aR__2_0h).v], Es (List (Int × Int × ByteArray)) aR__1_0 aR__1_0h, Es (List (Int × Int × ByteArray)) aR__2_0 aR__2_0h, Bx b0 [(.string y1_0_0), (h2).v, (h3).v], E (List (Int × Int × ByteArray)) y1_0_1_0 h2, E (List (Int × Int × ByteArray)) y1_0_2_0 h3, Bx b2 [(.string y3_0_0), (h6).v, (h7).v], E (List (Int × Int × ByteArray)) y3_0_1_0 h6, E (List (Int × Int × ByteArray)) y3_0_2_0 h7])⟩
      subst hr
      cases s1
      ·
       have f29 := condF f20; clear f20
       refine loadN [(.string y3_0_0), (h6).v, (h7).v] rfl (fun j u hj => H.bx 6 rfl hj) ?_
       obtain ⟨y10, e, f30⟩ := bindS f29; clear f29
       obtain ⟨⟨y10_0_0, y10_0_1_0, y10_0_2_0⟩, y10_1⟩ := y10
       have i9 := e; clear e
       replace H := H.sel [7, 8, 0, 1, 2, 3, 4, 5, 6] rfl
       refine callF (laws_markRule_c y3_0_0 y3_0_1_0 h6 y3_0_2_0 h7 1 y10_0_0 y10_0_1_0 y10_0_2_0 y10_1 i9) (Γi := [E (List (Int × Int × ByteArray)) y3_0_1_0 h6, E (List (Int × Int × ByteArray)) y3_0_2_0 h7]) H trivial ?_; clear H i9
       rintro _ _ w23 ⟨rfl, rfl⟩ H
       refine loadN [(.string y3_0_0), (h6).v, (h7).v] rfl (fun j u hj => H.bx 8 rfl hj) ?_
       obtain ⟨y11, e, f31⟩ := bindS f30; clear f30
       have i10 := e; clear e
       refine callF (laws_heldRule_c y3_0_0 y10_0_1_0 h6 y10_0_2_0 h7 1 y11 i10) (Γi := []) H ⟨Vw.own 0 rfl, Vw.own 1 rfl, trivial⟩ ?_; clear H i10
       rintro _ _ w24 ⟨rfl, rfl⟩ H
       refine sq ?_
       obtain ⟨a6, e, f32⟩ := bindS f31; clear f31
       refine boolO e ?_; clear e
       cases a6
       ·
        have f33 := condF f32; clear f32
        refine sq ?_
        obtain ⟨a7, e, f34⟩ := bindS f33; clear f33
        refine boolO e ?_; clear e
        cases a7
        ·
         have f35 := condF f34; clear f34
         refine loadN [(.string aR__0), (aR__1_0h).v, (aR__2_0h).v] rfl (fun j u hj => H.bx 2 rfl hj) ?_
         obtain ⟨y13, e, f36⟩ := bindS f35; clear f35
         obtain ⟨y13_0, y13_1_0, y13_2_0⟩ := y13
         have i11 := e; clear e
         refine callF (laws_toRule_c aR__0 aR__1_0 aR__1_0h aR__2_0 aR__2_0h y13_0 y13_1_0 y13_2_0 i11) (Γi := []) H ⟨Vw.sh 3 rfl, Vw.sh 4 rfl, trivial⟩ ?_; clear H i11
         rintro _ _ w25 ⟨h10, h11, rfl, rfl⟩ H
         obtain ⟨y14, e, f37⟩ := bindS f36; clear f36
         obtain ⟨⟨y14_0_0, y14_0_1_0, y14_0_2_0⟩, y14_1⟩ := y14
         have i12 := e; clear e
         refine callF (impl_MirrorRule_c y13_0 y13_1_0 h10 y13_2_0 h11 y14_0_0 y14_0_1_0 y14_0_2_0 y14_1 i12) (Γi := []) H ⟨Vw.own 0 rfl, Vw.own 1 rfl, trivial⟩ ?_; clear H i12
         rintro _ _ w27 ⟨h12, h13, rfl, rfl⟩ H
         refine alloc_ gok rfl H ?_; clear H; intro b3 w28 hx H
         clear hx
         refine stA gok [(.string y14_0_0), (h12).v, (h13).v] rfl H rfl rfl rfl ?_; clear H; intro w30 H
         refine sq ?_
         obtain ⟨r2, f38, f39⟩ := bindS f37; clear f37
         refine cut (fun (q2 : Bool) => [(7, (.pointer (some ⟨b2, 0, none⟩))), (10, (.int .i64 y10_1)), (87, (.bool q2))]) (fun (q2 : Bool) w' => q2 = r2 ∧ Cx w0 fp0 S0 w' [Bx b2 [(.string y3_0_0), (h6).v, (h7).v], E (List (Int × Int × ByteArray)) y10_0_1_0 h6, E (List (Int × Int × ByteArray)) y10_0_2_0 h7]) ?_ ?_
         ·
          refine loadN [(.string y14_0_0), (h12).v, (h13).v] rfl (fun j u hj => H.bx 0 rfl hj) ?_
          refine loadN [(.string y1_0_0), (h2).v, (h3).v] rfl (fun j u hj => H.bx 10 rfl hj) ?_
          obtain ⟨y15, e, f40⟩ := bindS f38; clear f38
          have i13 := e; clear e
          refine callF (laws_eqRule_c y14_0_0 y14_0_1_0 h12 y14_0_2_0 h13 y1_0_0 y1_0_1_0 h2 y1_0_2_0 h3 y15 i13) (Γi := []) H ⟨Vw.own 1 rfl, Vw.own 2 rfl, Vw.own 11 rfl, Vw.own 12 rfl, trivial⟩ ?_; clear H i13
          rintro _ _ w31 ⟨rfl, rfl⟩ H
          obtain ⟨a8, e, f41⟩ := bindS f40; clear f40
          refine boolO e ?_; clear e
          cases a8
          ·
           have f42 := condF f41; clear f41
           obtain ⟨a10, e, f43⟩ := bindS f42; clear f42
           refine boolO e ?_; clear e
           exact ⟨a10, ⟨rfl, rfl, rfl, trivial⟩, Option.some.inj f43, H.sel [13, 5, 6] rfl⟩
          ·
           have f44 := condT f41; clear f41
           exact ⟨true, ⟨rfl, rfl, rfl, trivial⟩, Option.some.inj f44, H.sel [13, 5, 6] rfl⟩
         ·
          clear f38 H
          rintro T2 s2 w33 ⟨hr, (H : Cx w0 fp0 S0 w33 [Bx b2 [(.string y3_0_0), (h6).v, (h7).v], E (List (Int × Int × ByteArray)) y10_0_1_0 h6, E (List (Int × Int × ByteArray)) y10_0_2_0 h7])⟩
          subst hr
          cases s2
          ·
           have f45 := condF f39; clear f39
           refine loadN [(.string y3_0_0), (h6).v, (h7).v] rfl (fun j u hj => H.bx 0 rfl hj) ?_
           obtain ⟨y16, e, f46⟩ := bindS f45; clear f45
           have i14 := e; clear e
           refine callF (laws_heldRule_c y3_0_0 y10_0_1_0 h6 y10_0_2_0 h7 1 y16 i14) (Γi := []) H ⟨Vw.own 1 rfl, Vw.own 2 rfl, trivial⟩ ?_; clear H i14
           rintro _ _ w34 ⟨rfl, rfl⟩ H
           refine sq ?_
           obtain ⟨a11, e, f47⟩ := bindS f46; clear f46
           refine boolO e ?_; clear e
           cases a11
           ·
            have f48 := condF f47; clear f47
            refine sq ?_
            obtain ⟨a12, e, f49⟩ := bindS f48; clear f48
            refine boolO e ?_; clear e
            cases a12
            ·
             have f50 := condF f49; clear f49
             cases f50
             exact ⟨_, _, rfl, ⟨rfl, rfl⟩, (H.sel [] rfl).close trivial⟩
            ·
             have f51 := condT f49; clear f49
             cases f51
             exact ⟨_, _, rfl, ⟨rfl, rfl⟩, (H.sel [] rfl).close trivial⟩
           ·
            have f52 := condT f47; clear f47
            cases f52
            exact ⟨_, _, rfl, ⟨rfl, rfl⟩, (H.sel [] rfl).close trivial⟩
          ·
           have f53 := condT f39; clear f39
           cases f53
           exact ⟨_, _, rfl, ⟨rfl, rfl⟩, (H.sel [] rfl).close trivial⟩
        ·
         have f54 := condT f34; clear f34
         cases f54
         exact ⟨_, _, rfl, ⟨rfl, rfl⟩, (H.sel [] rfl).close trivial⟩
       ·
        have f55 := condT f32; clear f32
        cases f55
        exact ⟨_, _, rfl, ⟨rfl, rfl⟩, (H.sel [] rfl).close trivial⟩
      ·
       have f56 := condT f20; clear f20
       cases f56
       exact ⟨_, _, rfl, ⟨rfl, rfl⟩, (H.sel [] rfl).close trivial⟩
    ·
     have f57 := condT f16; clear f16
     cases f57
     exact ⟨_, _, rfl, ⟨rfl, rfl⟩, (H.sel [] rfl).close trivial⟩
   ·
    have f58 := condT f7; clear f7
    cases f58
    exact ⟨_, _, rfl, ⟨rfl, rfl⟩, (H.sel [] rfl).close trivial⟩
 ·
  have f59 := condT f0; clear f0
  cases f59
  exact ⟨_, _, rfl, ⟨rfl, rfl⟩, (H.sel [] rfl).close trivial⟩
end Go.Proofs.YteimaohaeodbkaaGreat
