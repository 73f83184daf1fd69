/-
 Contracts, printed by a program (wip/y/gen.py): each function of Go computes its partial function. Condition of each: its partial function yields a value.
-/
import Derived.Test.YtgkomaglodpefaaDoorZCall
namespace Go.Proofs.YtgkomaglodpefaaDoor
open Go Go.Proofs.YtgkomaglodpefaaDoor.RW
set_option maxRecDepth 100000
set_option maxHeartbeats 1000000
set_option linter.unusedVariables false

theorem impl_StateSpace_markov_c (s__0 : Int) (s__1 : Int) (s__2 : Int) (s__3 : List (List Int)) (s__3h : Hd) (s__4 : List (List Int)) (s__4h : Hd) (s__5 : List (List Int)) (s__5h : Hd) (s__6 : List (List Int)) (s__6h : Hd) (p_ : Int) (n_ : Int) (y : List (Int × List (List Int))) (hF : F_impl_StateSpace_markov (s__0, s__1, s__2, s__3, s__4, s__5, s__6) p_ n_ = some y) :
  ConF Tryd.prog 40 #[(.agg #[(.int .i64 s__0), (.int .i64 s__1), (.int .i64 s__2), (s__3h).v, (s__4h).v, (s__5h).v, (s__6h).v]), (.int .i64 p_), (.int .i64 n_)] [Es (List (List Int)) s__3 s__3h, Es (List (List Int)) s__4 s__4h, Es (List (List Int)) s__5 s__5h, Es (List (List Int)) s__6 s__6h] [] (fun v Γ' => ∃ z0 : Hd, v = (z0).v ∧ Γ' = [E (List (Int × List (List Int))) y z0]) := by
 intro w0 S0 fp0 hI hS
 have H : Cx w0 fp0 S0 w0 [Es (List (List Int)) s__3 s__3h, Es (List (List Int)) s__4 s__4h, Es (List (List Int)) s__5 s__5h, Es (List (List Int)) s__6 s__6h] := Cx.start hI hS
 clear hI hS
 refine enterC (args := [_, _, _]) gok Tryd.func40 rfl _ rfl rfl rfl ?_
 refine box_ H ?_; clear H; intro b6 w5 hx H
 clear hx
 refine lit0 (α := Int × List (List Int)) gok rfl rfl H ?_; clear H; intro h9 w8 hx H
 clear hx
 refine fld gok rfl rfl rfl rfl ?_
 refine load1 (H.bx 1 rfl (j := 4) rfl) ?_
 obtain ⟨y0, e, f0⟩ := bindS hF; clear hF
 have i0 := e; clear e
 refine callF (impl_clones_c s__4 s__4h y0 i0) (Γi := []) H ⟨Vw.sh 3 rfl, trivial⟩ ?_; clear H i0
 rintro _ _ w1 ⟨h0, rfl, rfl⟩ H
 refine sq ?_
 obtain ⟨a0, hn211, f1⟩ := bindS f0; clear f0
 obtain ⟨r0, e, f2⟩ := bindS f1; clear f1
 refine loopS _ n_.toNat (fun (k0 : Nat) (s0 : (List (Int × List (List Int))) × List (List Int)) (g0 : Hd × Hd) => [(1, (.int .i64 p_)), (3, (.pointer (some ⟨b6, 0, none⟩))), (7, (g0.1).v), (8, (g0.2).v), (14, (.int .i64 n_)), (15, (.int .i64 ((k0 : Nat) : Int)))]) (fun _ (s0 : (List (Int × List (List Int))) × List (List Int)) (g0 : Hd × Hd) w' => Cx w0 fp0 S0 w' [Bx b6 [(.int .i64 s__0), (.int .i64 s__1), (.int .i64 s__2), (s__3h).v, (s__4h).v, (s__5h).v, (s__6h).v], Es (List (List Int)) s__3 s__3h, Es (List (List Int)) s__4 s__4h, Es (List (List Int)) s__5 s__5h, Es (List (List Int)) s__6 s__6h, E (List (Int × List (List Int))) s0.1 g0.1, E (List (List Int)) s0.2 g0.2]) (([] : List (Int × List (List Int))), y0) (h9, h0) e ⟨rfl, rfl, rfl, rfl, rfl, rfl, trivial⟩ (H.sel [2, 3, 4, 5, 6, 1, 0] rfl) ?_ ?_
 ·
  clear H e
  rintro T0 k0 ⟨s0_0, s0_1⟩ ⟨g0_0, g0_1⟩ w2 o0 hk (H : Cx w0 fp0 S0 w2 [Bx b6 [(.int .i64 s__0), (.int .i64 s__1), (.int .i64 s__2), (s__3h).v, (s__4h).v, (s__5h).v, (s__6h).v], Es (List (List Int)) s__3 s__3h, Es (List (List Int)) s__4 s__4h, Es (List (List Int)) s__5 s__5h, Es (List (List Int)) s__6 s__6h, E (List (Int × List (List Int))) s0_0 g0_0, E (List (List Int)) s0_1 g0_1]) f3
  refine boolE (z := true) (ltNat hk) ?_
  refine sq ?_
  obtain ⟨r1, f4, f5⟩ := bindS f3; clear f3
  refine cut (fun (q0 : ((List (Int × List (List Int))) × List (List Int)) × (Hd × Hd)) => [(1, (.int .i64 p_)), (3, (.pointer (some ⟨b6, 0, none⟩))), (7, (q0.2.1).v), (8, (q0.2.2).v), (14, (.int .i64 n_)), (15, (.int .i64 ((k0 : Nat) : Int)))]) (fun (q0 : ((List (Int × List (List Int))) × List (List Int)) × (Hd × Hd)) w' => (q0.1.1, q0.1.2) = r1 ∧ Cx w0 fp0 S0 w' [Bx b6 [(.int .i64 s__0), (.int .i64 s__1), (.int .i64 s__2), (s__3h).v, (s__4h).v, (s__5h).v, (s__6h).v], Es (List (List Int)) s__3 s__3h, Es (List (List Int)) s__4 s__4h, Es (List (List Int)) s__5 s__5h, Es (List (List Int)) s__6 s__6h, E (List (Int × List (List Int))) q0.1.1 q0.2.1, E (List (List Int)) q0.1.2 q0.2.2]) ?_ ?_
  ·
   refine sq ?_
   obtain ⟨a1, e, f6⟩ := bindS f4; clear f4
   refine boolO e ?_; clear e
   cases a1
   ·
    have f7 := condF f6; clear f6
    refine heldX H [12, 13] (.fst 0 (.fst 1 (.fst 3 (.fst 4 (.fst 5 (.fst 7 (.fst 2 (.fst 6 (.fst 8 (.act 9 (.fst 10 (.act 11 (.act 12 (.act 13 .done)))))))))))))) mixed [] trivial (by kernel_rfl) ?_
    clear H; intro w3 H
    have hX : Ext w3 w3 := Upd.refl _ _
    have H0 := H
    refine anyH (fun _ => fld gok rfl rfl rfl rfl ⟨rfl, rfl⟩) ?_
    refine anyH (fun _ => fld gok rfl rfl rfl rfl ⟨rfl, rfl⟩) ?_
    refine anyH (fun _ => fld gok rfl rfl rfl rfl ⟨rfl, rfl⟩) ?_
    refine load1X (H.bx 0 rfl (j := 2) rfl) ?_
    refine load1X (H.bx 0 rfl (j := 5) rfl) ?_
    refine load1X (H.bx 0 rfl (j := 2) rfl) ?_
    obtain ⟨y1, e, f8⟩ := bindS f7; clear f7
    have i1 := e; clear e
    refine callFx (impl_product_c p_ s0_1 g0_1 s__5 s__5h s__2 y1 i1) H ⟨Vw.own 6 rfl, Vw.sh 3 rfl, trivial⟩ ?_; clear H i1
    rintro _ _ w4 ⟨h1, rfl, rfl⟩ hx H
    replace hX := hX.trans0 hx; clear hx
    refine hold hX ?_
    refine anyH (fun _ => build_ (cs := #[(.int .i64 s__2), (h1).v]) gok rfl rfl rfl ⟨rfl, rfl⟩) ?_
    replace H := H.sc (α := Int) s__2
    replace H := H.join (α := Int) (β := List (List Int))
    refine lit1 (α := Int × List (List Int)) (g := ((), h1)) gok rfl rfl rfl rfl rfl H ?_; clear H; intro h2 w6 hx H
    replace hX := hX.trans0 hx; clear hx
    refine hold hX ?_
    obtain ⟨a2, e, f9⟩ := bindS f8; clear f8
    replace H := H.sel [6, 0, 1, 2, 3, 4, 5, 7] rfl
    refine append_ (α := Int × List (List Int)) gok rfl rfl rfl rfl H e ?_; clear e H; intro h3 w7 H
    refine hold trivial ?_
    refine hold trivial ?_
    refine fld gok rfl rfl rfl rfl ?_
    refine load1 (H.bx 1 rfl (j := 3) rfl) ?_
    refine fld gok rfl rfl rfl rfl ?_
    refine load1 (H.bx 1 rfl (j := 0) rfl) ?_
    obtain ⟨y2, e, f10⟩ := bindS f9; clear f9
    have i2 := e; clear e
    refine callF (impl_product_c p_ s0_1 g0_1 s__3 s__3h s__0 y2 i2) (Γi := []) H ⟨Vw.own 6 rfl, Vw.sh 2 rfl, trivial⟩ ?_; clear H i2
    rintro _ _ w9 ⟨h4, rfl, rfl⟩ H
    exact ⟨((a2, y2), (h3, h4)), ⟨rfl, rfl, rfl, rfl, rfl, rfl, trivial⟩, Option.some.inj f10, H.sel [2, 3, 4, 5, 6, 1, 0] rfl⟩
   ·
    have f11 := condT f6; clear f6
    refine heldX H [8, 9] (.fst 0 (.fst 1 (.fst 3 (.fst 2 (.fst 4 (.act 5 (.fst 6 (.act 7 (.act 8 (.act 9 .done)))))))))) mixed [] trivial (by kernel_rfl) ?_
    clear H; intro w10 H
    have hX : Ext w10 w10 := Upd.refl _ _
    have H0 := H
    refine anyH (fun _ => fld gok rfl rfl rfl rfl ⟨rfl, rfl⟩) ?_
    refine anyH (fun _ => fld gok rfl rfl rfl rfl ⟨rfl, rfl⟩) ?_
    refine load1X (H.bx 0 rfl (j := 2) rfl) ?_
    refine load1X (H.bx 0 rfl (j := 6) rfl) ?_
    obtain ⟨y3, e, f12⟩ := bindS f11; clear f11
    have i3 := e; clear e
    refine callFx (impl_clones_c s__6 s__6h y3 i3) H ⟨Vw.sh 4 rfl, trivial⟩ ?_; clear H i3
    rintro _ _ w11 ⟨h5, rfl, rfl⟩ hx H
    replace hX := hX.trans0 hx; clear hx
    refine hold hX ?_
    refine anyH (fun _ => build_ (cs := #[(.int .i64 s__2), (h5).v]) gok rfl rfl rfl ⟨rfl, rfl⟩) ?_
    replace H := H.sc (α := Int) s__2
    replace H := H.join (α := Int) (β := List (List Int))
    refine lit1 (α := Int × List (List Int)) (g := ((), h5)) gok rfl rfl rfl rfl rfl H ?_; clear H; intro h6 w12 hx H
    replace hX := hX.trans0 hx; clear hx
    refine hold hX ?_
    obtain ⟨a3, e, f13⟩ := bindS f12; clear f12
    replace H := H.sel [6, 0, 1, 2, 3, 4, 5, 7] rfl
    refine append_ (α := Int × List (List Int)) gok rfl rfl rfl rfl H e ?_; clear e H; intro h7 w14 H
    refine hold trivial ?_
    refine hold trivial ?_
    exact ⟨((a3, s0_1), (h7, g0_1)), ⟨rfl, rfl, rfl, rfl, rfl, rfl, trivial⟩, Option.some.inj f13, H.sel [1, 2, 3, 4, 5, 0, 6] rfl⟩
  ·
   clear f4 H
   rintro T1 ⟨⟨s1_0, s1_1⟩, ⟨g1_0, g1_1⟩⟩ w15 ⟨hr, (H : Cx w0 fp0 S0 w15 [Bx b6 [(.int .i64 s__0), (.int .i64 s__1), (.int .i64 s__2), (s__3h).v, (s__4h).v, (s__5h).v, (s__6h).v], Es (List (List Int)) s__3 s__3h, Es (List (List Int)) s__4 s__4h, Es (List (List Int)) s__5 s__5h, Es (List (List Int)) s__6 s__6h, E (List (Int × List (List Int))) s1_0 g1_0, E (List (List Int)) s1_1 g1_1])⟩
   subst hr
   refine arK hk (maxI hn211) ?_
   have hs := Option.some.inj f5; subst hs; clear f5
   exact ⟨(g1_0, g1_1), ⟨rfl, rfl, rfl, rfl, rfl, rfl, trivial⟩, H.sel [0, 1, 2, 3, 4, 5, 6] rfl⟩
 ·
  clear H e
  obtain ⟨s2_0, s2_1⟩ := r0
  rintro T2 ⟨g2_0, g2_1⟩ w16 (H : Cx w0 fp0 S0 w16 [Bx b6 [(.int .i64 s__0), (.int .i64 s__1), (.int .i64 s__2), (s__3h).v, (s__4h).v, (s__5h).v, (s__6h).v], Es (List (List Int)) s__3 s__3h, Es (List (List Int)) s__4 s__4h, Es (List (List Int)) s__5 s__5h, Es (List (List Int)) s__6 s__6h, E (List (Int × List (List Int))) s2_0 g2_0, E (List (List Int)) s2_1 g2_1])
  refine boolE (z := false) geNat ?_
  refine sq ?_
  cases f2
  exact ⟨_, _, rfl, ⟨g2_0, rfl, rfl⟩, (H.sel [5] rfl).close ⟨cloE, trivial⟩⟩

theorem impl_isSeries_c (p_ : Int) (s_ : List Int) (s_h : Hd) (y : Bool) (hF : F_impl_isSeries p_ s_ = some y) :
  ConF Tryd.prog 58 #[(.int .i64 p_), (s_h).v] [Es (List Int) s_ s_h, Gl 0 [.int .i64 2, .int .i64 3, .int .i64 5, .int .i64 7]] [] (fun v Γ' => v = (.bool y) ∧ Γ' = []) := by
 intro w0 S0 fp0 hI hS
 have H : Cx w0 fp0 S0 w0 [Es (List Int) s_ s_h, Gl 0 [.int .i64 2, .int .i64 3, .int .i64 5, .int .i64 7]] := Cx.start hI hS
 clear hI hS
 refine enterC (args := [_, _]) gok Tryd.func58 rfl _ rfl rfl rfl ?_
 obtain ⟨r0, f0, f1⟩ := bindS hF; clear hF
 refine cut (fun (q0 : Bool) => [(4, (.bool q0))]) (fun (q0 : Bool) w' => q0 = r0 ∧ Cx w0 fp0 S0 w' [Gl 0 [.int .i64 2, .int .i64 3, .int .i64 5, .int .i64 7]]) ?_ ?_
 ·
  obtain ⟨y0, e, f2⟩ := bindS f0; clear f0
  have i0 := e; clear e
  refine callF (impl_isField_c p_ y0 i0) (Γi := []) H ⟨Vw.gl 1 rfl, trivial⟩ ?_; clear H i0
  rintro _ _ w1 ⟨rfl, rfl⟩ H
  cases y0
  ·
   have f3 := condF f2; clear f2
   exact ⟨false, ⟨rfl, trivial⟩, Option.some.inj f3, H.sel [1] rfl⟩
  ·
   have f4 := condT f2; clear f2
   refine lenE (H.rs (α := List Int) 0 rfl).len ?_
   obtain ⟨a0, e, f5⟩ := bindS f4; clear f4
   refine boolO e ?_; clear e
   cases a0
   ·
    have f6 := condF f5; clear f5
    exact ⟨false, ⟨rfl, trivial⟩, Option.some.inj f6, H.sel [1] rfl⟩
   ·
    have f7 := condT f5; clear f5
    refine lenE (H.rs (α := List Int) 0 rfl).len ?_
    obtain ⟨y1, e, f8⟩ := bindS f7; clear f7
    have i1 := e; clear e
    refine callF (impl_isVector_c p_ s_ s_h ((s_.length : Nat) : Int) y1 i1) (Γi := []) H ⟨Vw.sh 0 rfl, trivial⟩ ?_; clear H i1
    rintro _ _ w2 ⟨rfl, rfl⟩ H
    exact ⟨y1, ⟨rfl, trivial⟩, Option.some.inj f8, H.sel [1] rfl⟩
 ·
  clear f0 H
  rintro T0 s0 w3 ⟨hr, (H : Cx w0 fp0 S0 w3 [Gl 0 [.int .i64 2, .int .i64 3, .int .i64 5, .int .i64 7]])⟩
  subst hr
  cases f1
  exact ⟨_, _, rfl, ⟨rfl, rfl⟩, (H.sel [] rfl).close trivial⟩

theorem impl_coefficient_c (f_ : List Int) (f_h : Hd) (e_ : Int) (y : Int) (hF : F_impl_coefficient f_ e_ = some y) :
  ConF Tryd.prog 74 #[(f_h).v, (.int .i64 e_)] [Es (List Int) f_ f_h] [] (fun v Γ' => v = (.int .i64 y) ∧ Γ' = []) := by
 intro w0 S0 fp0 hI hS
 have H : Cx w0 fp0 S0 w0 [Es (List Int) f_ f_h] := Cx.start hI hS
 clear hI hS
 refine enterC (args := [_, _]) gok Tryd.func74 rfl _ rfl rfl rfl ?_
 refine sq ?_
 refine lenE (H.rs (α := List Int) 0 rfl).len ?_
 obtain ⟨a2, e, hF3⟩ := bindS hF; clear hF
 refine boolO e ?_; clear e
 cases a2
 ·
  have hF4 := condF hF3; clear hF3
  obtain ⟨a0, e, f0⟩ := bindS hF4; clear hF4
  obtain ⟨p9, m0, c5, c6, c7, c8⟩ := (H.rs (α := List Int) 0 rfl).at1 e; clear e
  refine idxE c5 c6 c7 ?_; clear c5 c6 c7
  refine load1 c8 ?_; clear c8
  cases f0
  exact ⟨_, _, rfl, ⟨rfl, rfl⟩, (H.sel [] rfl).close trivial⟩
 ·
  have f1 := condT hF3; clear hF3
  cases f1
  exact ⟨_, _, rfl, ⟨rfl, rfl⟩, (H.sel [] rfl).close trivial⟩

theorem impl_bit_c (yes_ : Bool) (y : Int) (hF : F_impl_bit yes_ = some y) :
  ConF Tryd.prog 86 #[(.bool yes_)] [] [] (fun v Γ' => v = (.int .i64 y) ∧ Γ' = []) := by
 intro w0 S0 fp0 hI hS
 have H : Cx w0 fp0 S0 w0 [] := Cx.start hI hS
 clear hI hS
 refine enterC (args := [_]) gok Tryd.func86 rfl _ rfl rfl rfl ?_
 refine sq ?_
 cases yes_
 ·
  have hF1 := condF hF; clear hF
  cases hF1
  exact ⟨_, _, rfl, ⟨rfl, rfl⟩, (H.sel [] rfl).close trivial⟩
 ·
  have hF2 := condT hF; clear hF
  cases hF2
  exact ⟨_, _, rfl, ⟨rfl, rfl⟩, (H.sel [] rfl).close trivial⟩

theorem impl_power_c (p_ : Int) (a_ : Int) (n_ : Int) (y : Int) (hF : F_impl_power p_ a_ n_ = some y) :
  ConF Tryd.prog 85 #[(.int .i64 p_), (.int .i64 a_), (.int .i64 n_)] [] [] (fun v Γ' => v = (.int .i64 y) ∧ Γ' = []) := by
 intro w0 S0 fp0 hI hS
 have H : Cx w0 fp0 S0 w0 [] := Cx.start hI hS
 clear hI hS
 refine enterC (args := [_, _, _]) gok Tryd.func85 rfl _ rfl rfl rfl ?_
 obtain ⟨a1, e, hF2⟩ := bindS hF; clear hF
 refine remO_ e ?_; clear e
 obtain ⟨r0, f0, f1⟩ := bindS hF2; clear hF2
 refine cut (fun (q0 : Int) => [(7, (.int .i64 q0))]) (fun (q0 : Int) w' => q0 = r0 ∧ Cx w0 fp0 S0 w' []) ?_ ?_
 ·
  refine loopW _ (fun (s0 : Int × Int × Int) (_ : Unit) => [(0, (.int .i64 p_)), (1, (.int .i64 s0.1)), (2, (.int .i64 s0.2.1)), (7, (.int .i64 s0.2.2))]) (fun (s0 : Int × Int × Int) (_ : Unit) w' => Cx w0 fp0 S0 w' []) (a_, n_, a1) () f0 ⟨rfl, rfl, rfl, rfl, trivial⟩ (H.sel [] rfl) ?_
  ·
   clear H
   rintro T0 ⟨s0_0, s0_1, s0_2⟩ _ w1 o0 (H : Cx w0 fp0 S0 w1 []) hrt f2
   refine sq ?_
   obtain ⟨a0, e, f3⟩ := bindS f2; clear f2
   refine boolO e ?_; clear e
   cases a0
   ·
    have f4 := condF f3; clear f3
    have hs := Option.some.inj f4; subst hs; clear f4
    have f5 : some _ = some _ := congrArg some (hrt _ rfl).symm
    exact ⟨s0_2, ⟨rfl, trivial⟩, Option.some.inj f5, H.sel [] rfl⟩
   ·
    have f6 := condT f3; clear f3
    refine sq ?_
    obtain ⟨r1, f7, f8⟩ := bindS f6; clear f6
    refine cut (fun (q1 : Int) => [(0, (.int .i64 p_)), (1, (.int .i64 s0_0)), (2, (.int .i64 s0_1)), (7, (.int .i64 q1))]) (fun (q1 : Int) w' => q1 = r1 ∧ Cx w0 fp0 S0 w' []) ?_ ?_
    ·
     obtain ⟨a2, e, f9⟩ := bindS f7; clear f7
     refine remO_ e ?_; clear e
     obtain ⟨a3, e, f10⟩ := bindS f9; clear f9
     refine boolO e ?_; clear e
     cases a3
     ·
      have f11 := condF f10; clear f10
      exact ⟨s0_2, ⟨rfl, rfl, rfl, rfl, trivial⟩, Option.some.inj f11, H.sel [] rfl⟩
     ·
      have f12 := condT f10; clear f10
      obtain ⟨a4, e, f13⟩ := bindS f12; clear f12
      refine arO e ?_; clear e
      obtain ⟨a5, e, f14⟩ := bindS f13; clear f13
      refine remO_ e ?_; clear e
      exact ⟨a5, ⟨rfl, rfl, rfl, rfl, trivial⟩, Option.some.inj f14, H.sel [] rfl⟩
    ·
     clear f7 H
     rintro T1 s1 w2 ⟨hr, (H : Cx w0 fp0 S0 w2 [])⟩
     subst hr
     obtain ⟨a6, e, f15⟩ := bindS f8; clear f8
     refine arO e ?_; clear e
     obtain ⟨a7, e, f16⟩ := bindS f15; clear f15
     refine remO_ e ?_; clear e
     obtain ⟨a8, e, f17⟩ := bindS f16; clear f16
     refine quoO_ e ?_; clear e
     have hs := Option.some.inj f17; subst hs; clear f17
     exact ⟨(a7, a8, s1), (), rfl, ⟨rfl, rfl, rfl, rfl, trivial⟩, H.sel [] rfl⟩
 ·
  clear f0 H
  rintro T2 s2 w3 ⟨hr, (H : Cx w0 fp0 S0 w3 [])⟩
  subst hr
  cases f1
  exact ⟨_, _, rfl, ⟨rfl, rfl⟩, (H.sel [] rfl).close trivial⟩

theorem impl_inverse_c (p_ : Int) (a_ : Int) (y : Int) (hF : F_impl_inverse p_ a_ = some y) :
  ConF Tryd.prog 78 #[(.int .i64 p_), (.int .i64 a_)] [] [] (fun v Γ' => v = (.int .i64 y) ∧ Γ' = []) := by
 intro w0 S0 fp0 hI hS
 have H : Cx w0 fp0 S0 w0 [] := Cx.start hI hS
 clear hI hS
 refine enterC (args := [_, _]) gok Tryd.func78 rfl _ rfl rfl rfl ?_
 obtain ⟨a1, e, hF2⟩ := bindS hF; clear hF
 refine arO e ?_; clear e
 obtain ⟨a3, e, hF4⟩ := bindS hF2; clear hF2
 refine boolO e ?_; clear e
 obtain ⟨y5, e, hF6⟩ := bindS hF4; clear hF4
 have ey5 := e; clear e
 refine callF (impl_bit_c a3 y5 ey5) (Γi := []) H trivial ?_; clear H ey5
 rintro _ _ w7 ⟨rfl, rfl⟩ H
 obtain ⟨a8, e, hF9⟩ := bindS hF6; clear hF6
 refine arO e ?_; clear e
 obtain ⟨y0, e, f0⟩ := bindS hF9; clear hF9
 have i0 := e; clear e
 refine callF (impl_power_c p_ a_ a8 y0 i0) (Γi := []) H trivial ?_; clear H i0
 rintro _ _ w1 ⟨rfl, rfl⟩ H
 cases f0
 exact ⟨_, _, rfl, ⟨rfl, rfl⟩, (H.sel [] rfl).close trivial⟩

theorem impl_trimmed_int_c (f_ : List Int) (f_h : Hd) (zero_ : Int) (y : List Int) (hF : F_impl_trimmed_int f_ zero_ = some y) :
  ConF Tryd.prog 60 #[(f_h).v, (.int .i64 zero_)] [] [E (List Int) f_ f_h] (fun v Γ' => ∃ z0 : Hd, v = (z0).v ∧ Γ' = [E (List Int) y z0]) := by
 intro w0 S0 fp0 hI hS
 have H : Cx w0 fp0 S0 w0 [E (List Int) f_ f_h] := Cx.start hI hS
 clear hI hS
 refine enterC (args := [_, _]) gok Tryd.func60 rfl _ rfl rfl rfl ?_
 refine lenE (H.ro (α := List Int) 0 rfl).len ?_
 obtain ⟨r0, f0, f1⟩ := bindS hF; clear hF
 refine cut (fun (q0 : Int) => [(0, (f_h).v), (5, (.int .i64 q0))]) (fun (q0 : Int) w' => q0 = r0 ∧ Cx w0 fp0 S0 w' [E (List Int) f_ f_h]) ?_ ?_
 ·
  refine loopW _ (fun (s0 : Int) (_ : Unit) => [(0, (f_h).v), (1, (.int .i64 zero_)), (5, (.int .i64 s0))]) (fun (s0 : Int) (_ : Unit) w' => Cx w0 fp0 S0 w' [E (List Int) f_ f_h]) ((f_.length : Nat) : Int) () f0 ⟨rfl, rfl, rfl, trivial⟩ (H.sel [0] rfl) ?_
  ·
   clear H
   rintro T0 s0 _ w1 o0 (H : Cx w0 fp0 S0 w1 [E (List Int) f_ f_h]) hrt f2
   refine sq ?_
   obtain ⟨r1, f3, f4⟩ := bindS f2; clear f2
   refine cut (fun (q1 : Bool) => [(0, (f_h).v), (1, (.int .i64 zero_)), (5, (.int .i64 s0)), (18, (.bool q1))]) (fun (q1 : Bool) w' => q1 = r1 ∧ Cx w0 fp0 S0 w' [E (List Int) f_ f_h]) ?_ ?_
   ·
    obtain ⟨a0, e, f5⟩ := bindS f3; clear f3
    refine boolO e ?_; clear e
    cases a0
    ·
     have f6 := condF f5; clear f5
     exact ⟨false, ⟨rfl, rfl, rfl, rfl, trivial⟩, Option.some.inj f6, H.sel [0] rfl⟩
    ·
     have f7 := condT f5; clear f5
     obtain ⟨a1, e, f8⟩ := bindS f7; clear f7
     refine arO e ?_; clear e
     obtain ⟨a2, e, f9⟩ := bindS f8; clear f8
     obtain ⟨p0, m0, c0, c1, c2, c3⟩ := (H.ro (α := List Int) 0 rfl).at1 e; clear e
     refine idxE c0 c1 c2 ?_; clear c0 c1 c2
     refine load1 c3 ?_; clear c3
     obtain ⟨a3, e, f10⟩ := bindS f9; clear f9
     refine boolO e ?_; clear e
     exact ⟨a3, ⟨rfl, rfl, rfl, rfl, trivial⟩, Option.some.inj f10, H.sel [0] rfl⟩
   ·
    clear f3 H
    rintro T1 s1 w2 ⟨hr, (H : Cx w0 fp0 S0 w2 [E (List Int) f_ f_h])⟩
    subst hr
    cases s1
    ·
     have f11 := condF f4; clear f4
     have hs := Option.some.inj f11; subst hs; clear f11
     have f12 : some _ = some _ := congrArg some (hrt _ rfl).symm
     exact ⟨s0, ⟨rfl, rfl, trivial⟩, Option.some.inj f12, H.sel [0] rfl⟩
    ·
     have f13 := condT f4; clear f4
     obtain ⟨a4, e, f14⟩ := bindS f13; clear f13
     refine arO e ?_; clear e
     have hs := Option.some.inj f14; subst hs; clear f14
     exact ⟨a4, (), rfl, ⟨rfl, rfl, rfl, trivial⟩, H.sel [0] rfl⟩
 ·
  clear f0 H
  rintro T2 s2 w3 ⟨hr, (H : Cx w0 fp0 S0 w3 [E (List Int) f_ f_h])⟩
  subst hr
  obtain ⟨a5, e, f15⟩ := bindS f1; clear f1
  refine slO3 (α := Int) gok rfl rfl H e ?_; clear e H; intro h0 H
  cases f15
  exact ⟨_, _, rfl, ⟨h0, rfl, rfl⟩, (H.sel [0] rfl).close ⟨cloE, trivial⟩⟩

theorem impl_polyAdd_c (p_ : Int) (f_ : List Int) (f_h : Hd) (by_ : Int) (g_ : List Int) (g_h : Hd) (y : List Int) (hF : F_impl_polyAdd p_ f_ by_ g_ = some y) :
  ConF Tryd.prog 77 #[(.int .i64 p_), (f_h).v, (.int .i64 by_), (g_h).v] [Es (List Int) f_ f_h, Es (List Int) g_ g_h] [] (fun v Γ' => ∃ z0 : Hd, v = (z0).v ∧ Γ' = [E (List Int) y z0]) := by
 intro w0 S0 fp0 hI hS
 have H : Cx w0 fp0 S0 w0 [Es (List Int) f_ f_h, Es (List Int) g_ g_h] := Cx.start hI hS
 clear hI hS
 refine enterC (args := [_, _, _, _]) gok Tryd.func77 rfl _ rfl rfl rfl ?_
 refine lenE (H.rs (α := List Int) 0 rfl).len ?_
 refine lenE (H.rs (α := List Int) 1 rfl).len ?_
 obtain ⟨a3, e, hF4⟩ := bindS hF; clear hF
 refine max_ e ?_; clear e
 obtain ⟨y5, e, hF6⟩ := bindS hF4; clear hF4
 have ey5 := e; clear e
 refine callF (impl_zeros_c a3 y5 ey5) (Γi := []) H trivial ?_; clear H ey5
 rintro _ _ w7 ⟨h8, rfl, rfl⟩ H
 obtain ⟨a0, e, f0⟩ := bindS hF6; clear hF6
 have i0 := e; clear e
 refine copyO gok rfl rfl H (H.rs (α := List Int) 1 rfl) ?_; clear H; rintro _ w1 H; rw [Option.some.inj i0] at H; clear i0
 obtain ⟨y0, e, f1⟩ := bindS f0; clear f0
 have i1 := e; clear e
 refine callF (impl_addTimes_c p_ a0 h8 by_ g_ g_h y0 i1) (Γi := [E (List Int) a0 h8]) H ⟨Vw.sh 1 rfl, trivial⟩ ?_; clear H i1
 rintro _ _ w2 ⟨rfl, rfl⟩ H
 obtain ⟨y1, e, f2⟩ := bindS f1; clear f1
 have i2 := e; clear e
 refine callF (impl_trimmed_int_c y0 h8 0 y1 i2) (Γi := [E (List Int) y0 h8]) H trivial ?_; clear H i2
 rintro _ _ w3 ⟨h0, rfl, rfl⟩ H
 cases f2
 exact ⟨_, _, rfl, ⟨h0, rfl, rfl⟩, (H.sel [0] rfl).close ⟨cloE, trivial⟩⟩

theorem impl_recurrence_c (p_ : Int) (s_ : List Int) (s_h : Hd) (y0 : List Int) (y1 : Int) (hF : F_impl_recurrence p_ s_ = some (y0, y1)) :
  ConF Tryd.prog 59 #[(.int .i64 p_), (s_h).v] [Es (List Int) s_ s_h] [] (fun v Γ' => ∃ z0 : Hd, v = (.tuple #[(z0).v, (.int .i64 y1)]) ∧ Γ' = [E (List Int) y0 z0]) := by
 intro w0 S0 fp0 hI hS
 have H : Cx w0 fp0 S0 w0 [Es (List Int) s_ s_h] := Cx.start hI hS
 clear hI hS
 refine enterC (args := [_, _]) gok Tryd.func59 rfl _ rfl rfl rfl ?_
 refine lit1S (α := Int) gok rfl rfl rfl rfl H ?_; clear H; intro h3 w2 hx H
 clear hx
 refine lit1S (α := Int) gok rfl rfl rfl rfl H ?_; clear H; intro h6 w5 hx H
 clear hx
 refine sq ?_
 refine lenE (H.rs (α := List Int) 2 rfl).len ?_
 have x0 := (H.rs (α := List Int) 2 rfl).max
 obtain ⟨r0, e, f0⟩ := bindS hF; clear hF
 refine loopS _ s_.length (fun (k8 : Nat) (s0 : Int × List Int × List Int × Int × Int) (g0 : Hd × Hd) => [(0, (.int .i64 p_)), (1, (s_h).v), (6, (g0.1).v), (7, (g0.2).v), (8, (.int .i64 s0.2.2.2.1)), (9, (.int .i64 s0.2.2.2.2)), (10, (.int .i64 s0.1)), (19, (.int .i64 ((s_.length : Nat) : Int))), (20, (.int .i64 ((k8 : Nat) : Int)))]) (fun _ (s0 : Int × List Int × List Int × Int × Int) (g0 : Hd × Hd) w' => Cx w0 fp0 S0 w' [Es (List Int) s_ s_h, E (List Int) s0.2.1 g0.1, E (List Int) s0.2.2.1 g0.2]) (1, [1], [1], 0, 1) (h3, h6) e ⟨rfl, rfl, rfl, rfl, rfl, rfl, rfl, rfl, rfl, trivial⟩ (H.sel [2, 1, 0] rfl) ?_ ?_
 ·
  clear H e
  rintro T0 k8 ⟨s0_0, s0_1, s0_2, s0_3, s0_4⟩ ⟨g0_0, g0_1⟩ w1 o0 hk (H : Cx w0 fp0 S0 w1 [Es (List Int) s_ s_h, E (List Int) s0_1 g0_0, E (List Int) s0_2 g0_1]) f1
  refine boolE (z := true) (ltLen hk) ?_
  refine sq ?_
  obtain ⟨r1, f2, f3⟩ := bindS f1; clear f1
  refine cut (fun (q0 : (Int × List Int × List Int × Int × Int) × (Hd × Hd)) => [(0, (.int .i64 p_)), (1, (s_h).v), (6, (q0.2.1).v), (7, (q0.2.2).v), (8, (.int .i64 q0.1.2.2.2.1)), (9, (.int .i64 q0.1.2.2.2.2)), (10, (.int .i64 q0.1.1)), (19, (.int .i64 ((s_.length : Nat) : Int))), (20, (.int .i64 ((k8 : Nat) : Int)))]) (fun (q0 : (Int × List Int × List Int × Int × Int) × (Hd × Hd)) w' => (q0.1.1, q0.1.2.1, q0.1.2.2.1, q0.1.2.2.2.1, q0.1.2.2.2.2) = r1 ∧ Cx w0 fp0 S0 w' [Es (List Int) s_ s_h, E (List Int) q0.1.2.1 q0.2.1, E (List Int) q0.1.2.2.1 q0.2.2]) ?_ ?_
  ·
   obtain ⟨r2, f4, f5⟩ := bindS f2; clear f2
   refine cut (fun (q1 : Int) => [(0, (.int .i64 p_)), (1, (s_h).v), (6, (g0_0).v), (7, (g0_1).v), (8, (.int .i64 s0_3)), (9, (.int .i64 s0_4)), (10, (.int .i64 s0_0)), (11, (.int .i64 ((k8 : Nat) : Int))), (12, (.int .i64 q1)), (19, (.int .i64 ((s_.length : Nat) : Int))), (20, (.int .i64 ((k8 : Nat) : Int)))]) (fun (q1 : Int) w' => q1 = r2 ∧ Cx w0 fp0 S0 w' [Es (List Int) s_ s_h, E (List Int) s0_1 g0_0, E (List Int) s0_2 g0_1]) ?_ ?_
   ·
    refine loopW _ (fun (s1 : Int × Int) (_ : Unit) => [(0, (.int .i64 p_)), (1, (s_h).v), (6, (g0_0).v), (7, (g0_1).v), (8, (.int .i64 s0_3)), (9, (.int .i64 s0_4)), (10, (.int .i64 s0_0)), (11, (.int .i64 ((k8 : Nat) : Int))), (12, (.int .i64 s1.1)), (13, (.int .i64 s1.2)), (19, (.int .i64 ((s_.length : Nat) : Int))), (20, (.int .i64 ((k8 : Nat) : Int)))]) (fun (s1 : Int × Int) (_ : Unit) w' => Cx w0 fp0 S0 w' [Es (List Int) s_ s_h, E (List Int) s0_1 g0_0, E (List Int) s0_2 g0_1]) (0, 0) () f4 ⟨rfl, rfl, rfl, rfl, rfl, rfl, rfl, rfl, rfl, rfl, rfl, rfl, trivial⟩ (H.sel [0, 1, 2] rfl) ?_
    ·
     clear H
     rintro T1 ⟨s1_0, s1_1⟩ _ w3 o1 (H : Cx w0 fp0 S0 w3 [Es (List Int) s_ s_h, E (List Int) s0_1 g0_0, E (List Int) s0_2 g0_1]) hrt f6
     refine sq ?_
     obtain ⟨a0, e, f7⟩ := bindS f6; clear f6
     refine boolO e ?_; clear e
     cases a0
     ·
      have f8 := condF f7; clear f7
      have hs := Option.some.inj f8; subst hs; clear f8
      have f9 : some _ = some _ := congrArg some (hrt _ rfl).symm
      exact ⟨s1_0, ⟨rfl, rfl, rfl, rfl, rfl, rfl, rfl, rfl, rfl, rfl, rfl, trivial⟩, Option.some.inj f9, H.sel [0, 1, 2] rfl⟩
     ·
      have f10 := condT f7; clear f7
      refine sq ?_
      refine heldX H [] (.fst 0 (.fst 1 (.fst 2 (.fst 4 (.fst 5 (.fst 6 (.fst 7 (.fst 8 (.fst 9 (.act 3 (.fst 10 (.fst 11 (.fst 12 .done))))))))))))) mixed [] trivial (by kernel_rfl) ?_
      clear H; intro w4 H
      have hX : Ext w4 w4 := Upd.refl _ _
      have H0 := H
      obtain ⟨a1, e, f11⟩ := bindS f10; clear f10
      refine arO e ?_; clear e
      obtain ⟨a2, e, f12⟩ := bindS f11; clear f11
      obtain ⟨p0, m0, c0, c1, c2, c3⟩ := (H.rs (α := List Int) 0 rfl).at1 e; clear e
      refine idxE c0 c1 c2 ?_; clear c0 c1 c2
      refine load1X c3 ?_; clear c3
      obtain ⟨y2, e, f13⟩ := bindS f12; clear f12
      have i0 := e; clear e
      refine callFx (impl_coefficient_c s0_1 g0_0 s1_1 y2 i0) H ⟨Vw.own 1 rfl, trivial⟩ ?_; clear H i0
      rintro _ _ w6 ⟨rfl, rfl⟩ hx H
      replace hX := hX.trans0 hx; clear hx
      refine hold hX ?_
      obtain ⟨a3, e, f14⟩ := bindS f13; clear f13
      refine arO e ?_; clear e
      obtain ⟨a4, e, f15⟩ := bindS f14; clear f14
      refine arO e ?_; clear e
      obtain ⟨a5, e, f16⟩ := bindS f15; clear f15
      refine arO e ?_; clear e
      have hs := Option.some.inj f16; subst hs; clear f16
      exact ⟨(a4, a5), (), rfl, ⟨rfl, rfl, rfl, rfl, rfl, rfl, rfl, rfl, rfl, rfl, rfl, rfl, trivial⟩, H.sel [0, 1, 2] rfl⟩
   ·
    clear f4 H
    rintro T2 s2 w7 ⟨hr, (H : Cx w0 fp0 S0 w7 [Es (List Int) s_ s_h, E (List Int) s0_1 g0_0, E (List Int) s0_2 g0_1])⟩
    subst hr
    obtain ⟨y3, e, f17⟩ := bindS f5; clear f5
    have i1 := e; clear e
    refine callF (impl_mod_c p_ s2 y3 i1) (Γi := []) H trivial ?_; clear H i1
    rintro _ _ w8 ⟨rfl, rfl⟩ H
    refine sq ?_
    obtain ⟨a6, e, f18⟩ := bindS f17; clear f17
    refine boolO e ?_; clear e
    cases a6
    ·
     have f19 := condF f18; clear f18
     obtain ⟨y4, e, f20⟩ := bindS f19; clear f19
     have i2 := e; clear e
     refine callF (impl_zeros_c s0_4 y4 i2) (Γi := []) H trivial ?_; clear H i2
     rintro _ _ w9 ⟨h0, rfl, rfl⟩ H
     obtain ⟨a7, e, f21⟩ := bindS f20; clear f20
     refine appendS2 (α := Int) gok rfl rfl rfl rfl rfl H (Vw.own 2 rfl) e ?_; clear e H; intro h1 w10 H
     obtain ⟨a8, e, f22⟩ := bindS f21; clear f21
     refine arO e ?_; clear e
     obtain ⟨y5, e, f23⟩ := bindS f22; clear f22
     have i3 := e; clear e
     refine callF (impl_inverse_c p_ s0_0 y5 i3) (Γi := []) H trivial ?_; clear H i3
     rintro _ _ w11 ⟨rfl, rfl⟩ H
     obtain ⟨a9, e, f24⟩ := bindS f23; clear f23
     refine arO e ?_; clear e
     obtain ⟨y6, e, f25⟩ := bindS f24; clear f24
     have i4 := e; clear e
     refine callF (impl_polyAdd_c p_ s0_1 g0_0 a9 a7 h1 y6 i4) (Γi := []) H ⟨Vw.own 2 rfl, Vw.own 0 rfl, trivial⟩ ?_; clear H i4
     rintro _ _ w12 ⟨h2, rfl, rfl⟩ H
     refine sq ?_
     obtain ⟨a10, e, f26⟩ := bindS f25; clear f25
     refine arO e ?_; clear e
     obtain ⟨a11, e, f27⟩ := bindS f26; clear f26
     refine boolO e ?_; clear e
     cases a11
     ·
      have f28 := condF f27; clear f27
      obtain ⟨a12, e, f29⟩ := bindS f28; clear f28
      refine arO e ?_; clear e
      exact ⟨((s0_0, y6, s0_2, s0_3, a12), (h2, g0_1)), ⟨rfl, rfl, rfl, rfl, rfl, rfl, rfl, rfl, rfl, trivial⟩, Option.some.inj f29, H.sel [2, 0, 4] rfl⟩
     ·
      have f30 := condT f27; clear f27
      obtain ⟨a13, e, f31⟩ := bindS f30; clear f30
      refine arO e ?_; clear e
      obtain ⟨a14, e, f32⟩ := bindS f31; clear f31
      refine arO e ?_; clear e
      exact ⟨((y3, y6, s0_1, a14, 1), (h2, g0_0)), ⟨rfl, rfl, rfl, rfl, rfl, rfl, rfl, rfl, rfl, trivial⟩, Option.some.inj f32, H.sel [2, 0, 3] rfl⟩
    ·
     have f33 := condT f18; clear f18
     obtain ⟨a15, e, f34⟩ := bindS f33; clear f33
     refine arO e ?_; clear e
     exact ⟨((s0_0, s0_1, s0_2, s0_3, a15), (g0_0, g0_1)), ⟨rfl, rfl, rfl, rfl, rfl, rfl, rfl, rfl, rfl, trivial⟩, Option.some.inj f34, H.sel [0, 1, 2] rfl⟩
  ·
   clear f2 H
   rintro T3 ⟨⟨s3_0, s3_1, s3_2, s3_3, s3_4⟩, ⟨g1_0, g1_1⟩⟩ w13 ⟨hr, (H : Cx w0 fp0 S0 w13 [Es (List Int) s_ s_h, E (List Int) s3_1 g1_0, E (List Int) s3_2 g1_1])⟩
   subst hr
   refine arK hk x0 ?_
   have hs := Option.some.inj f3; subst hs; clear f3
   exact ⟨(g1_0, g1_1), ⟨rfl, rfl, rfl, rfl, rfl, rfl, rfl, rfl, rfl, trivial⟩, H.sel [0, 1, 2] rfl⟩
 ·
  clear H e
  obtain ⟨s4_0, s4_1, s4_2, s4_3, s4_4⟩ := r0
  rintro T4 ⟨g2_0, g2_1⟩ w14 (H : Cx w0 fp0 S0 w14 [Es (List Int) s_ s_h, E (List Int) s4_1 g2_0, E (List Int) s4_2 g2_1])
  refine boolE (z := false) geLen ?_
  refine sq ?_
  cases f0
  exact ⟨_, _, rfl, ⟨g2_0, rfl, rfl⟩, (H.sel [1] rfl).close ⟨cloE, trivial⟩⟩

theorem impl_convolve_c (p_ : Int) (a_ : List Int) (a_h : Hd) (b_ : List Int) (b_h : Hd) (n_ : Int) (y : List Int) (hF : F_impl_convolve p_ a_ b_ n_ = some y) :
  ConF Tryd.prog 61 #[(.int .i64 p_), (a_h).v, (b_h).v, (.int .i64 n_)] [Es (List Int) a_ a_h, Es (List Int) b_ b_h] [] (fun v Γ' => ∃ z0 : Hd, v = (z0).v ∧ Γ' = [E (List Int) y z0]) := by
 intro w0 S0 fp0 hI hS
 have H : Cx w0 fp0 S0 w0 [Es (List Int) a_ a_h, Es (List Int) b_ b_h] := Cx.start hI hS
 clear hI hS
 refine enterC (args := [_, _, _, _]) gok Tryd.func61 rfl _ rfl rfl rfl ?_
 obtain ⟨y3, e, hF4⟩ := bindS hF; clear hF
 have ey3 := e; clear e
 refine callF (impl_zeros_c n_ y3 ey3) (Γi := []) H trivial ?_; clear H ey3
 rintro _ _ w5 ⟨h6, rfl, rfl⟩ H
 refine sq ?_
 refine lenE (H.ro (α := List Int) 0 rfl).len ?_
 have x0 := (H.ro (α := List Int) 0 rfl).max
 obtain ⟨r0, e, f0⟩ := bindS hF4; clear hF4
 refine loopS _ y3.length (fun (k8 : Nat) (s0 : List Int) (_ : Unit) => [(0, (.int .i64 p_)), (1, (a_h).v), (2, (b_h).v), (9, (h6).v), (15, (.int .i64 ((y3.length : Nat) : Int))), (16, (.int .i64 ((k8 : Nat) : Int)))]) (fun _ (s0 : List Int) (_ : Unit) w' => Cx w0 fp0 S0 w' [Es (List Int) a_ a_h, Es (List Int) b_ b_h, E (List Int) s0 h6]) y3 () e ⟨rfl, rfl, rfl, rfl, rfl, rfl, trivial⟩ (H.sel [1, 2, 0] rfl) ?_ ?_
 ·
  clear H e
  rintro T0 k8 s0 _ w1 o0 hk (H : Cx w0 fp0 S0 w1 [Es (List Int) a_ a_h, Es (List Int) b_ b_h, E (List Int) s0 h6]) f1
  refine boolE (z := true) (ltLen hk) ?_
  refine sq ?_
  refine sq ?_
  obtain ⟨r1, f2, f3⟩ := bindS f1; clear f1
  refine cut (fun (q0 : List Int) => [(0, (.int .i64 p_)), (1, (a_h).v), (2, (b_h).v), (9, (h6).v), (10, (.int .i64 ((k8 : Nat) : Int))), (15, (.int .i64 ((y3.length : Nat) : Int))), (16, (.int .i64 ((k8 : Nat) : Int)))]) (fun (q0 : List Int) w' => q0 = r1 ∧ Cx w0 fp0 S0 w' [Es (List Int) a_ a_h, Es (List Int) b_ b_h, E (List Int) q0 h6]) ?_ ?_
  ·
   refine loopW _ (fun (s1 : List Int × Int) (_ : Unit) => [(0, (.int .i64 p_)), (1, (a_h).v), (2, (b_h).v), (9, (h6).v), (10, (.int .i64 ((k8 : Nat) : Int))), (11, (.int .i64 s1.2)), (15, (.int .i64 ((y3.length : Nat) : Int))), (16, (.int .i64 ((k8 : Nat) : Int)))]) (fun (s1 : List Int × Int) (_ : Unit) w' => Cx w0 fp0 S0 w' [Es (List Int) a_ a_h, Es (List Int) b_ b_h, E (List Int) s1.1 h6]) (s0, 0) () f2 ⟨rfl, rfl, rfl, rfl, rfl, rfl, rfl, rfl, trivial⟩ (H.sel [0, 1, 2] rfl) ?_
   ·
    clear H
    rintro T1 ⟨s1_0, s1_1⟩ _ w2 o1 (H : Cx w0 fp0 S0 w2 [Es (List Int) a_ a_h, Es (List Int) b_ b_h, E (List Int) s1_0 h6]) hrt f4
    refine sq ?_
    obtain ⟨a0, e, f5⟩ := bindS f4; clear f4
    refine boolO e ?_; clear e
    cases a0
    ·
     have f6 := condF f5; clear f5
     have hs := Option.some.inj f6; subst hs; clear f6
     have f7 : some _ = some _ := congrArg some (hrt _ rfl).symm
     exact ⟨s1_0, ⟨rfl, rfl, rfl, rfl, rfl, rfl, rfl, trivial⟩, Option.some.inj f7, H.sel [0, 1, 2] rfl⟩
    ·
     have f8 := condT f5; clear f5
     refine sq ?_
     refine heldX H [15] (.fst 0 (.fst 1 (.fst 2 (.fst 4 (.fst 5 (.fst 7 (.fst 8 (.fst 9 (.fst 10 (.fst 3 (.act 6 (.act 11 (.fst 12 (.fst 13 (.fst 14 (.act 15 .done)))))))))))))))) mixed [] trivial (by kernel_rfl) ?_
     clear H; intro w3 H
     have hX : Ext w3 w3 := Upd.refl _ _
     have H0 := H
     obtain ⟨a1, e, f9⟩ := bindS f8; clear f8
     obtain ⟨p0, m0, c0, c1, c2, c3⟩ := (H.ro (α := List Int) 2 rfl).at1 e; clear e
     refine idxE c0 c1 c2 ?_; clear c0 c1 c2
     obtain ⟨a2, e, f10⟩ := bindS f9; clear f9
     refine arO e ?_; clear e
     refine load1X c3 ?_; clear c3
     obtain ⟨y0, e, f11⟩ := bindS f10; clear f10
     have i0 := e; clear e
     refine callFx (impl_coefficient_c a_ a_h s1_1 y0 i0) H ⟨Vw.sh 0 rfl, trivial⟩ ?_; clear H i0
     rintro _ _ w4 ⟨rfl, rfl⟩ hx H
     replace hX := hX.trans0 hx; clear hx
     refine hold hX ?_
     obtain ⟨y1, e, f12⟩ := bindS f11; clear f11
     have i1 := e; clear e
     refine callFx (impl_coefficient_c b_ b_h a2 y1 i1) H ⟨Vw.sh 1 rfl, trivial⟩ ?_; clear H i1
     rintro _ _ w6 ⟨rfl, rfl⟩ hx H
     replace hX := hX.trans0 hx; clear hx
     refine hold hX ?_
     obtain ⟨a3, e, f13⟩ := bindS f12; clear f12
     refine arO e ?_; clear e
     obtain ⟨a4, e, f14⟩ := bindS f13; clear f13
     refine arO e ?_; clear e
     obtain ⟨a5, e, f15⟩ := bindS f14; clear f14
     have i2 := e; clear e
     obtain ⟨p1, m1, c4, c5, c6⟩ := (H.ro (α := List Int) 2 rfl).setp i2
     refine idxE c4 c5 c6 ?_
     replace H := H.sel [2, 0, 1] rfl
     refine setS (α := Int) H c4 c5 i2 ?_; clear H c4 c5 c6 i2; intro w7 H
     refine hold trivial ?_
     obtain ⟨a6, e, f16⟩ := bindS f15; clear f15
     refine arO e ?_; clear e
     have hs := Option.some.inj f16; subst hs; clear f16
     exact ⟨(a5, a6), (), rfl, ⟨rfl, rfl, rfl, rfl, rfl, rfl, rfl, rfl, trivial⟩, H.sel [1, 2, 0] rfl⟩
  ·
   clear f2 H
   rintro T2 s2 w8 ⟨hr, (H : Cx w0 fp0 S0 w8 [Es (List Int) a_ a_h, Es (List Int) b_ b_h, E (List Int) s2 h6])⟩
   subst hr
   obtain ⟨a7, e, f17⟩ := bindS f3; clear f3
   obtain ⟨p2, m2, c7, c8, c9, c10⟩ := (H.ro (α := List Int) 2 rfl).at1 e; clear e
   refine idxE c7 c8 c9 ?_; clear c7 c8 c9
   refine load1 c10 ?_; clear c10
   obtain ⟨a8, e, f18⟩ := bindS f17; clear f17
   refine remO_ e ?_; clear e
   obtain ⟨a9, e, f19⟩ := bindS f18; clear f18
   have i3 := e; clear e
   obtain ⟨p3, m3, c11, c12, c13⟩ := (H.ro (α := List Int) 2 rfl).setp i3
   refine idxE c11 c12 c13 ?_
   replace H := H.sel [2, 0, 1] rfl
   refine setS (α := Int) H c11 c12 i3 ?_; clear H c11 c12 c13 i3; intro w9 H
   refine arK hk x0 ?_
   have hs := Option.some.inj f19; subst hs; clear f19
   exact ⟨(), ⟨rfl, rfl, rfl, rfl, rfl, rfl, trivial⟩, H.sel [1, 2, 0] rfl⟩
 ·
  clear H e
  rintro T3 _ w10 (H : Cx w0 fp0 S0 w10 [Es (List Int) a_ a_h, Es (List Int) b_ b_h, E (List Int) r0 h6])
  refine boolE (z := false) geLen ?_
  refine sq ?_
  cases f0
  exact ⟨_, _, rfl, ⟨h6, rfl, rfl⟩, (H.sel [2] rfl).close ⟨cloE, trivial⟩⟩

theorem impl_addTimes_win_c (p_ : Int) (v_ : List Int) (v_h : Hd) (v_p : List Int) (v_w : Hd) (by_ : Int) (w_ : List Int) (w_h : Hd) (y : List Int) (hF : F_impl_addTimes_win p_ v_ by_ w_ = some y) :
  ConF Tryd.prog 84 #[(.int .i64 p_), (v_h).v, (.int .i64 by_), (w_h).v] [Es (List Int) w_ w_h] [EW v_p v_ v_w v_h] (fun v Γ' => v = (.tuple #[]) ∧ Γ' = [EW v_p y v_w v_h]) := by
 intro w0 S0 fp0 hI hS
 have H : Cx w0 fp0 S0 w0 [Es (List Int) w_ w_h, EW v_p v_ v_w v_h] := Cx.start hI hS
 clear hI hS
 refine enterC (args := [_, _, _, _]) gok Tryd.func84 rfl _ rfl rfl rfl ?_
 refine lenE (H.rs (α := List Int) 0 rfl).len ?_
 have x0 := (H.rs (α := List Int) 0 rfl).max
 obtain ⟨r0, e, f0⟩ := bindS hF; clear hF
 refine loopS _ w_.length (fun (k3 : Nat) (s0 : List Int) (_ : Unit) => [(0, (.int .i64 p_)), (1, (v_h).v), (2, (.int .i64 by_)), (10, (w_h).v), (11, (.int .i64 ((w_.length : Nat) : Int))), (12, (.int .i64 ((k3 : Nat) : Int)))]) (fun _ (s0 : List Int) (_ : Unit) w' => Cx w0 fp0 S0 w' [EW v_p s0 v_w v_h, Es (List Int) w_ w_h]) v_ () e ⟨rfl, rfl, rfl, rfl, rfl, rfl, trivial⟩ (H.sel [1, 0] rfl) ?_ ?_
 ·
  clear H e
  rintro T0 k3 s0 _ w1 o0 hk (H : Cx w0 fp0 S0 w1 [EW v_p s0 v_w v_h, Es (List Int) w_ w_h]) f1
  refine boolE (z := true) (ltLen hk) ?_
  refine sq ?_
  refine sq ?_
  obtain ⟨a0, e, f2⟩ := bindS f1; clear f1
  obtain ⟨p0, m0, c0, c1, c2, c3⟩ := (H.rs (α := List Int) 1 rfl).at1 e; clear e
  refine idxE c0 c1 c2 ?_; clear c0 c1 c2
  refine load1 c3 ?_; clear c3
  obtain ⟨a1, e, f3⟩ := bindS f2; clear f2
  obtain ⟨p1, m1, c4, c5, c6, c7⟩ := (H.rw 0 rfl).at1 e; clear e
  refine idxE c4 c5 c6 ?_; clear c4 c5 c6
  refine load1 c7 ?_; clear c7
  obtain ⟨a2, e, f4⟩ := bindS f3; clear f3
  refine arO e ?_; clear e
  obtain ⟨a3, e, f5⟩ := bindS f4; clear f4
  refine arO e ?_; clear e
  obtain ⟨y0, e, f6⟩ := bindS f5; clear f5
  have i0 := e; clear e
  refine callF (impl_mod_c p_ a3 y0 i0) (Γi := []) H trivial ?_; clear H i0
  rintro _ _ w2 ⟨rfl, rfl⟩ H
  obtain ⟨a4, e, f7⟩ := bindS f6; clear f6
  have i1 := e; clear e
  obtain ⟨p2, m2, c8, c9, c10⟩ := (H.rw 0 rfl).setp i1
  refine idxE c8 c9 c10 ?_
  refine setW H c8 c9 i1 ?_; clear H c8 c9 c10 i1; intro w3 H
  refine arK hk x0 ?_
  have hs := Option.some.inj f7; subst hs; clear f7
  exact ⟨(), ⟨rfl, rfl, rfl, rfl, rfl, rfl, trivial⟩, H.sel [0, 1] rfl⟩
 ·
  clear H e
  rintro T1 _ w4 (H : Cx w0 fp0 S0 w4 [EW v_p r0 v_w v_h, Es (List Int) w_ w_h])
  refine boolE (z := false) geLen ?_
  refine sq ?_
  cases f0
  exact ⟨_, _, rfl, ⟨rfl, rfl⟩, (H.sel [0] rfl).close ⟨cloW, trivial⟩⟩

theorem impl_polyDivide_c (p_ : Int) (f_ : List Int) (f_h : Hd) (g_ : List Int) (g_h : Hd) (y0 : List Int) (y1 : List Int) (hF : F_impl_polyDivide p_ f_ g_ = some (y0, y1)) :
  ConF Tryd.prog 81 #[(.int .i64 p_), (f_h).v, (g_h).v] [Es (List Int) f_ f_h, Es (List Int) g_ g_h] [] (fun v Γ' => ∃ z0 z1 : Hd, v = (.tuple #[(z0).v, (z1).v]) ∧ Γ' = [E (List Int) y0 z0, E (List Int) y1 z1]) := by
 intro w0 S0 fp0 hI hS
 have H : Cx w0 fp0 S0 w0 [Es (List Int) f_ f_h, Es (List Int) g_ g_h] := Cx.start hI hS
 clear hI hS
 refine enterC (args := [_, _, _]) gok Tryd.func81 rfl _ rfl rfl rfl ?_
 obtain ⟨y3, e, hF4⟩ := bindS hF; clear hF
 have ey3 := e; clear e
 refine callF (impl_clone_c f_ f_h y3 ey3) (Γi := []) H ⟨Vw.sh 0 rfl, trivial⟩ ?_; clear H ey3
 rintro _ _ w5 ⟨h6, rfl, rfl⟩ H
 refine sq ?_
 refine lenE (H.rs (α := List Int) 1 rfl).len ?_
 refine lenE (H.rs (α := List Int) 2 rfl).len ?_
 obtain ⟨a8, e, hF9⟩ := bindS hF4; clear hF4
 refine boolO e ?_; clear e
 cases a8
 ·
  have f0 := condF hF9; clear hF9
  refine lenE (H.rs (α := List Int) 1 rfl).len ?_
  refine lenE (H.rs (α := List Int) 2 rfl).len ?_
  obtain ⟨a0, e, f1⟩ := bindS f0; clear f0
  refine arO e ?_; clear e
  obtain ⟨a1, e, f2⟩ := bindS f1; clear f1
  refine arO e ?_; clear e
  obtain ⟨y2, e, f3⟩ := bindS f2; clear f2
  have i0 := e; clear e
  refine callF (impl_zeros_c a1 y2 i0) (Γi := []) H trivial ?_; clear H i0
  rintro _ _ w1 ⟨h0, rfl, rfl⟩ H
  refine lenE (H.rs (α := List Int) 3 rfl).len ?_
  obtain ⟨a2, e, f4⟩ := bindS f3; clear f3
  refine arO e ?_; clear e
  obtain ⟨a3, e, f5⟩ := bindS f4; clear f4
  obtain ⟨p0, m0, c0, c1, c2, c3⟩ := (H.rs (α := List Int) 3 rfl).at1 e; clear e
  refine idxE c0 c1 c2 ?_; clear c0 c1 c2
  refine load1 c3 ?_; clear c3
  obtain ⟨y4, e, f6⟩ := bindS f5; clear f5
  have i1 := e; clear e
  refine callF (impl_inverse_c p_ a3 y4 i1) (Γi := []) H trivial ?_; clear H i1
  rintro _ _ w2 ⟨rfl, rfl⟩ H
  obtain ⟨r0, f7, f8⟩ := bindS f6; clear f6
  refine cut (fun (q0 : List Int × List Int) => [(8, (h6).v), (9, (h0).v)]) (fun (q0 : List Int × List Int) w' => (q0.1, q0.2) = r0 ∧ Cx w0 fp0 S0 w' [E (List Int) q0.2 h6, E (List Int) q0.1 h0]) ?_ ?_
  ·
   refine lenE (H.ro (α := List Int) 0 rfl).len ?_
   obtain ⟨a4, e, f9⟩ := bindS f7; clear f7
   refine arO e ?_; clear e
   refine loopW _ (fun (s0 : List Int × List Int × Int) (_ : Unit) => [(0, (.int .i64 p_)), (2, (g_h).v), (8, (h6).v), (9, (h0).v), (10, (.int .i64 y4)), (11, (.int .i64 s0.2.2))]) (fun (s0 : List Int × List Int × Int) (_ : Unit) w' => Cx w0 fp0 S0 w' [Es (List Int) g_ g_h, E (List Int) s0.2.1 h6, E (List Int) s0.1 h0]) (y2, y3, a4) () f9 ⟨rfl, rfl, rfl, rfl, rfl, rfl, trivial⟩ (H.sel [3, 1, 0] rfl) ?_
   ·
    clear H
    rintro T0 ⟨s0_0, s0_1, s0_2⟩ _ w3 o0 (H : Cx w0 fp0 S0 w3 [Es (List Int) g_ g_h, E (List Int) s0_1 h6, E (List Int) s0_0 h0]) hrt f10
    refine sq ?_
    obtain ⟨a5, e, f11⟩ := bindS f10; clear f10
    refine boolO e ?_; clear e
    cases a5
    ·
     have f12 := condF f11; clear f11
     have hs := Option.some.inj f12; subst hs; clear f12
     have f13 : some _ = some _ := congrArg some (hrt _ rfl).symm
     exact ⟨(s0_0, s0_1), ⟨rfl, rfl, trivial⟩, Option.some.inj f13, H.sel [1, 2] rfl⟩
    ·
     have f14 := condT f11; clear f11
     refine sq ?_
     refine lenE (H.rs (α := List Int) 0 rfl).len ?_
     obtain ⟨a6, e, f15⟩ := bindS f14; clear f14
     refine arO e ?_; clear e
     obtain ⟨a7, e, f16⟩ := bindS f15; clear f15
     refine arO e ?_; clear e
     obtain ⟨a9, e, f17⟩ := bindS f16; clear f16
     obtain ⟨p1, m1, c4, c5, c6, c7⟩ := (H.ro (α := List Int) 1 rfl).at1 e; clear e
     refine idxE c4 c5 c6 ?_; clear c4 c5 c6
     refine load1 c7 ?_; clear c7
     obtain ⟨a10, e, f18⟩ := bindS f17; clear f17
     refine arO e ?_; clear e
     obtain ⟨a12, e, f19⟩ := bindS f18; clear f18
     refine remO_ e ?_; clear e
     obtain ⟨a14, e, f20⟩ := bindS f19; clear f19
     have i2 := e; clear e
     obtain ⟨p2, m2, c8, c9, c10⟩ := (H.ro (α := List Int) 2 rfl).setp i2
     refine idxE c8 c9 c10 ?_
     replace H := H.sel [2, 0, 1] rfl
     refine setS (α := Int) H c8 c9 i2 ?_; clear H c8 c9 c10 i2; intro w4 H
     refine heldX H [10] (.fst 0 (.fst 1 (.fst 2 (.fst 3 (.fst 4 (.fst 5 (.fst 6 (.fst 9 (.fst 7 (.fst 8 (.act 10 .done))))))))))) mixed [] trivial (by kernel_rfl) ?_
     clear H; intro w6 H
     have hX : Ext w6 w6 := Upd.refl _ _
     have H0 := H
     obtain ⟨a15, e, f21⟩ := bindS f20; clear f20
     replace H := H.sel [2, 0, 1] rfl
     refine slWX gok rfl rfl H e rfl ?_; clear e; intro h1 HH; clear H; have H := HH; clear HH
     obtain ⟨a16, e, f22⟩ := bindS f21; clear f21
     obtain ⟨p3, m3, c11, c12, c13, c14⟩ := (H.ro (α := List Int) 1 rfl).at1 e; clear e
     refine idxE c11 c12 c13 ?_; clear c11 c12 c13
     refine load1X c14 ?_; clear c14
     obtain ⟨a17, e, f23⟩ := bindS f22; clear f22
     refine arO e ?_; clear e
     obtain ⟨y5, e, f24⟩ := bindS f23; clear f23
     have i3 := e; clear e
     refine callF (impl_addTimes_win_c p_ a15 h1 (s0_1.take (s0_2).toNat) h6 a17 g_ g_h y5 i3) (Γi := [EW (s0_1.take (s0_2).toNat) a15 h6 h1]) H ⟨Vw.sh 1 rfl, trivial⟩ ?_; clear H i3
     rintro _ _ w7 ⟨rfl, rfl⟩ H
     replace H := H.ofW
     refine hold trivial ?_
     obtain ⟨a18, e, f25⟩ := bindS f24; clear f24
     refine arO e ?_; clear e
     have hs := Option.some.inj f25; subst hs; clear f25
     exact ⟨(a14, ((s0_1.take (s0_2).toNat) ++ y5), a18), (), rfl, ⟨rfl, rfl, rfl, rfl, rfl, rfl, trivial⟩, H.sel [2, 0, 1] rfl⟩
  ·
   clear f7 H
   rintro T1 ⟨s1_0, s1_1⟩ w8 ⟨hr, (H : Cx w0 fp0 S0 w8 [E (List Int) s1_1 h6, E (List Int) s1_0 h0])⟩
   subst hr
   obtain ⟨y6, e, f26⟩ := bindS f8; clear f8
   have i4 := e; clear e
   replace H := H.sel [1, 0] rfl
   refine callF (impl_trimmed_int_c s1_0 h0 0 y6 i4) (Γi := [E (List Int) s1_0 h0]) H trivial ?_; clear H i4
   rintro _ _ w9 ⟨h2, rfl, rfl⟩ H
   obtain ⟨y7, e, f27⟩ := bindS f26; clear f26
   have i5 := e; clear e
   replace H := H.sel [1, 0] rfl
   refine callF (impl_trimmed_int_c s1_1 h6 0 y7 i5) (Γi := [E (List Int) s1_1 h6]) H trivial ?_; clear H i5
   rintro _ _ w10 ⟨h3, rfl, rfl⟩ H
   cases f27
   exact ⟨_, _, rfl, ⟨h2, h3, rfl, rfl⟩, (H.sel [1, 0] rfl).close ⟨cloE, cloE, trivial⟩⟩
 ·
  have f28 := condT hF9; clear hF9
  refine lit0 (α := Int) gok rfl rfl H ?_; clear H; intro h4 w11 hx H
  clear hx
  cases f28
  exact ⟨_, _, rfl, ⟨h4, h6, rfl, rfl⟩, (H.sel [0, 1] rfl).close ⟨cloE, cloE, trivial⟩⟩

theorem impl_scaled_c (p_ : Int) (f_ : List Int) (f_h : Hd) (by_ : Int) (y : List Int) (hF : F_impl_scaled p_ f_ by_ = some y) :
  ConF Tryd.prog 82 #[(.int .i64 p_), (f_h).v, (.int .i64 by_)] [Es (List Int) f_ f_h] [] (fun v Γ' => ∃ z0 : Hd, v = (z0).v ∧ Γ' = [E (List Int) y z0]) := by
 intro w0 S0 fp0 hI hS
 have H : Cx w0 fp0 S0 w0 [Es (List Int) f_ f_h] := Cx.start hI hS
 clear hI hS
 refine enterC (args := [_, _, _]) gok Tryd.func82 rfl _ rfl rfl rfl ?_
 replace H := H.nil (α := Int)
 obtain ⟨y3, e, hF4⟩ := bindS hF; clear hF
 have ey3 := e; clear e
 refine callF (impl_polyAdd_c p_ [] nilH by_ f_ f_h y3 ey3) (Γi := []) H ⟨Vw.own 0 rfl, Vw.sh 1 rfl, trivial⟩ ?_; clear H ey3
 rintro _ _ w5 ⟨h6, rfl, rfl⟩ H
 cases hF4
 exact ⟨_, _, rfl, ⟨h6, rfl, rfl⟩, (H.sel [0] rfl).close ⟨cloE, trivial⟩⟩

theorem impl_monic_c (p_ : Int) (f_ : List Int) (f_h : Hd) (y : List Int) (hF : F_impl_monic p_ f_ = some y) :
  ConF Tryd.prog 90 #[(.int .i64 p_), (f_h).v] [Es (List Int) f_ f_h] [] (fun v Γ' => ∃ z0 : Hd, v = (z0).v ∧ Γ' = [E (List Int) y z0]) := by
 intro w0 S0 fp0 hI hS
 have H : Cx w0 fp0 S0 w0 [Es (List Int) f_ f_h] := Cx.start hI hS
 clear hI hS
 refine enterC (args := [_, _]) gok Tryd.func90 rfl _ rfl rfl rfl ?_
 refine lenE (H.rs (α := List Int) 0 rfl).len ?_
 obtain ⟨a2, e, hF3⟩ := bindS hF; clear hF
 refine arO e ?_; clear e
 obtain ⟨a0, e, f0⟩ := bindS hF3; clear hF3
 obtain ⟨p8, m9, c4, c5, c6, c7⟩ := (H.rs (α := List Int) 0 rfl).at1 e; clear e
 refine idxE c4 c5 c6 ?_; clear c4 c5 c6
 refine load1 c7 ?_; clear c7
 obtain ⟨y0, e, f1⟩ := bindS f0; clear f0
 have i0 := e; clear e
 refine callF (impl_inverse_c p_ a0 y0 i0) (Γi := []) H trivial ?_; clear H i0
 rintro _ _ w1 ⟨rfl, rfl⟩ H
 obtain ⟨y1, e, f2⟩ := bindS f1; clear f1
 have i1 := e; clear e
 refine callF (impl_scaled_c p_ f_ f_h y0 y1 i1) (Γi := []) H ⟨Vw.sh 0 rfl, trivial⟩ ?_; clear H i1
 rintro _ _ w2 ⟨h0, rfl, rfl⟩ H
 cases f2
 exact ⟨_, _, rfl, ⟨h0, rfl, rfl⟩, (H.sel [0] rfl).close ⟨cloE, trivial⟩⟩

theorem impl_polyGcd_c (p_ : Int) (f_ : List Int) (f_h : Hd) (g_ : List Int) (g_h : Hd) (y : List Int) (hF : F_impl_polyGcd p_ f_ g_ = some y) :
  ConS Tryd.prog 80 #[(.int .i64 p_), (f_h).v, (g_h).v] [Es (List Int) f_ f_h, Es (List Int) g_ g_h] [] (fun v Γ' => ∃ z0 : Hd, v = (z0).v ∧ Γ' = [Es (List Int) y z0]) := by
 intro w0 S0 fp0 hI hS
 have H : Cx w0 fp0 S0 w0 [Es (List Int) f_ f_h, Es (List Int) g_ g_h] := Cx.start hI hS
 clear hI hS
 refine enterC (args := [_, _, _]) gok Tryd.func80 rfl _ rfl rfl rfl ?_
 obtain ⟨r0, f0, f1⟩ := bindS hF; clear hF
 refine cut (fun (q0 : List Int × Hd) => [(0, (.int .i64 p_)), (1, (q0.2).v)]) (fun (q0 : List Int × Hd) w' => q0.1 = r0 ∧ Cx w0 fp0 S0 w' [Es (List Int) q0.1 q0.2]) ?_ ?_
 ·
  refine loopW _ (fun (s0 : List Int × List Int) (g0 : Hd × Hd) => [(0, (.int .i64 p_)), (1, (g0.1).v), (2, (g0.2).v)]) (fun (s0 : List Int × List Int) (g0 : Hd × Hd) w' => Cx w0 fp0 S0 w' [Es (List Int) s0.1 g0.1, Es (List Int) s0.2 g0.2]) (f_, g_) (f_h, g_h) f0 ⟨rfl, rfl, rfl, trivial⟩ (H.sel [0, 1] rfl) ?_
  ·
   clear H
   rintro T0 ⟨s0_0, s0_1⟩ ⟨g0_0, g0_1⟩ w1 o0 (H : Cx w0 fp0 S0 w1 [Es (List Int) s0_0 g0_0, Es (List Int) s0_1 g0_1]) hrt f2
   refine sq ?_
   refine lenE (H.rs (α := List Int) 1 rfl).len ?_
   obtain ⟨a0, e, f3⟩ := bindS f2; clear f2
   refine boolO e ?_; clear e
   cases a0
   ·
    have f4 := condF f3; clear f3
    have hs := Option.some.inj f4; subst hs; clear f4
    have f5 : some _ = some _ := congrArg some (hrt _ rfl).symm
    exact ⟨(s0_0, g0_0), ⟨rfl, rfl, trivial⟩, Option.some.inj f5, H.sel [0] rfl⟩
   ·
    have f6 := condT f3; clear f3
    obtain ⟨y0, e, f7⟩ := bindS f6; clear f6
    obtain ⟨y0_0, y0_1⟩ := y0
    have i0 := e; clear e
    refine callF (impl_polyDivide_c p_ s0_0 g0_0 s0_1 g0_1 y0_0 y0_1 i0) (Γi := []) H ⟨Vw.sh 0 rfl, Vw.sh 1 rfl, trivial⟩ ?_; clear H i0
    rintro _ _ w2 ⟨h0, h1, rfl, rfl⟩ H
    replace H := H.sel [1, 0, 2, 3] rfl
    replace H := H.frz
    have hs := Option.some.inj f7; subst hs; clear f7
    exact ⟨(s0_1, y0_1), (g0_1, h1), rfl, ⟨rfl, rfl, rfl, trivial⟩, H.sel [3, 0] rfl⟩
 ·
  clear f0 H
  rintro T1 ⟨s1, g1⟩ w3 ⟨hr, (H : Cx w0 fp0 S0 w3 [Es (List Int) s1 g1])⟩
  subst hr
  refine sq ?_
  refine lenE (H.rs (α := List Int) 0 rfl).len ?_
  obtain ⟨a1, e, f8⟩ := bindS f1; clear f1
  refine boolO e ?_; clear e
  cases a1
  ·
   have f9 := condF f8; clear f8
   obtain ⟨y1, e, f10⟩ := bindS f9; clear f9
   have i1 := e; clear e
   refine callF (impl_monic_c p_ s1 g1 y1 i1) (Γi := []) H ⟨Vw.sh 0 rfl, trivial⟩ ?_; clear H i1
   rintro _ _ w4 ⟨h2, rfl, rfl⟩ H
   replace H := H.frz
   cases f10
   exact ⟨_, _, rfl, ⟨h2, rfl, rfl⟩, (H.sel [0] rfl)⟩
  ·
   have f11 := condT f8; clear f8
   cases f11
   exact ⟨_, _, rfl, ⟨g1, rfl, rfl⟩, (H.sel [0] rfl)⟩

theorem impl_lowest_c (p_ : Int) (num_ : List Int) (num_h : Hd) (den_ : List Int) (den_h : Hd) (y_0 : List Int) (y_1 : List Int) (hF : F_impl_lowest p_ num_ den_ = some (y_0, y_1)) :
  ConF Tryd.prog 63 #[(.int .i64 p_), (num_h).v, (den_h).v] [Es (List Int) num_ num_h, Es (List Int) den_ den_h] [] (fun v Γ' => ∃ z0 z1 : Hd, v = (.agg #[(z0).v, (z1).v]) ∧ Γ' = [E (List Int) y_0 z0, E (List Int) y_1 z1]) := by
 intro w0 S0 fp0 hI hS
 have H : Cx w0 fp0 S0 w0 [Es (List Int) num_ num_h, Es (List Int) den_ den_h] := Cx.start hI hS
 clear hI hS
 refine enterC (args := [_, _, _]) gok Tryd.func63 rfl _ rfl rfl rfl ?_
 refine alloc_ gok rfl H ?_; clear H; intro b4 w3 hx H
 clear hx
 refine sq ?_
 refine lenE (H.rs (α := List Int) 1 rfl).len ?_
 obtain ⟨a6, e, hF7⟩ := bindS hF; clear hF
 refine boolO e ?_; clear e
 cases a6
 ·
  have hF8 := condF hF7; clear hF7
  obtain ⟨y9, e, f0⟩ := bindS hF8; clear hF8
  have ey9 := e; clear e
  refine callS (impl_polyGcd_c p_ num_ num_h den_ den_h y9 ey9) (Γi := []) H [1, 2] rfl (persC persS (persC persS persN)) ?_; clear H ey9
  rintro _ _ w1 ⟨h0, rfl, rfl⟩ H
  obtain ⟨y0, e, f1⟩ := bindS f0; clear f0
  obtain ⟨y0_0, y0_1⟩ := y0
  have i0 := e; clear e
  refine callF (impl_polyDivide_c p_ num_ num_h y9 h0 y0_0 y0_1 i0) (Γi := []) H ⟨Vw.sh 2 rfl, Vw.sh 0 rfl, trivial⟩ ?_; clear H i0
  rintro _ _ w2 ⟨h1, h2, rfl, rfl⟩ H
  obtain ⟨y1, e, f2⟩ := bindS f1; clear f1
  obtain ⟨y1_0, y1_1⟩ := y1
  have i1 := e; clear e
  refine callF (impl_polyDivide_c p_ den_ den_h y9 h0 y1_0 y1_1 i1) (Γi := []) H ⟨Vw.sh 5 rfl, Vw.sh 2 rfl, trivial⟩ ?_; clear H i1
  rintro _ _ w4 ⟨h3, h4, rfl, rfl⟩ H
  refine lenE (H.ro (α := List Int) 0 rfl).len ?_
  obtain ⟨a0, e, f3⟩ := bindS f2; clear f2
  refine arO e ?_; clear e
  obtain ⟨a1, e, f4⟩ := bindS f3; clear f3
  obtain ⟨p0, m0, c0, c1, c2, c3⟩ := (H.ro (α := List Int) 0 rfl).at1 e; clear e
  refine idxE c0 c1 c2 ?_; clear c0 c1 c2
  refine load1 c3 ?_; clear c3
  obtain ⟨y2, e, f5⟩ := bindS f4; clear f4
  have i2 := e; clear e
  refine callF (impl_inverse_c p_ a1 y2 i2) (Γi := []) H trivial ?_; clear H i2
  rintro _ _ w5 ⟨rfl, rfl⟩ H
  obtain ⟨y3, e, f6⟩ := bindS f5; clear f5
  have i3 := e; clear e
  refine callF (impl_scaled_c p_ y0_0 h1 y2 y3 i3) (Γi := []) H ⟨Vw.own 2 rfl, trivial⟩ ?_; clear H i3
  rintro _ _ w6 ⟨h5, rfl, rfl⟩ H
  obtain ⟨y4, e, f7⟩ := bindS f6; clear f6
  have i4 := e; clear e
  refine callF (impl_scaled_c p_ y1_0 h3 y2 y4 i4) (Γi := []) H ⟨Vw.own 1 rfl, trivial⟩ ?_; clear H i4
  rintro _ _ w7 ⟨h6, rfl, rfl⟩ H
  refine build_ (cs := #[(h5).v, (h6).v]) gok rfl rfl rfl ?_
  replace H := H.sel [7, 0, 1, 2, 3, 4, 5, 6, 8, 9] rfl
  refine stA gok [(h5).v, (h6).v] rfl H rfl rfl rfl ?_; clear H; intro w8 H
  refine loadN [(h5).v, (h6).v] rfl (fun j u hj => H.bx 0 rfl hj) ?_
  cases f7
  exact ⟨_, _, rfl, ⟨h5, h6, rfl, rfl⟩, (H.sel [2, 1] rfl).close ⟨cloE, cloE, trivial⟩⟩
 ·
  have f8 := condT hF7; clear hF7
  refine lit0 (α := Int) gok rfl rfl H ?_; clear H; intro h7 w9 hx H
  clear hx
  refine lit1S (α := Int) gok rfl rfl rfl rfl H ?_; clear H; intro h8 w10 hx H
  clear hx
  refine build_ (cs := #[(h7).v, (h8).v]) gok rfl rfl rfl ?_
  replace H := H.sel [2, 0, 1, 3, 4] rfl
  refine stA gok [(h7).v, (h8).v] rfl H rfl rfl rfl ?_; clear H; intro w12 H
  refine loadN [(h7).v, (h8).v] rfl (fun j u hj => H.bx 0 rfl hj) ?_
  cases f8
  exact ⟨_, _, rfl, ⟨h7, h8, rfl, rfl⟩, (H.sel [2, 1] rfl).close ⟨cloE, cloE, trivial⟩⟩

theorem impl_isPoly_c (p_ : Int) (f_ : List Int) (f_h : Hd) (y : Bool) (hF : F_impl_isPoly p_ f_ = some y) :
  ConF Tryd.prog 91 #[(.int .i64 p_), (f_h).v] [Es (List Int) f_ f_h, Gl 0 [.int .i64 2, .int .i64 3, .int .i64 5, .int .i64 7]] [] (fun v Γ' => v = (.bool y) ∧ Γ' = []) := by
 intro w0 S0 fp0 hI hS
 have H : Cx w0 fp0 S0 w0 [Es (List Int) f_ f_h, Gl 0 [.int .i64 2, .int .i64 3, .int .i64 5, .int .i64 7]] := Cx.start hI hS
 clear hI hS
 refine enterC (args := [_, _]) gok Tryd.func91 rfl _ rfl rfl rfl ?_
 obtain ⟨r0, f0, f1⟩ := bindS hF; clear hF
 refine cut (fun (q0 : Bool) => [(4, (.bool q0))]) (fun (q0 : Bool) w' => q0 = r0 ∧ Cx w0 fp0 S0 w' [Gl 0 [.int .i64 2, .int .i64 3, .int .i64 5, .int .i64 7]]) ?_ ?_
 ·
  obtain ⟨y0, e, f2⟩ := bindS f0; clear f0
  have i0 := e; clear e
  refine callF (impl_isField_c p_ y0 i0) (Γi := []) H ⟨Vw.gl 1 rfl, trivial⟩ ?_; clear H i0
  rintro _ _ w1 ⟨rfl, rfl⟩ H
  cases y0
  ·
   have f3 := condF f2; clear f2
   exact ⟨false, ⟨rfl, trivial⟩, Option.some.inj f3, H.sel [1] rfl⟩
  ·
   have f4 := condT f2; clear f2
   refine lenE (H.rs (α := List Int) 0 rfl).len ?_
   obtain ⟨a0, e, f5⟩ := bindS f4; clear f4
   refine boolO e ?_; clear e
   cases a0
   ·
    have f6 := condF f5; clear f5
    exact ⟨false, ⟨rfl, trivial⟩, Option.some.inj f6, H.sel [1] rfl⟩
   ·
    have f7 := condT f5; clear f5
    refine lenE (H.rs (α := List Int) 0 rfl).len ?_
    obtain ⟨y1, e, f8⟩ := bindS f7; clear f7
    have i1 := e; clear e
    refine callF (impl_isVector_c p_ f_ f_h ((f_.length : Nat) : Int) y1 i1) (Γi := []) H ⟨Vw.sh 0 rfl, trivial⟩ ?_; clear H i1
    rintro _ _ w2 ⟨rfl, rfl⟩ H
    cases y1
    ·
     have f9 := condF f8; clear f8
     exact ⟨false, ⟨rfl, trivial⟩, Option.some.inj f9, H.sel [1] rfl⟩
    ·
     have f10 := condT f8; clear f8
     refine lenE (H.rs (α := List Int) 0 rfl).len ?_
     obtain ⟨a1, e, f11⟩ := bindS f10; clear f10
     refine boolO e ?_; clear e
     cases a1
     ·
      have f12 := condF f11; clear f11
      refine lenE (H.rs (α := List Int) 0 rfl).len ?_
      obtain ⟨a2, e, f13⟩ := bindS f12; clear f12
      refine arO e ?_; clear e
      obtain ⟨a3, e, f14⟩ := bindS f13; clear f13
      obtain ⟨p0, m0, c0, c1, c2, c3⟩ := (H.rs (α := List Int) 0 rfl).at1 e; clear e
      refine idxE c0 c1 c2 ?_; clear c0 c1 c2
      refine load1 c3 ?_; clear c3
      obtain ⟨a4, e, f15⟩ := bindS f14; clear f14
      refine boolO e ?_; clear e
      exact ⟨a4, ⟨rfl, trivial⟩, Option.some.inj f15, H.sel [1] rfl⟩
     ·
      have f16 := condT f11; clear f11
      exact ⟨true, ⟨rfl, trivial⟩, Option.some.inj f16, H.sel [1] rfl⟩
 ·
  clear f0 H
  rintro T0 s0 w3 ⟨hr, (H : Cx w0 fp0 S0 w3 [Gl 0 [.int .i64 2, .int .i64 3, .int .i64 5, .int .i64 7]])⟩
  subst hr
  cases f1
  exact ⟨_, _, rfl, ⟨rfl, rfl⟩, (H.sel [] rfl).close trivial⟩

theorem impl_arePolys_c (p_ : Int) (list_ : List (List Int)) (list_h : Hd) (y : Bool) (hF : F_impl_arePolys p_ list_ = some y) :
  ConF Tryd.prog 87 #[(.int .i64 p_), (list_h).v] [Es (List (List Int)) list_ list_h, Gl 0 [.int .i64 2, .int .i64 3, .int .i64 5, .int .i64 7]] [] (fun v Γ' => v = (.bool y) ∧ Γ' = []) := by
 intro w0 S0 fp0 hI hS
 have H : Cx w0 fp0 S0 w0 [Es (List (List Int)) list_ list_h, Gl 0 [.int .i64 2, .int .i64 3, .int .i64 5, .int .i64 7]] := Cx.start hI hS
 clear hI hS
 refine enterC (args := [_, _]) gok Tryd.func87 rfl _ rfl rfl rfl ?_
 refine sq ?_
 refine lenE (H.rs (α := List (List Int)) 0 rfl).len ?_
 have x0 := (H.rs (α := List (List Int)) 0 rfl).max
 obtain ⟨r0, e, f0⟩ := bindS hF; clear hF
 refine loopO _ list_.length (fun (k3 : Nat) (_ : Unit) (_ : Unit) => [(0, (.int .i64 p_)), (7, (list_h).v), (8, (.int .i64 ((list_.length : Nat) : Int))), (9, (.int .i64 ((k3 : Nat) : Int)))]) (fun _ (_ : Unit) (_ : Unit) w' => Cx w0 fp0 S0 w' [Es (List (List Int)) list_ list_h, Gl 0 [.int .i64 2, .int .i64 3, .int .i64 5, .int .i64 7]]) () () e ⟨rfl, rfl, rfl, rfl, trivial⟩ (H.sel [0, 1] rfl) ?_ ?_
 ·
  clear H e
  rintro T0 k3 _ _ w1 o0 hk (H : Cx w0 fp0 S0 w1 [Es (List (List Int)) list_ list_h, Gl 0 [.int .i64 2, .int .i64 3, .int .i64 5, .int .i64 7]]) hrt f1
  refine boolE (z := true) (ltLen hk) ?_
  refine sq ?_
  refine sq ?_
  obtain ⟨a0, e, f2⟩ := bindS f1; clear f1
  have HH := H; clear H; obtain ⟨p0, m0, h0, c0, c1, c2, c3, H⟩ := HH.elL 0 rfl e; clear HH
  clear e
  refine idxE c0 c1 c2 ?_; clear c0 c1 c2
  refine load1 c3 ?_; clear c3
  obtain ⟨y0, e, f3⟩ := bindS f2; clear f2
  have i0 := e; clear e
  refine callF (impl_isPoly_c p_ a0 h0 y0 i0) (Γi := []) H ⟨Vw.sh 0 rfl, Vw.gl 2 rfl, trivial⟩ ?_; clear H i0
  rintro _ _ w2 ⟨rfl, rfl⟩ H
  obtain ⟨a1, e, f4⟩ := bindS f3; clear f3
  refine boolO e ?_; clear e
  cases a1
  ·
   have f5 := condF f4; clear f4
   refine arK hk x0 ?_
   have hs := Option.some.inj f5; subst hs; clear f5
   exact ⟨(), (), rfl, ⟨rfl, rfl, rfl, rfl, trivial⟩, H.sel [1, 2] rfl⟩
  ·
   have f6 := condT f4; clear f4
   have hs := Option.some.inj f6; subst hs; clear f6
   have hr := hrt _ rfl; subst hr
   have f7 : some _ = some _ := f0
   cases f7
   exact ⟨_, _, rfl, ⟨rfl, rfl⟩, (H.sel [] rfl).close trivial⟩
 ·
  clear H e
  rintro T1 _ _ w3 hr (H : Cx w0 fp0 S0 w3 [Es (List (List Int)) list_ list_h, Gl 0 [.int .i64 2, .int .i64 3, .int .i64 5, .int .i64 7]])
  subst hr
  refine boolE (z := false) geLen ?_
  refine sq ?_
  obtain ⟨y1, e, f8⟩ := bindS f0; clear f0
  have i1 := e; clear e
  refine callF (impl_isField_c p_ y1 i1) (Γi := []) H ⟨Vw.gl 1 rfl, trivial⟩ ?_; clear H i1
  rintro _ _ w4 ⟨rfl, rfl⟩ H
  cases f8
  exact ⟨_, _, rfl, ⟨rfl, rfl⟩, (H.sel [] rfl).close trivial⟩

theorem impl_degree_c (f_ : List Int) (f_h : Hd) (y : Int) (hF : F_impl_degree f_ = some y) :
  ConF Tryd.prog 88 #[(f_h).v] [Es (List Int) f_ f_h] [] (fun v Γ' => v = (.int .i64 y) ∧ Γ' = []) := by
 intro w0 S0 fp0 hI hS
 have H : Cx w0 fp0 S0 w0 [Es (List Int) f_ f_h] := Cx.start hI hS
 clear hI hS
 refine enterC (args := [_]) gok Tryd.func88 rfl _ rfl rfl rfl ?_
 refine lenE (H.rs (α := List Int) 0 rfl).len ?_
 obtain ⟨a2, e, hF3⟩ := bindS hF; clear hF
 refine arO e ?_; clear e
 cases hF3
 exact ⟨_, _, rfl, ⟨rfl, rfl⟩, (H.sel [] rfl).close trivial⟩

theorem slices_Equal_int_int_c (s1_ : List Int) (s1_h : Hd) (s2_ : List Int) (s2_h : Hd) (y : Bool) (hF : F_slices_Equal_int_int s1_ s2_ = some y) :
  ConF Tryd.prog 92 #[(s1_h).v, (s2_h).v] [Es (List Int) s1_ s1_h, Es (List Int) s2_ s2_h] [] (fun v Γ' => v = (.bool y) ∧ Γ' = []) := by
 intro w0 S0 fp0 hI hS
 have H : Cx w0 fp0 S0 w0 [Es (List Int) s1_ s1_h, Es (List Int) s2_ s2_h] := Cx.start hI hS
 clear hI hS
 refine enterC (args := [_, _]) gok Tryd.func92 rfl _ rfl rfl rfl ?_
 refine sq ?_
 refine lenE (H.rs (α := List Int) 0 rfl).len ?_
 refine lenE (H.rs (α := List Int) 1 rfl).len ?_
 obtain ⟨a3, e, hF4⟩ := bindS hF; clear hF
 refine boolO e ?_; clear e
 cases a3
 ·
  have hF5 := condF hF4; clear hF4
  refine sq ?_
  refine lenE (H.rs (α := List Int) 0 rfl).len ?_
  have x0 := (H.rs (α := List Int) 0 rfl).max
  obtain ⟨r0, e, f0⟩ := bindS hF5; clear hF5
  refine loopO _ s1_.length (fun (k6 : Nat) (_ : Unit) (_ : Unit) => [(0, (s1_h).v), (1, (s2_h).v), (12, (.int .i64 ((s1_.length : Nat) : Int))), (13, (.int .i64 ((k6 : Nat) : Int)))]) (fun _ (_ : Unit) (_ : Unit) w' => Cx w0 fp0 S0 w' [Es (List Int) s1_ s1_h, Es (List Int) s2_ s2_h]) () () e ⟨rfl, rfl, rfl, rfl, trivial⟩ (H.sel [0, 1] rfl) ?_ ?_
  ·
   clear H e
   rintro T0 k6 _ _ w1 o0 hk (H : Cx w0 fp0 S0 w1 [Es (List Int) s1_ s1_h, Es (List Int) s2_ s2_h]) hrt f1
   refine boolE (z := true) (ltLen hk) ?_
   refine sq ?_
   refine sq ?_
   refine heldX H [] (.fst 0 (.fst 1 (.fst 2 (.fst 4 (.fst 5 (.fst 6 (.fst 3 (.fst 7 (.fst 8 .done))))))))) mixed [] trivial (by kernel_rfl) ?_
   clear H; intro w2 H
   have hX : Ext w2 w2 := Upd.refl _ _
   have H0 := H
   obtain ⟨a0, e, f2⟩ := bindS f1; clear f1
   obtain ⟨p0, m0, c0, c1, c2, c3⟩ := (H.rs (α := List Int) 0 rfl).at1 e; clear e
   refine idxE c0 c1 c2 ?_; clear c0 c1 c2
   obtain ⟨a1, e, f3⟩ := bindS f2; clear f2
   obtain ⟨p1, m1, c4, c5, c6, c7⟩ := (H.rs (α := List Int) 1 rfl).at1 e; clear e
   refine idxE c4 c5 c6 ?_; clear c4 c5 c6
   refine load1X c3 ?_; clear c3
   refine load1X c7 ?_; clear c7
   obtain ⟨a2, e, f4⟩ := bindS f3; clear f3
   refine boolO e ?_; clear e
   cases a2
   ·
    have f5 := condF f4; clear f4
    refine arK hk x0 ?_
    have hs := Option.some.inj f5; subst hs; clear f5
    exact ⟨(), (), rfl, ⟨rfl, rfl, rfl, rfl, trivial⟩, H.sel [0, 1] rfl⟩
   ·
    have f6 := condT f4; clear f4
    have hs := Option.some.inj f6; subst hs; clear f6
    have hr := hrt _ rfl; subst hr
    have f7 : some _ = some _ := f0
    cases f7
    exact ⟨_, _, rfl, ⟨rfl, rfl⟩, (H.sel [] rfl).close trivial⟩
  ·
   clear H e
   rintro T1 _ _ w3 hr (H : Cx w0 fp0 S0 w3 [Es (List Int) s1_ s1_h, Es (List Int) s2_ s2_h])
   subst hr
   refine boolE (z := false) geLen ?_
   refine sq ?_
   cases f0
   exact ⟨_, _, rfl, ⟨rfl, rfl⟩, (H.sel [] rfl).close trivial⟩
 ·
  have f8 := condT hF4; clear hF4
  cases f8
  exact ⟨_, _, rfl, ⟨rfl, rfl⟩, (H.sel [] rfl).close trivial⟩

theorem impl_equalFractions_c (x__0 : List Int) (x__0h : Hd) (x__1 : List Int) (x__1h : Hd) (y__0 : List Int) (y__0h : Hd) (y__1 : List Int) (y__1h : Hd) (y : Bool) (hF : F_impl_equalFractions (x__0, x__1) (y__0, y__1) = some y) :
  ConF Tryd.prog 89 #[(.agg #[(x__0h).v, (x__1h).v]), (.agg #[(y__0h).v, (y__1h).v])] [Es (List Int) x__0 x__0h, Es (List Int) x__1 x__1h, Es (List Int) y__0 y__0h, Es (List Int) y__1 y__1h] [] (fun v Γ' => v = (.bool y) ∧ Γ' = []) := by
 intro w0 S0 fp0 hI hS
 have H : Cx w0 fp0 S0 w0 [Es (List Int) x__0 x__0h, Es (List Int) x__1 x__1h, Es (List Int) y__0 y__0h, Es (List Int) y__1 y__1h] := Cx.start hI hS
 clear hI hS
 refine enterC (args := [_, _]) gok Tryd.func89 rfl _ rfl rfl rfl ?_
 refine box_ H ?_; clear H; intro b6 w5 hx H
 clear hx
 refine box_ H ?_; clear H; intro b9 w8 hx H
 clear hx
 obtain ⟨r0, f0, f1⟩ := bindS hF; clear hF
 refine cut (fun (q0 : Bool) => [(4, (.bool q0))]) (fun (q0 : Bool) w' => q0 = r0 ∧ Cx w0 fp0 S0 w' []) ?_ ?_
 ·
  refine fld gok rfl rfl rfl rfl ?_
  refine load1 (H.bx 1 rfl (j := 0) rfl) ?_
  refine fld gok rfl rfl rfl rfl ?_
  refine load1 (H.bx 0 rfl (j := 0) rfl) ?_
  obtain ⟨y0, e, f2⟩ := bindS f0; clear f0
  have i0 := e; clear e
  refine callF (slices_Equal_int_int_c x__0 x__0h y__0 y__0h y0 i0) (Γi := []) H ⟨Vw.sh 2 rfl, Vw.sh 4 rfl, trivial⟩ ?_; clear H i0
  rintro _ _ w1 ⟨rfl, rfl⟩ H
  cases y0
  ·
   have f3 := condF f2; clear f2
   exact ⟨false, ⟨rfl, trivial⟩, Option.some.inj f3, H.sel [] rfl⟩
  ·
   have f4 := condT f2; clear f2
   refine fld gok rfl rfl rfl rfl ?_
   refine load1 (H.bx 1 rfl (j := 1) rfl) ?_
   refine fld gok rfl rfl rfl rfl ?_
   refine load1 (H.bx 0 rfl (j := 1) rfl) ?_
   obtain ⟨y1, e, f5⟩ := bindS f4; clear f4
   have i1 := e; clear e
   refine callF (slices_Equal_int_int_c x__1 x__1h y__1 y__1h y1 i1) (Γi := []) H ⟨Vw.sh 3 rfl, Vw.sh 5 rfl, trivial⟩ ?_; clear H i1
   rintro _ _ w2 ⟨rfl, rfl⟩ H
   exact ⟨y1, ⟨rfl, trivial⟩, Option.some.inj f5, H.sel [] rfl⟩
 ·
  clear f0 H
  rintro T0 s0 w3 ⟨hr, (H : Cx w0 fp0 S0 w3 [])⟩
  subst hr
  cases f1
  exact ⟨_, _, rfl, ⟨rfl, rfl⟩, (H.sel [] rfl).close trivial⟩

theorem impl_isFraction_c (p_ : Int) (x__0 : List Int) (x__0h : Hd) (x__1 : List Int) (x__1h : Hd) (y : Bool) (hF : F_impl_isFraction p_ (x__0, x__1) = some y) :
  ConF Tryd.prog 79 #[(.int .i64 p_), (.agg #[(x__0h).v, (x__1h).v])] [Es (List Int) x__0 x__0h, Es (List Int) x__1 x__1h, Gl 0 [.int .i64 2, .int .i64 3, .int .i64 5, .int .i64 7]] [] (fun v Γ' => v = (.bool y) ∧ Γ' = []) := by
 intro w0 S0 fp0 hI hS
 have H : Cx w0 fp0 S0 w0 [Es (List Int) x__0 x__0h, Es (List Int) x__1 x__1h, Gl 0 [.int .i64 2, .int .i64 3, .int .i64 5, .int .i64 7]] := Cx.start hI hS
 clear hI hS
 refine enterC (args := [_, _]) gok Tryd.func79 rfl _ rfl rfl rfl ?_
 refine box_ H ?_; clear H; intro b5 w4 hx H
 clear hx
 refine sq ?_
 obtain ⟨r0, f0, f1⟩ := bindS hF; clear hF
 refine cut (fun (q0 : Bool) => [(0, (.int .i64 p_)), (3, (.pointer (some ⟨b5, 0, none⟩))), (30, (.bool q0))]) (fun (q0 : Bool) w' => q0 = r0 ∧ Cx w0 fp0 S0 w' [Bx b5 [(x__0h).v, (x__1h).v], Es (List Int) x__0 x__0h, Es (List Int) x__1 x__1h, Gl 0 [.int .i64 2, .int .i64 3, .int .i64 5, .int .i64 7]]) ?_ ?_
 ·
  refine fld gok rfl rfl rfl rfl ?_
  refine load1 (H.bx 0 rfl (j := 0) rfl) ?_
  refine fld gok rfl rfl rfl rfl ?_
  refine load1 (H.bx 0 rfl (j := 1) rfl) ?_
  replace H := H.dup 2 rfl persS
  replace H := H.dup 2 rfl persS
  refine litN (α := Sh (List Int)) (us := [(x__0h).v, (x__1h).v]) (xs := [x__0, x__1]) (gs := ([x__0h, x__1h] : List Hd)) gok rfl rfl rfl ⟨rfl, rfl, trivial⟩ rfl rfl H ?_; clear H; intro h0 w1 hx H
  clear hx
  obtain ⟨y0, e, f2⟩ := bindS f0; clear f0
  have i0 := e; clear e
  refine callF (impl_arePolys_c p_ [x__0, x__1] h0 y0 i0) (Γi := []) H ⟨Vw.part (β := List (List Int)) (Vw.own (α := List (Sh (List Int))) 0 rfl) [x__0, x__1] h0 (fun S h => h), Vw.gl 4 rfl, trivial⟩ ?_; clear H i0
  rintro _ _ w2 ⟨rfl, rfl⟩ H
  obtain ⟨a0, e, f3⟩ := bindS f2; clear f2
  refine boolO e ?_; clear e
  cases a0
  ·
   have f4 := condF f3; clear f3
   refine fld gok rfl rfl rfl rfl ?_
   refine load1 (H.bx 1 rfl (j := 0) rfl) ?_
   obtain ⟨y1, e, f5⟩ := bindS f4; clear f4
   have i1 := e; clear e
   refine callF (impl_degree_c x__0 x__0h y1 i1) (Γi := []) H ⟨Vw.sh 2 rfl, trivial⟩ ?_; clear H i1
   rintro _ _ w3 ⟨rfl, rfl⟩ H
   obtain ⟨a1, e, f6⟩ := bindS f5; clear f5
   refine boolO e ?_; clear e
   cases a1
   ·
    have f7 := condF f6; clear f6
    refine fld gok rfl rfl rfl rfl ?_
    refine load1 (H.bx 1 rfl (j := 1) rfl) ?_
    obtain ⟨y2, e, f8⟩ := bindS f7; clear f7
    have i2 := e; clear e
    refine callF (impl_degree_c x__1 x__1h y2 i2) (Γi := []) H ⟨Vw.sh 3 rfl, trivial⟩ ?_; clear H i2
    rintro _ _ w5 ⟨rfl, rfl⟩ H
    obtain ⟨a2, e, f9⟩ := bindS f8; clear f8
    refine boolO e ?_; clear e
    cases a2
    ·
     have f10 := condF f9; clear f9
     refine fld gok rfl rfl rfl rfl ?_
     refine load1 (H.bx 1 rfl (j := 1) rfl) ?_
     refine lenE (H.rs (α := List Int) 3 rfl).len ?_
     obtain ⟨a3, e, f11⟩ := bindS f10; clear f10
     refine boolO e ?_; clear e
     exact ⟨a3, ⟨rfl, rfl, rfl, trivial⟩, Option.some.inj f11, H.sel [1, 2, 3, 4] rfl⟩
    ·
     have f12 := condT f9; clear f9
     exact ⟨true, ⟨rfl, rfl, rfl, trivial⟩, Option.some.inj f12, H.sel [1, 2, 3, 4] rfl⟩
   ·
    have f13 := condT f6; clear f6
    exact ⟨true, ⟨rfl, rfl, rfl, trivial⟩, Option.some.inj f13, H.sel [1, 2, 3, 4] rfl⟩
  ·
   have f14 := condT f3; clear f3
   exact ⟨true, ⟨rfl, rfl, rfl, trivial⟩, Option.some.inj f14, H.sel [1, 2, 3, 4] rfl⟩
 ·
  clear f0 H
  rintro T0 s0 w6 ⟨hr, (H : Cx w0 fp0 S0 w6 [Bx b5 [(x__0h).v, (x__1h).v], Es (List Int) x__0 x__0h, Es (List Int) x__1 x__1h, Gl 0 [.int .i64 2, .int .i64 3, .int .i64 5, .int .i64 7]])⟩
  subst hr
  cases s0
  ·
   have f15 := condF f1; clear f1
   refine heldX H [] (.fst 0 (.fst 1 (.fst 3 (.fst 2 (.fst 4 (.fst 6 (.act 5 (.act 7 (.fst 8 .done))))))))) mixed [] trivial (by kernel_rfl) ?_
   clear H; intro w7 H
   have hX : Ext w7 w7 := Upd.refl _ _
   have H0 := H
   refine anyH (fun _ => fld gok rfl rfl rfl rfl ⟨rfl, rfl⟩) ?_
   refine anyH (fun _ => fld gok rfl rfl rfl rfl ⟨rfl, rfl⟩) ?_
   refine load1X (H.bx 0 rfl (j := 0) rfl) ?_
   refine load1X (H.bx 0 rfl (j := 1) rfl) ?_
   refine loadNX [(x__0h).v, (x__1h).v] rfl (fun j u hj => H.bx 0 rfl hj) ?_
   obtain ⟨y3, e, f16⟩ := bindS f15; clear f15
   obtain ⟨y3_0, y3_1⟩ := y3
   have i3 := e; clear e
   refine callFx (impl_lowest_c p_ x__0 x__0h x__1 x__1h y3_0 y3_1 i3) H ⟨Vw.sh 1 rfl, Vw.sh 2 rfl, trivial⟩ ?_; clear H i3
   rintro _ _ w8 ⟨h1, h2, rfl, rfl⟩ hx H
   replace hX := hX.trans0 hx; clear hx
   refine hold hX ?_
   obtain ⟨y4, e, f17⟩ := bindS f16; clear f16
   have i4 := e; clear e
   refine callFx (impl_equalFractions_c y3_0 h1 y3_1 h2 x__0 x__0h x__1 x__1h y4 i4) H ⟨Vw.own 0 rfl, Vw.own 1 rfl, Vw.sh 3 rfl, Vw.sh 4 rfl, trivial⟩ ?_; clear H i4
   rintro _ _ w9 ⟨rfl, rfl⟩ hx H
   replace hX := hX.trans0 hx; clear hx
   refine hold hX ?_
   cases f17
   exact ⟨_, _, rfl, ⟨rfl, rfl⟩, (H.sel [] rfl).close trivial⟩
  ·
   have f18 := condT f1; clear f1
   cases f18
   exact ⟨_, _, rfl, ⟨rfl, rfl⟩, (H.sel [] rfl).close trivial⟩

theorem impl_validFraction_c (p_ : Int) (x__0 : List Int) (x__0h : Hd) (x__1 : List Int) (x__1h : Hd) (y0_0 : List Int) (y0_1 : List Int) (y1 : Bool) (hF : F_impl_validFraction p_ (x__0, x__1) = some ((y0_0, y0_1), y1)) :
  ConF Tryd.prog 62 #[(.int .i64 p_), (.agg #[(x__0h).v, (x__1h).v])] [Gl 0 [.int .i64 2, .int .i64 3, .int .i64 5, .int .i64 7]] [E (List Int) x__0 x__0h, E (List Int) x__1 x__1h] (fun v Γ' => ∃ z0 z1 : Hd, v = (.tuple #[(.agg #[(z0).v, (z1).v]), (.bool y1)]) ∧ Γ' = [E (List Int) y0_0 z0, E (List Int) y0_1 z1]) := by
 intro w0 S0 fp0 hI hS
 have H : Cx w0 fp0 S0 w0 [Gl 0 [.int .i64 2, .int .i64 3, .int .i64 5, .int .i64 7], E (List Int) x__0 x__0h, E (List Int) x__1 x__1h] := Cx.start hI hS
 clear hI hS
 refine enterC (args := [_, _]) gok Tryd.func62 rfl _ rfl rfl rfl ?_
 refine box_ H ?_; clear H; intro b5 w4 hx H
 clear hx
 refine alloc_ gok rfl H ?_; clear H; intro b8 w7 hx H
 clear hx
 refine sq ?_
 refine loadN [(x__0h).v, (x__1h).v] rfl (fun j u hj => H.bx 1 rfl hj) ?_
 obtain ⟨y0, e, f0⟩ := bindS hF; clear hF
 have i0 := e; clear e
 refine callF (impl_isFraction_c p_ x__0 x__0h x__1 x__1h y0 i0) (Γi := []) H ⟨Vw.own 3 rfl, Vw.own 4 rfl, Vw.gl 2 rfl, trivial⟩ ?_; clear H i0
 rintro _ _ w1 ⟨rfl, rfl⟩ H
 obtain ⟨a0, e, f1⟩ := bindS f0; clear f0
 refine boolO e ?_; clear e
 cases a0
 ·
  have f2 := condF f1; clear f1
  refine loadN [(x__0h).v, (x__1h).v] rfl (fun j u hj => H.bx 1 rfl hj) ?_
  refine stA gok [(x__0h).v, (x__1h).v] rfl H rfl rfl rfl ?_; clear H; intro w2 H
  refine loadN [(x__0h).v, (x__1h).v] rfl (fun j u hj => H.bx 0 rfl hj) ?_
  cases f2
  exact ⟨_, _, rfl, ⟨x__0h, x__1h, rfl, rfl⟩, (H.sel [3, 4] rfl).close ⟨cloE, cloE, trivial⟩⟩
 ·
  have f3 := condT f1; clear f1
  refine build_ (cs := #[(.slice none 0 0), (.slice none 0 0)]) gok rfl rfl rfl ?_
  refine stA gok [(.slice none 0 0), (.slice none 0 0)] rfl H rfl rfl rfl ?_; clear H; intro w3 H
  refine loadN [(.slice none 0 0), (.slice none 0 0)] rfl (fun j u hj => H.bx 0 rfl hj) ?_
  replace H := H.nil (α := Int)
  replace H := H.nil (α := Int)
  cases f3
  exact ⟨_, _, rfl, ⟨nilH, nilH, rfl, rfl⟩, (H.sel [1, 0] rfl).close ⟨cloE, cloE, trivial⟩⟩

theorem impl_FractionOfSeries_c (p_ : Int) (s_ : List Int) (s_h : Hd) (y0_0 : List Int) (y0_1 : List Int) (y1 : Bool) (hF : F_impl_FractionOfSeries p_ s_ = some ((y0_0, y0_1), y1)) :
  ConF Tryd.prog 41 #[(.int .i64 p_), (s_h).v] [Es (List Int) s_ s_h, Gl 0 [.int .i64 2, .int .i64 3, .int .i64 5, .int .i64 7]] [] (fun v Γ' => ∃ z0 z1 : Hd, v = (.tuple #[(.agg #[(z0).v, (z1).v]), (.bool y1)]) ∧ Γ' = [E (List Int) y0_0 z0, E (List Int) y0_1 z1]) := by
 intro w0 S0 fp0 hI hS
 have H : Cx w0 fp0 S0 w0 [Es (List Int) s_ s_h, Gl 0 [.int .i64 2, .int .i64 3, .int .i64 5, .int .i64 7]] := Cx.start hI hS
 clear hI hS
 refine enterC (args := [_, _]) gok Tryd.func41 rfl _ rfl rfl rfl ?_
 refine alloc_ gok rfl H ?_; clear H; intro b4 w3 hx H
 clear hx
 refine sq ?_
 obtain ⟨y6, e, hF7⟩ := bindS hF; clear hF
 have ey6 := e; clear e
 refine callF (impl_isSeries_c p_ s_ s_h y6 ey6) (Γi := []) H ⟨Vw.sh 1 rfl, Vw.gl 2 rfl, trivial⟩ ?_; clear H ey6
 rintro _ _ w8 ⟨rfl, rfl⟩ H
 obtain ⟨a9, e, f0⟩ := bindS hF7; clear hF7
 refine boolO e ?_; clear e
 cases a9
 ·
  have f1 := condF f0; clear f0
  obtain ⟨y0, e, f2⟩ := bindS f1; clear f1
  obtain ⟨y0_0, y0_1⟩ := y0
  have i0 := e; clear e
  refine callF (impl_recurrence_c p_ s_ s_h y0_0 y0_1 i0) (Γi := []) H ⟨Vw.sh 1 rfl, trivial⟩ ?_; clear H i0
  rintro _ _ w1 ⟨h0, rfl, rfl⟩ H
  refine sq ?_
  obtain ⟨a0, e, f3⟩ := bindS f2; clear f2
  refine arO e ?_; clear e
  refine lenE (H.rs (α := List Int) 2 rfl).len ?_
  obtain ⟨a1, e, f4⟩ := bindS f3; clear f3
  refine boolO e ?_; clear e
  cases a1
  ·
   have f5 := condF f4; clear f4
   obtain ⟨y2, e, f6⟩ := bindS f5; clear f5
   have i1 := e; clear e
   refine callF (impl_convolve_c p_ y0_0 h0 s_ s_h y0_1 y2 i1) (Γi := []) H ⟨Vw.own 0 rfl, Vw.sh 2 rfl, trivial⟩ ?_; clear H i1
   rintro _ _ w2 ⟨h1, rfl, rfl⟩ H
   obtain ⟨y3, e, f7⟩ := bindS f6; clear f6
   have i2 := e; clear e
   refine callF (impl_trimmed_int_c y2 h1 0 y3 i2) (Γi := [E (List Int) y2 h1]) H trivial ?_; clear H i2
   rintro _ _ w4 ⟨h2, rfl, rfl⟩ H
   obtain ⟨y4, e, f8⟩ := bindS f7; clear f7
   obtain ⟨y4_0, y4_1⟩ := y4
   have i3 := e; clear e
   refine callF (impl_lowest_c p_ y3 h2 y0_0 h0 y4_0 y4_1 i3) (Γi := []) H ⟨Vw.own 0 rfl, Vw.own 1 rfl, trivial⟩ ?_; clear H i3
   rintro _ _ w5 ⟨h3, h4, rfl, rfl⟩ H
   obtain ⟨y5, e, f9⟩ := bindS f8; clear f8
   obtain ⟨⟨y5_0_0, y5_0_1⟩, y5_1⟩ := y5
   have i4 := e; clear e
   refine callF (impl_validFraction_c p_ y4_0 h3 y4_1 h4 y5_0_0 y5_0_1 y5_1 i4) (Γi := [E (List Int) y4_0 h3, E (List Int) y4_1 h4]) H ⟨Vw.gl 4 rfl, trivial⟩ ?_; clear H i4
   rintro _ _ w6 ⟨h5, h6, rfl, rfl⟩ H
   replace H := H.sel [4, 0, 1, 2, 3, 5, 6] rfl
   refine stA gok [(h5).v, (h6).v] rfl H rfl rfl rfl ?_; clear H; intro w7 H
   refine loadN [(h5).v, (h6).v] rfl (fun j u hj => H.bx 0 rfl hj) ?_
   cases f9
   exact ⟨_, _, rfl, ⟨h5, h6, rfl, rfl⟩, (H.sel [1, 2] rfl).close ⟨cloE, cloE, trivial⟩⟩
  ·
   have f10 := condT f4; clear f4
   refine build_ (cs := #[(.slice none 0 0), (.slice none 0 0)]) gok rfl rfl rfl ?_
   replace H := H.sel [1, 0, 2, 3] rfl
   refine stA gok [(.slice none 0 0), (.slice none 0 0)] rfl H rfl rfl rfl ?_; clear H; intro w9 H
   refine loadN [(.slice none 0 0), (.slice none 0 0)] rfl (fun j u hj => H.bx 0 rfl hj) ?_
   replace H := H.nil (α := Int)
   replace H := H.nil (α := Int)
   cases f10
   exact ⟨_, _, rfl, ⟨nilH, nilH, rfl, rfl⟩, (H.sel [1, 0] rfl).close ⟨cloE, cloE, trivial⟩⟩
 ·
  have f11 := condT f0; clear f0
  refine build_ (cs := #[(.slice none 0 0), (.slice none 0 0)]) gok rfl rfl rfl ?_
  refine stA gok [(.slice none 0 0), (.slice none 0 0)] rfl H rfl rfl rfl ?_; clear H; intro w10 H
  refine loadN [(.slice none 0 0), (.slice none 0 0)] rfl (fun j u hj => H.bx 0 rfl hj) ?_
  replace H := H.nil (α := Int)
  replace H := H.nil (α := Int)
  cases f11
  exact ⟨_, _, rfl, ⟨nilH, nilH, rfl, rfl⟩, (H.sel [1, 0] rfl).close ⟨cloE, cloE, trivial⟩⟩

theorem impl_StateSpace_transfer_c (s__0 : Int) (s__1 : Int) (s__2 : Int) (s__3 : List (List Int)) (s__3h : Hd) (s__4 : List (List Int)) (s__4h : Hd) (s__5 : List (List Int)) (s__5h : Hd) (s__6 : List (List Int)) (s__6h : Hd) (p_ : Int) (y0 : List (List (List Int × List Int))) (y1 : Bool) (hF : F_impl_StateSpace_transfer (s__0, s__1, s__2, s__3, s__4, s__5, s__6) p_ = some (y0, y1)) :
  ConF Tryd.prog 19 #[(.agg #[(.int .i64 s__0), (.int .i64 s__1), (.int .i64 s__2), (s__3h).v, (s__4h).v, (s__5h).v, (s__6h).v]), (.int .i64 p_)] [Es (List (List Int)) s__3 s__3h, Es (List (List Int)) s__4 s__4h, Es (List (List Int)) s__5 s__5h, Es (List (List Int)) s__6 s__6h, Gl 0 [.int .i64 2, .int .i64 3, .int .i64 5, .int .i64 7]] [] (fun v Γ' => ∃ z0 : Hd, v = (.tuple #[(z0).v, (.bool y1)]) ∧ Γ' = [E (List (List (List Int × List Int))) y0 z0]) := by
 intro w0 S0 fp0 hI hS
 have H : Cx w0 fp0 S0 w0 [Es (List (List Int)) s__3 s__3h, Es (List (List Int)) s__4 s__4h, Es (List (List Int)) s__5 s__5h, Es (List (List Int)) s__6 s__6h, Gl 0 [.int .i64 2, .int .i64 3, .int .i64 5, .int .i64 7]] := Cx.start hI hS
 clear hI hS
 refine enterC (args := [_, _]) gok Tryd.func19 rfl _ rfl rfl rfl ?_
 refine box_ H ?_; clear H; intro b7 w6 hx H
 clear hx
 refine loadN [(.int .i64 s__0), (.int .i64 s__1), (.int .i64 s__2), (s__3h).v, (s__4h).v, (s__5h).v, (s__6h).v] rfl (fun j u hj => H.bx 0 rfl hj) ?_
 refine fld gok rfl rfl rfl rfl ?_
 refine load1 (H.bx 0 rfl (j := 0) rfl) ?_
 obtain ⟨a9, e, f0⟩ := bindS hF; clear hF
 refine arO e ?_; clear e
 obtain ⟨a0, e, f1⟩ := bindS f0; clear f0
 refine arO e ?_; clear e
 obtain ⟨y2, e, f2⟩ := bindS f1; clear f1
 have i0 := e; clear e
 refine callF (impl_StateSpace_markov_c s__0 s__1 s__2 s__3 s__3h s__4 s__4h s__5 s__5h s__6 s__6h p_ a0 y2 i0) (Γi := []) H ⟨Vw.sh 1 rfl, Vw.sh 2 rfl, Vw.sh 3 rfl, Vw.sh 4 rfl, trivial⟩ ?_; clear H i0
 rintro _ _ w1 ⟨h0, rfl, rfl⟩ H
 refine lit0 (α := List (List Int × List Int)) gok rfl rfl H ?_; clear H; intro h1 w2 hx H
 clear hx
 refine sq ?_
 refine fld gok rfl rfl rfl rfl ?_
 refine load1 (H.bx 2 rfl (j := 1) rfl) ?_
 replace H := H.sel [1, 0, 2, 3, 4, 5, 6, 7] rfl
 replace H := H.frz
 obtain ⟨a1, hn1926, f3⟩ := bindS f2; clear f2
 obtain ⟨r0, e, f4⟩ := bindS f3; clear f3
 refine loopO _ s__1.toNat (fun (k0 : Nat) (s0 : List (List (List Int × List Int))) (g0 : Hd) => [(1, (.int .i64 p_)), (2, (.pointer (some ⟨b7, 0, none⟩))), (6, (h0).v), (7, (g0).v), (25, (.int .i64 s__1)), (26, (.int .i64 ((k0 : Nat) : Int)))]) (fun _ (s0 : List (List (List Int × List Int))) (g0 : Hd) w' => Cx w0 fp0 S0 w' [Bx b7 [(.int .i64 s__0), (.int .i64 s__1), (.int .i64 s__2), (s__3h).v, (s__4h).v, (s__5h).v, (s__6h).v], Es (List (List Int)) s__3 s__3h, Es (List (List Int)) s__4 s__4h, Es (List (List Int)) s__5 s__5h, Es (List (List Int)) s__6 s__6h, Es (List (Int × List (List Int))) y2 h0, E (List (List (List Int × List Int))) s0 g0, Gl 0 [.int .i64 2, .int .i64 3, .int .i64 5, .int .i64 7]]) ([] : List (List (List Int × List Int))) h1 e ⟨rfl, rfl, rfl, rfl, rfl, rfl, trivial⟩ (H.sel [2, 3, 4, 5, 6, 0, 1, 7] rfl) ?_ ?_
 ·
  clear H e
  rintro T0 k0 s0 g0 w3 o0 hk (H : Cx w0 fp0 S0 w3 [Bx b7 [(.int .i64 s__0), (.int .i64 s__1), (.int .i64 s__2), (s__3h).v, (s__4h).v, (s__5h).v, (s__6h).v], Es (List (List Int)) s__3 s__3h, Es (List (List Int)) s__4 s__4h, Es (List (List Int)) s__5 s__5h, Es (List (List Int)) s__6 s__6h, Es (List (Int × List (List Int))) y2 h0, E (List (List (List Int × List Int))) s0 g0, Gl 0 [.int .i64 2, .int .i64 3, .int .i64 5, .int .i64 7]]) hrt f5
  refine boolE (z := true) (ltNat hk) ?_
  refine sq ?_
  refine sq ?_
  refine lit0 (α := List Int × List Int) gok rfl rfl H ?_; clear H; intro h2 w4 hx H
  clear hx
  refine sq ?_
  refine fld gok rfl rfl rfl rfl ?_
  refine load1 (H.bx 1 rfl (j := 2) rfl) ?_
  obtain ⟨a2, hn2296, f6⟩ := bindS f5; clear f5
  obtain ⟨r1, e, f7⟩ := bindS f6; clear f6
  refine loopO _ s__2.toNat (fun (k1 : Nat) (s1 : List (List Int × List Int)) (g1 : Hd) => [(1, (.int .i64 p_)), (2, (.pointer (some ⟨b7, 0, none⟩))), (6, (h0).v), (7, (g0).v), (8, (.int .i64 ((k0 : Nat) : Int))), (9, (g1).v), (25, (.int .i64 s__1)), (26, (.int .i64 ((k0 : Nat) : Int))), (31, (.int .i64 s__2)), (32, (.int .i64 ((k1 : Nat) : Int)))]) (fun _ (s1 : List (List Int × List Int)) (g1 : Hd) w' => Cx w0 fp0 S0 w' [Bx b7 [(.int .i64 s__0), (.int .i64 s__1), (.int .i64 s__2), (s__3h).v, (s__4h).v, (s__5h).v, (s__6h).v], Es (List (List Int)) s__3 s__3h, Es (List (List Int)) s__4 s__4h, Es (List (List Int)) s__5 s__5h, Es (List (List Int)) s__6 s__6h, Es (List (Int × List (List Int))) y2 h0, E (List (List (List Int × List Int))) s0 g0, E (List (List Int × List Int)) s1 g1, Gl 0 [.int .i64 2, .int .i64 3, .int .i64 5, .int .i64 7]]) ([] : List (List Int × List Int)) h2 e ⟨rfl, rfl, rfl, rfl, rfl, rfl, rfl, rfl, rfl, rfl, trivial⟩ (H.sel [1, 2, 3, 4, 5, 6, 7, 0, 8] rfl) ?_ ?_
  ·
   clear H e
   rintro T1 k1 s1 g1 w5 o1 hk (H : Cx w0 fp0 S0 w5 [Bx b7 [(.int .i64 s__0), (.int .i64 s__1), (.int .i64 s__2), (s__3h).v, (s__4h).v, (s__5h).v, (s__6h).v], Es (List (List Int)) s__3 s__3h, Es (List (List Int)) s__4 s__4h, Es (List (List Int)) s__5 s__5h, Es (List (List Int)) s__6 s__6h, Es (List (Int × List (List Int))) y2 h0, E (List (List (List Int × List Int))) s0 g0, E (List (List Int × List Int)) s1 g1, Gl 0 [.int .i64 2, .int .i64 3, .int .i64 5, .int .i64 7]]) hrt f8
   refine boolE (z := true) (ltNat hk) ?_
   refine sq ?_
   refine sq ?_
   refine lit0 (α := Int) gok rfl rfl H ?_; clear H; intro h3 w7 hx H
   clear hx
   refine sq ?_
   refine lenE (H.rs (α := List (Int × List (List Int))) 6 rfl).len ?_
   have x0 := (H.rs (α := List (Int × List (List Int))) 6 rfl).max
   obtain ⟨r2, e, f9⟩ := bindS f8; clear f8
   refine loopS _ y2.length (fun (k2 : Nat) (s2 : List Int) (g2 : Hd) => [(1, (.int .i64 p_)), (2, (.pointer (some ⟨b7, 0, none⟩))), (6, (h0).v), (7, (g0).v), (8, (.int .i64 ((k0 : Nat) : Int))), (9, (g1).v), (10, (.int .i64 ((k1 : Nat) : Int))), (11, (g2).v), (25, (.int .i64 s__1)), (26, (.int .i64 ((k0 : Nat) : Int))), (31, (.int .i64 s__2)), (32, (.int .i64 ((k1 : Nat) : Int))), (36, (h0).v), (37, (.int .i64 ((y2.length : Nat) : Int))), (38, (.int .i64 ((k2 : Nat) : Int)))]) (fun _ (s2 : List Int) (g2 : Hd) w' => Cx w0 fp0 S0 w' [Bx b7 [(.int .i64 s__0), (.int .i64 s__1), (.int .i64 s__2), (s__3h).v, (s__4h).v, (s__5h).v, (s__6h).v], Es (List (List Int)) s__3 s__3h, Es (List (List Int)) s__4 s__4h, Es (List (List Int)) s__5 s__5h, Es (List (List Int)) s__6 s__6h, Es (List (Int × List (List Int))) y2 h0, E (List (List (List Int × List Int))) s0 g0, E (List (List Int × List Int)) s1 g1, E (List Int) s2 g2, Gl 0 [.int .i64 2, .int .i64 3, .int .i64 5, .int .i64 7]]) ([] : List Int) h3 e ⟨rfl, rfl, rfl, rfl, rfl, rfl, rfl, rfl, rfl, rfl, rfl, rfl, rfl, rfl, rfl, trivial⟩ (H.sel [1, 2, 3, 4, 5, 6, 7, 8, 0, 9] rfl) ?_ ?_
   ·
    clear H e
    rintro T2 k2 s2 g2 w8 o2 hk (H : Cx w0 fp0 S0 w8 [Bx b7 [(.int .i64 s__0), (.int .i64 s__1), (.int .i64 s__2), (s__3h).v, (s__4h).v, (s__5h).v, (s__6h).v], Es (List (List Int)) s__3 s__3h, Es (List (List Int)) s__4 s__4h, Es (List (List Int)) s__5 s__5h, Es (List (List Int)) s__6 s__6h, Es (List (Int × List (List Int))) y2 h0, E (List (List (List Int × List Int))) s0 g0, E (List (List Int × List Int)) s1 g1, E (List Int) s2 g2, Gl 0 [.int .i64 2, .int .i64 3, .int .i64 5, .int .i64 7]]) f10
    refine boolE (z := true) (ltLen hk) ?_
    refine sq ?_
    refine sq ?_
    obtain ⟨a3, e, f11⟩ := bindS f10; clear f10
    have HH := H; clear H; obtain ⟨p0, m0, g3, c0, c1, c2, c3, H⟩ := HH.el (α := Int × List (List Int)) 5 rfl e; clear HH
    clear e
    obtain ⟨a3_0, a3_1⟩ := a3
    obtain ⟨_, h4⟩ := g3
    replace H := H.part (β := List (List Int)) a3_1 (h4 : Hd) 0 rfl (fun S h => (And.right h))
    replace H := H.sel [0, 2, 3, 4, 5, 6, 7, 8, 9, 10, 11] rfl
    refine idxE c0 c1 c2 ?_; clear c0 c1 c2
    refine loadN [(.int .i64 a3_0), (h4).v] rfl c3 ?_; clear c3
    refine alloc_ gok rfl H ?_; clear H; intro b0 w9 hx H
    clear hx
    refine stA gok [(.int .i64 a3_0), (h4).v] rfl H rfl rfl rfl ?_; clear H; intro w10 H
    refine fld gok rfl rfl rfl rfl ?_
    refine load1 (H.bx 0 rfl (j := 1) rfl) ?_
    obtain ⟨a4, e, f12⟩ := bindS f11; clear f11
    have HH := H; clear H; obtain ⟨p1, m1, h5, c4, c5, c6, c7, H⟩ := HH.elL 1 rfl e; clear HH
    clear e
    refine idxE c4 c5 c6 ?_; clear c4 c5 c6
    refine load1 c7 ?_; clear c7
    obtain ⟨a5, e, f13⟩ := bindS f12; clear f12
    obtain ⟨p2, m2, c8, c9, c10, c11⟩ := (H.rs (α := List Int) 0 rfl).at1 e; clear e
    refine idxE c8 c9 c10 ?_; clear c8 c9 c10
    refine load1 c11 ?_; clear c11
    refine lit1S (α := Int) gok rfl rfl rfl rfl H ?_; clear H; intro h6 w11 hx H
    clear hx
    obtain ⟨a6, e, f14⟩ := bindS f13; clear f13
    replace H := H.sel [12, 0, 1, 2, 3, 4, 5, 6, 7, 8, 9, 10, 11, 13] rfl
    refine append_ (α := Int) gok rfl rfl rfl rfl H e ?_; clear e H; intro h7 w12 H
    refine arK hk x0 ?_
    have hs := Option.some.inj f14; subst hs; clear f14
    exact ⟨h7, ⟨rfl, rfl, rfl, rfl, rfl, rfl, rfl, rfl, rfl, rfl, rfl, rfl, rfl, rfl, rfl, trivial⟩, H.sel [4, 5, 6, 7, 8, 9, 10, 11, 0, 12] rfl⟩
   ·
    clear H e
    rintro T3 g4 w13 (H : Cx w0 fp0 S0 w13 [Bx b7 [(.int .i64 s__0), (.int .i64 s__1), (.int .i64 s__2), (s__3h).v, (s__4h).v, (s__5h).v, (s__6h).v], Es (List (List Int)) s__3 s__3h, Es (List (List Int)) s__4 s__4h, Es (List (List Int)) s__5 s__5h, Es (List (List Int)) s__6 s__6h, Es (List (Int × List (List Int))) y2 h0, E (List (List (List Int × List Int))) s0 g0, E (List (List Int × List Int)) s1 g1, E (List Int) r2 g4, Gl 0 [.int .i64 2, .int .i64 3, .int .i64 5, .int .i64 7]])
    refine boolE (z := false) geLen ?_
    refine sq ?_
    obtain ⟨y3, e, f15⟩ := bindS f9; clear f9
    obtain ⟨⟨y3_0_0, y3_0_1⟩, y3_1⟩ := y3
    have i1 := e; clear e
    refine callF (impl_FractionOfSeries_c p_ r2 g4 y3_0_0 y3_0_1 y3_1 i1) (Γi := []) H ⟨Vw.own 8 rfl, Vw.gl 9 rfl, trivial⟩ ?_; clear H i1
    rintro _ _ w14 ⟨h8, h9, rfl, rfl⟩ H
    refine alloc_ gok rfl H ?_; clear H; intro b1 w16 hx H
    clear hx
    refine stA gok [(h8).v, (h9).v] rfl H rfl rfl rfl ?_; clear H; intro w17 H
    refine sq ?_
    obtain ⟨a7, e, f16⟩ := bindS f15; clear f15
    refine boolO e ?_; clear e
    cases a7
    ·
     have f17 := condF f16; clear f16
     refine loadN [(h8).v, (h9).v] rfl (fun j u hj => H.bx 0 rfl hj) ?_
     replace H := H.sel [1, 2, 0, 3, 4, 5, 6, 7, 8, 9, 10, 11, 12] rfl
     replace H := H.join (α := List Int) (β := List Int)
     refine lit1 (α := List Int × List Int) (g := (h8, h9)) gok rfl rfl rfl rfl rfl H ?_; clear H; intro h10 w19 hx H
     clear hx
     obtain ⟨a8, e, f18⟩ := bindS f17; clear f17
     replace H := H.sel [9, 0, 1, 2, 3, 4, 5, 6, 7, 8, 10, 11] rfl
     refine append_ (α := List Int × List Int) gok rfl rfl rfl rfl H e ?_; clear e H; intro h11 w20 H
     refine arK hk (maxI hn2296) ?_
     have hs := Option.some.inj f18; subst hs; clear f18
     exact ⟨a8, h11, rfl, ⟨rfl, rfl, rfl, rfl, rfl, rfl, rfl, rfl, rfl, rfl, trivial⟩, H.sel [2, 3, 4, 5, 6, 7, 8, 0, 10] rfl⟩
    ·
     have f19 := condT f16; clear f16
     have hs := Option.some.inj f19; subst hs; clear f19
     have hr := hrt _ rfl; subst hr
     have f20 : some _ = some _ := f7
     have hs := Option.some.inj f20; subst hs; clear f20
     have hr := hrt _ rfl; subst hr
     have f21 : some _ = some _ := f4
     replace H := H.nil (α := List (List Int × List Int))
     cases f21
     exact ⟨_, _, rfl, ⟨nilH, rfl, rfl⟩, (H.sel [0] rfl).close ⟨cloE, trivial⟩⟩
  ·
   clear H e
   rintro T4 s3 g5 w21 hr (H : Cx w0 fp0 S0 w21 [Bx b7 [(.int .i64 s__0), (.int .i64 s__1), (.int .i64 s__2), (s__3h).v, (s__4h).v, (s__5h).v, (s__6h).v], Es (List (List Int)) s__3 s__3h, Es (List (List Int)) s__4 s__4h, Es (List (List Int)) s__5 s__5h, Es (List (List Int)) s__6 s__6h, Es (List (Int × List (List Int))) y2 h0, E (List (List (List Int × List Int))) s0 g0, E (List (List Int × List Int)) s3 g5, Gl 0 [.int .i64 2, .int .i64 3, .int .i64 5, .int .i64 7]])
   subst hr
   refine boolE (z := false) geNat ?_
   refine sq ?_
   replace H := H.sel [7, 0, 1, 2, 3, 4, 5, 6, 8] rfl
   refine lit1 (α := List (List Int × List Int)) (g := g5) gok rfl rfl rfl rfl rfl H ?_; clear H; intro h12 w22 hx H
   clear hx
   obtain ⟨a10, e, f22⟩ := bindS f7; clear f7
   replace H := H.sel [7, 0, 1, 2, 3, 4, 5, 6, 8] rfl
   refine append_ (α := List (List Int × List Int)) gok rfl rfl rfl rfl H e ?_; clear e H; intro h13 w23 H
   refine arK hk (maxI hn1926) ?_
   have hs := Option.some.inj f22; subst hs; clear f22
   exact ⟨a10, h13, rfl, ⟨rfl, rfl, rfl, rfl, rfl, rfl, trivial⟩, H.sel [1, 2, 3, 4, 5, 6, 0, 7] rfl⟩
 ·
  clear H e
  rintro T5 s4 g6 w24 hr (H : Cx w0 fp0 S0 w24 [Bx b7 [(.int .i64 s__0), (.int .i64 s__1), (.int .i64 s__2), (s__3h).v, (s__4h).v, (s__5h).v, (s__6h).v], Es (List (List Int)) s__3 s__3h, Es (List (List Int)) s__4 s__4h, Es (List (List Int)) s__5 s__5h, Es (List (List Int)) s__6 s__6h, Es (List (Int × List (List Int))) y2 h0, E (List (List (List Int × List Int))) s4 g6, Gl 0 [.int .i64 2, .int .i64 3, .int .i64 5, .int .i64 7]])
  subst hr
  refine boolE (z := false) geNat ?_
  refine sq ?_
  cases f4
  exact ⟨_, _, rfl, ⟨g6, rfl, rfl⟩, (H.sel [6] rfl).close ⟨cloE, trivial⟩⟩

theorem impl_TransferOf_c (p_ : Int) (s__0 : Int) (s__1 : Int) (s__2 : Int) (s__3 : List (List Int)) (s__3h : Hd) (s__4 : List (List Int)) (s__4h : Hd) (s__5 : List (List Int)) (s__5h : Hd) (s__6 : List (List Int)) (s__6h : Hd) (y0 : List (List (List Int × List Int))) (y1 : Bool) (hF : F_impl_TransferOf p_ (s__0, s__1, s__2, s__3, s__4, s__5, s__6) = some (y0, y1)) :
  ConF Tryd.prog 7 #[(.int .i64 p_), (.agg #[(.int .i64 s__0), (.int .i64 s__1), (.int .i64 s__2), (s__3h).v, (s__4h).v, (s__5h).v, (s__6h).v])] [Es (List (List Int)) s__3 s__3h, Es (List (List Int)) s__4 s__4h, Es (List (List Int)) s__5 s__5h, Es (List (List Int)) s__6 s__6h, Gl 0 [.int .i64 2, .int .i64 3, .int .i64 5, .int .i64 7]] [] (fun v Γ' => ∃ z0 : Hd, v = (.tuple #[(z0).v, (.bool y1)]) ∧ Γ' = [E (List (List (List Int × List Int))) y0 z0]) := by
 intro w0 S0 fp0 hI hS
 have H : Cx w0 fp0 S0 w0 [Es (List (List Int)) s__3 s__3h, Es (List (List Int)) s__4 s__4h, Es (List (List Int)) s__5 s__5h, Es (List (List Int)) s__6 s__6h, Gl 0 [.int .i64 2, .int .i64 3, .int .i64 5, .int .i64 7]] := Cx.start hI hS
 clear hI hS
 refine enterC (args := [_, _]) gok Tryd.func7 rfl _ rfl rfl rfl ?_
 refine box_ H ?_; clear H; intro b7 w6 hx H
 clear hx
 refine sq ?_
 refine loadN [(.int .i64 s__0), (.int .i64 s__1), (.int .i64 s__2), (s__3h).v, (s__4h).v, (s__5h).v, (s__6h).v] rfl (fun j u hj => H.bx 0 rfl hj) ?_
 obtain ⟨y9, e, f0⟩ := bindS hF; clear hF
 have ey9 := e; clear e
 refine callF (impl_isStateSpace_c p_ s__0 s__1 s__2 s__3 s__3h s__4 s__4h s__5 s__5h s__6 s__6h y9 ey9) (Γi := []) H ⟨Vw.sh 1 rfl, Vw.sh 2 rfl, Vw.sh 3 rfl, Vw.sh 4 rfl, Vw.gl 5 rfl, trivial⟩ ?_; clear H ey9
 rintro _ _ w1 ⟨rfl, rfl⟩ H
 obtain ⟨a0, e, f1⟩ := bindS f0; clear f0
 refine boolO e ?_; clear e
 cases a0
 ·
  have f2 := condF f1; clear f1
  refine loadN [(.int .i64 s__0), (.int .i64 s__1), (.int .i64 s__2), (s__3h).v, (s__4h).v, (s__5h).v, (s__6h).v] rfl (fun j u hj => H.bx 0 rfl hj) ?_
  obtain ⟨y2, e, f3⟩ := bindS f2; clear f2
  obtain ⟨y2_0, y2_1⟩ := y2
  have i0 := e; clear e
  refine callF (impl_StateSpace_transfer_c s__0 s__1 s__2 s__3 s__3h s__4 s__4h s__5 s__5h s__6 s__6h p_ y2_0 y2_1 i0) (Γi := []) H ⟨Vw.sh 1 rfl, Vw.sh 2 rfl, Vw.sh 3 rfl, Vw.sh 4 rfl, Vw.gl 5 rfl, trivial⟩ ?_; clear H i0
  rintro _ _ w2 ⟨h0, rfl, rfl⟩ H
  cases f3
  exact ⟨_, _, rfl, ⟨h0, rfl, rfl⟩, (H.sel [0] rfl).close ⟨cloE, trivial⟩⟩
 ·
  have f4 := condT f1; clear f1
  replace H := H.nil (α := List (List Int × List Int))
  cases f4
  exact ⟨_, _, rfl, ⟨nilH, rfl, rfl⟩, (H.sel [0] rfl).close ⟨cloE, trivial⟩⟩

theorem laws_eqIntS_c (a_ : List Int) (a_h : Hd) (b_ : List Int) (b_h : Hd) (y : Bool) (hF : F_laws_eqIntS a_ b_ = some y) :
  ConF Tryd.prog 43 #[(a_h).v, (b_h).v] [Es (List Int) a_ a_h, Es (List Int) b_ b_h] [] (fun v Γ' => v = (.bool y) ∧ Γ' = []) := by
 intro w0 S0 fp0 hI hS
 have H : Cx w0 fp0 S0 w0 [Es (List Int) a_ a_h, Es (List Int) b_ b_h] := Cx.start hI hS
 clear hI hS
 refine enterC (args := [_, _]) gok Tryd.func43 rfl _ rfl rfl rfl ?_
 refine sq ?_
 refine lenE (H.rs (α := List Int) 0 rfl).len ?_
 refine lenE (H.rs (α := List Int) 1 rfl).len ?_
 obtain ⟨a3, e, hF4⟩ := bindS hF; clear hF
 refine boolO e ?_; clear e
 cases a3
 ·
  have hF5 := condF hF4; clear hF4
  obtain ⟨r0, f0, f1⟩ := bindS hF5; clear hF5
  refine cut (fun (q0 : Unit) => []) (fun (q0 : Unit) w' => .inl () = r0 ∧ Cx w0 fp0 S0 w' []) ?_ ?_
  ·
   refine loopW _ (fun (s0 : Int) (_ : Unit) => [(0, (a_h).v), (1, (b_h).v), (5, (.int .i64 s0))]) (fun (s0 : Int) (_ : Unit) w' => Cx w0 fp0 S0 w' [Es (List Int) a_ a_h, Es (List Int) b_ b_h]) 0 () f0 ⟨rfl, rfl, rfl, trivial⟩ (H.sel [0, 1] rfl) ?_
   ·
    clear H
    rintro T0 s0 _ w1 o0 (H : Cx w0 fp0 S0 w1 [Es (List Int) a_ a_h, Es (List Int) b_ b_h]) hrt f2
    refine sq ?_
    refine lenE (H.rs (α := List Int) 0 rfl).len ?_
    obtain ⟨a0, e, f3⟩ := bindS f2; clear f2
    refine boolO e ?_; clear e
    cases a0
    ·
     have f4 := condF f3; clear f3
     have hs := Option.some.inj f4; subst hs; clear f4
     have f5 : some _ = some _ := congrArg some (hrt _ rfl).symm
     exact ⟨(), trivial, Option.some.inj f5, H.sel [] rfl⟩
    ·
     have f6 := condT f3; clear f3
     refine sq ?_
     refine heldX H [] (.fst 0 (.fst 1 (.fst 2 (.fst 4 (.fst 5 (.fst 6 (.fst 3 (.fst 7 (.fst 8 .done))))))))) mixed [] trivial (by kernel_rfl) ?_
     clear H; intro w2 H
     have hX : Ext w2 w2 := Upd.refl _ _
     have H0 := H
     obtain ⟨a1, e, f7⟩ := bindS f6; clear f6
     obtain ⟨p0, m0, c0, c1, c2, c3⟩ := (H.rs (α := List Int) 0 rfl).at1 e; clear e
     refine idxE c0 c1 c2 ?_; clear c0 c1 c2
     obtain ⟨a2, e, f8⟩ := bindS f7; clear f7
     obtain ⟨p1, m1, c4, c5, c6, c7⟩ := (H.rs (α := List Int) 1 rfl).at1 e; clear e
     refine idxE c4 c5 c6 ?_; clear c4 c5 c6
     refine load1X c3 ?_; clear c3
     refine load1X c7 ?_; clear c7
     obtain ⟨a4, e, f9⟩ := bindS f8; clear f8
     refine boolO e ?_; clear e
     cases a4
     ·
      have f10 := condF f9; clear f9
      obtain ⟨a5, e, f11⟩ := bindS f10; clear f10
      refine arO e ?_; clear e
      have hs := Option.some.inj f11; subst hs; clear f11
      exact ⟨a5, (), rfl, ⟨rfl, rfl, rfl, trivial⟩, H.sel [0, 1] rfl⟩
     ·
      have f12 := condT f9; clear f9
      have hs := Option.some.inj f12; subst hs; clear f12
      have f13 : some _ = some _ := congrArg some (hrt _ rfl).symm
      have hs := Option.some.inj f13; subst hs; clear f13
      have f14 : some _ = some _ := f1; clear f1
      cases f14
      exact ⟨_, _, rfl, ⟨rfl, rfl⟩, (H.sel [] rfl).close trivial⟩
  ·
   clear f0 H
   rintro T1 _ w3 ⟨hr, (H : Cx w0 fp0 S0 w3 [])⟩
   subst hr
   cases f1
   exact ⟨_, _, rfl, ⟨rfl, rfl⟩, (H.sel [] rfl).close trivial⟩
 ·
  have f15 := condT hF4; clear hF4
  cases f15
  exact ⟨_, _, rfl, ⟨rfl, rfl⟩, (H.sel [] rfl).close trivial⟩

theorem laws_eqFraction_c (a__0 : List Int) (a__0h : Hd) (a__1 : List Int) (a__1h : Hd) (b__0 : List Int) (b__0h : Hd) (b__1 : List Int) (b__1h : Hd) (y : Bool) (hF : F_laws_eqFraction (a__0, a__1) (b__0, b__1) = some y) :
  ConF Tryd.prog 42 #[(.agg #[(a__0h).v, (a__1h).v]), (.agg #[(b__0h).v, (b__1h).v])] [Es (List Int) a__0 a__0h, Es (List Int) a__1 a__1h, Es (List Int) b__0 b__0h, Es (List Int) b__1 b__1h] [] (fun v Γ' => v = (.bool y) ∧ Γ' = []) := by
 intro w0 S0 fp0 hI hS
 have H : Cx w0 fp0 S0 w0 [Es (List Int) a__0 a__0h, Es (List Int) a__1 a__1h, Es (List Int) b__0 b__0h, Es (List Int) b__1 b__1h] := Cx.start hI hS
 clear hI hS
 refine enterC (args := [_, _]) gok Tryd.func42 rfl _ rfl rfl rfl ?_
 refine box_ H ?_; clear H; intro b6 w5 hx H
 clear hx
 refine box_ H ?_; clear H; intro b9 w8 hx H
 clear hx
 refine sq ?_
 refine fld gok rfl rfl rfl rfl ?_
 refine load1 (H.bx 1 rfl (j := 0) rfl) ?_
 refine fld gok rfl rfl rfl rfl ?_
 refine load1 (H.bx 0 rfl (j := 0) rfl) ?_
 obtain ⟨y0, e, f0⟩ := bindS hF; clear hF
 have i0 := e; clear e
 refine callF (laws_eqIntS_c a__0 a__0h b__0 b__0h y0 i0) (Γi := []) H ⟨Vw.sh 2 rfl, Vw.sh 4 rfl, trivial⟩ ?_; clear H i0
 rintro _ _ w1 ⟨rfl, rfl⟩ H
 obtain ⟨a0, e, f1⟩ := bindS f0; clear f0
 refine boolO e ?_; clear e
 cases a0
 ·
  have f2 := condF f1; clear f1
  refine sq ?_
  refine fld gok rfl rfl rfl rfl ?_
  refine load1 (H.bx 1 rfl (j := 1) rfl) ?_
  refine fld gok rfl rfl rfl rfl ?_
  refine load1 (H.bx 0 rfl (j := 1) rfl) ?_
  obtain ⟨y1, e, f3⟩ := bindS f2; clear f2
  have i1 := e; clear e
  refine callF (laws_eqIntS_c a__1 a__1h b__1 b__1h y1 i1) (Γi := []) H ⟨Vw.sh 3 rfl, Vw.sh 5 rfl, trivial⟩ ?_; clear H i1
  rintro _ _ w2 ⟨rfl, rfl⟩ H
  obtain ⟨a1, e, f4⟩ := bindS f3; clear f3
  refine boolO e ?_; clear e
  cases a1
  ·
   have f5 := condF f4; clear f4
   cases f5
   exact ⟨_, _, rfl, ⟨rfl, rfl⟩, (H.sel [] rfl).close trivial⟩
  ·
   have f6 := condT f4; clear f4
   cases f6
   exact ⟨_, _, rfl, ⟨rfl, rfl⟩, (H.sel [] rfl).close trivial⟩
 ·
  have f7 := condT f1; clear f1
  cases f7
  exact ⟨_, _, rfl, ⟨rfl, rfl⟩, (H.sel [] rfl).close trivial⟩

theorem laws_eqFractionS_c (a_ : List (List Int × List Int)) (a_h : Hd) (b_ : List (List Int × List Int)) (b_h : Hd) (y : Bool) (hF : F_laws_eqFractionS a_ b_ = some y) :
  ConF Tryd.prog 20 #[(a_h).v, (b_h).v] [Es (List (List Int × List Int)) a_ a_h, Es (List (List Int × List Int)) b_ b_h] [] (fun v Γ' => v = (.bool y) ∧ Γ' = []) := by
 intro w0 S0 fp0 hI hS
 have H : Cx w0 fp0 S0 w0 [Es (List (List Int × List Int)) a_ a_h, Es (List (List Int × List Int)) b_ b_h] := Cx.start hI hS
 clear hI hS
 refine enterC (args := [_, _]) gok Tryd.func20 rfl _ rfl rfl rfl ?_
 refine sq ?_
 refine lenE (H.rs (α := List (List Int × List Int)) 0 rfl).len ?_
 refine lenE (H.rs (α := List (List Int × List Int)) 1 rfl).len ?_
 obtain ⟨a3, e, hF4⟩ := bindS hF; clear hF
 refine boolO e ?_; clear e
 cases a3
 ·
  have hF5 := condF hF4; clear hF4
  obtain ⟨r0, f0, f1⟩ := bindS hF5; clear hF5
  refine cut (fun (q0 : Unit) => []) (fun (q0 : Unit) w' => .inl () = r0 ∧ Cx w0 fp0 S0 w' []) ?_ ?_
  ·
   refine loopW _ (fun (s0 : Int) (_ : Unit) => [(0, (a_h).v), (1, (b_h).v), (5, (.int .i64 s0))]) (fun (s0 : Int) (_ : Unit) w' => Cx w0 fp0 S0 w' [Es (List (List Int × List Int)) a_ a_h, Es (List (List Int × List Int)) b_ b_h]) 0 () f0 ⟨rfl, rfl, rfl, trivial⟩ (H.sel [0, 1] rfl) ?_
   ·
    clear H
    rintro T0 s0 _ w1 o0 (H : Cx w0 fp0 S0 w1 [Es (List (List Int × List Int)) a_ a_h, Es (List (List Int × List Int)) b_ b_h]) hrt f2
    refine sq ?_
    refine lenE (H.rs (α := List (List Int × List Int)) 0 rfl).len ?_
    obtain ⟨a0, e, f3⟩ := bindS f2; clear f2
    refine boolO e ?_; clear e
    cases a0
    ·
     have f4 := condF f3; clear f3
     have hs := Option.some.inj f4; subst hs; clear f4
     have f5 : some _ = some _ := congrArg some (hrt _ rfl).symm
     exact ⟨(), trivial, Option.some.inj f5, H.sel [] rfl⟩
    ·
     have f6 := condT f3; clear f3
     refine sq ?_
     refine heldX H [] (.fst 0 (.fst 1 (.fst 2 (.fst 4 (.fst 5 (.fst 6 (.fst 3 (.fst 7 (.act 8 (.fst 9 .done)))))))))) mixed [] trivial (by kernel_rfl) ?_
     clear H; intro w2 H
     have hX : Ext w2 w2 := Upd.refl _ _
     have H0 := H
     obtain ⟨a1, e, f7⟩ := bindS f6; clear f6
     have HH := H; clear H; obtain ⟨p0, m0, g0, c0, c1, c2, c3, H⟩ := HH.el (α := List Int × List Int) 0 rfl e; clear HH
     clear e
     obtain ⟨a1_0, a1_1⟩ := a1
     obtain ⟨h0, h1⟩ := g0
     replace H := H.part (β := List Int) a1_0 (h0 : Hd) 0 rfl (fun S h => (And.left h))
     replace H := H.part (β := List Int) a1_1 (h1 : Hd) 1 rfl (fun S h => (And.right h))
     replace H := H.sel [0, 1, 3, 4] rfl
     refine idxE c0 c1 c2 ?_; clear c0 c1 c2
     obtain ⟨a2, e, f8⟩ := bindS f7; clear f7
     have HH := H; clear H; obtain ⟨p1, m1, g1, c4, c5, c6, c7, H⟩ := HH.el (α := List Int × List Int) 3 rfl e; clear HH
     clear e
     obtain ⟨a2_0, a2_1⟩ := a2
     obtain ⟨h2, h3⟩ := g1
     replace H := H.part (β := List Int) a2_0 (h2 : Hd) 0 rfl (fun S h => (And.left h))
     replace H := H.part (β := List Int) a2_1 (h3 : Hd) 1 rfl (fun S h => (And.right h))
     replace H := H.sel [0, 1, 3, 4, 5, 6] rfl
     refine idxE c4 c5 c6 ?_; clear c4 c5 c6
     refine loadNX [(h0).v, (h1).v] rfl c3 ?_; clear c3
     refine loadNX [(h2).v, (h3).v] rfl c7 ?_; clear c7
     obtain ⟨y0, e, f9⟩ := bindS f8; clear f8
     have i0 := e; clear e
     refine callFx (laws_eqFraction_c a1_0 h0 a1_1 h1 a2_0 h2 a2_1 h3 y0 i0) H ⟨Vw.sh 3 rfl, Vw.sh 2 rfl, Vw.sh 1 rfl, Vw.sh 0 rfl, trivial⟩ ?_; clear H i0
     rintro _ _ w3 ⟨rfl, rfl⟩ hx H
     replace hX := hX.trans0 hx; clear hx
     refine hold hX ?_
     obtain ⟨a4, e, f10⟩ := bindS f9; clear f9
     refine boolO e ?_; clear e
     cases a4
     ·
      have f11 := condF f10; clear f10
      obtain ⟨a5, e, f12⟩ := bindS f11; clear f11
      refine arO e ?_; clear e
      have hs := Option.some.inj f12; subst hs; clear f12
      exact ⟨a5, (), rfl, ⟨rfl, rfl, rfl, trivial⟩, H.sel [4, 5] rfl⟩
     ·
      have f13 := condT f10; clear f10
      have hs := Option.some.inj f13; subst hs; clear f13
      have f14 : some _ = some _ := congrArg some (hrt _ rfl).symm
      have hs := Option.some.inj f14; subst hs; clear f14
      have f15 : some _ = some _ := f1; clear f1
      cases f15
      exact ⟨_, _, rfl, ⟨rfl, rfl⟩, (H.sel [] rfl).close trivial⟩
  ·
   clear f0 H
   rintro T1 _ w4 ⟨hr, (H : Cx w0 fp0 S0 w4 [])⟩
   subst hr
   cases f1
   exact ⟨_, _, rfl, ⟨rfl, rfl⟩, (H.sel [] rfl).close trivial⟩
 ·
  have f16 := condT hF4; clear hF4
  cases f16
  exact ⟨_, _, rfl, ⟨rfl, rfl⟩, (H.sel [] rfl).close trivial⟩

theorem laws_eqFractionSS_c (a_ : List (List (List Int × List Int))) (a_h : Hd) (b_ : List (List (List Int × List Int))) (b_h : Hd) (y : Bool) (hF : F_laws_eqFractionSS a_ b_ = some y) :
  ConF Tryd.prog 8 #[(a_h).v, (b_h).v] [Es (List (List (List Int × List Int))) a_ a_h, Es (List (List (List Int × List Int))) b_ b_h] [] (fun v Γ' => v = (.bool y) ∧ Γ' = []) := by
 intro w0 S0 fp0 hI hS
 have H : Cx w0 fp0 S0 w0 [Es (List (List (List Int × List Int))) a_ a_h, Es (List (List (List Int × List Int))) b_ b_h] := Cx.start hI hS
 clear hI hS
 refine enterC (args := [_, _]) gok Tryd.func8 rfl _ rfl rfl rfl ?_
 refine sq ?_
 refine lenE (H.rs (α := List (List (List Int × List Int))) 0 rfl).len ?_
 refine lenE (H.rs (α := List (List (List Int × List Int))) 1 rfl).len ?_
 obtain ⟨a3, e, hF4⟩ := bindS hF; clear hF
 refine boolO e ?_; clear e
 cases a3
 ·
  have hF5 := condF hF4; clear hF4
  obtain ⟨r0, f0, f1⟩ := bindS hF5; clear hF5
  refine cut (fun (q0 : Unit) => []) (fun (q0 : Unit) w' => .inl () = r0 ∧ Cx w0 fp0 S0 w' []) ?_ ?_
  ·
   refine loopW _ (fun (s0 : Int) (_ : Unit) => [(0, (a_h).v), (1, (b_h).v), (5, (.int .i64 s0))]) (fun (s0 : Int) (_ : Unit) w' => Cx w0 fp0 S0 w' [Es (List (List (List Int × List Int))) a_ a_h, Es (List (List (List Int × List Int))) b_ b_h]) 0 () f0 ⟨rfl, rfl, rfl, trivial⟩ (H.sel [0, 1] rfl) ?_
   ·
    clear H
    rintro T0 s0 _ w1 o0 (H : Cx w0 fp0 S0 w1 [Es (List (List (List Int × List Int))) a_ a_h, Es (List (List (List Int × List Int))) b_ b_h]) hrt f2
    refine sq ?_
    refine lenE (H.rs (α := List (List (List Int × List Int))) 0 rfl).len ?_
    obtain ⟨a0, e, f3⟩ := bindS f2; clear f2
    refine boolO e ?_; clear e
    cases a0
    ·
     have f4 := condF f3; clear f3
     have hs := Option.some.inj f4; subst hs; clear f4
     have f5 : some _ = some _ := congrArg some (hrt _ rfl).symm
     exact ⟨(), trivial, Option.some.inj f5, H.sel [] rfl⟩
    ·
     have f6 := condT f3; clear f3
     refine sq ?_
     refine heldX H [] (.fst 0 (.fst 1 (.fst 2 (.fst 4 (.fst 5 (.fst 6 (.fst 3 (.fst 7 (.act 8 (.fst 9 .done)))))))))) mixed [] trivial (by kernel_rfl) ?_
     clear H; intro w2 H
     have hX : Ext w2 w2 := Upd.refl _ _
     have H0 := H
     obtain ⟨a1, e, f7⟩ := bindS f6; clear f6
     have HH := H; clear H; obtain ⟨p0, m0, h0, c0, c1, c2, c3, H⟩ := HH.elL 0 rfl e; clear HH
     clear e
     refine idxE c0 c1 c2 ?_; clear c0 c1 c2
     obtain ⟨a2, e, f8⟩ := bindS f7; clear f7
     have HH := H; clear H; obtain ⟨p1, m1, h1, c4, c5, c6, c7, H⟩ := HH.elL 2 rfl e; clear HH
     clear e
     refine idxE c4 c5 c6 ?_; clear c4 c5 c6
     refine load1X c3 ?_; clear c3
     refine load1X c7 ?_; clear c7
     obtain ⟨y0, e, f9⟩ := bindS f8; clear f8
     have i0 := e; clear e
     refine callFx (laws_eqFractionS_c a1 h0 a2 h1 y0 i0) H ⟨Vw.sh 1 rfl, Vw.sh 0 rfl, trivial⟩ ?_; clear H i0
     rintro _ _ w3 ⟨rfl, rfl⟩ hx H
     replace hX := hX.trans0 hx; clear hx
     refine hold hX ?_
     obtain ⟨a4, e, f10⟩ := bindS f9; clear f9
     refine boolO e ?_; clear e
     cases a4
     ·
      have f11 := condF f10; clear f10
      obtain ⟨a5, e, f12⟩ := bindS f11; clear f11
      refine arO e ?_; clear e
      have hs := Option.some.inj f12; subst hs; clear f12
      exact ⟨a5, (), rfl, ⟨rfl, rfl, rfl, trivial⟩, H.sel [2, 3] rfl⟩
     ·
      have f13 := condT f10; clear f10
      have hs := Option.some.inj f13; subst hs; clear f13
      have f14 : some _ = some _ := congrArg some (hrt _ rfl).symm
      have hs := Option.some.inj f14; subst hs; clear f14
      have f15 : some _ = some _ := f1; clear f1
      cases f15
      exact ⟨_, _, rfl, ⟨rfl, rfl⟩, (H.sel [] rfl).close trivial⟩
  ·
   clear f0 H
   rintro T1 _ w4 ⟨hr, (H : Cx w0 fp0 S0 w4 [])⟩
   subst hr
   cases f1
   exact ⟨_, _, rfl, ⟨rfl, rfl⟩, (H.sel [] rfl).close trivial⟩
 ·
  have f16 := condT hF4; clear hF4
  cases f16
  exact ⟨_, _, rfl, ⟨rfl, rfl⟩, (H.sel [] rfl).close trivial⟩

theorem laws_eqIntSS_c (a_ : List (List Int)) (a_h : Hd) (b_ : List (List Int)) (b_h : Hd) (y : Bool) (hF : F_laws_eqIntSS a_ b_ = some y) :
  ConF Tryd.prog 21 #[(a_h).v, (b_h).v] [Es (List (List Int)) a_ a_h, Es (List (List Int)) b_ b_h] [] (fun v Γ' => v = (.bool y) ∧ Γ' = []) := by
 intro w0 S0 fp0 hI hS
 have H : Cx w0 fp0 S0 w0 [Es (List (List Int)) a_ a_h, Es (List (List Int)) b_ b_h] := Cx.start hI hS
 clear hI hS
 refine enterC (args := [_, _]) gok Tryd.func21 rfl _ rfl rfl rfl ?_
 refine sq ?_
 refine lenE (H.rs (α := List (List Int)) 0 rfl).len ?_
 refine lenE (H.rs (α := List (List Int)) 1 rfl).len ?_
 obtain ⟨a3, e, hF4⟩ := bindS hF; clear hF
 refine boolO e ?_; clear e
 cases a3
 ·
  have hF5 := condF hF4; clear hF4
  obtain ⟨r0, f0, f1⟩ := bindS hF5; clear hF5
  refine cut (fun (q0 : Unit) => []) (fun (q0 : Unit) w' => .inl () = r0 ∧ Cx w0 fp0 S0 w' []) ?_ ?_
  ·
   refine loopW _ (fun (s0 : Int) (_ : Unit) => [(0, (a_h).v), (1, (b_h).v), (5, (.int .i64 s0))]) (fun (s0 : Int) (_ : Unit) w' => Cx w0 fp0 S0 w' [Es (List (List Int)) a_ a_h, Es (List (List Int)) b_ b_h]) 0 () f0 ⟨rfl, rfl, rfl, trivial⟩ (H.sel [0, 1] rfl) ?_
   ·
    clear H
    rintro T0 s0 _ w1 o0 (H : Cx w0 fp0 S0 w1 [Es (List (List Int)) a_ a_h, Es (List (List Int)) b_ b_h]) hrt f2
    refine sq ?_
    refine lenE (H.rs (α := List (List Int)) 0 rfl).len ?_
    obtain ⟨a0, e, f3⟩ := bindS f2; clear f2
    refine boolO e ?_; clear e
    cases a0
    ·
     have f4 := condF f3; clear f3
     have hs := Option.some.inj f4; subst hs; clear f4
     have f5 : some _ = some _ := congrArg some (hrt _ rfl).symm
     exact ⟨(), trivial, Option.some.inj f5, H.sel [] rfl⟩
    ·
     have f6 := condT f3; clear f3
     refine sq ?_
     refine heldX H [] (.fst 0 (.fst 1 (.fst 2 (.fst 4 (.fst 5 (.fst 6 (.fst 3 (.fst 7 (.act 8 (.fst 9 .done)))))))))) mixed [] trivial (by kernel_rfl) ?_
     clear H; intro w2 H
     have hX : Ext w2 w2 := Upd.refl _ _
     have H0 := H
     obtain ⟨a1, e, f7⟩ := bindS f6; clear f6
     have HH := H; clear H; obtain ⟨p0, m0, h0, c0, c1, c2, c3, H⟩ := HH.elL 0 rfl e; clear HH
     clear e
     refine idxE c0 c1 c2 ?_; clear c0 c1 c2
     obtain ⟨a2, e, f8⟩ := bindS f7; clear f7
     have HH := H; clear H; obtain ⟨p1, m1, h1, c4, c5, c6, c7, H⟩ := HH.elL 2 rfl e; clear HH
     clear e
     refine idxE c4 c5 c6 ?_; clear c4 c5 c6
     refine load1X c3 ?_; clear c3
     refine load1X c7 ?_; clear c7
     obtain ⟨y0, e, f9⟩ := bindS f8; clear f8
     have i0 := e; clear e
     refine callFx (laws_eqIntS_c a1 h0 a2 h1 y0 i0) H ⟨Vw.sh 1 rfl, Vw.sh 0 rfl, trivial⟩ ?_; clear H i0
     rintro _ _ w3 ⟨rfl, rfl⟩ hx H
     replace hX := hX.trans0 hx; clear hx
     refine hold hX ?_
     obtain ⟨a4, e, f10⟩ := bindS f9; clear f9
     refine boolO e ?_; clear e
     cases a4
     ·
      have f11 := condF f10; clear f10
      obtain ⟨a5, e, f12⟩ := bindS f11; clear f11
      refine arO e ?_; clear e
      have hs := Option.some.inj f12; subst hs; clear f12
      exact ⟨a5, (), rfl, ⟨rfl, rfl, rfl, trivial⟩, H.sel [2, 3] rfl⟩
     ·
      have f13 := condT f10; clear f10
      have hs := Option.some.inj f13; subst hs; clear f13
      have f14 : some _ = some _ := congrArg some (hrt _ rfl).symm
      have hs := Option.some.inj f14; subst hs; clear f14
      have f15 : some _ = some _ := f1; clear f1
      cases f15
      exact ⟨_, _, rfl, ⟨rfl, rfl⟩, (H.sel [] rfl).close trivial⟩
  ·
   clear f0 H
   rintro T1 _ w4 ⟨hr, (H : Cx w0 fp0 S0 w4 [])⟩
   subst hr
   cases f1
   exact ⟨_, _, rfl, ⟨rfl, rfl⟩, (H.sel [] rfl).close trivial⟩
 ·
  have f16 := condT hF4; clear hF4
  cases f16
  exact ⟨_, _, rfl, ⟨rfl, rfl⟩, (H.sel [] rfl).close trivial⟩

theorem laws_eqStateSpace_c (a__0 : Int) (a__1 : Int) (a__2 : Int) (a__3 : List (List Int)) (a__3h : Hd) (a__4 : List (List Int)) (a__4h : Hd) (a__5 : List (List Int)) (a__5h : Hd) (a__6 : List (List Int)) (a__6h : Hd) (b__0 : Int) (b__1 : Int) (b__2 : Int) (b__3 : List (List Int)) (b__3h : Hd) (b__4 : List (List Int)) (b__4h : Hd) (b__5 : List (List Int)) (b__5h : Hd) (b__6 : List (List Int)) (b__6h : Hd) (y : Bool) (hF : F_laws_eqStateSpace (a__0, a__1, a__2, a__3, a__4, a__5, a__6) (b__0, b__1, b__2, b__3, b__4, b__5, b__6) = some y) :
  ConF Tryd.prog 9 #[(.agg #[(.int .i64 a__0), (.int .i64 a__1), (.int .i64 a__2), (a__3h).v, (a__4h).v, (a__5h).v, (a__6h).v]), (.agg #[(.int .i64 b__0), (.int .i64 b__1), (.int .i64 b__2), (b__3h).v, (b__4h).v, (b__5h).v, (b__6h).v])] [Es (List (List Int)) a__3 a__3h, Es (List (List Int)) a__4 a__4h, Es (List (List Int)) a__5 a__5h, Es (List (List Int)) a__6 a__6h, Es (List (List Int)) b__3 b__3h, Es (List (List Int)) b__4 b__4h, Es (List (List Int)) b__5 b__5h, Es (List (List Int)) b__6 b__6h] [] (fun v Γ' => v = (.bool y) ∧ Γ' = []) := by
 intro w0 S0 fp0 hI hS
 have H : Cx w0 fp0 S0 w0 [Es (List (List Int)) a__3 a__3h, Es (List (List Int)) a__4 a__4h, Es (List (List Int)) a__5 a__5h, Es (List (List Int)) a__6 a__6h, Es (List (List Int)) b__3 b__3h, Es (List (List Int)) b__4 b__4h, Es (List (List Int)) b__5 b__5h, Es (List (List Int)) b__6 b__6h] := Cx.start hI hS
 clear hI hS
 refine enterC (args := [_, _]) gok Tryd.func9 rfl _ rfl rfl rfl ?_
 refine box_ H ?_; clear H; intro b0 w9 hx H
 clear hx
 refine box_ H ?_; clear H; intro b1 w1 hx H
 clear hx
 refine sq ?_
 refine fld gok rfl rfl rfl rfl ?_
 refine load1 (H.bx 1 rfl (j := 0) rfl) ?_
 refine fld gok rfl rfl rfl rfl ?_
 refine load1 (H.bx 0 rfl (j := 0) rfl) ?_
 obtain ⟨a0, e, f0⟩ := bindS hF; clear hF
 refine boolO e ?_; clear e
 cases a0
 ·
  have f1 := condF f0; clear f0
  refine sq ?_
  refine fld gok rfl rfl rfl rfl ?_
  refine load1 (H.bx 1 rfl (j := 1) rfl) ?_
  refine fld gok rfl rfl rfl rfl ?_
  refine load1 (H.bx 0 rfl (j := 1) rfl) ?_
  obtain ⟨a1, e, f2⟩ := bindS f1; clear f1
  refine boolO e ?_; clear e
  cases a1
  ·
   have f3 := condF f2; clear f2
   refine sq ?_
   refine fld gok rfl rfl rfl rfl ?_
   refine load1 (H.bx 1 rfl (j := 2) rfl) ?_
   refine fld gok rfl rfl rfl rfl ?_
   refine load1 (H.bx 0 rfl (j := 2) rfl) ?_
   obtain ⟨a2, e, f4⟩ := bindS f3; clear f3
   refine boolO e ?_; clear e
   cases a2
   ·
    have f5 := condF f4; clear f4
    refine sq ?_
    refine fld gok rfl rfl rfl rfl ?_
    refine load1 (H.bx 1 rfl (j := 3) rfl) ?_
    refine fld gok rfl rfl rfl rfl ?_
    refine load1 (H.bx 0 rfl (j := 3) rfl) ?_
    obtain ⟨y0, e, f6⟩ := bindS f5; clear f5
    have i0 := e; clear e
    refine callF (laws_eqIntSS_c a__3 a__3h b__3 b__3h y0 i0) (Γi := []) H ⟨Vw.sh 2 rfl, Vw.sh 6 rfl, trivial⟩ ?_; clear H i0
    rintro _ _ w2 ⟨rfl, rfl⟩ H
    obtain ⟨a3, e, f7⟩ := bindS f6; clear f6
    refine boolO e ?_; clear e
    cases a3
    ·
     have f8 := condF f7; clear f7
     refine sq ?_
     refine fld gok rfl rfl rfl rfl ?_
     refine load1 (H.bx 1 rfl (j := 4) rfl) ?_
     refine fld gok rfl rfl rfl rfl ?_
     refine load1 (H.bx 0 rfl (j := 4) rfl) ?_
     obtain ⟨y1, e, f9⟩ := bindS f8; clear f8
     have i1 := e; clear e
     refine callF (laws_eqIntSS_c a__4 a__4h b__4 b__4h y1 i1) (Γi := []) H ⟨Vw.sh 3 rfl, Vw.sh 7 rfl, trivial⟩ ?_; clear H i1
     rintro _ _ w3 ⟨rfl, rfl⟩ H
     obtain ⟨a4, e, f10⟩ := bindS f9; clear f9
     refine boolO e ?_; clear e
     cases a4
     ·
      have f11 := condF f10; clear f10
      refine sq ?_
      refine fld gok rfl rfl rfl rfl ?_
      refine load1 (H.bx 1 rfl (j := 5) rfl) ?_
      refine fld gok rfl rfl rfl rfl ?_
      refine load1 (H.bx 0 rfl (j := 5) rfl) ?_
      obtain ⟨y2, e, f12⟩ := bindS f11; clear f11
      have i2 := e; clear e
      refine callF (laws_eqIntSS_c a__5 a__5h b__5 b__5h y2 i2) (Γi := []) H ⟨Vw.sh 4 rfl, Vw.sh 8 rfl, trivial⟩ ?_; clear H i2
      rintro _ _ w4 ⟨rfl, rfl⟩ H
      obtain ⟨a5, e, f13⟩ := bindS f12; clear f12
      refine boolO e ?_; clear e
      cases a5
      ·
       have f14 := condF f13; clear f13
       refine sq ?_
       refine fld gok rfl rfl rfl rfl ?_
       refine load1 (H.bx 1 rfl (j := 6) rfl) ?_
       refine fld gok rfl rfl rfl rfl ?_
       refine load1 (H.bx 0 rfl (j := 6) rfl) ?_
       obtain ⟨y3, e, f15⟩ := bindS f14; clear f14
       have i3 := e; clear e
       refine callF (laws_eqIntSS_c a__6 a__6h b__6 b__6h y3 i3) (Γi := []) H ⟨Vw.sh 5 rfl, Vw.sh 9 rfl, trivial⟩ ?_; clear H i3
       rintro _ _ w5 ⟨rfl, rfl⟩ H
       obtain ⟨a6, e, f16⟩ := bindS f15; clear f15
       refine boolO e ?_; clear e
       cases a6
       ·
        have f17 := condF f16; clear f16
        cases f17
        exact ⟨_, _, rfl, ⟨rfl, rfl⟩, (H.sel [] rfl).close trivial⟩
       ·
        have f18 := condT f16; clear f16
        cases f18
        exact ⟨_, _, rfl, ⟨rfl, rfl⟩, (H.sel [] rfl).close trivial⟩
      ·
       have f19 := condT f13; clear f13
       cases f19
       exact ⟨_, _, rfl, ⟨rfl, rfl⟩, (H.sel [] rfl).close trivial⟩
     ·
      have f20 := condT f10; clear f10
      cases f20
      exact ⟨_, _, rfl, ⟨rfl, rfl⟩, (H.sel [] rfl).close trivial⟩
    ·
     have f21 := condT f7; clear f7
     cases f21
     exact ⟨_, _, rfl, ⟨rfl, rfl⟩, (H.sel [] rfl).close trivial⟩
   ·
    have f22 := condT f4; clear f4
    cases f22
    exact ⟨_, _, rfl, ⟨rfl, rfl⟩, (H.sel [] rfl).close trivial⟩
  ·
   have f23 := condT f2; clear f2
   cases f23
   exact ⟨_, _, rfl, ⟨rfl, rfl⟩, (H.sel [] rfl).close trivial⟩
 ·
  have f24 := condT f0; clear f0
  cases f24
  exact ⟨_, _, rfl, ⟨rfl, rfl⟩, (H.sel [] rfl).close trivial⟩

theorem laws_markIntS_c (a_ : List Int) (a_h : Hd) (k_ : Int) (y0 : List Int) (y1 : Int) (hF : F_laws_markIntS a_ k_ = some (y0, y1)) :
  ConF Tryd.prog 44 #[(a_h).v, (.int .i64 k_)] [] [E (List Int) a_ a_h] (fun v Γ' => v = (.int .i64 y1) ∧ Γ' = [E (List Int) y0 a_h]) := by
 intro w0 S0 fp0 hI hS
 have H : Cx w0 fp0 S0 w0 [E (List Int) a_ a_h] := Cx.start hI hS
 clear hI hS
 refine enterC (args := [_, _]) gok Tryd.func44 rfl _ rfl rfl rfl ?_
 obtain ⟨r0, f0, f1⟩ := bindS hF; clear hF
 refine cut (fun (q0 : List Int × Int) => [(1, (.int .i64 q0.2))]) (fun (q0 : List Int × Int) w' => (q0.1, q0.2) = r0 ∧ Cx w0 fp0 S0 w' [E (List Int) q0.1 a_h]) ?_ ?_
 ·
  refine loopW _ (fun (s0 : List Int × Int × Int) (_ : Unit) => [(0, (a_h).v), (1, (.int .i64 s0.2.1)), (5, (.int .i64 s0.2.2))]) (fun (s0 : List Int × Int × Int) (_ : Unit) w' => Cx w0 fp0 S0 w' [E (List Int) s0.1 a_h]) (a_, k_, 0) () f0 ⟨rfl, rfl, rfl, trivial⟩ (H.sel [0] rfl) ?_
  ·
   clear H
   rintro T0 ⟨s0_0, s0_1, s0_2⟩ _ w1 o0 (H : Cx w0 fp0 S0 w1 [E (List Int) s0_0 a_h]) hrt f2
   refine sq ?_
   refine lenE (H.ro (α := List Int) 0 rfl).len ?_
   obtain ⟨a0, e, f3⟩ := bindS f2; clear f2
   refine boolO e ?_; clear e
   cases a0
   ·
    have f4 := condF f3; clear f3
    have hs := Option.some.inj f4; subst hs; clear f4
    have f5 : some _ = some _ := congrArg some (hrt _ rfl).symm
    exact ⟨(s0_0, s0_1), ⟨rfl, trivial⟩, Option.some.inj f5, H.sel [0] rfl⟩
   ·
    have f6 := condT f3; clear f3
    refine sq ?_
    obtain ⟨a1, e, f7⟩ := bindS f6; clear f6
    have i0 := e; clear e
    obtain ⟨p0, m0, c0, c1, c2⟩ := (H.ro (α := List Int) 0 rfl).setp i0
    refine idxE c0 c1 c2 ?_
    refine setS (α := Int) H c0 c1 i0 ?_; clear H c0 c1 c2 i0; intro w2 H
    obtain ⟨a2, e, f8⟩ := bindS f7; clear f7
    refine arO e ?_; clear e
    obtain ⟨a3, e, f9⟩ := bindS f8; clear f8
    refine arO e ?_; clear e
    have hs := Option.some.inj f9; subst hs; clear f9
    exact ⟨(a1, a2, a3), (), rfl, ⟨rfl, rfl, rfl, trivial⟩, H.sel [0] rfl⟩
 ·
  clear f0 H
  rintro T1 ⟨s1_0, s1_1⟩ w3 ⟨hr, (H : Cx w0 fp0 S0 w3 [E (List Int) s1_0 a_h])⟩
  subst hr
  cases f1
  exact ⟨_, _, rfl, ⟨rfl, rfl⟩, (H.sel [0] rfl).close ⟨cloE, trivial⟩⟩

theorem laws_markIntSS_c (a_ : List (List Int)) (a_h : Hd) (k_ : Int) (y0 : List (List Int)) (y1 : Int) (hF : F_laws_markIntSS a_ k_ = some (y0, y1)) :
  ConF Tryd.prog 22 #[(a_h).v, (.int .i64 k_)] [] [E (List (List Int)) a_ a_h] (fun v Γ' => v = (.int .i64 y1) ∧ Γ' = [E (List (List Int)) y0 a_h]) := by
 intro w0 S0 fp0 hI hS
 have H : Cx w0 fp0 S0 w0 [E (List (List Int)) a_ a_h] := Cx.start hI hS
 clear hI hS
 refine enterC (args := [_, _]) gok Tryd.func22 rfl _ rfl rfl rfl ?_
 obtain ⟨r0, f0, f1⟩ := bindS hF; clear hF
 refine cut (fun (q0 : List (List Int) × Int) => [(1, (.int .i64 q0.2))]) (fun (q0 : List (List Int) × Int) w' => (q0.1, q0.2) = r0 ∧ Cx w0 fp0 S0 w' [E (List (List Int)) q0.1 a_h]) ?_ ?_
 ·
  refine loopW _ (fun (s0 : List (List Int) × Int × Int) (_ : Unit) => [(0, (a_h).v), (1, (.int .i64 s0.2.1)), (5, (.int .i64 s0.2.2))]) (fun (s0 : List (List Int) × Int × Int) (_ : Unit) w' => Cx w0 fp0 S0 w' [E (List (List Int)) s0.1 a_h]) (a_, k_, 0) () f0 ⟨rfl, rfl, rfl, trivial⟩ (H.sel [0] rfl) ?_
  ·
   clear H
   rintro T0 ⟨s0_0, s0_1, s0_2⟩ _ w1 o0 (H : Cx w0 fp0 S0 w1 [E (List (List Int)) s0_0 a_h]) hrt f2
   refine sq ?_
   refine lenE (H.ro (α := List (List Int)) 0 rfl).len ?_
   obtain ⟨a0, e, f3⟩ := bindS f2; clear f2
   refine boolO e ?_; clear e
   cases a0
   ·
    have f4 := condF f3; clear f3
    have hs := Option.some.inj f4; subst hs; clear f4
    have f5 : some _ = some _ := congrArg some (hrt _ rfl).symm
    exact ⟨(s0_0, s0_1), ⟨rfl, trivial⟩, Option.some.inj f5, H.sel [0] rfl⟩
   ·
    have f6 := condT f3; clear f3
    refine sq ?_
    obtain ⟨a1, e, f7⟩ := bindS f6; clear f6
    replace H := H.toEH (α := List Int)
    have HH := H; clear H; obtain ⟨p0, m0, h0, c0, c1, c2, c3, H⟩ := HH.peekL e; clear HH
    clear e
    refine idxE c0 c1 c2 ?_
    refine load1 c3 ?_; clear c3
    obtain ⟨y2, e, f8⟩ := bindS f7; clear f7
    obtain ⟨y2_0, y2_1⟩ := y2
    have i0 := e; clear e
    replace H := H.takeK 0 rfl
    refine callF (laws_markIntS_c a1 h0 s0_1 y2_0 y2_1 i0) (Γi := [E (List Int) a1 h0]) H trivial ?_; clear H i0
    rintro _ _ w2 ⟨rfl, rfl⟩ H
    obtain ⟨a2, e, f9⟩ := bindS f8; clear f8
    replace H := H.put c1 e; clear e
    obtain ⟨a3, e, f10⟩ := bindS f9; clear f9
    refine arO e ?_; clear e
    have hs := Option.some.inj f10; subst hs; clear f10
    exact ⟨(a2, y2_1, a3), (), rfl, ⟨rfl, rfl, rfl, trivial⟩, H.sel [0] rfl⟩
 ·
  clear f0 H
  rintro T1 ⟨s1_0, s1_1⟩ w3 ⟨hr, (H : Cx w0 fp0 S0 w3 [E (List (List Int)) s1_0 a_h])⟩
  subst hr
  cases f1
  exact ⟨_, _, rfl, ⟨rfl, rfl⟩, (H.sel [0] rfl).close ⟨cloE, trivial⟩⟩

theorem laws_markStateSpace_c (a__0 : Int) (a__1 : Int) (a__2 : Int) (a__3 : List (List Int)) (a__3h : Hd) (a__4 : List (List Int)) (a__4h : Hd) (a__5 : List (List Int)) (a__5h : Hd) (a__6 : List (List Int)) (a__6h : Hd) (k_ : Int) (y0_0 : Int) (y0_1 : Int) (y0_2 : Int) (y0_3 : List (List Int)) (y0_4 : List (List Int)) (y0_5 : List (List Int)) (y0_6 : List (List Int)) (y1 : Int) (hF : F_laws_markStateSpace (a__0, a__1, a__2, a__3, a__4, a__5, a__6) k_ = some ((y0_0, y0_1, y0_2, y0_3, y0_4, y0_5, y0_6), y1)) :
  ConF Tryd.prog 10 #[(.agg #[(.int .i64 a__0), (.int .i64 a__1), (.int .i64 a__2), (a__3h).v, (a__4h).v, (a__5h).v, (a__6h).v]), (.int .i64 k_)] [] [E (List (List Int)) a__3 a__3h, E (List (List Int)) a__4 a__4h, E (List (List Int)) a__5 a__5h, E (List (List Int)) a__6 a__6h] (fun v Γ' => v = (.int .i64 y1) ∧ Γ' = [E (List (List Int)) y0_3 a__3h, E (List (List Int)) y0_4 a__4h, E (List (List Int)) y0_5 a__5h, E (List (List Int)) y0_6 a__6h]) := by
 intro w0 S0 fp0 hI hS
 have H : Cx w0 fp0 S0 w0 [E (List (List Int)) a__3 a__3h, E (List (List Int)) a__4 a__4h, E (List (List Int)) a__5 a__5h, E (List (List Int)) a__6 a__6h] := Cx.start hI hS
 clear hI hS
 refine enterC (args := [_, _]) gok Tryd.func10 rfl _ rfl rfl rfl ?_
 refine box_ H ?_; clear H; intro b6 w5 hx H
 clear hx
 refine fld gok rfl rfl rfl rfl ?_
 refine load1 (H.bx 0 rfl (j := 3) rfl) ?_
 obtain ⟨y8, e, hF9⟩ := bindS hF; clear hF
 obtain ⟨y8_0, y8_1⟩ := y8
 have ey8 := e; clear e
 replace H := H.sel [1, 0, 2, 3, 4] rfl
 refine callF (laws_markIntSS_c a__3 a__3h k_ y8_0 y8_1 ey8) (Γi := [E (List (List Int)) a__3 a__3h]) H trivial ?_; clear H ey8
 rintro _ _ w1 ⟨rfl, rfl⟩ H
 refine fld gok rfl rfl rfl rfl ?_
 refine load1 (H.bx 1 rfl (j := 4) rfl) ?_
 obtain ⟨y0, e, f0⟩ := bindS hF9; clear hF9
 obtain ⟨y0_0, y0_1⟩ := y0
 have i0 := e; clear e
 replace H := H.sel [2, 0, 1, 3, 4] rfl
 refine callF (laws_markIntSS_c a__4 a__4h y8_1 y0_0 y0_1 i0) (Γi := [E (List (List Int)) a__4 a__4h]) H trivial ?_; clear H i0
 rintro _ _ w2 ⟨rfl, rfl⟩ H
 refine fld gok rfl rfl rfl rfl ?_
 refine load1 (H.bx 2 rfl (j := 5) rfl) ?_
 obtain ⟨y2, e, f1⟩ := bindS f0; clear f0
 obtain ⟨y2_0, y2_1⟩ := y2
 have i1 := e; clear e
 replace H := H.sel [3, 0, 1, 2, 4] rfl
 refine callF (laws_markIntSS_c a__5 a__5h y0_1 y2_0 y2_1 i1) (Γi := [E (List (List Int)) a__5 a__5h]) H trivial ?_; clear H i1
 rintro _ _ w3 ⟨rfl, rfl⟩ H
 refine fld gok rfl rfl rfl rfl ?_
 refine load1 (H.bx 3 rfl (j := 6) rfl) ?_
 obtain ⟨y3, e, f2⟩ := bindS f1; clear f1
 obtain ⟨y3_0, y3_1⟩ := y3
 have i2 := e; clear e
 replace H := H.sel [4, 0, 1, 2, 3] rfl
 refine callF (laws_markIntSS_c a__6 a__6h y2_1 y3_0 y3_1 i2) (Γi := [E (List (List Int)) a__6 a__6h]) H trivial ?_; clear H i2
 rintro _ _ w4 ⟨rfl, rfl⟩ H
 cases f2
 exact ⟨_, _, rfl, ⟨rfl, rfl⟩, (H.sel [3, 2, 1, 0] rfl).close ⟨cloE, cloE, cloE, cloE, trivial⟩⟩

theorem laws_markFractionS_c (a_ : List (List Int × List Int)) (a_h : Hd) (k_ : Int) (y0 : List (List Int × List Int)) (y1 : Int) (hF : F_laws_markFractionS a_ k_ = some (y0, y1)) :
  ConF Tryd.prog 23 #[(a_h).v, (.int .i64 k_)] [] [E (List (List Int × List Int)) a_ a_h] (fun v Γ' => v = (.int .i64 y1) ∧ Γ' = [E (List (List Int × List Int)) y0 a_h]) := by
 intro w0 S0 fp0 hI hS
 have H : Cx w0 fp0 S0 w0 [E (List (List Int × List Int)) a_ a_h] := Cx.start hI hS
 clear hI hS
 refine enterC (args := [_, _]) gok Tryd.func23 rfl _ rfl rfl rfl ?_
 obtain ⟨r0, f0, f1⟩ := bindS hF; clear hF
 refine cut (fun (q0 : (List (List Int × List Int)) × Int) => [(1, (.int .i64 q0.2))]) (fun (q0 : (List (List Int × List Int)) × Int) w' => (q0.1, q0.2) = r0 ∧ Cx w0 fp0 S0 w' [E (List (List Int × List Int)) q0.1 a_h]) ?_ ?_
 ·
  refine loopW _ (fun (s0 : (List (List Int × List Int)) × Int × Int) (_ : Unit) => [(0, (a_h).v), (1, (.int .i64 s0.2.1)), (5, (.int .i64 s0.2.2))]) (fun (s0 : (List (List Int × List Int)) × Int × Int) (_ : Unit) w' => Cx w0 fp0 S0 w' [E (List (List Int × List Int)) s0.1 a_h]) (a_, k_, 0) () f0 ⟨rfl, rfl, rfl, trivial⟩ (H.sel [0] rfl) ?_
  ·
   clear H
   rintro T0 ⟨s0_0, s0_1, s0_2⟩ _ w1 o0 (H : Cx w0 fp0 S0 w1 [E (List (List Int × List Int)) s0_0 a_h]) hrt f2
   refine sq ?_
   refine lenE (H.ro (α := List (List Int × List Int)) 0 rfl).len ?_
   obtain ⟨a0, e, f3⟩ := bindS f2; clear f2
   refine boolO e ?_; clear e
   cases a0
   ·
    have f4 := condF f3; clear f3
    have hs := Option.some.inj f4; subst hs; clear f4
    have f5 : some _ = some _ := congrArg some (hrt _ rfl).symm
    exact ⟨(s0_0, s0_1), ⟨rfl, trivial⟩, Option.some.inj f5, H.sel [0] rfl⟩
   ·
    have f6 := condT f3; clear f3
    refine sq ?_
    obtain ⟨a1, e, f7⟩ := bindS f6; clear f6
    replace H := H.toEH (α := List Int × List Int)
    have HH := H; clear H; obtain ⟨p0, m0, g0, c0, c1, c2, c3, H⟩ := HH.peek e; clear HH
    clear e
    obtain ⟨a1_0, a1_1⟩ := a1
    obtain ⟨h0, h1⟩ := g0
    refine idxE c0 c1 c2 ?_
    refine fld gok rfl rfl rfl rfl ?_
    refine load1 (c3 0 _ rfl) ?_
    obtain ⟨y2, e, f8⟩ := bindS f7; clear f7
    obtain ⟨y2_0, y2_1⟩ := y2
    have i0 := e; clear e
    replace H := H.takeK 0 rfl
    replace H := H.split
    refine callF (laws_markIntS_c a1_0 h0 s0_1 y2_0 y2_1 i0) (Γi := [E (List Int) a1_0 h0]) H trivial ?_; clear H i0
    rintro _ _ w2 ⟨rfl, rfl⟩ H
    replace H := H.join (α := List Int) (β := List Int)
    obtain ⟨a2, e, f9⟩ := bindS f8; clear f8
    replace H := H.put c1 e; clear e
    obtain ⟨a3, e, f10⟩ := bindS f9; clear f9
    replace H := H.toEH (α := List Int × List Int)
    have HH := H; clear H; obtain ⟨p1, m1, g1, c4, c5, c6, c7, H⟩ := HH.peek e; clear HH
    clear e
    obtain ⟨a3_0, a3_1⟩ := a3
    obtain ⟨h2, h3⟩ := g1
    refine idxE c4 c5 c6 ?_
    refine fld gok rfl rfl rfl rfl ?_
    refine load1 (c7 1 _ rfl) ?_
    obtain ⟨y3, e, f11⟩ := bindS f10; clear f10
    obtain ⟨y3_0, y3_1⟩ := y3
    have i1 := e; clear e
    replace H := H.takeK 0 rfl
    replace H := H.split
    replace H := H.sel [1, 0, 2] rfl
    refine callF (laws_markIntS_c a3_1 h3 y2_1 y3_0 y3_1 i1) (Γi := [E (List Int) a3_1 h3]) H trivial ?_; clear H i1
    rintro _ _ w3 ⟨rfl, rfl⟩ H
    replace H := H.sel [1, 0, 2] rfl
    replace H := H.join (α := List Int) (β := List Int)
    obtain ⟨a4, e, f12⟩ := bindS f11; clear f11
    replace H := H.put c5 e; clear e
    obtain ⟨a5, e, f13⟩ := bindS f12; clear f12
    refine arO e ?_; clear e
    have hs := Option.some.inj f13; subst hs; clear f13
    exact ⟨(a4, y3_1, a5), (), rfl, ⟨rfl, rfl, rfl, trivial⟩, H.sel [0] rfl⟩
 ·
  clear f0 H
  rintro T1 ⟨s1_0, s1_1⟩ w4 ⟨hr, (H : Cx w0 fp0 S0 w4 [E (List (List Int × List Int)) s1_0 a_h])⟩
  subst hr
  cases f1
  exact ⟨_, _, rfl, ⟨rfl, rfl⟩, (H.sel [0] rfl).close ⟨cloE, trivial⟩⟩

theorem laws_markFractionSS_c (a_ : List (List (List Int × List Int))) (a_h : Hd) (k_ : Int) (y0 : List (List (List Int × List Int))) (y1 : Int) (hF : F_laws_markFractionSS a_ k_ = some (y0, y1)) :
  ConF Tryd.prog 11 #[(a_h).v, (.int .i64 k_)] [] [E (List (List (List Int × List Int))) a_ a_h] (fun v Γ' => v = (.int .i64 y1) ∧ Γ' = [E (List (List (List Int × List Int))) y0 a_h]) := by
 intro w0 S0 fp0 hI hS
 have H : Cx w0 fp0 S0 w0 [E (List (List (List Int × List Int))) a_ a_h] := Cx.start hI hS
 clear hI hS
 refine enterC (args := [_, _]) gok Tryd.func11 rfl _ rfl rfl rfl ?_
 obtain ⟨r0, f0, f1⟩ := bindS hF; clear hF
 refine cut (fun (q0 : (List (List (List Int × List Int))) × Int) => [(1, (.int .i64 q0.2))]) (fun (q0 : (List (List (List Int × List Int))) × Int) w' => (q0.1, q0.2) = r0 ∧ Cx w0 fp0 S0 w' [E (List (List (List Int × List Int))) q0.1 a_h]) ?_ ?_
 ·
  refine loopW _ (fun (s0 : (List (List (List Int × List Int))) × Int × Int) (_ : Unit) => [(0, (a_h).v), (1, (.int .i64 s0.2.1)), (5, (.int .i64 s0.2.2))]) (fun (s0 : (List (List (List Int × List Int))) × Int × Int) (_ : Unit) w' => Cx w0 fp0 S0 w' [E (List (List (List Int × List Int))) s0.1 a_h]) (a_, k_, 0) () f0 ⟨rfl, rfl, rfl, trivial⟩ (H.sel [0] rfl) ?_
  ·
   clear H
   rintro T0 ⟨s0_0, s0_1, s0_2⟩ _ w1 o0 (H : Cx w0 fp0 S0 w1 [E (List (List (List Int × List Int))) s0_0 a_h]) hrt f2
   refine sq ?_
   refine lenE (H.ro (α := List (List (List Int × List Int))) 0 rfl).len ?_
   obtain ⟨a0, e, f3⟩ := bindS f2; clear f2
   refine boolO e ?_; clear e
   cases a0
   ·
    have f4 := condF f3; clear f3
    have hs := Option.some.inj f4; subst hs; clear f4
    have f5 : some _ = some _ := congrArg some (hrt _ rfl).symm
    exact ⟨(s0_0, s0_1), ⟨rfl, trivial⟩, Option.some.inj f5, H.sel [0] rfl⟩
   ·
    have f6 := condT f3; clear f3
    refine sq ?_
    obtain ⟨a1, e, f7⟩ := bindS f6; clear f6
    replace H := H.toEH (α := List (List Int × List Int))
    have HH := H; clear H; obtain ⟨p0, m0, h0, c0, c1, c2, c3, H⟩ := HH.peekL e; clear HH
    clear e
    refine idxE c0 c1 c2 ?_
    refine load1 c3 ?_; clear c3
    obtain ⟨y2, e, f8⟩ := bindS f7; clear f7
    obtain ⟨y2_0, y2_1⟩ := y2
    have i0 := e; clear e
    replace H := H.takeK 0 rfl
    refine callF (laws_markFractionS_c a1 h0 s0_1 y2_0 y2_1 i0) (Γi := [E (List (List Int × List Int)) a1 h0]) H trivial ?_; clear H i0
    rintro _ _ w2 ⟨rfl, rfl⟩ H
    obtain ⟨a2, e, f9⟩ := bindS f8; clear f8
    replace H := H.put c1 e; clear e
    obtain ⟨a3, e, f10⟩ := bindS f9; clear f9
    refine arO e ?_; clear e
    have hs := Option.some.inj f10; subst hs; clear f10
    exact ⟨(a2, y2_1, a3), (), rfl, ⟨rfl, rfl, rfl, trivial⟩, H.sel [0] rfl⟩
 ·
  clear f0 H
  rintro T1 ⟨s1_0, s1_1⟩ w3 ⟨hr, (H : Cx w0 fp0 S0 w3 [E (List (List (List Int × List Int))) s1_0 a_h])⟩
  subst hr
  cases f1
  exact ⟨_, _, rfl, ⟨rfl, rfl⟩, (H.sel [0] rfl).close ⟨cloE, trivial⟩⟩

theorem laws_heldIntS_c (a_ : List Int) (a_h : Hd) (k_ : Int) (y : Int) (hF : F_laws_heldIntS a_ k_ = some y) :
  ConF Tryd.prog 45 #[(a_h).v, (.int .i64 k_)] [Es (List Int) a_ a_h] [] (fun v Γ' => v = (.int .i64 y) ∧ Γ' = []) := by
 intro w0 S0 fp0 hI hS
 have H : Cx w0 fp0 S0 w0 [Es (List Int) a_ a_h] := Cx.start hI hS
 clear hI hS
 refine enterC (args := [_, _]) gok Tryd.func45 rfl _ rfl rfl rfl ?_
 obtain ⟨r0, f0, f1⟩ := bindS hF; clear hF
 refine cut (fun (q0 : Int) => [(1, (.int .i64 q0))]) (fun (q0 : Int) w' => .inl q0 = r0 ∧ Cx w0 fp0 S0 w' []) ?_ ?_
 ·
  refine loopW _ (fun (s0 : Int × Int) (_ : Unit) => [(0, (a_h).v), (1, (.int .i64 s0.1)), (5, (.int .i64 s0.2))]) (fun (s0 : Int × Int) (_ : Unit) w' => Cx w0 fp0 S0 w' [Es (List Int) a_ a_h]) (k_, 0) () f0 ⟨rfl, rfl, rfl, trivial⟩ (H.sel [0] rfl) ?_
  ·
   clear H
   rintro T0 ⟨s0_0, s0_1⟩ _ w1 o0 (H : Cx w0 fp0 S0 w1 [Es (List Int) a_ a_h]) hrt f2
   refine sq ?_
   refine lenE (H.rs (α := List Int) 0 rfl).len ?_
   obtain ⟨a0, e, f3⟩ := bindS f2; clear f2
   refine boolO e ?_; clear e
   cases a0
   ·
    have f4 := condF f3; clear f3
    have hs := Option.some.inj f4; subst hs; clear f4
    have f5 : some _ = some _ := congrArg some (hrt _ rfl).symm
    exact ⟨s0_0, ⟨rfl, trivial⟩, Option.some.inj f5, H.sel [] rfl⟩
   ·
    have f6 := condT f3; clear f3
    refine sq ?_
    refine sq ?_
    obtain ⟨a1, e, f7⟩ := bindS f6; clear f6
    obtain ⟨p0, m0, c0, c1, c2, c3⟩ := (H.rs (α := List Int) 0 rfl).at1 e; clear e
    refine idxE c0 c1 c2 ?_; clear c0 c1 c2
    refine load1 c3 ?_; clear c3
    obtain ⟨a2, e, f8⟩ := bindS f7; clear f7
    refine boolO e ?_; clear e
    cases a2
    ·
     have f9 := condF f8; clear f8
     obtain ⟨a3, e, f10⟩ := bindS f9; clear f9
     refine arO e ?_; clear e
     obtain ⟨a4, e, f11⟩ := bindS f10; clear f10
     refine arO e ?_; clear e
     have hs := Option.some.inj f11; subst hs; clear f11
     exact ⟨(a3, a4), (), rfl, ⟨rfl, rfl, rfl, trivial⟩, H.sel [0] rfl⟩
    ·
     have f12 := condT f8; clear f8
     have hs := Option.some.inj f12; subst hs; clear f12
     have f13 : some _ = some _ := congrArg some (hrt _ rfl).symm
     have hs := Option.some.inj f13; subst hs; clear f13
     have f14 : some _ = some _ := f1; clear f1
     cases f14
     exact ⟨_, _, rfl, ⟨rfl, rfl⟩, (H.sel [] rfl).close trivial⟩
 ·
  clear f0 H
  rintro T1 s1 w2 ⟨hr, (H : Cx w0 fp0 S0 w2 [])⟩
  subst hr
  cases f1
  exact ⟨_, _, rfl, ⟨rfl, rfl⟩, (H.sel [] rfl).close trivial⟩

theorem laws_heldFractionS_c (a_ : List (List Int × List Int)) (a_h : Hd) (k_ : Int) (y : Int) (hF : F_laws_heldFractionS a_ k_ = some y) :
  ConF Tryd.prog 24 #[(a_h).v, (.int .i64 k_)] [Es (List (List Int × List Int)) a_ a_h] [] (fun v Γ' => v = (.int .i64 y) ∧ Γ' = []) := by
 intro w0 S0 fp0 hI hS
 have H : Cx w0 fp0 S0 w0 [Es (List (List Int × List Int)) a_ a_h] := Cx.start hI hS
 clear hI hS
 refine enterC (args := [_, _]) gok Tryd.func24 rfl _ rfl rfl rfl ?_
 obtain ⟨r0, f0, f1⟩ := bindS hF; clear hF
 refine cut (fun (q0 : Int) => [(1, (.int .i64 q0))]) (fun (q0 : Int) w' => .inl q0 = r0 ∧ Cx w0 fp0 S0 w' []) ?_ ?_
 ·
  refine loopW _ (fun (s0 : Int × Int) (_ : Unit) => [(0, (a_h).v), (1, (.int .i64 s0.1)), (5, (.int .i64 s0.2))]) (fun (s0 : Int × Int) (_ : Unit) w' => Cx w0 fp0 S0 w' [Es (List (List Int × List Int)) a_ a_h]) (k_, 0) () f0 ⟨rfl, rfl, rfl, trivial⟩ (H.sel [0] rfl) ?_
  ·
   clear H
   rintro T0 ⟨s0_0, s0_1⟩ _ w1 o0 (H : Cx w0 fp0 S0 w1 [Es (List (List Int × List Int)) a_ a_h]) hrt f2
   refine sq ?_
   refine lenE (H.rs (α := List (List Int × List Int)) 0 rfl).len ?_
   obtain ⟨a0, e, f3⟩ := bindS f2; clear f2
   refine boolO e ?_; clear e
   cases a0
   ·
    have f4 := condF f3; clear f3
    have hs := Option.some.inj f4; subst hs; clear f4
    have f5 : some _ = some _ := congrArg some (hrt _ rfl).symm
    exact ⟨s0_0, ⟨rfl, trivial⟩, Option.some.inj f5, H.sel [] rfl⟩
   ·
    have f6 := condT f3; clear f3
    refine sq ?_
    obtain ⟨a1, e, f7⟩ := bindS f6; clear f6
    have HH := H; clear H; obtain ⟨p0, m0, g0, c0, c1, c2, c3, H⟩ := HH.el (α := List Int × List Int) 0 rfl e; clear HH
    clear e
    obtain ⟨a1_0, a1_1⟩ := a1
    obtain ⟨h0, h1⟩ := g0
    replace H := H.part (β := List Int) a1_0 (h0 : Hd) 0 rfl (fun S h => (And.left h))
    replace H := H.part (β := List Int) a1_1 (h1 : Hd) 1 rfl (fun S h => (And.right h))
    replace H := H.sel [0, 1, 3] rfl
    refine idxE c0 c1 c2 ?_; clear c0 c1 c2
    refine fld gok rfl rfl rfl rfl ?_
    refine load1 (c3 0 _ rfl) ?_
    obtain ⟨y0, e, f8⟩ := bindS f7; clear f7
    have i0 := e; clear e
    refine callF (laws_heldIntS_c a1_0 h0 s0_0 y0 i0) (Γi := []) H ⟨Vw.sh 1 rfl, trivial⟩ ?_; clear H i0
    rintro _ _ w2 ⟨rfl, rfl⟩ H
    refine sq ?_
    obtain ⟨a2, e, f9⟩ := bindS f8; clear f8
    refine boolO e ?_; clear e
    cases a2
    ·
     have f10 := condF f9; clear f9
     obtain ⟨a3, e, f11⟩ := bindS f10; clear f10
     have HH := H; clear H; obtain ⟨p1, m1, g1, c4, c5, c6, c7, H⟩ := HH.el (α := List Int × List Int) 2 rfl e; clear HH
     clear e
     obtain ⟨a3_0, a3_1⟩ := a3
     obtain ⟨h2, h3⟩ := g1
     replace H := H.part (β := List Int) a3_0 (h2 : Hd) 0 rfl (fun S h => (And.left h))
     replace H := H.part (β := List Int) a3_1 (h3 : Hd) 1 rfl (fun S h => (And.right h))
     replace H := H.sel [0, 1, 3, 4, 5] rfl
     refine idxE c4 c5 c6 ?_; clear c4 c5 c6
     refine fld gok rfl rfl rfl rfl ?_
     refine load1 (c7 1 _ rfl) ?_
     obtain ⟨y1, e, f12⟩ := bindS f11; clear f11
     have i1 := e; clear e
     refine callF (laws_heldIntS_c a3_1 h3 y0 y1 i1) (Γi := []) H ⟨Vw.sh 0 rfl, trivial⟩ ?_; clear H i1
     rintro _ _ w3 ⟨rfl, rfl⟩ H
     obtain ⟨a4, e, f13⟩ := bindS f12; clear f12
     refine boolO e ?_; clear e
     cases a4
     ·
      have f14 := condF f13; clear f13
      obtain ⟨a5, e, f15⟩ := bindS f14; clear f14
      refine arO e ?_; clear e
      have hs := Option.some.inj f15; subst hs; clear f15
      exact ⟨(y1, a5), (), rfl, ⟨rfl, rfl, rfl, trivial⟩, H.sel [4] rfl⟩
     ·
      have f16 := condT f13; clear f13
      have hs := Option.some.inj f16; subst hs; clear f16
      have f17 : some _ = some _ := congrArg some (hrt _ rfl).symm
      have hs := Option.some.inj f17; subst hs; clear f17
      have f18 : some _ = some _ := f1; clear f1
      cases f18
      exact ⟨_, _, rfl, ⟨rfl, rfl⟩, (H.sel [] rfl).close trivial⟩
    ·
     have f19 := condT f9; clear f9
     have hs := Option.some.inj f19; subst hs; clear f19
     have f20 : some _ = some _ := congrArg some (hrt _ rfl).symm
     have hs := Option.some.inj f20; subst hs; clear f20
     have f21 : some _ = some _ := f1; clear f1
     cases f21
     exact ⟨_, _, rfl, ⟨rfl, rfl⟩, (H.sel [] rfl).close trivial⟩
 ·
  clear f0 H
  rintro T1 s1 w4 ⟨hr, (H : Cx w0 fp0 S0 w4 [])⟩
  subst hr
  cases f1
  exact ⟨_, _, rfl, ⟨rfl, rfl⟩, (H.sel [] rfl).close trivial⟩

theorem laws_heldFractionSS_c (a_ : List (List (List Int × List Int))) (a_h : Hd) (k_ : Int) (y : Int) (hF : F_laws_heldFractionSS a_ k_ = some y) :
  ConF Tryd.prog 12 #[(a_h).v, (.int .i64 k_)] [Es (List (List (List Int × List Int))) a_ a_h] [] (fun v Γ' => v = (.int .i64 y) ∧ Γ' = []) := by
 intro w0 S0 fp0 hI hS
 have H : Cx w0 fp0 S0 w0 [Es (List (List (List Int × List Int))) a_ a_h] := Cx.start hI hS
 clear hI hS
 refine enterC (args := [_, _]) gok Tryd.func12 rfl _ rfl rfl rfl ?_
 obtain ⟨r0, f0, f1⟩ := bindS hF; clear hF
 refine cut (fun (q0 : Int) => [(1, (.int .i64 q0))]) (fun (q0 : Int) w' => .inl q0 = r0 ∧ Cx w0 fp0 S0 w' []) ?_ ?_
 ·
  refine loopW _ (fun (s0 : Int × Int) (_ : Unit) => [(0, (a_h).v), (1, (.int .i64 s0.1)), (5, (.int .i64 s0.2))]) (fun (s0 : Int × Int) (_ : Unit) w' => Cx w0 fp0 S0 w' [Es (List (List (List Int × List Int))) a_ a_h]) (k_, 0) () f0 ⟨rfl, rfl, rfl, trivial⟩ (H.sel [0] rfl) ?_
  ·
   clear H
   rintro T0 ⟨s0_0, s0_1⟩ _ w1 o0 (H : Cx w0 fp0 S0 w1 [Es (List (List (List Int × List Int))) a_ a_h]) hrt f2
   refine sq ?_
   refine lenE (H.rs (α := List (List (List Int × List Int))) 0 rfl).len ?_
   obtain ⟨a0, e, f3⟩ := bindS f2; clear f2
   refine boolO e ?_; clear e
   cases a0
   ·
    have f4 := condF f3; clear f3
    have hs := Option.some.inj f4; subst hs; clear f4
    have f5 : some _ = some _ := congrArg some (hrt _ rfl).symm
    exact ⟨s0_0, ⟨rfl, trivial⟩, Option.some.inj f5, H.sel [] rfl⟩
   ·
    have f6 := condT f3; clear f3
    refine sq ?_
    obtain ⟨a1, e, f7⟩ := bindS f6; clear f6
    have HH := H; clear H; obtain ⟨p0, m0, h0, c0, c1, c2, c3, H⟩ := HH.elL 0 rfl e; clear HH
    clear e
    refine idxE c0 c1 c2 ?_; clear c0 c1 c2
    refine load1 c3 ?_; clear c3
    obtain ⟨y0, e, f8⟩ := bindS f7; clear f7
    have i0 := e; clear e
    refine callF (laws_heldFractionS_c a1 h0 s0_0 y0 i0) (Γi := []) H ⟨Vw.sh 0 rfl, trivial⟩ ?_; clear H i0
    rintro _ _ w2 ⟨rfl, rfl⟩ H
    obtain ⟨a2, e, f9⟩ := bindS f8; clear f8
    refine boolO e ?_; clear e
    cases a2
    ·
     have f10 := condF f9; clear f9
     obtain ⟨a3, e, f11⟩ := bindS f10; clear f10
     refine arO e ?_; clear e
     have hs := Option.some.inj f11; subst hs; clear f11
     exact ⟨(y0, a3), (), rfl, ⟨rfl, rfl, rfl, trivial⟩, H.sel [1] rfl⟩
    ·
     have f12 := condT f9; clear f9
     have hs := Option.some.inj f12; subst hs; clear f12
     have f13 : some _ = some _ := congrArg some (hrt _ rfl).symm
     have hs := Option.some.inj f13; subst hs; clear f13
     have f14 : some _ = some _ := f1; clear f1
     cases f14
     exact ⟨_, _, rfl, ⟨rfl, rfl⟩, (H.sel [] rfl).close trivial⟩
 ·
  clear f0 H
  rintro T1 s1 w3 ⟨hr, (H : Cx w0 fp0 S0 w3 [])⟩
  subst hr
  cases f1
  exact ⟨_, _, rfl, ⟨rfl, rfl⟩, (H.sel [] rfl).close trivial⟩

theorem laws_FnExactTransferOf_c (aP_ : Int) (aS__0 : Int) (aS__1 : Int) (aS__2 : Int) (aS__3 : List (List Int)) (aS__3h : Hd) (aS__4 : List (List Int)) (aS__4h : Hd) (aS__5 : List (List Int)) (aS__5h : Hd) (aS__6 : List (List Int)) (aS__6h : Hd) (y : Bool) (hF : F_laws_FnExactTransferOf aP_ (aS__0, aS__1, aS__2, aS__3, aS__4, aS__5, aS__6) = some y) :
  ConF Tryd.prog 3 #[(.int .i64 aP_), (.agg #[(.int .i64 aS__0), (.int .i64 aS__1), (.int .i64 aS__2), (aS__3h).v, (aS__4h).v, (aS__5h).v, (aS__6h).v])] [Es (List (List Int)) aS__3 aS__3h, Es (List (List Int)) aS__4 aS__4h, Es (List (List Int)) aS__5 aS__5h, Es (List (List Int)) aS__6 aS__6h, Gl 0 [.int .i64 2, .int .i64 3, .int .i64 5, .int .i64 7]] [] (fun v Γ' => v = (.bool y) ∧ Γ' = []) := by
 intro w0 S0 fp0 hI hS
 have H : Cx w0 fp0 S0 w0 [Es (List (List Int)) aS__3 aS__3h, Es (List (List Int)) aS__4 aS__4h, Es (List (List Int)) aS__5 aS__5h, Es (List (List Int)) aS__6 aS__6h, Gl 0 [.int .i64 2, .int .i64 3, .int .i64 5, .int .i64 7]] := Cx.start hI hS
 clear hI hS
 refine enterC (args := [_, _]) gok Tryd.func3 rfl _ rfl rfl rfl ?_
 refine box_ H ?_; clear H; intro b7 w6 hx H
 clear hx
 refine loadN [(.int .i64 aS__0), (.int .i64 aS__1), (.int .i64 aS__2), (aS__3h).v, (aS__4h).v, (aS__5h).v, (aS__6h).v] rfl (fun j u hj => H.bx 0 rfl hj) ?_
 obtain ⟨y9, e, f0⟩ := bindS hF; clear hF
 have ey9 := e; clear e
 refine callF (laws_szStateSpace_c aS__0 aS__1 aS__2 aS__3 aS__3h aS__4 aS__4h aS__5 aS__5h aS__6 aS__6h 1048576 y9 ey9) (Γi := []) H ⟨Vw.sh 1 rfl, Vw.sh 2 rfl, Vw.sh 3 rfl, Vw.sh 4 rfl, trivial⟩ ?_; clear H ey9
 rintro _ _ w1 ⟨rfl, rfl⟩ H
 refine sq ?_
 obtain ⟨a0, e, f1⟩ := bindS f0; clear f0
 refine boolO e ?_; clear e
 cases a0
 ·
  have f2 := condF f1; clear f1
  refine loadN [(.int .i64 aS__0), (.int .i64 aS__1), (.int .i64 aS__2), (aS__3h).v, (aS__4h).v, (aS__5h).v, (aS__6h).v] rfl (fun j u hj => H.bx 0 rfl hj) ?_
  obtain ⟨y0, e, f3⟩ := bindS f2; clear f2
  obtain ⟨y0_0, y0_1, y0_2, y0_3, y0_4, y0_5, y0_6⟩ := y0
  have i0 := e; clear e
  refine callF (laws_toStateSpace_c aS__0 aS__1 aS__2 aS__3 aS__3h aS__4 aS__4h aS__5 aS__5h aS__6 aS__6h y0_0 y0_1 y0_2 y0_3 y0_4 y0_5 y0_6 i0) (Γi := []) H ⟨Vw.sh 1 rfl, Vw.sh 2 rfl, Vw.sh 3 rfl, Vw.sh 4 rfl, trivial⟩ ?_; clear H i0
  rintro _ _ w2 ⟨h0, h1, h2, h3, rfl, rfl⟩ H
  obtain ⟨y1, e, f4⟩ := bindS f3; clear f3
  obtain ⟨y1_0, y1_1⟩ := y1
  have i1 := e; clear e
  refine callF (spec_TransferOf_c aP_ y0_0 y0_1 y0_2 y0_3 h0 y0_4 h1 y0_5 h2 y0_6 h3 y1_0 y1_1 i1) (Γi := []) H ⟨Vw.own 0 rfl, Vw.own 1 rfl, Vw.own 2 rfl, Vw.own 3 rfl, trivial⟩ ?_; clear H i1
  rintro _ _ w3 ⟨h4, rfl, rfl⟩ H
  refine loadN [(.int .i64 aS__0), (.int .i64 aS__1), (.int .i64 aS__2), (aS__3h).v, (aS__4h).v, (aS__5h).v, (aS__6h).v] rfl (fun j u hj => H.bx 5 rfl hj) ?_
  obtain ⟨y2, e, f5⟩ := bindS f4; clear f4
  obtain ⟨y2_0, y2_1, y2_2, y2_3, y2_4, y2_5, y2_6⟩ := y2
  have i2 := e; clear e
  refine callF (laws_toStateSpace_c aS__0 aS__1 aS__2 aS__3 aS__3h aS__4 aS__4h aS__5 aS__5h aS__6 aS__6h y2_0 y2_1 y2_2 y2_3 y2_4 y2_5 y2_6 i2) (Γi := []) H ⟨Vw.sh 6 rfl, Vw.sh 7 rfl, Vw.sh 8 rfl, Vw.sh 9 rfl, trivial⟩ ?_; clear H i2
  rintro _ _ w4 ⟨h5, h6, h7, h8, rfl, rfl⟩ H
  refine alloc_ gok rfl H ?_; clear H; intro b0 w5 hx H
  clear hx
  refine stA gok [(.int .i64 y2_0), (.int .i64 y2_1), (.int .i64 y2_2), (h5).v, (h6).v, (h7).v, (h8).v] rfl H rfl rfl rfl ?_; clear H; intro w7 H
  refine loadN [(.int .i64 y2_0), (.int .i64 y2_1), (.int .i64 y2_2), (h5).v, (h6).v, (h7).v, (h8).v] rfl (fun j u hj => H.bx 0 rfl hj) ?_
  obtain ⟨y3, e, f6⟩ := bindS f5; clear f5
  obtain ⟨y3_0, y3_1⟩ := y3
  have i3 := e; clear e
  refine callF (impl_TransferOf_c aP_ y2_0 y2_1 y2_2 y2_3 h5 y2_4 h6 y2_5 h7 y2_6 h8 y3_0 y3_1 i3) (Γi := []) H ⟨Vw.own 1 rfl, Vw.own 2 rfl, Vw.own 3 rfl, Vw.own 4 rfl, Vw.gl 15 rfl, trivial⟩ ?_; clear H i3
  rintro _ _ w8 ⟨h9, rfl, rfl⟩ H
  refine sq ?_
  obtain ⟨r0, f7, f8⟩ := bindS f6; clear f6
  refine cut (fun (q0 : Bool) => [(0, (.int .i64 aP_)), (3, (.pointer (some ⟨b7, 0, none⟩))), (6, (h4).v), (7, (.bool y1_1)), (8, (.pointer (some ⟨b0, 0, none⟩))), (9, (h9).v), (10, (.bool y3_1)), (44, (.bool q0))]) (fun (q0 : Bool) w' => q0 = r0 ∧ Cx w0 fp0 S0 w' [Bx b7 [(.int .i64 aS__0), (.int .i64 aS__1), (.int .i64 aS__2), (aS__3h).v, (aS__4h).v, (aS__5h).v, (aS__6h).v], Es (List (List Int)) aS__3 aS__3h, Es (List (List Int)) aS__4 aS__4h, Es (List (List Int)) aS__5 aS__5h, Es (List (List Int)) aS__6 aS__6h, E (List (List (List Int × List Int))) y1_0 h4, Bx b0 [(.int .i64 y2_0), (.int .i64 y2_1), (.int .i64 y2_2), (h5).v, (h6).v, (h7).v, (h8).v], E (List (List Int)) y2_3 h5, E (List (List Int)) y2_4 h6, E (List (List Int)) y2_5 h7, E (List (List Int)) y2_6 h8, E (List (List (List Int × List Int))) y3_0 h9, Gl 0 [.int .i64 2, .int .i64 3, .int .i64 5, .int .i64 7]]) ?_ ?_
  ·
   obtain ⟨y4, e, f9⟩ := bindS f7; clear f7
   have i4 := e; clear e
   refine callF (laws_eqFractionSS_c y3_0 h9 y1_0 h4 y4 i4) (Γi := []) H ⟨Vw.own 0 rfl, Vw.own 6 rfl, trivial⟩ ?_; clear H i4
   rintro _ _ w9 ⟨rfl, rfl⟩ H
   obtain ⟨a1, e, f10⟩ := bindS f9; clear f9
   refine boolO e ?_; clear e
   cases a1
   ·
    have f11 := condF f10; clear f10
    obtain ⟨a2, e, f12⟩ := bindS f11; clear f11
    refine boolO e ?_; clear e
    exact ⟨a2, ⟨rfl, rfl, rfl, rfl, rfl, rfl, rfl, rfl, trivial⟩, Option.some.inj f12, H.sel [11, 12, 13, 14, 15, 6, 1, 2, 3, 4, 5, 0, 16] rfl⟩
   ·
    have f13 := condT f10; clear f10
    exact ⟨true, ⟨rfl, rfl, rfl, rfl, rfl, rfl, rfl, rfl, trivial⟩, Option.some.inj f13, H.sel [11, 12, 13, 14, 15, 6, 1, 2, 3, 4, 5, 0, 16] rfl⟩
  ·
   clear f7 H
   rintro T0 s0 w10 ⟨hr, (H : Cx w0 fp0 S0 w10 [Bx b7 [(.int .i64 aS__0), (.int .i64 aS__1), (.int .i64 aS__2), (aS__3h).v, (aS__4h).v, (aS__5h).v, (aS__6h).v], Es (List (List Int)) aS__3 aS__3h, Es (List (List Int)) aS__4 aS__4h, Es (List (List Int)) aS__5 aS__5h, Es (List (List Int)) aS__6 aS__6h, E (List (List (List Int × List Int))) y1_0 h4, Bx b0 [(.int .i64 y2_0), (.int .i64 y2_1), (.int .i64 y2_2), (h5).v, (h6).v, (h7).v, (h8).v], E (List (List Int)) y2_3 h5, E (List (List Int)) y2_4 h6, E (List (List Int)) y2_5 h7, E (List (List Int)) y2_6 h8, E (List (List (List Int × List Int))) y3_0 h9, Gl 0 [.int .i64 2, .int .i64 3, .int .i64 5, .int .i64 7]])⟩
   subst hr
   cases s0
   ·
    have f14 := condF f8; clear f8
    refine sq ?_
    refine heldX H [] (.fst 0 (.fst 1 (.act 2 (.act 3 (.fst 4 .done))))) mixed [] trivial (by kernel_rfl) ?_
    clear H; intro w12 H
    have hX : Ext w12 w12 := Upd.refl _ _
    have H0 := H
    refine loadNX [(.int .i64 y2_0), (.int .i64 y2_1), (.int .i64 y2_2), (h5).v, (h6).v, (h7).v, (h8).v] rfl (fun j u hj => H.bx 6 rfl hj) ?_
    refine loadNX [(.int .i64 aS__0), (.int .i64 aS__1), (.int .i64 aS__2), (aS__3h).v, (aS__4h).v, (aS__5h).v, (aS__6h).v] rfl (fun j u hj => H.bx 0 rfl hj) ?_
    obtain ⟨y5, e, f15⟩ := bindS f14; clear f14
    obtain ⟨y5_0, y5_1, y5_2, y5_3, y5_4, y5_5, y5_6⟩ := y5
    have i5 := e; clear e
    refine callFx (laws_toStateSpace_c aS__0 aS__1 aS__2 aS__3 aS__3h aS__4 aS__4h aS__5 aS__5h aS__6 aS__6h y5_0 y5_1 y5_2 y5_3 y5_4 y5_5 y5_6 i5) H ⟨Vw.sh 1 rfl, Vw.sh 2 rfl, Vw.sh 3 rfl, Vw.sh 4 rfl, trivial⟩ ?_; clear H i5
    rintro _ _ w13 ⟨h10, h11, h12, h13, rfl, rfl⟩ hx H
    replace hX := hX.trans0 hx; clear hx
    refine hold hX ?_
    obtain ⟨y6, e, f16⟩ := bindS f15; clear f15
    have i6 := e; clear e
    refine callFx (laws_eqStateSpace_c y2_0 y2_1 y2_2 y2_3 h5 y2_4 h6 y2_5 h7 y2_6 h8 y5_0 y5_1 y5_2 y5_3 h10 y5_4 h11 y5_5 h12 y5_6 h13 y6 i6) H ⟨Vw.own 11 rfl, Vw.own 12 rfl, Vw.own 13 rfl, Vw.own 14 rfl, Vw.own 0 rfl, Vw.own 1 rfl, Vw.own 2 rfl, Vw.own 3 rfl, trivial⟩ ?_; clear H i6
    rintro _ _ w14 ⟨rfl, rfl⟩ hx H
    replace hX := hX.trans0 hx; clear hx
    refine hold hX ?_
    obtain ⟨a3, e, f17⟩ := bindS f16; clear f16
    refine boolO e ?_; clear e
    cases a3
    ·
     have f18 := condF f17; clear f17
     refine loadN [(.int .i64 y2_0), (.int .i64 y2_1), (.int .i64 y2_2), (h5).v, (h6).v, (h7).v, (h8).v] rfl (fun j u hj => H.bx 10 rfl hj) ?_
     obtain ⟨y7, e, f19⟩ := bindS f18; clear f18
     obtain ⟨⟨y7_0_0, y7_0_1, y7_0_2, y7_0_3, y7_0_4, y7_0_5, y7_0_6⟩, y7_1⟩ := y7
     have i7 := e; clear e
     replace H := H.sel [11, 12, 13, 14, 0, 1, 2, 3, 4, 5, 6, 7, 8, 9, 10, 15, 16] rfl
     refine callF (laws_markStateSpace_c y2_0 y2_1 y2_2 y2_3 h5 y2_4 h6 y2_5 h7 y2_6 h8 1 y7_0_0 y7_0_1 y7_0_2 y7_0_3 y7_0_4 y7_0_5 y7_0_6 y7_1 i7) (Γi := [E (List (List Int)) y2_3 h5, E (List (List Int)) y2_4 h6, E (List (List Int)) y2_5 h7, E (List (List Int)) y2_6 h8]) H trivial ?_; clear H i7
     rintro _ _ w15 ⟨rfl, rfl⟩ H
     refine sq ?_
     obtain ⟨r1, f20, f21⟩ := bindS f19; clear f19
     refine cut (fun (q1 : Bool) => [(0, (.int .i64 aP_)), (3, (.pointer (some ⟨b7, 0, none⟩))), (6, (h4).v), (7, (.bool y1_1)), (9, (h9).v), (65, (.bool q1))]) (fun (q1 : Bool) w' => q1 = r1 ∧ Cx w0 fp0 S0 w' [Bx b7 [(.int .i64 aS__0), (.int .i64 aS__1), (.int .i64 aS__2), (aS__3h).v, (aS__4h).v, (aS__5h).v, (aS__6h).v], Es (List (List Int)) aS__3 aS__3h, Es (List (List Int)) aS__4 aS__4h, Es (List (List Int)) aS__5 aS__5h, Es (List (List Int)) aS__6 aS__6h, E (List (List (List Int × List Int))) y1_0 h4, E (List (List (List Int × List Int))) y3_0 h9, Gl 0 [.int .i64 2, .int .i64 3, .int .i64 5, .int .i64 7]]) ?_ ?_
     ·
      obtain ⟨a4, e, f22⟩ := bindS f20; clear f20
      refine boolO e ?_; clear e
      cases a4
      ·
       have f23 := condF f22; clear f22
       obtain ⟨y8, e, f24⟩ := bindS f23; clear f23
       have i8 := e; clear e
       refine callF (laws_eqFractionSS_c y3_0 h9 y1_0 h4 y8 i8) (Γi := []) H ⟨Vw.own 15 rfl, Vw.own 13 rfl, trivial⟩ ?_; clear H i8
       rintro _ _ w16 ⟨rfl, rfl⟩ H
       obtain ⟨a5, e, f25⟩ := bindS f24; clear f24
       refine boolO e ?_; clear e
       cases a5
       ·
        have f26 := condF f25; clear f25
        obtain ⟨a6, e, f27⟩ := bindS f26; clear f26
        refine boolO e ?_; clear e
        exact ⟨a6, ⟨rfl, rfl, rfl, rfl, rfl, rfl, trivial⟩, Option.some.inj f27, H.sel [8, 9, 10, 11, 12, 13, 15, 16] rfl⟩
       ·
        have f28 := condT f25; clear f25
        exact ⟨true, ⟨rfl, rfl, rfl, rfl, rfl, rfl, trivial⟩, Option.some.inj f28, H.sel [8, 9, 10, 11, 12, 13, 15, 16] rfl⟩
      ·
       have f29 := condT f22; clear f22
       exact ⟨true, ⟨rfl, rfl, rfl, rfl, rfl, rfl, trivial⟩, Option.some.inj f29, H.sel [8, 9, 10, 11, 12, 13, 15, 16] rfl⟩
     ·
      clear f20 H
      rintro T1 s1 w18 ⟨hr, (H : Cx w0 fp0 S0 w18 [Bx b7 [(.int .i64 aS__0), (.int .i64 aS__1), (.int .i64 aS__2), (aS__3h).v, (aS__4h).v, (aS__5h).v, (aS__6h).v], Es (List (List Int)) aS__3 aS__3h, Es (List (List Int)) aS__4 aS__4h, Es (List (List Int)) aS__5 aS__5h, Es (List (List Int)) aS__6 aS__6h, E (List (List (List Int × List Int))) y1_0 h4, E (List (List (List Int × List Int))) y3_0 h9, Gl 0 [.int .i64 2, .int .i64 3, .int .i64 5, .int .i64 7]])⟩
      subst hr
      cases s1
      ·
       have f30 := condF f21; clear f21
       obtain ⟨y10, e, f31⟩ := bindS f30; clear f30
       obtain ⟨y10_0, y10_1⟩ := y10
       have i9 := e; clear e
       replace H := H.sel [6, 0, 1, 2, 3, 4, 5, 7] rfl
       refine callF (laws_markFractionSS_c y3_0 h9 1 y10_0 y10_1 i9) (Γi := [E (List (List (List Int × List Int))) y3_0 h9]) H trivial ?_; clear H i9
       rintro _ _ w19 ⟨rfl, rfl⟩ H
       obtain ⟨y11, e, f32⟩ := bindS f31; clear f31
       have i10 := e; clear e
       refine callF (laws_heldFractionSS_c y10_0 h9 1 y11 i10) (Γi := []) H ⟨Vw.own 0 rfl, trivial⟩ ?_; clear H i10
       rintro _ _ w20 ⟨rfl, rfl⟩ H
       refine sq ?_
       obtain ⟨a7, e, f33⟩ := bindS f32; clear f32
       refine boolO e ?_; clear e
       cases a7
       ·
        have f34 := condF f33; clear f33
        refine sq ?_
        obtain ⟨a8, e, f35⟩ := bindS f34; clear f34
        refine boolO e ?_; clear e
        cases a8
        ·
         have f36 := condF f35; clear f35
         refine loadN [(.int .i64 aS__0), (.int .i64 aS__1), (.int .i64 aS__2), (aS__3h).v, (aS__4h).v, (aS__5h).v, (aS__6h).v] rfl (fun j u hj => H.bx 1 rfl hj) ?_
         obtain ⟨y12, e, f37⟩ := bindS f36; clear f36
         obtain ⟨y12_0, y12_1, y12_2, y12_3, y12_4, y12_5, y12_6⟩ := y12
         have i11 := e; clear e
         refine callF (laws_toStateSpace_c aS__0 aS__1 aS__2 aS__3 aS__3h aS__4 aS__4h aS__5 aS__5h aS__6 aS__6h y12_0 y12_1 y12_2 y12_3 y12_4 y12_5 y12_6 i11) (Γi := []) H ⟨Vw.sh 2 rfl, Vw.sh 3 rfl, Vw.sh 4 rfl, Vw.sh 5 rfl, trivial⟩ ?_; clear H i11
         rintro _ _ w21 ⟨h14, h15, h16, h17, rfl, rfl⟩ H
         obtain ⟨y13, e, f38⟩ := bindS f37; clear f37
         obtain ⟨y13_0, y13_1⟩ := y13
         have i12 := e; clear e
         refine callF (impl_TransferOf_c aP_ y12_0 y12_1 y12_2 y12_3 h14 y12_4 h15 y12_5 h16 y12_6 h17 y13_0 y13_1 i12) (Γi := []) H ⟨Vw.own 0 rfl, Vw.own 1 rfl, Vw.own 2 rfl, Vw.own 3 rfl, Vw.gl 11 rfl, trivial⟩ ?_; clear H i12
         rintro _ _ w22 ⟨h19, rfl, rfl⟩ H
         refine sq ?_
         obtain ⟨r2, f39, f40⟩ := bindS f38; clear f38
         refine cut (fun (q2 : Bool) => [(9, (h9).v), (12, (.int .i64 y10_1)), (92, (.bool q2))]) (fun (q2 : Bool) w' => q2 = r2 ∧ Cx w0 fp0 S0 w' [E (List (List (List Int × List Int))) y10_0 h9, Gl 0 [.int .i64 2, .int .i64 3, .int .i64 5, .int .i64 7]]) ?_ ?_
         ·
          obtain ⟨y14, e, f41⟩ := bindS f39; clear f39
          have i13 := e; clear e
          refine callF (laws_eqFractionSS_c y13_0 h19 y1_0 h4 y14 i13) (Γi := []) H ⟨Vw.own 0 rfl, Vw.own 11 rfl, trivial⟩ ?_; clear H i13
          rintro _ _ w23 ⟨rfl, rfl⟩ H
          obtain ⟨a9, e, f42⟩ := bindS f41; clear f41
          refine boolO e ?_; clear e
          cases a9
          ·
           have f43 := condF f42; clear f42
           obtain ⟨a10, e, f44⟩ := bindS f43; clear f43
           refine boolO e ?_; clear e
           exact ⟨a10, ⟨rfl, rfl, rfl, trivial⟩, Option.some.inj f44, H.sel [5, 12] rfl⟩
          ·
           have f45 := condT f42; clear f42
           exact ⟨true, ⟨rfl, rfl, rfl, trivial⟩, Option.some.inj f45, H.sel [5, 12] rfl⟩
         ·
          clear f39 H
          rintro T2 s2 w24 ⟨hr, (H : Cx w0 fp0 S0 w24 [E (List (List (List Int × List Int))) y10_0 h9, Gl 0 [.int .i64 2, .int .i64 3, .int .i64 5, .int .i64 7]])⟩
          subst hr
          cases s2
          ·
           have f46 := condF f40; clear f40
           obtain ⟨y16, e, f47⟩ := bindS f46; clear f46
           have i14 := e; clear e
           refine callF (laws_heldFractionSS_c y10_0 h9 1 y16 i14) (Γi := []) H ⟨Vw.own 0 rfl, trivial⟩ ?_; clear H i14
           rintro _ _ w25 ⟨rfl, rfl⟩ H
           refine sq ?_
           obtain ⟨a11, e, f48⟩ := bindS f47; clear f47
           refine boolO e ?_; clear e
           cases a11
           ·
            have f49 := condF f48; clear f48
            refine sq ?_
            obtain ⟨a13, e, f50⟩ := bindS f49; clear f49
            refine boolO e ?_; clear e
            cases a13
            ·
             have f51 := condF f50; clear f50
             cases f51
             exact ⟨_, _, rfl, ⟨rfl, rfl⟩, (H.sel [] rfl).close trivial⟩
            ·
             have f52 := condT f50; clear f50
             cases f52
             exact ⟨_, _, rfl, ⟨rfl, rfl⟩, (H.sel [] rfl).close trivial⟩
           ·
            have f53 := condT f48; clear f48
            cases f53
            exact ⟨_, _, rfl, ⟨rfl, rfl⟩, (H.sel [] rfl).close trivial⟩
          ·
           have f54 := condT f40; clear f40
           cases f54
           exact ⟨_, _, rfl, ⟨rfl, rfl⟩, (H.sel [] rfl).close trivial⟩
        ·
         have f55 := condT f35; clear f35
         cases f55
         exact ⟨_, _, rfl, ⟨rfl, rfl⟩, (H.sel [] rfl).close trivial⟩
       ·
        have f56 := condT f33; clear f33
        cases f56
        exact ⟨_, _, rfl, ⟨rfl, rfl⟩, (H.sel [] rfl).close trivial⟩
      ·
       have f57 := condT f21; clear f21
       cases f57
       exact ⟨_, _, rfl, ⟨rfl, rfl⟩, (H.sel [] rfl).close trivial⟩
    ·
     have f58 := condT f17; clear f17
     cases f58
     exact ⟨_, _, rfl, ⟨rfl, rfl⟩, (H.sel [] rfl).close trivial⟩
   ·
    have f59 := condT f8; clear f8
    cases f59
    exact ⟨_, _, rfl, ⟨rfl, rfl⟩, (H.sel [] rfl).close trivial⟩
 ·
  have f60 := condT f1; clear f1
  cases f60
  exact ⟨_, _, rfl, ⟨rfl, rfl⟩, (H.sel [] rfl).close trivial⟩
end Go.Proofs.YtgkomaglodpefaaDoor
