/-
 Contracts, printed by a program (wip/y/gen.py): each function of Go computes its partial function. Condition of each: its partial function yields a value.
-/
import Derived.Test.YtocpeclcoikdpaaDoorZCall
namespace Go.Proofs.YtocpeclcoikdpaaDoor
open Go Go.Proofs.YtocpeclcoikdpaaDoor.RW
set_option maxRecDepth 100000
set_option linter.unusedVariables false

theorem impl_table_int_hasShape_c (t_ : List (List Int)) (t_h : Hd) (rows_ : Int) (cols_ : Int) (y : Bool) (hF : F_impl_table_int_hasShape t_ rows_ cols_ = some y) :
  ConF Tryd.prog 97 #[(t_h).v, (.int .i64 rows_), (.int .i64 cols_)] [Es (List (List Int)) t_ t_h] [] (fun v Γ' => v = (.bool y) ∧ Γ' = []) := by
 intro w0 S0 fp0 hI hS
 have H : Cx w0 fp0 S0 w0 [Es (List (List Int)) t_ t_h] := Cx.start hI hS
 clear hI hS
 refine enterC (args := [_, _, _]) gok Tryd.func97 rfl _ rfl rfl rfl ?_
 refine sq ?_
 refine lenE (H.rs (α := List (List Int)) 0 rfl).len ?_
 obtain ⟨a2, e, hF3⟩ := bindS hF; clear hF
 refine boolO e ?_; clear e
 cases a2
 ·
  have hF4 := condF hF3; clear hF3
  refine sq ?_
  obtain ⟨a0, hn, f0⟩ := bindS hF4; clear hF4
  obtain ⟨r0, e, f1⟩ := bindS f0; clear f0
  refine loopO _ rows_.toNat (fun (k5 : Nat) (_ : Unit) (_ : Unit) => [(0, (t_h).v), (2, (.int .i64 cols_)), (12, (.int .i64 rows_)), (13, (.int .i64 ((k5 : Nat) : Int)))]) (fun _ (_ : Unit) (_ : Unit) w' => Cx w0 fp0 S0 w' [Es (List (List Int)) t_ t_h]) () () e ⟨rfl, rfl, rfl, rfl, trivial⟩ (H.sel [0] rfl) ?_ ?_
  ·
   clear H e
   rintro T0 k5 _ _ w1 o0 hk (H : Cx w0 fp0 S0 w1 [Es (List (List Int)) t_ t_h]) hrt f2
   refine boolE (z := true) (ltNat hk) ?_
   refine sq ?_
   refine sq ?_
   obtain ⟨a1, e, f3⟩ := bindS f2; clear f2
   have HH := H; clear H; obtain ⟨p0, m0, h0, c0, c1, c2, c3, H⟩ := HH.elL 0 rfl e; clear HH
   clear e
   refine idxE c0 c1 c2 ?_; clear c0 c1 c2
   refine load1 c3 ?_; clear c3
   refine lenE (H.rs (α := List Int) 0 rfl).len ?_
   obtain ⟨a3, e, f4⟩ := bindS f3; clear f3
   refine boolO e ?_; clear e
   cases a3
   ·
    have f5 := condF f4; clear f4
    refine arK hk (maxI hn) ?_
    have hs := Option.some.inj f5; subst hs; clear f5
    exact ⟨(), (), rfl, ⟨rfl, rfl, rfl, rfl, trivial⟩, H.sel [1] rfl⟩
   ·
    have f6 := condT f4; clear f4
    have hs := Option.some.inj f6; subst hs; clear f6
    have hr := hrt _ rfl; subst hr
    have f7 : some _ = some _ := f1
    cases f7
    exact ⟨_, _, rfl, ⟨rfl, rfl⟩, (H.sel [] rfl).close trivial⟩
  ·
   clear H e
   rintro T1 _ _ w2 hr (H : Cx w0 fp0 S0 w2 [Es (List (List Int)) t_ t_h])
   subst hr
   refine boolE (z := false) geNat ?_
   refine sq ?_
   cases f1
   exact ⟨_, _, rfl, ⟨rfl, rfl⟩, (H.sel [] rfl).close trivial⟩
 ·
  have f8 := condT hF3; clear hF3
  cases f8
  exact ⟨_, _, rfl, ⟨rfl, rfl⟩, (H.sel [] rfl).close trivial⟩

theorem impl_isElement_c (p_ : Int) (a_ : Int) (y : Bool) (hF : F_impl_isElement p_ a_ = some y) :
  ConF Tryd.prog 125 #[(.int .i64 p_), (.int .i64 a_)] [] [] (fun v Γ' => v = (.bool y) ∧ Γ' = []) := by
 intro w0 S0 fp0 hI hS
 have H : Cx w0 fp0 S0 w0 [] := Cx.start hI hS
 clear hI hS
 refine enterC (args := [_, _]) gok Tryd.func125 rfl _ rfl rfl rfl ?_
 obtain ⟨r9, f0, f1⟩ := bindS hF; clear hF
 refine cut (fun (q0 : Bool) => [(4, (.bool q0))]) (fun (q0 : Bool) w' => q0 = r9 ∧ Cx w0 fp0 S0 w' []) ?_ ?_
 ·
  obtain ⟨a0, e, f2⟩ := bindS f0; clear f0
  refine boolO e ?_; clear e
  cases a0
  ·
   have f3 := condF f2; clear f2
   exact ⟨false, ⟨rfl, trivial⟩, Option.some.inj f3, H.sel [] rfl⟩
  ·
   have f4 := condT f2; clear f2
   obtain ⟨a1, e, f5⟩ := bindS f4; clear f4
   refine boolO e ?_; clear e
   exact ⟨a1, ⟨rfl, trivial⟩, Option.some.inj f5, H.sel [] rfl⟩
 ·
  clear f0 H
  rintro T0 s7 w1 ⟨hr, (H : Cx w0 fp0 S0 w1 [])⟩
  subst hr
  cases f1
  exact ⟨_, _, rfl, ⟨rfl, rfl⟩, (H.sel [] rfl).close trivial⟩

theorem impl_isVector_c (p_ : Int) (v_ : List Int) (v_h : Hd) (n_ : Int) (y : Bool) (hF : F_impl_isVector p_ v_ n_ = some y) :
  ConF Tryd.prog 114 #[(.int .i64 p_), (v_h).v, (.int .i64 n_)] [Es (List Int) v_ v_h] [] (fun v Γ' => v = (.bool y) ∧ Γ' = []) := by
 intro w0 S0 fp0 hI hS
 have H : Cx w0 fp0 S0 w0 [Es (List Int) v_ v_h] := Cx.start hI hS
 clear hI hS
 refine enterC (args := [_, _, _]) gok Tryd.func114 rfl _ rfl rfl rfl ?_
 refine sq ?_
 refine lenE (H.rs (α := List Int) 0 rfl).len ?_
 obtain ⟨a2, e, hF3⟩ := bindS hF; clear hF
 refine boolO e ?_; clear e
 cases a2
 ·
  have hF4 := condF hF3; clear hF3
  refine sq ?_
  refine lenE (H.rs (α := List Int) 0 rfl).len ?_
  have x0 := (H.rs (α := List Int) 0 rfl).max
  obtain ⟨r0, e, f0⟩ := bindS hF4; clear hF4
  refine loopO _ v_.length (fun (k5 : Nat) (_ : Unit) (_ : Unit) => [(0, (.int .i64 p_)), (13, (v_h).v), (14, (.int .i64 ((v_.length : Nat) : Int))), (15, (.int .i64 ((k5 : Nat) : Int)))]) (fun _ (_ : Unit) (_ : Unit) w' => Cx w0 fp0 S0 w' [Es (List Int) v_ v_h]) () () e ⟨rfl, rfl, rfl, rfl, trivial⟩ (H.sel [0] rfl) ?_ ?_
  ·
   clear H e
   rintro T0 k5 _ _ w1 o0 hk (H : Cx w0 fp0 S0 w1 [Es (List Int) v_ v_h]) hrt f1
   refine boolE (z := true) (ltLen hk) ?_
   refine sq ?_
   refine sq ?_
   obtain ⟨a0, e, f2⟩ := bindS f1; clear f1
   obtain ⟨p0, m0, c0, c1, c2, c3⟩ := (H.rs (α := List Int) 0 rfl).at1 e; clear e
   refine idxE c0 c1 c2 ?_; clear c0 c1 c2
   refine load1 c3 ?_; clear c3
   obtain ⟨y0, e, f3⟩ := bindS f2; clear f2
   have ey40 := e; clear e
   refine callF (impl_isElement_c p_ a0 y0 ey40) (Γi := []) H trivial ?_; clear H ey40
   rintro _ _ w2 ⟨rfl, rfl⟩ H
   obtain ⟨a1, e, f4⟩ := bindS f3; clear f3
   refine boolO e ?_; clear e
   cases a1
   ·
    have f5 := condF f4; clear f4
    refine arK hk x0 ?_
    have hs := Option.some.inj f5; subst hs; clear f5
    exact ⟨(), (), rfl, ⟨rfl, rfl, rfl, rfl, trivial⟩, H.sel [0] rfl⟩
   ·
    have f6 := condT f4; clear f4
    have hs := Option.some.inj f6; subst hs; clear f6
    have hr := hrt _ rfl; subst hr
    have f7 : some _ = some _ := f0
    cases f7
    exact ⟨_, _, rfl, ⟨rfl, rfl⟩, (H.sel [] rfl).close trivial⟩
  ·
   clear H e
   rintro T1 _ _ w3 hr (H : Cx w0 fp0 S0 w3 [Es (List Int) v_ v_h])
   subst hr
   refine boolE (z := false) geLen ?_
   refine sq ?_
   cases f0
   exact ⟨_, _, rfl, ⟨rfl, rfl⟩, (H.sel [] rfl).close trivial⟩
 ·
  have f8 := condT hF3; clear hF3
  cases f8
  exact ⟨_, _, rfl, ⟨rfl, rfl⟩, (H.sel [] rfl).close trivial⟩

theorem impl_areVectors_c (p_ : Int) (rows_ : List (List Int)) (rows_h : Hd) (n_ : Int) (y : Bool) (hF : F_impl_areVectors p_ rows_ n_ = some y) :
  ConF Tryd.prog 98 #[(.int .i64 p_), (rows_h).v, (.int .i64 n_)] [Es (List (List Int)) rows_ rows_h] [] (fun v Γ' => v = (.bool y) ∧ Γ' = []) := by
 intro w0 S0 fp0 hI hS
 have H : Cx w0 fp0 S0 w0 [Es (List (List Int)) rows_ rows_h] := Cx.start hI hS
 clear hI hS
 refine enterC (args := [_, _, _]) gok Tryd.func98 rfl _ rfl rfl rfl ?_
 refine sq ?_
 refine lenE (H.rs (α := List (List Int)) 0 rfl).len ?_
 have x0 := (H.rs (α := List (List Int)) 0 rfl).max
 obtain ⟨r0, e, f0⟩ := bindS hF; clear hF
 refine loopO _ rows_.length (fun (k2 : Nat) (_ : Unit) (_ : Unit) => [(0, (.int .i64 p_)), (2, (.int .i64 n_)), (9, (rows_h).v), (10, (.int .i64 ((rows_.length : Nat) : Int))), (11, (.int .i64 ((k2 : Nat) : Int)))]) (fun _ (_ : Unit) (_ : Unit) w' => Cx w0 fp0 S0 w' [Es (List (List Int)) rows_ rows_h]) () () e ⟨rfl, rfl, rfl, rfl, rfl, trivial⟩ (H.sel [0] rfl) ?_ ?_
 ·
  clear H e
  rintro T0 k2 _ _ w1 o0 hk (H : Cx w0 fp0 S0 w1 [Es (List (List Int)) rows_ rows_h]) hrt f1
  refine boolE (z := true) (ltLen hk) ?_
  refine sq ?_
  refine sq ?_
  obtain ⟨a0, e, f2⟩ := bindS f1; clear f1
  have HH := H; clear H; obtain ⟨p0, m0, h0, c0, c1, c2, c3, H⟩ := HH.elL 0 rfl e; clear HH
  clear e
  refine idxE c0 c1 c2 ?_; clear c0 c1 c2
  refine load1 c3 ?_; clear c3
  obtain ⟨y0, e, f3⟩ := bindS f2; clear f2
  have ey41 := e; clear e
  refine callF (impl_isVector_c p_ a0 h0 n_ y0 ey41) (Γi := []) H ⟨Vw.sh 0 rfl, trivial⟩ ?_; clear H ey41
  rintro _ _ w2 ⟨rfl, rfl⟩ H
  obtain ⟨a1, e, f4⟩ := bindS f3; clear f3
  refine boolO e ?_; clear e
  cases a1
  ·
   have f5 := condF f4; clear f4
   refine arK hk x0 ?_
   have hs := Option.some.inj f5; subst hs; clear f5
   exact ⟨(), (), rfl, ⟨rfl, rfl, rfl, rfl, rfl, trivial⟩, H.sel [1] rfl⟩
  ·
   have f6 := condT f4; clear f4
   have hs := Option.some.inj f6; subst hs; clear f6
   have hr := hrt _ rfl; subst hr
   have f7 : some _ = some _ := f0
   cases f7
   exact ⟨_, _, rfl, ⟨rfl, rfl⟩, (H.sel [] rfl).close trivial⟩
 ·
  clear H e
  rintro T1 _ _ w3 hr (H : Cx w0 fp0 S0 w3 [Es (List (List Int)) rows_ rows_h])
  subst hr
  refine boolE (z := false) geLen ?_
  refine sq ?_
  cases f0
  exact ⟨_, _, rfl, ⟨rfl, rfl⟩, (H.sel [] rfl).close trivial⟩

theorem impl_isStateSpace_c (p_ : Int) (s__0 : Int) (s__1 : Int) (s__2 : Int) (s__3 : List (List Int)) (s__3h : Hd) (s__4 : List (List Int)) (s__4h : Hd) (s__5 : List (List Int)) (s__5h : Hd) (s__6 : List (List Int)) (s__6h : Hd) (y : Bool) (hF : F_impl_isStateSpace p_ (s__0, s__1, s__2, s__3, s__4, s__5, s__6) = some y) :
  ConF Tryd.prog 65 #[(.int .i64 p_), (.agg #[(.int .i64 s__0), (.int .i64 s__1), (.int .i64 s__2), (s__3h).v, (s__4h).v, (s__5h).v, (s__6h).v])] [Es (List (List Int)) s__3 s__3h, Es (List (List Int)) s__4 s__4h, Es (List (List Int)) s__5 s__5h, Es (List (List Int)) s__6 s__6h, Gl 0 [.int .i64 2, .int .i64 3, .int .i64 5, .int .i64 7]] [] (fun v Γ' => v = (.bool y) ∧ Γ' = []) := by
 intro w0 S0 fp0 hI hS
 have H : Cx w0 fp0 S0 w0 [Es (List (List Int)) s__3 s__3h, Es (List (List Int)) s__4 s__4h, Es (List (List Int)) s__5 s__5h, Es (List (List Int)) s__6 s__6h, Gl 0 [.int .i64 2, .int .i64 3, .int .i64 5, .int .i64 7]] := Cx.start hI hS
 clear hI hS
 refine enterC (args := [_, _]) gok Tryd.func65 rfl _ rfl rfl rfl ?_
 refine box_ H ?_; clear H; intro b7 w6 hx H
 clear hx
 refine sq ?_
 obtain ⟨r0, f0, f1⟩ := bindS hF; clear hF
 refine cut (fun (q0 : Bool) => [(0, (.int .i64 p_)), (3, (.pointer (some ⟨b7, 0, none⟩))), (25, (.bool q0))]) (fun (q0 : Bool) w' => q0 = r0 ∧ Cx w0 fp0 S0 w' [Bx b7 [(.int .i64 s__0), (.int .i64 s__1), (.int .i64 s__2), (s__3h).v, (s__4h).v, (s__5h).v, (s__6h).v], Es (List (List Int)) s__3 s__3h, Es (List (List Int)) s__4 s__4h, Es (List (List Int)) s__5 s__5h, Es (List (List Int)) s__6 s__6h, Gl 0 [.int .i64 2, .int .i64 3, .int .i64 5, .int .i64 7]]) ?_ ?_
 ·
  obtain ⟨y0, e, f2⟩ := bindS f0; clear f0
  have ey41 := e; clear e
  refine callF (impl_isField_c p_ y0 ey41) (Γi := []) H ⟨Vw.gl 5 rfl, trivial⟩ ?_; clear H ey41
  rintro _ _ w1 ⟨rfl, rfl⟩ H
  obtain ⟨a0, e, f3⟩ := bindS f2; clear f2
  refine boolO e ?_; clear e
  cases a0
  ·
   have f4 := condF f3; clear f3
   refine fld gok rfl rfl rfl rfl ?_
   refine load1 (H.bx 0 rfl (j := 0) rfl) ?_
   obtain ⟨y1, e, f5⟩ := bindS f4; clear f4
   have ey47 := e; clear e
   refine callF (impl_within_c s__0 0 24 y1 ey47) (Γi := []) H trivial ?_; clear H ey47
   rintro _ _ w2 ⟨rfl, rfl⟩ H
   obtain ⟨a1, e, f6⟩ := bindS f5; clear f5
   refine boolO e ?_; clear e
   cases a1
   ·
    have f7 := condF f6; clear f6
    refine fld gok rfl rfl rfl rfl ?_
    refine load1 (H.bx 0 rfl (j := 1) rfl) ?_
    obtain ⟨y2, e, f8⟩ := bindS f7; clear f7
    have ey53 := e; clear e
    refine callF (impl_within_c s__1 0 8 y2 ey53) (Γi := []) H trivial ?_; clear H ey53
    rintro _ _ w3 ⟨rfl, rfl⟩ H
    obtain ⟨a2, e, f9⟩ := bindS f8; clear f8
    refine boolO e ?_; clear e
    cases a2
    ·
     have f10 := condF f9; clear f9
     refine fld gok rfl rfl rfl rfl ?_
     refine load1 (H.bx 0 rfl (j := 2) rfl) ?_
     obtain ⟨y3, e, f11⟩ := bindS f10; clear f10
     have ey59 := e; clear e
     refine callF (impl_within_c s__2 0 8 y3 ey59) (Γi := []) H trivial ?_; clear H ey59
     rintro _ _ w4 ⟨rfl, rfl⟩ H
     obtain ⟨a3, e, f12⟩ := bindS f11; clear f11
     refine boolO e ?_; clear e
     exact ⟨a3, ⟨rfl, rfl, rfl, trivial⟩, Option.some.inj f12, H.sel [0, 1, 2, 3, 4, 5] rfl⟩
    ·
     have f13 := condT f9; clear f9
     exact ⟨true, ⟨rfl, rfl, rfl, trivial⟩, Option.some.inj f13, H.sel [0, 1, 2, 3, 4, 5] rfl⟩
   ·
    have f14 := condT f6; clear f6
    exact ⟨true, ⟨rfl, rfl, rfl, trivial⟩, Option.some.inj f14, H.sel [0, 1, 2, 3, 4, 5] rfl⟩
  ·
   have f15 := condT f3; clear f3
   exact ⟨true, ⟨rfl, rfl, rfl, trivial⟩, Option.some.inj f15, H.sel [0, 1, 2, 3, 4, 5] rfl⟩
 ·
  clear f0 H
  rintro T0 s0 w5 ⟨hr, (H : Cx w0 fp0 S0 w5 [Bx b7 [(.int .i64 s__0), (.int .i64 s__1), (.int .i64 s__2), (s__3h).v, (s__4h).v, (s__5h).v, (s__6h).v], Es (List (List Int)) s__3 s__3h, Es (List (List Int)) s__4 s__4h, Es (List (List Int)) s__5 s__5h, Es (List (List Int)) s__6 s__6h, Gl 0 [.int .i64 2, .int .i64 3, .int .i64 5, .int .i64 7]])⟩
  subst hr
  cases s0
  ·
   have f16 := condF f1; clear f1
   refine sq ?_
   obtain ⟨r1, f17, f18⟩ := bindS f16; clear f16
   refine cut (fun (q1 : Bool) => [(0, (.int .i64 p_)), (3, (.pointer (some ⟨b7, 0, none⟩))), (63, (.bool q1))]) (fun (q1 : Bool) w' => q1 = r1 ∧ Cx w0 fp0 S0 w' [Bx b7 [(.int .i64 s__0), (.int .i64 s__1), (.int .i64 s__2), (s__3h).v, (s__4h).v, (s__5h).v, (s__6h).v], Es (List (List Int)) s__3 s__3h, Es (List (List Int)) s__4 s__4h, Es (List (List Int)) s__5 s__5h, Es (List (List Int)) s__6 s__6h, Gl 0 [.int .i64 2, .int .i64 3, .int .i64 5, .int .i64 7]]) ?_ ?_
   ·
    refine fld gok rfl rfl rfl rfl ?_
    refine load1 (H.bx 0 rfl (j := 3) rfl) ?_
    refine fld gok rfl rfl rfl rfl ?_
    refine load1 (H.bx 0 rfl (j := 0) rfl) ?_
    refine fld gok rfl rfl rfl rfl ?_
    refine load1 (H.bx 0 rfl (j := 0) rfl) ?_
    obtain ⟨y4, e, f19⟩ := bindS f17; clear f17
    have ey102 := e; clear e
    refine callF (impl_table_int_hasShape_c s__3 s__3h s__0 s__0 y4 ey102) (Γi := []) H ⟨Vw.sh 1 rfl, trivial⟩ ?_; clear H ey102
    rintro _ _ w7 ⟨rfl, rfl⟩ H
    obtain ⟨a4, e, f20⟩ := bindS f19; clear f19
    refine boolO e ?_; clear e
    cases a4
    ·
     have f21 := condF f20; clear f20
     refine fld gok rfl rfl rfl rfl ?_
     refine load1 (H.bx 0 rfl (j := 4) rfl) ?_
     refine fld gok rfl rfl rfl rfl ?_
     refine load1 (H.bx 0 rfl (j := 1) rfl) ?_
     refine fld gok rfl rfl rfl rfl ?_
     refine load1 (H.bx 0 rfl (j := 0) rfl) ?_
     obtain ⟨y5, e, f22⟩ := bindS f21; clear f21
     have ey108 := e; clear e
     refine callF (impl_table_int_hasShape_c s__4 s__4h s__1 s__0 y5 ey108) (Γi := []) H ⟨Vw.sh 2 rfl, trivial⟩ ?_; clear H ey108
     rintro _ _ w8 ⟨rfl, rfl⟩ H
     obtain ⟨a5, e, f23⟩ := bindS f22; clear f22
     refine boolO e ?_; clear e
     cases a5
     ·
      have f24 := condF f23; clear f23
      refine fld gok rfl rfl rfl rfl ?_
      refine load1 (H.bx 0 rfl (j := 5) rfl) ?_
      refine fld gok rfl rfl rfl rfl ?_
      refine load1 (H.bx 0 rfl (j := 0) rfl) ?_
      refine fld gok rfl rfl rfl rfl ?_
      refine load1 (H.bx 0 rfl (j := 2) rfl) ?_
      obtain ⟨y6, e, f25⟩ := bindS f24; clear f24
      have ey114 := e; clear e
      refine callF (impl_table_int_hasShape_c s__5 s__5h s__0 s__2 y6 ey114) (Γi := []) H ⟨Vw.sh 3 rfl, trivial⟩ ?_; clear H ey114
      rintro _ _ w9 ⟨rfl, rfl⟩ H
      obtain ⟨a6, e, f26⟩ := bindS f25; clear f25
      refine boolO e ?_; clear e
      cases a6
      ·
       have f27 := condF f26; clear f26
       refine fld gok rfl rfl rfl rfl ?_
       refine load1 (H.bx 0 rfl (j := 6) rfl) ?_
       refine fld gok rfl rfl rfl rfl ?_
       refine load1 (H.bx 0 rfl (j := 1) rfl) ?_
       refine fld gok rfl rfl rfl rfl ?_
       refine load1 (H.bx 0 rfl (j := 2) rfl) ?_
       obtain ⟨y7, e, f28⟩ := bindS f27; clear f27
       have ey120 := e; clear e
       refine callF (impl_table_int_hasShape_c s__6 s__6h s__1 s__2 y7 ey120) (Γi := []) H ⟨Vw.sh 4 rfl, trivial⟩ ?_; clear H ey120
       rintro _ _ w10 ⟨rfl, rfl⟩ H
       obtain ⟨a7, e, f29⟩ := bindS f28; clear f28
       refine boolO e ?_; clear e
       exact ⟨a7, ⟨rfl, rfl, rfl, trivial⟩, Option.some.inj f29, H.sel [0, 1, 2, 3, 4, 5] rfl⟩
      ·
       have f30 := condT f26; clear f26
       exact ⟨true, ⟨rfl, rfl, rfl, trivial⟩, Option.some.inj f30, H.sel [0, 1, 2, 3, 4, 5] rfl⟩
     ·
      have f31 := condT f23; clear f23
      exact ⟨true, ⟨rfl, rfl, rfl, trivial⟩, Option.some.inj f31, H.sel [0, 1, 2, 3, 4, 5] rfl⟩
    ·
     have f32 := condT f20; clear f20
     exact ⟨true, ⟨rfl, rfl, rfl, trivial⟩, Option.some.inj f32, H.sel [0, 1, 2, 3, 4, 5] rfl⟩
   ·
    clear f17 H
    rintro T1 s1 w11 ⟨hr, (H : Cx w0 fp0 S0 w11 [Bx b7 [(.int .i64 s__0), (.int .i64 s__1), (.int .i64 s__2), (s__3h).v, (s__4h).v, (s__5h).v, (s__6h).v], Es (List (List Int)) s__3 s__3h, Es (List (List Int)) s__4 s__4h, Es (List (List Int)) s__5 s__5h, Es (List (List Int)) s__6 s__6h, Gl 0 [.int .i64 2, .int .i64 3, .int .i64 5, .int .i64 7]])⟩
    subst hr
    cases s1
    ·
     have f33 := condF f18; clear f18
     obtain ⟨r2, f34, f35⟩ := bindS f33; clear f33
     refine cut (fun (q2 : Bool) => [(4, (.bool q2))]) (fun (q2 : Bool) w' => q2 = r2 ∧ Cx w0 fp0 S0 w' [Gl 0 [.int .i64 2, .int .i64 3, .int .i64 5, .int .i64 7]]) ?_ ?_
     ·
      refine fld gok rfl rfl rfl rfl ?_
      refine load1 (H.bx 0 rfl (j := 3) rfl) ?_
      refine fld gok rfl rfl rfl rfl ?_
      refine load1 (H.bx 0 rfl (j := 0) rfl) ?_
      obtain ⟨y8, e, f36⟩ := bindS f34; clear f34
      have ey155 := e; clear e
      refine callF (impl_areVectors_c p_ s__3 s__3h s__0 y8 ey155) (Γi := []) H ⟨Vw.sh 1 rfl, trivial⟩ ?_; clear H ey155
      rintro _ _ w12 ⟨rfl, rfl⟩ H
      cases y8
      ·
       have f37 := condF f36; clear f36
       exact ⟨false, ⟨rfl, trivial⟩, Option.some.inj f37, H.sel [5] rfl⟩
      ·
       have f38 := condT f36; clear f36
       refine fld gok rfl rfl rfl rfl ?_
       refine load1 (H.bx 0 rfl (j := 4) rfl) ?_
       refine fld gok rfl rfl rfl rfl ?_
       refine load1 (H.bx 0 rfl (j := 0) rfl) ?_
       obtain ⟨y9, e, f39⟩ := bindS f38; clear f38
       have ey160 := e; clear e
       refine callF (impl_areVectors_c p_ s__4 s__4h s__0 y9 ey160) (Γi := []) H ⟨Vw.sh 2 rfl, trivial⟩ ?_; clear H ey160
       rintro _ _ w13 ⟨rfl, rfl⟩ H
       cases y9
       ·
        have f40 := condF f39; clear f39
        exact ⟨false, ⟨rfl, trivial⟩, Option.some.inj f40, H.sel [5] rfl⟩
       ·
        have f41 := condT f39; clear f39
        refine fld gok rfl rfl rfl rfl ?_
        refine load1 (H.bx 0 rfl (j := 5) rfl) ?_
        refine fld gok rfl rfl rfl rfl ?_
        refine load1 (H.bx 0 rfl (j := 2) rfl) ?_
        obtain ⟨y10, e, f42⟩ := bindS f41; clear f41
        have ey165 := e; clear e
        refine callF (impl_areVectors_c p_ s__5 s__5h s__2 y10 ey165) (Γi := []) H ⟨Vw.sh 3 rfl, trivial⟩ ?_; clear H ey165
        rintro _ _ w14 ⟨rfl, rfl⟩ H
        cases y10
        ·
         have f43 := condF f42; clear f42
         exact ⟨false, ⟨rfl, trivial⟩, Option.some.inj f43, H.sel [5] rfl⟩
        ·
         have f44 := condT f42; clear f42
         refine fld gok rfl rfl rfl rfl ?_
         refine load1 (H.bx 0 rfl (j := 6) rfl) ?_
         refine fld gok rfl rfl rfl rfl ?_
         refine load1 (H.bx 0 rfl (j := 2) rfl) ?_
         obtain ⟨y11, e, f45⟩ := bindS f44; clear f44
         have ey170 := e; clear e
         refine callF (impl_areVectors_c p_ s__6 s__6h s__2 y11 ey170) (Γi := []) H ⟨Vw.sh 4 rfl, trivial⟩ ?_; clear H ey170
         rintro _ _ w15 ⟨rfl, rfl⟩ H
         exact ⟨y11, ⟨rfl, trivial⟩, Option.some.inj f45, H.sel [5] rfl⟩
     ·
      clear f34 H
      rintro T2 s2 w16 ⟨hr, (H : Cx w0 fp0 S0 w16 [Gl 0 [.int .i64 2, .int .i64 3, .int .i64 5, .int .i64 7]])⟩
      subst hr
      cases f35
      exact ⟨_, _, rfl, ⟨rfl, rfl⟩, (H.sel [] rfl).close trivial⟩
    ·
     have f46 := condT f18; clear f18
     cases f46
     exact ⟨_, _, rfl, ⟨rfl, rfl⟩, (H.sel [] rfl).close trivial⟩
  ·
   have f47 := condT f1; clear f1
   cases f47
   exact ⟨_, _, rfl, ⟨rfl, rfl⟩, (H.sel [] rfl).close trivial⟩

theorem impl_twoStateSpaces_c (p_ : Int) (a__0 : Int) (a__1 : Int) (a__2 : Int) (a__3 : List (List Int)) (a__3h : Hd) (a__4 : List (List Int)) (a__4h : Hd) (a__5 : List (List Int)) (a__5h : Hd) (a__6 : List (List Int)) (a__6h : Hd) (b__0 : Int) (b__1 : Int) (b__2 : Int) (b__3 : List (List Int)) (b__3h : Hd) (b__4 : List (List Int)) (b__4h : Hd) (b__5 : List (List Int)) (b__5h : Hd) (b__6 : List (List Int)) (b__6h : Hd) (y : Bool) (hF : F_impl_twoStateSpaces p_ (a__0, a__1, a__2, a__3, a__4, a__5, a__6) (b__0, b__1, b__2, b__3, b__4, b__5, b__6) = some y) :
  ConF Tryd.prog 36 #[(.int .i64 p_), (.agg #[(.int .i64 a__0), (.int .i64 a__1), (.int .i64 a__2), (a__3h).v, (a__4h).v, (a__5h).v, (a__6h).v]), (.agg #[(.int .i64 b__0), (.int .i64 b__1), (.int .i64 b__2), (b__3h).v, (b__4h).v, (b__5h).v, (b__6h).v])] [Es (List (List Int)) a__3 a__3h, Es (List (List Int)) a__4 a__4h, Es (List (List Int)) a__5 a__5h, Es (List (List Int)) a__6 a__6h, Es (List (List Int)) b__3 b__3h, Es (List (List Int)) b__4 b__4h, Es (List (List Int)) b__5 b__5h, Es (List (List Int)) b__6 b__6h, Gl 0 [.int .i64 2, .int .i64 3, .int .i64 5, .int .i64 7]] [] (fun v Γ' => v = (.bool y) ∧ Γ' = []) := by
 intro w0 S0 fp0 hI hS
 have H : Cx w0 fp0 S0 w0 [Es (List (List Int)) a__3 a__3h, Es (List (List Int)) a__4 a__4h, Es (List (List Int)) a__5 a__5h, Es (List (List Int)) a__6 a__6h, Es (List (List Int)) b__3 b__3h, Es (List (List Int)) b__4 b__4h, Es (List (List Int)) b__5 b__5h, Es (List (List Int)) b__6 b__6h, Gl 0 [.int .i64 2, .int .i64 3, .int .i64 5, .int .i64 7]] := Cx.start hI hS
 clear hI hS
 refine enterC (args := [_, _, _]) gok Tryd.func36 rfl _ rfl rfl rfl ?_
 refine box_ H ?_; clear H; intro b0 w1 hx H
 clear hx
 refine box_ H ?_; clear H; intro b1 w2 hx H
 clear hx
 obtain ⟨r0, f0, f1⟩ := bindS hF; clear hF
 refine cut (fun (q0 : Bool) => [(6, (.bool q0))]) (fun (q0 : Bool) w' => q0 = r0 ∧ Cx w0 fp0 S0 w' [Gl 0 [.int .i64 2, .int .i64 3, .int .i64 5, .int .i64 7]]) ?_ ?_
 ·
  refine loadN [(.int .i64 a__0), (.int .i64 a__1), (.int .i64 a__2), (a__3h).v, (a__4h).v, (a__5h).v, (a__6h).v] rfl (fun j u hj => H.bx 1 rfl hj) ?_
  obtain ⟨y0, e, f2⟩ := bindS f0; clear f0
  have ey38 := e; clear e
  refine callF (impl_isStateSpace_c p_ a__0 a__1 a__2 a__3 a__3h a__4 a__4h a__5 a__5h a__6 a__6h y0 ey38) (Γi := []) H ⟨Vw.sh 2 rfl, Vw.sh 3 rfl, Vw.sh 4 rfl, Vw.sh 5 rfl, Vw.gl 10 rfl, trivial⟩ ?_; clear H ey38
  rintro _ _ w3 ⟨rfl, rfl⟩ H
  cases y0
  ·
   have f3 := condF f2; clear f2
   exact ⟨false, ⟨rfl, trivial⟩, Option.some.inj f3, H.sel [10] rfl⟩
  ·
   have f4 := condT f2; clear f2
   refine loadN [(.int .i64 b__0), (.int .i64 b__1), (.int .i64 b__2), (b__3h).v, (b__4h).v, (b__5h).v, (b__6h).v] rfl (fun j u hj => H.bx 0 rfl hj) ?_
   obtain ⟨y1, e, f5⟩ := bindS f4; clear f4
   have ey43 := e; clear e
   refine callF (impl_isStateSpace_c p_ b__0 b__1 b__2 b__3 b__3h b__4 b__4h b__5 b__5h b__6 b__6h y1 ey43) (Γi := []) H ⟨Vw.sh 6 rfl, Vw.sh 7 rfl, Vw.sh 8 rfl, Vw.sh 9 rfl, Vw.gl 10 rfl, trivial⟩ ?_; clear H ey43
   rintro _ _ w4 ⟨rfl, rfl⟩ H
   cases y1
   ·
    have f6 := condF f5; clear f5
    exact ⟨false, ⟨rfl, trivial⟩, Option.some.inj f6, H.sel [10] rfl⟩
   ·
    have f7 := condT f5; clear f5
    refine fld gok rfl rfl rfl rfl ?_
    refine load1 (H.bx 1 rfl (j := 1) rfl) ?_
    refine fld gok rfl rfl rfl rfl ?_
    refine load1 (H.bx 0 rfl (j := 1) rfl) ?_
    obtain ⟨a0, e, f8⟩ := bindS f7; clear f7
    refine boolO e ?_; clear e
    cases a0
    ·
     have f9 := condF f8; clear f8
     exact ⟨false, ⟨rfl, trivial⟩, Option.some.inj f9, H.sel [10] rfl⟩
    ·
     have f10 := condT f8; clear f8
     refine fld gok rfl rfl rfl rfl ?_
     refine load1 (H.bx 1 rfl (j := 2) rfl) ?_
     refine fld gok rfl rfl rfl rfl ?_
     refine load1 (H.bx 0 rfl (j := 2) rfl) ?_
     obtain ⟨a1, e, f11⟩ := bindS f10; clear f10
     refine boolO e ?_; clear e
     exact ⟨a1, ⟨rfl, trivial⟩, Option.some.inj f11, H.sel [10] rfl⟩
 ·
  clear f0 H
  rintro T0 s0 w5 ⟨hr, (H : Cx w0 fp0 S0 w5 [Gl 0 [.int .i64 2, .int .i64 3, .int .i64 5, .int .i64 7]])⟩
  subst hr
  cases f1
  exact ⟨_, _, rfl, ⟨rfl, rfl⟩, (H.sel [] rfl).close trivial⟩

theorem impl_clone_c (list_ : List Int) (list_h : Hd) (y : List Int) (hF : F_impl_clone list_ = some y) :
  ConF Tryd.prog 92 #[(list_h).v] [Es (List Int) list_ list_h] [] (fun v Γ' => ∃ z0 : Hd, v = (z0).v ∧ Γ' = [E (List Int) y z0]) := by
 intro w0 S0 fp0 hI hS
 have H : Cx w0 fp0 S0 w0 [Es (List Int) list_ list_h] := Cx.start hI hS
 clear hI hS
 refine enterC (args := [_]) gok Tryd.func92 rfl _ rfl rfl rfl ?_
 refine lit0 (α := Int) gok rfl rfl H ?_; clear H; intro h3 w2 hx H
 clear hx
 obtain ⟨a5, e, hF6⟩ := bindS hF; clear hF
 refine appendS (α := Int) gok rfl rfl rfl rfl H (Vw.sh 0 rfl) e ?_; clear e H; intro h8 w7 H
 cases hF6
 exact ⟨_, _, rfl, ⟨h8, rfl, rfl⟩, (H.sel [0] rfl).close ⟨cloE, trivial⟩⟩

theorem impl_clones_c (list_ : List (List Int)) (list_h : Hd) (y : List (List Int)) (hF : F_impl_clones list_ = some y) :
  ConF Tryd.prog 71 #[(list_h).v] [Es (List (List Int)) list_ list_h] [] (fun v Γ' => ∃ z0 : Hd, v = (z0).v ∧ Γ' = [E (List (List Int)) y z0]) := by
 intro w0 S0 fp0 hI hS
 have H : Cx w0 fp0 S0 w0 [Es (List (List Int)) list_ list_h] := Cx.start hI hS
 clear hI hS
 refine enterC (args := [_]) gok Tryd.func71 rfl _ rfl rfl rfl ?_
 refine lenE (H.rs (α := List (List Int)) 0 rfl).len ?_
 obtain ⟨a2, e, hF3⟩ := bindS hF; clear hF
 refine make_ (α := List Int) gok rfl rfl rfl rfl e H ?_; clear e H; intro h5 w4 hx H
 clear hx
 refine sq ?_
 refine lenE (H.rs (α := List (List Int)) 1 rfl).len ?_
 have x0 := (H.rs (α := List (List Int)) 1 rfl).max
 obtain ⟨r0, e, f0⟩ := bindS hF3; clear hF3
 refine loopS _ list_.length (fun (k7 : Nat) (s0 : List (List Int)) (g0 : Hd) => [(3, (g0).v), (9, (list_h).v), (10, (.int .i64 ((list_.length : Nat) : Int))), (11, (.int .i64 ((k7 : Nat) : Int)))]) (fun _ (s0 : List (List Int)) (g0 : Hd) w' => Cx w0 fp0 S0 w' [E (List (List Int)) s0 g0, Es (List (List Int)) list_ list_h]) a2 h5 e ⟨rfl, rfl, rfl, rfl, trivial⟩ (H.sel [0, 1] rfl) ?_ ?_
 ·
  clear H e
  rintro T0 k7 s0 g0 w1 o0 hk (H : Cx w0 fp0 S0 w1 [E (List (List Int)) s0 g0, Es (List (List Int)) list_ list_h]) f1
  refine boolE (z := true) (ltLen hk) ?_
  refine sq ?_
  refine sq ?_
  obtain ⟨a0, e, f2⟩ := bindS f1; clear f1
  have HH := H; clear H; obtain ⟨p0, m0, h0, c0, c1, c2, c3, H⟩ := HH.elL 1 rfl e; clear HH
  clear e
  refine idxE c0 c1 c2 ?_; clear c0 c1 c2
  refine load1 c3 ?_; clear c3
  obtain ⟨y0, e, f3⟩ := bindS f2; clear f2
  have ey79 := e; clear e
  refine callF (impl_clone_c a0 h0 y0 ey79) (Γi := []) H ⟨Vw.sh 0 rfl, trivial⟩ ?_; clear H ey79
  rintro _ _ w2 ⟨h1, rfl, rfl⟩ H
  refine lit1 (α := List Int) (g := h1) gok rfl rfl rfl rfl rfl H ?_; clear H; intro h2 w3 hx H
  clear hx
  obtain ⟨a1, e, f4⟩ := bindS f3; clear f3
  replace H := H.sel [2, 0, 1, 3] rfl
  refine append_ (α := List Int) gok rfl rfl rfl rfl H e ?_; clear e H; intro h3 w5 H
  refine arK hk x0 ?_
  have hs := Option.some.inj f4; subst hs; clear f4
  exact ⟨h3, ⟨rfl, rfl, rfl, rfl, trivial⟩, H.sel [0, 2] rfl⟩
 ·
  clear H e
  rintro T1 g1 w6 (H : Cx w0 fp0 S0 w6 [E (List (List Int)) r0 g1, Es (List (List Int)) list_ list_h])
  refine boolE (z := false) geLen ?_
  refine sq ?_
  cases f0
  exact ⟨_, _, rfl, ⟨g1, rfl, rfl⟩, (H.sel [0] rfl).close ⟨cloE, trivial⟩⟩

theorem impl_bit_c (yes_ : Bool) (y : Int) (hF : F_impl_bit yes_ = some y) :
  ConF Tryd.prog 119 #[(.bool yes_)] [] [] (fun v Γ' => v = (.int .i64 y) ∧ Γ' = []) := by
 intro w0 S0 fp0 hI hS
 have H : Cx w0 fp0 S0 w0 [] := Cx.start hI hS
 clear hI hS
 refine enterC (args := [_]) gok Tryd.func119 rfl _ rfl rfl rfl ?_
 refine sq ?_
 cases yes_
 ·
  have hF1 := condF hF; clear hF
  cases hF1
  exact ⟨_, _, rfl, ⟨rfl, rfl⟩, (H.sel [] rfl).close trivial⟩
 ·
  have hF2 := condT hF; clear hF
  cases hF2
  exact ⟨_, _, rfl, ⟨rfl, rfl⟩, (H.sel [] rfl).close trivial⟩

theorem impl_power_c (p_ : Int) (a_ : Int) (n_ : Int) (y : Int) (hF : F_impl_power p_ a_ n_ = some y) :
  ConF Tryd.prog 118 #[(.int .i64 p_), (.int .i64 a_), (.int .i64 n_)] [] [] (fun v Γ' => v = (.int .i64 y) ∧ Γ' = []) := by
 intro w0 S0 fp0 hI hS
 have H : Cx w0 fp0 S0 w0 [] := Cx.start hI hS
 clear hI hS
 refine enterC (args := [_, _, _]) gok Tryd.func118 rfl _ rfl rfl rfl ?_
 obtain ⟨a1, e, hF2⟩ := bindS hF; clear hF
 refine remO_ e ?_; clear e
 obtain ⟨r0, f0, f1⟩ := bindS hF2; clear hF2
 refine cut (fun (q0 : Int) => [(7, (.int .i64 q0))]) (fun (q0 : Int) w' => q0 = r0 ∧ Cx w0 fp0 S0 w' []) ?_ ?_
 ·
  refine loopW _ (fun (s0 : Int × Int × Int) (_ : Unit) => [(0, (.int .i64 p_)), (1, (.int .i64 s0.1)), (2, (.int .i64 s0.2.1)), (7, (.int .i64 s0.2.2))]) (fun (s0 : Int × Int × Int) (_ : Unit) w' => Cx w0 fp0 S0 w' []) (a_, n_, a1) () f0 ⟨rfl, rfl, rfl, rfl, trivial⟩ (H.sel [] rfl) ?_
  ·
   clear H
   rintro T0 ⟨s0_0, s0_1, s0_2⟩ _ w1 o0 (H : Cx w0 fp0 S0 w1 []) hrt f2
   refine sq ?_
   obtain ⟨a0, e, f3⟩ := bindS f2; clear f2
   refine boolO e ?_; clear e
   cases a0
   ·
    have f4 := condF f3; clear f3
    have hs := Option.some.inj f4; subst hs; clear f4
    have f5 : some _ = some _ := congrArg some (hrt _ rfl).symm
    exact ⟨s0_2, ⟨rfl, trivial⟩, Option.some.inj f5, H.sel [] rfl⟩
   ·
    have f6 := condT f3; clear f3
    refine sq ?_
    obtain ⟨r1, f7, f8⟩ := bindS f6; clear f6
    refine cut (fun (q1 : Int) => [(0, (.int .i64 p_)), (1, (.int .i64 s0_0)), (2, (.int .i64 s0_1)), (7, (.int .i64 q1))]) (fun (q1 : Int) w' => q1 = r1 ∧ Cx w0 fp0 S0 w' []) ?_ ?_
    ·
     obtain ⟨a2, e, f9⟩ := bindS f7; clear f7
     refine remO_ e ?_; clear e
     obtain ⟨a3, e, f10⟩ := bindS f9; clear f9
     refine boolO e ?_; clear e
     cases a3
     ·
      have f11 := condF f10; clear f10
      exact ⟨s0_2, ⟨rfl, rfl, rfl, rfl, trivial⟩, Option.some.inj f11, H.sel [] rfl⟩
     ·
      have f12 := condT f10; clear f10
      obtain ⟨a4, e, f13⟩ := bindS f12; clear f12
      refine arO e ?_; clear e
      obtain ⟨a5, e, f14⟩ := bindS f13; clear f13
      refine remO_ e ?_; clear e
      exact ⟨a5, ⟨rfl, rfl, rfl, rfl, trivial⟩, Option.some.inj f14, H.sel [] rfl⟩
    ·
     clear f7 H
     rintro T1 s1 w2 ⟨hr, (H : Cx w0 fp0 S0 w2 [])⟩
     subst hr
     obtain ⟨a6, e, f15⟩ := bindS f8; clear f8
     refine arO e ?_; clear e
     obtain ⟨a7, e, f16⟩ := bindS f15; clear f15
     refine remO_ e ?_; clear e
     obtain ⟨a8, e, f17⟩ := bindS f16; clear f16
     refine quoO_ e ?_; clear e
     have hs := Option.some.inj f17; subst hs; clear f17
     exact ⟨(a7, a8, s1), (), rfl, ⟨rfl, rfl, rfl, rfl, trivial⟩, H.sel [] rfl⟩
 ·
  clear f0 H
  rintro T2 s2 w3 ⟨hr, (H : Cx w0 fp0 S0 w3 [])⟩
  subst hr
  cases f1
  exact ⟨_, _, rfl, ⟨rfl, rfl⟩, (H.sel [] rfl).close trivial⟩

theorem impl_inverse_c (p_ : Int) (a_ : Int) (y : Int) (hF : F_impl_inverse p_ a_ = some y) :
  ConF Tryd.prog 103 #[(.int .i64 p_), (.int .i64 a_)] [] [] (fun v Γ' => v = (.int .i64 y) ∧ Γ' = []) := by
 intro w0 S0 fp0 hI hS
 have H : Cx w0 fp0 S0 w0 [] := Cx.start hI hS
 clear hI hS
 refine enterC (args := [_, _]) gok Tryd.func103 rfl _ rfl rfl rfl ?_
 obtain ⟨a1, e, hF2⟩ := bindS hF; clear hF
 refine arO e ?_; clear e
 obtain ⟨a3, e, hF4⟩ := bindS hF2; clear hF2
 refine boolO e ?_; clear e
 obtain ⟨y5, e, hF6⟩ := bindS hF4; clear hF4
 have ey5 := e; clear e
 refine callF (impl_bit_c a3 y5 ey5) (Γi := []) H trivial ?_; clear H ey5
 rintro _ _ w7 ⟨rfl, rfl⟩ H
 obtain ⟨a8, e, hF9⟩ := bindS hF6; clear hF6
 refine arO e ?_; clear e
 obtain ⟨y0, e, f0⟩ := bindS hF9; clear hF9
 have ey10 := e; clear e
 refine callF (impl_power_c p_ a_ a8 y0 ey10) (Γi := []) H trivial ?_; clear H ey10
 rintro _ _ w1 ⟨rfl, rfl⟩ H
 cases f0
 exact ⟨_, _, rfl, ⟨rfl, rfl⟩, (H.sel [] rfl).close trivial⟩

theorem impl_mod_c (p_ : Int) (a_ : Int) (y : Int) (hF : F_impl_mod p_ a_ = some y) :
  ConF Tryd.prog 120 #[(.int .i64 p_), (.int .i64 a_)] [] [] (fun v Γ' => v = (.int .i64 y) ∧ Γ' = []) := by
 intro w0 S0 fp0 hI hS
 have H : Cx w0 fp0 S0 w0 [] := Cx.start hI hS
 clear hI hS
 refine enterC (args := [_, _]) gok Tryd.func120 rfl _ rfl rfl rfl ?_
 obtain ⟨a1, e, hF2⟩ := bindS hF; clear hF
 refine remO_ e ?_; clear e
 refine sq ?_
 obtain ⟨a3, e, hF4⟩ := bindS hF2; clear hF2
 refine boolO e ?_; clear e
 cases a3
 ·
  have hF5 := condF hF4; clear hF4
  cases hF5
  exact ⟨_, _, rfl, ⟨rfl, rfl⟩, (H.sel [] rfl).close trivial⟩
 ·
  have hF6 := condT hF4; clear hF4
  obtain ⟨a7, e, hF8⟩ := bindS hF6; clear hF6
  refine arO e ?_; clear e
  cases hF8
  exact ⟨_, _, rfl, ⟨rfl, rfl⟩, (H.sel [] rfl).close trivial⟩

theorem impl_addTimes_c (p_ : Int) (v_ : List Int) (v_h : Hd) (by_ : Int) (w_ : List Int) (w_h : Hd) (y : List Int) (hF : F_impl_addTimes p_ v_ by_ w_ = some y) :
  ConF Tryd.prog 104 #[(.int .i64 p_), (v_h).v, (.int .i64 by_), (w_h).v] [Es (List Int) w_ w_h] [E (List Int) v_ v_h] (fun v Γ' => v = (.tuple #[]) ∧ Γ' = [E (List Int) y v_h]) := by
 intro w0 S0 fp0 hI hS
 have H : Cx w0 fp0 S0 w0 [Es (List Int) w_ w_h, E (List Int) v_ v_h] := Cx.start hI hS
 clear hI hS
 refine enterC (args := [_, _, _, _]) gok Tryd.func104 rfl _ rfl rfl rfl ?_
 refine lenE (H.rs (α := List Int) 0 rfl).len ?_
 have x0 := (H.rs (α := List Int) 0 rfl).max
 obtain ⟨r0, e, f0⟩ := bindS hF; clear hF
 refine loopS _ w_.length (fun (k3 : Nat) (s0 : List Int) (_ : Unit) => [(0, (.int .i64 p_)), (1, (v_h).v), (2, (.int .i64 by_)), (10, (w_h).v), (11, (.int .i64 ((w_.length : Nat) : Int))), (12, (.int .i64 ((k3 : Nat) : Int)))]) (fun _ (s0 : List Int) (_ : Unit) w' => Cx w0 fp0 S0 w' [E (List Int) s0 v_h, Es (List Int) w_ w_h]) v_ () e ⟨rfl, rfl, rfl, rfl, rfl, rfl, trivial⟩ (H.sel [1, 0] rfl) ?_ ?_
 ·
  clear H e
  rintro T0 k3 s0 _ w1 o0 hk (H : Cx w0 fp0 S0 w1 [E (List Int) s0 v_h, Es (List Int) w_ w_h]) f1
  refine boolE (z := true) (ltLen hk) ?_
  refine sq ?_
  refine sq ?_
  obtain ⟨a0, e, f2⟩ := bindS f1; clear f1
  obtain ⟨p0, m0, c0, c1, c2, c3⟩ := (H.rs (α := List Int) 1 rfl).at1 e; clear e
  refine idxE c0 c1 c2 ?_; clear c0 c1 c2
  refine load1 c3 ?_; clear c3
  obtain ⟨a1, e, f3⟩ := bindS f2; clear f2
  obtain ⟨p1, m1, c4, c5, c6, c7⟩ := (H.ro (α := List Int) 0 rfl).at1 e; clear e
  refine idxE c4 c5 c6 ?_; clear c4 c5 c6
  refine load1 c7 ?_; clear c7
  obtain ⟨a2, e, f4⟩ := bindS f3; clear f3
  refine arO e ?_; clear e
  obtain ⟨a3, e, f5⟩ := bindS f4; clear f4
  refine arO e ?_; clear e
  obtain ⟨y0, e, f6⟩ := bindS f5; clear f5
  have ey101 := e; clear e
  refine callF (impl_mod_c p_ a3 y0 ey101) (Γi := []) H trivial ?_; clear H ey101
  rintro _ _ w2 ⟨rfl, rfl⟩ H
  obtain ⟨a4, e, f7⟩ := bindS f6; clear f6
  have ea110 := e; clear e
  obtain ⟨p2, m2, c8, c9, c10⟩ := (H.ro (α := List Int) 0 rfl).setp ea110
  refine idxE c8 c9 c10 ?_
  refine setS (α := Int) H c8 c9 ea110 ?_; clear H c8 c9 c10 ea110; intro w3 H
  refine arK hk x0 ?_
  have hs := Option.some.inj f7; subst hs; clear f7
  exact ⟨(), ⟨rfl, rfl, rfl, rfl, rfl, rfl, trivial⟩, H.sel [0, 1] rfl⟩
 ·
  clear H e
  rintro T1 _ w4 (H : Cx w0 fp0 S0 w4 [E (List Int) r0 v_h, Es (List Int) w_ w_h])
  refine boolE (z := false) geLen ?_
  refine sq ?_
  cases f0
  exact ⟨_, _, rfl, ⟨rfl, rfl⟩, (H.sel [0] rfl).close ⟨cloE, trivial⟩⟩

theorem impl_rowOperation_apply_c (o__0 : Int) (o__1 : Int) (o__2 : Int) (o__3 : Int) (p_ : Int) (rows_ : List (List Int)) (rows_h : Hd) (y : List (List Int)) (hF : F_impl_rowOperation_apply (o__0, o__1, o__2, o__3) p_ rows_ = some y) :
  ConF Tryd.prog 74 #[(.agg #[(.int .i64 o__0), (.int .i64 o__1), (.int .i64 o__2), (.int .i64 o__3)]), (.int .i64 p_), (rows_h).v] [] [E (List (List Int)) rows_ rows_h] (fun v Γ' => v = (.tuple #[]) ∧ Γ' = [E (List (List Int)) y rows_h]) := by
 intro w0 S0 fp0 hI hS
 have H : Cx w0 fp0 S0 w0 [E (List (List Int)) rows_ rows_h] := Cx.start hI hS
 clear hI hS
 refine enterC (args := [_, _, _]) gok Tryd.func74 rfl _ rfl rfl rfl ?_
 refine box_ H ?_; clear H; intro b3 w2 hx H
 clear hx
 refine fld gok rfl rfl rfl rfl ?_
 refine load1 (H.bx 0 rfl (j := 0) rfl) ?_
 obtain ⟨a5, e, hF6⟩ := bindS hF; clear hF
 refine boolO e ?_; clear e
 cases a5
 ·
  have hF7 := condF hF6; clear hF6
  obtain ⟨a8, e, hF9⟩ := bindS hF7; clear hF7
  refine boolO e ?_; clear e
  cases a8
  ·
   have f0 := condF hF9; clear hF9
   obtain ⟨a0, e, f1⟩ := bindS f0; clear f0
   refine boolO e ?_; clear e
   cases a0
   ·
    have f2 := condF f1; clear f1
    cases f2
    exact ⟨_, _, rfl, ⟨rfl, rfl⟩, (H.sel [1] rfl).close ⟨cloE, trivial⟩⟩
   ·
    have f3 := condT f1; clear f1
    refine heldX H [14] (.fst 0 (.fst 1 (.fst 2 (.fst 6 (.fst 9 (.fst 10 (.fst 3 (.fst 4 (.fst 5 (.fst 7 (.fst 8 (.fst 11 (.fst 12 (.fst 13 (.act 14 .done))))))))))))))) mixed [] trivial (by kernel_rfl) ?_
    clear H; intro w1 H
    have hX : Ext w1 w1 := Upd.refl _ _
    have H0 := H
    refine anyH (fun _ => fld gok rfl rfl rfl rfl ⟨rfl, rfl⟩) ?_
    refine anyH (fun _ => fld gok rfl rfl rfl rfl ⟨rfl, rfl⟩) ?_
    refine anyH (fun _ => fld gok rfl rfl rfl rfl ⟨rfl, rfl⟩) ?_
    refine load1X (H.bx 0 rfl (j := 1) rfl) ?_
    obtain ⟨a1, e, f4⟩ := bindS f3; clear f3
    replace H := H.sel [1, 0] rfl
    replace H := H.toEH (α := List Int)
    have HH := H; clear H; obtain ⟨p0, m0, h0, c0, c1, c2, c3, H⟩ := HH.peekL e; clear HH
    clear e
    refine idxE c0 c1 c2 ?_
    refine load1X c3 ?_; clear c3
    refine load1X (H.bx 1 rfl (j := 3) rfl) ?_
    obtain ⟨a2, e, f5⟩ := bindS f4; clear f4
    refine arO e ?_; clear e
    refine load1X (H.bx 1 rfl (j := 2) rfl) ?_
    obtain ⟨a3, e, f6⟩ := bindS f5; clear f5
    have HH := H; clear H; obtain ⟨p1, m1, h1, c4, c5, c6, c7, H⟩ := HH.peekL e; clear HH
    clear e
    refine idxE c4 c5 c6 ?_
    refine load1X c7 ?_; clear c7
    obtain ⟨y0, e, f7⟩ := bindS f6; clear f6
    have ey36 := e; clear e
    have u0 := H.kn 0 rfl 0 rfl
    obtain ⟨u1, n0, f8⟩ := bindS f7; clear f7
    have q0 : m1 ≠ m0 := fun q => neqO_some n0 (by omega)
    replace H := H.takeK 1 rfl
    refine callF (impl_addTimes_c p_ a1 h0 a2 a3 h1 y0 ey36) (Γi := [E (List Int) a1 h0]) H ⟨Vw.ex (α := List Int) (k := ⟨m1, a3, h1⟩) 0 rfl u0 q0, trivial⟩ ?_; clear H ey36
    rintro _ _ w3 ⟨rfl, rfl⟩ H
    obtain ⟨a4, e, f9⟩ := bindS f8; clear f8
    replace H := H.put c1 e; clear e
    refine hold trivial ?_
    cases f9
    exact ⟨_, _, rfl, ⟨rfl, rfl⟩, (H.sel [0] rfl).close ⟨cloE, trivial⟩⟩
  ·
   have f10 := condT hF9; clear hF9
   refine fld gok rfl rfl rfl rfl ?_
   refine load1 (H.bx 0 rfl (j := 3) rfl) ?_
   obtain ⟨y1, e, f11⟩ := bindS f10; clear f10
   have ey48 := e; clear e
   refine callF (impl_inverse_c p_ o__3 y1 ey48) (Γi := []) H trivial ?_; clear H ey48
   rintro _ _ w4 ⟨rfl, rfl⟩ H
   refine fld gok rfl rfl rfl rfl ?_
   refine load1 (H.bx 0 rfl (j := 1) rfl) ?_
   obtain ⟨a6, e, f12⟩ := bindS f11; clear f11
   replace H := H.sel [1, 0] rfl
   have HH := H; clear H; obtain ⟨p2, m2, h2, c8, c9, c10, H⟩ := HH.take e; clear HH
   clear e
   have c11 := H.hx0 1 rfl c8 rfl
   refine idxE c8 c9 c10 ?_
   refine load1 c11 ?_; clear c11
   refine lenE (H.ro (α := List Int) 0 rfl).len ?_
   have x0 := (H.ro (α := List Int) 0 rfl).max
   obtain ⟨r0, e, f13⟩ := bindS f12; clear f12
   refine loopS _ a6.length (fun (k0 : Nat) (s0 : List Int) (_ : Unit) => [(1, (.int .i64 p_)), (2, (rows_h).v), (3, (.pointer (some ⟨b3, 0, none⟩))), (6, (.int .i64 y1)), (41, (h2).v), (42, (.int .i64 ((a6.length : Nat) : Int))), (43, (.int .i64 ((k0 : Nat) : Int)))]) (fun _ (s0 : List Int) (_ : Unit) w' => Cx w0 fp0 S0 w' [EX (List Int) m2 [(h2).v] rows_ rows_h, Bx b3 [(.int .i64 o__0), (.int .i64 o__1), (.int .i64 o__2), (.int .i64 o__3)], E (List Int) s0 h2]) a6 () e ⟨rfl, rfl, rfl, rfl, rfl, rfl, rfl, trivial⟩ (H.sel [1, 2, 0] rfl) ?_ ?_
   ·
    clear H e
    rintro T0 k0 s0 _ w5 o0 hk (H : Cx w0 fp0 S0 w5 [EX (List Int) m2 [(h2).v] rows_ rows_h, Bx b3 [(.int .i64 o__0), (.int .i64 o__1), (.int .i64 o__2), (.int .i64 o__3)], E (List Int) s0 h2]) f14
    refine boolE (z := true) (ltLen hk) ?_
    refine sq ?_
    refine sq ?_
    obtain ⟨a7, e, f15⟩ := bindS f14; clear f14
    obtain ⟨p3, m3, c12, c13, c14, c15⟩ := (H.ro (α := List Int) 2 rfl).at1 e; clear e
    refine idxE c12 c13 c14 ?_; clear c12 c13 c14
    refine load1 c15 ?_; clear c15
    refine heldX H [12] (.fst 0 (.fst 1 (.fst 5 (.fst 6 (.fst 7 (.fst 8 (.fst 9 (.fst 10 (.fst 2 (.fst 3 (.fst 4 (.fst 11 (.act 12 .done))))))))))))) mixed [] trivial (by kernel_rfl) ?_
    clear H; intro w6 H
    have hX : Ext w6 w6 := Upd.refl _ _
    have H0 := H
    refine anyH (fun _ => fld gok rfl rfl rfl rfl ⟨rfl, rfl⟩) ?_
    obtain ⟨a9, e, f16⟩ := bindS f15; clear f15
    refine arO e ?_; clear e
    obtain ⟨a10, e, f17⟩ := bindS f16; clear f16
    refine remO_ e ?_; clear e
    refine load1X (H.bx 1 rfl (j := 1) rfl) ?_
    have c20 := H.hx0 0 rfl c8 rfl
    refine idxE c8 c9 c10 ?_
    refine load1X c20 ?_; clear c20
    obtain ⟨a12, e, f18⟩ := bindS f17; clear f17
    have ea156 := e; clear e
    obtain ⟨p4, m4, c21, c22, c23⟩ := (H.ro (α := List Int) 2 rfl).setp ea156
    refine idxE c21 c22 c23 ?_
    replace H := H.sel [2, 0, 1] rfl
    refine setS (α := Int) H c21 c22 ea156 ?_; clear H c21 c22 c23 ea156; intro w7 H
    refine hold trivial ?_
    refine arK hk x0 ?_
    have hs := Option.some.inj f18; subst hs; clear f18
    exact ⟨(), ⟨rfl, rfl, rfl, rfl, rfl, rfl, rfl, trivial⟩, H.sel [1, 2, 0] rfl⟩
   ·
    clear H e
    rintro T1 _ w8 (H : Cx w0 fp0 S0 w8 [EX (List Int) m2 [(h2).v] rows_ rows_h, Bx b3 [(.int .i64 o__0), (.int .i64 o__1), (.int .i64 o__2), (.int .i64 o__3)], E (List Int) r0 h2])
    refine boolE (z := false) geLen ?_
    refine sq ?_
    obtain ⟨a13, e, f19⟩ := bindS f13; clear f13
    replace H := H.sel [2, 0, 1] rfl
    replace H := H.put c9 e; clear e
    cases f19
    exact ⟨_, _, rfl, ⟨rfl, rfl⟩, (H.sel [0] rfl).close ⟨cloE, trivial⟩⟩
 ·
  have f20 := condT hF6; clear hF6
  refine heldX H [17, 19, 18, 0, 1, 2, 3, 4, 5] (.pure 0 (.pure 1 (.pure 2 (.pure 3 (.pure 4 (.pure 5 (.fst 6 (.fst 7 (.fst 11 (.fst 12 (.fst 8 (.fst 9 (.fst 10 (.fst 13 (.fst 14 (.fst 15 (.fst 16 (.act 17 (.act 18 (.act 19 .done)))))))))))))))))))) mixed [((Addr.add ⟨b3, 0, none⟩ 1), (.int .i64 o__1)), ((Addr.add ⟨b3, 0, none⟩ 2), (.int .i64 o__2))] ⟨H.bx 0 rfl (j := 1) rfl, H.bx 0 rfl (j := 2) rfl, trivial⟩ (by kernel_rfl) ?_
  clear H; intro w9 H
  have hX : Ext w9 w9 := Upd.refl _ _
  have H0 := H
  refine anyH (fun _ => fld gok rfl rfl rfl rfl ⟨rfl, rfl⟩) ?_
  refine load1W 0 rfl ?_
  refine anyH (fun _ => fld gok rfl rfl rfl rfl ⟨rfl, rfl⟩) ?_
  refine load1W 1 rfl ?_
  refine anyH (fun _ => fld gok rfl rfl rfl rfl ⟨rfl, rfl⟩) ?_
  refine anyH (fun _ => fld gok rfl rfl rfl rfl ⟨rfl, rfl⟩) ?_
  refine load1X (H.bx 0 rfl (j := 2) rfl) ?_
  obtain ⟨a14, e, f21⟩ := bindS f20; clear f20
  replace H := H.sel [1, 0] rfl
  replace H := H.toEH (α := List Int)
  have HH := H; clear H; obtain ⟨p5, m5, h3, c24, c25, c26, c31, H⟩ := HH.peekL e; clear HH
  clear e
  refine idxE c24 c25 c26 ?_
  refine load1X c31 ?_; clear c31
  refine load1X (H.bx 1 rfl (j := 1) rfl) ?_
  obtain ⟨a15, e, f22⟩ := bindS f21; clear f21
  have HH := H; clear H; obtain ⟨p6, m6, h4, c32, c33, c34, c35, H⟩ := HH.peekL e; clear HH
  clear e
  refine idxE c32 c33 c34 ?_
  refine load1X c35 ?_; clear c35
  refine idxE c32 c33 c34 ?_
  refine stZ1 (ki := 0) (kj := 1) H rfl rfl c32 ?_; clear H; intro w10 H
  refine hold ⟨H.bx 1 rfl (j := 1) rfl, H.bx 1 rfl (j := 2) rfl, trivial⟩ ?_
  refine idxE c24 c25 c26 ?_
  refine hold ⟨H.bx 1 rfl (j := 1) rfl, H.bx 1 rfl (j := 2) rfl, trivial⟩ ?_
  obtain ⟨a16, e, f23⟩ := bindS f22; clear f22
  refine stZ2 H c33 c25 c24 e ?_; clear H e; intro w11 H
  refine hold ⟨H.bx 1 rfl (j := 1) rfl, H.bx 1 rfl (j := 2) rfl, trivial⟩ ?_
  cases f23
  exact ⟨_, _, rfl, ⟨rfl, rfl⟩, (H.sel [0] rfl).close ⟨cloE, trivial⟩⟩

theorem impl_reduction_1_c (o__0 : Int) (o__1 : Int) (o__2 : Int) (o__3 : Int) (c0_b : Nat) (c0_ : Int) (c1_b : Nat) (c1_ : List (List Int)) (c1_h : Hd) (c2_b : Nat) (c2_ : List (List Int)) (c2_h : Hd) (y0 : List (List Int)) (y1 : List (List Int)) (hF : F_impl_reduction_1 (o__0, o__1, o__2, o__3) c0_ c1_ c2_ = some (y0, y1)) :
  ConF Tryd.prog 73 #[(.agg #[(.int .i64 o__0), (.int .i64 o__1), (.int .i64 o__2), (.int .i64 o__3)]), (.pointer (some ⟨c0_b, 0, none⟩)), (.pointer (some ⟨c1_b, 0, none⟩)), (.pointer (some ⟨c2_b, 0, none⟩))] [] [Bx c0_b [(.int .i64 c0_)], Bx c1_b [(c1_h).v], E (List (List Int)) c1_ c1_h, Bx c2_b [(c2_h).v], E (List (List Int)) c2_ c2_h] (fun v Γ' => v = (.tuple #[]) ∧ Γ' = [Bx c0_b [(.int .i64 c0_)], Bx c1_b [(c1_h).v], E (List (List Int)) y0 c1_h, Bx c2_b [(c2_h).v], E (List (List Int)) y1 c2_h]) := by
 intro w0 S0 fp0 hI hS
 have H : Cx w0 fp0 S0 w0 [Bx c0_b [(.int .i64 c0_)], Bx c1_b [(c1_h).v], E (List (List Int)) c1_ c1_h, Bx c2_b [(c2_h).v], E (List (List Int)) c2_ c2_h] := Cx.start hI hS
 clear hI hS
 refine enterC (args := [_, _, _, _]) gok Tryd.func73 rfl _ rfl rfl rfl ?_
 refine box_ H ?_; clear H; intro b7 w6 hx H
 clear hx
 refine sq ?_
 refine loadN [(.int .i64 o__0), (.int .i64 o__1), (.int .i64 o__2), (.int .i64 o__3)] rfl (fun j u hj => H.bx 0 rfl hj) ?_
 refine fld gok rfl rfl rfl rfl ?_
 refine load1 (H.bx 0 rfl (j := 1) rfl) ?_
 refine fld gok rfl rfl rfl rfl ?_
 refine load1 (H.bx 0 rfl (j := 1) rfl) ?_
 refine build_ (cs := #[(.int .i64 0), (.int .i64 o__1), (.int .i64 o__1), (.int .i64 0)]) gok rfl rfl rfl ?_
 obtain ⟨a9, e, f0⟩ := bindS hF; clear hF
 refine eqA gok rfl Tryd.underlying80 (by kernel_rfl) (by kernel_rfl) (by kernel_rfl) (by refine ⟨rfl, ⟨_, _, rfl⟩, rfl, ⟨_, _, rfl⟩, rfl, ⟨_, _, rfl⟩, rfl, ⟨_, _, rfl⟩, trivial⟩) (ls := [o__0, o__1, o__2, o__3]) (bs := [0, o__1, o__1, 0]) rfl rfl rfl rfl e ?_; clear e
 cases a9
 ·
  have f1 := condF f0; clear f0
  refine loadN [(.int .i64 o__0), (.int .i64 o__1), (.int .i64 o__2), (.int .i64 o__3)] rfl (fun j u hj => H.bx 0 rfl hj) ?_
  refine load1 (H.bx0 1 rfl) ?_
  refine load1 (H.bx0 2 rfl) ?_
  obtain ⟨y2, e, f2⟩ := bindS f1; clear f1
  have ey12 := e; clear e
  replace H := H.sel [3, 0, 1, 2, 4, 5] rfl
  refine callF (impl_rowOperation_apply_c o__0 o__1 o__2 o__3 c0_ c1_ c1_h y2 ey12) (Γi := [E (List (List Int)) c1_ c1_h]) H trivial ?_; clear H ey12
  rintro _ _ w1 ⟨rfl, rfl⟩ H
  refine loadN [(.int .i64 o__0), (.int .i64 o__1), (.int .i64 o__2), (.int .i64 o__3)] rfl (fun j u hj => H.bx 1 rfl hj) ?_
  refine load1 (H.bx0 2 rfl) ?_
  refine load1 (H.bx0 4 rfl) ?_
  obtain ⟨y3, e, f3⟩ := bindS f2; clear f2
  have ey15 := e; clear e
  replace H := H.sel [5, 0, 1, 2, 3, 4] rfl
  refine callF (impl_rowOperation_apply_c o__0 o__1 o__2 o__3 c0_ c2_ c2_h y3 ey15) (Γi := [E (List (List Int)) c2_ c2_h]) H trivial ?_; clear H ey15
  rintro _ _ w2 ⟨rfl, rfl⟩ H
  cases f3
  exact ⟨_, _, rfl, ⟨rfl, rfl⟩, (H.sel [3, 4, 1, 5, 0] rfl).close ⟨cloB, cloB, cloE, cloB, cloE, trivial⟩⟩
 ·
  have f4 := condT f0; clear f0
  cases f4
  exact ⟨_, _, rfl, ⟨rfl, rfl⟩, (H.sel [1, 2, 3, 4, 5] rfl).close ⟨cloB, cloB, cloE, cloB, cloE, trivial⟩⟩

theorem impl_reduction_c (p_ : Int) (rows_ : List (List Int)) (rows_h : Hd) (n_ : Int) (also_ : List (List Int)) (also_h : Hd) (y0 : List (List Int)) (y1 : List (List Int)) (y2 : Int) (hF : F_impl_reduction p_ rows_ n_ also_ = some (y0, y1, y2)) :
  ConF Tryd.prog 40 #[(.int .i64 p_), (rows_h).v, (.int .i64 n_), (also_h).v] [] [E (List (List Int)) rows_ rows_h, E (List (List Int)) also_ also_h] (fun v Γ' => v = (.int .i64 y2) ∧ Γ' = [E (List (List Int)) y0 rows_h, E (List (List Int)) y1 also_h]) := by
 intro w0 S0 fp0 hI hS
 have H : Cx w0 fp0 S0 w0 [E (List (List Int)) rows_ rows_h, E (List (List Int)) also_ also_h] := Cx.start hI hS
 clear hI hS
 refine enterC (args := [_, _, _, _]) gok Tryd.func40 rfl _ rfl rfl rfl ?_
 refine box_ H ?_; clear H; intro b4 w3 hx H
 clear hx
 refine box_ H ?_; clear H; intro b7 w6 hx H
 clear hx
 refine box_ H ?_; clear H; intro b0 w9 hx H
 clear hx
 obtain ⟨r0, f0, f1⟩ := bindS hF; clear hF
 refine cut (fun (q0 : List (List Int) × List (List Int) × Int) => [(9, (.int .i64 q0.2.2))]) (fun (q0 : List (List Int) × List (List Int) × Int) w' => (q0.1, q0.2.1, q0.2.2) = r0 ∧ Cx w0 fp0 S0 w' [E (List (List Int)) q0.1 rows_h, E (List (List Int)) q0.2.1 also_h]) ?_ ?_
 ·
  refine loopW _ (fun (s0 : List (List Int) × List (List Int) × Int × Int) (_ : Unit) => [(2, (.int .i64 n_)), (5, (.pointer (some ⟨b7, 0, none⟩))), (9, (.int .i64 s0.2.2.2)), (10, (.func (.func 73) #[] #[(.pointer (some ⟨b4, 0, none⟩)), (.pointer (some ⟨b7, 0, none⟩)), (.pointer (some ⟨b0, 0, none⟩))])), (11, (.int .i64 s0.2.2.1))]) (fun (s0 : List (List Int) × List (List Int) × Int × Int) (_ : Unit) w' => Cx w0 fp0 S0 w' [Bx b7 [(rows_h).v], E (List (List Int)) s0.1 rows_h, Bx b4 [(.int .i64 p_)], Bx b0 [(also_h).v], E (List (List Int)) s0.2.1 also_h]) (rows_, also_, 0, 0) () f0 ⟨rfl, rfl, rfl, rfl, rfl, trivial⟩ (H.sel [1, 3, 2, 0, 4] rfl) ?_
  ·
   clear H
   rintro T0 ⟨s0_0, s0_1, s0_2, s0_3⟩ _ w1 o0 (H : Cx w0 fp0 S0 w1 [Bx b7 [(rows_h).v], E (List (List Int)) s0_0 rows_h, Bx b4 [(.int .i64 p_)], Bx b0 [(also_h).v], E (List (List Int)) s0_1 also_h]) hrt f2
   refine sq ?_
   obtain ⟨r1, f3, f4⟩ := bindS f2; clear f2
   refine cut (fun (q1 : Bool) => [(2, (.int .i64 n_)), (5, (.pointer (some ⟨b7, 0, none⟩))), (9, (.int .i64 s0_3)), (10, (.func (.func 73) #[] #[(.pointer (some ⟨b4, 0, none⟩)), (.pointer (some ⟨b7, 0, none⟩)), (.pointer (some ⟨b0, 0, none⟩))])), (11, (.int .i64 s0_2)), (23, (.bool q1))]) (fun (q1 : Bool) w' => q1 = r1 ∧ Cx w0 fp0 S0 w' [Bx b7 [(rows_h).v], E (List (List Int)) s0_0 rows_h, Bx b4 [(.int .i64 p_)], Bx b0 [(also_h).v], E (List (List Int)) s0_1 also_h]) ?_ ?_
   ·
    obtain ⟨a0, e, f5⟩ := bindS f3; clear f3
    refine boolO e ?_; clear e
    cases a0
    ·
     have f6 := condF f5; clear f5
     exact ⟨false, ⟨rfl, rfl, rfl, rfl, rfl, rfl, trivial⟩, Option.some.inj f6, H.sel [0, 1, 2, 3, 4] rfl⟩
    ·
     have f7 := condT f5; clear f5
     refine load1 (H.bx0 0 rfl) ?_
     refine lenE (H.ro (α := List (List Int)) 1 rfl).len ?_
     obtain ⟨a1, e, f8⟩ := bindS f7; clear f7
     refine boolO e ?_; clear e
     exact ⟨a1, ⟨rfl, rfl, rfl, rfl, rfl, rfl, trivial⟩, Option.some.inj f8, H.sel [0, 1, 2, 3, 4] rfl⟩
   ·
    clear f3 H
    rintro T1 s1 w2 ⟨hr, (H : Cx w0 fp0 S0 w2 [Bx b7 [(rows_h).v], E (List (List Int)) s0_0 rows_h, Bx b4 [(.int .i64 p_)], Bx b0 [(also_h).v], E (List (List Int)) s0_1 also_h])⟩
    subst hr
    cases s1
    ·
     have f9 := condF f4; clear f4
     have hs := Option.some.inj f9; subst hs; clear f9
     have f10 : some _ = some _ := congrArg some (hrt _ rfl).symm
     exact ⟨(s0_0, s0_1, s0_3), ⟨rfl, trivial⟩, Option.some.inj f10, H.sel [1, 4] rfl⟩
    ·
     have f11 := condT f4; clear f4
     obtain ⟨r2, f12, f13⟩ := bindS f11; clear f11
     refine cut (fun (q2 : List (List Int) × List (List Int) × Int) => [(2, (.int .i64 n_)), (5, (.pointer (some ⟨b7, 0, none⟩))), (9, (.int .i64 q2.2.2)), (10, (.func (.func 73) #[] #[(.pointer (some ⟨b4, 0, none⟩)), (.pointer (some ⟨b7, 0, none⟩)), (.pointer (some ⟨b0, 0, none⟩))])), (11, (.int .i64 s0_2))]) (fun (q2 : List (List Int) × List (List Int) × Int) w' => (q2.1, q2.2.1, q2.2.2) = r2 ∧ Cx w0 fp0 S0 w' [Bx b7 [(rows_h).v], E (List (List Int)) q2.1 rows_h, Bx b4 [(.int .i64 p_)], Bx b0 [(also_h).v], E (List (List Int)) q2.2.1 also_h]) ?_ ?_
     ·
      obtain ⟨r3, f14, f15⟩ := bindS f12; clear f12
      refine cut (fun (q3 : Int) => [(2, (.int .i64 n_)), (5, (.pointer (some ⟨b7, 0, none⟩))), (9, (.int .i64 s0_3)), (10, (.func (.func 73) #[] #[(.pointer (some ⟨b4, 0, none⟩)), (.pointer (some ⟨b7, 0, none⟩)), (.pointer (some ⟨b0, 0, none⟩))])), (11, (.int .i64 s0_2)), (12, (.int .i64 q3))]) (fun (q3 : Int) w' => q3 = r3 ∧ Cx w0 fp0 S0 w' [Bx b7 [(rows_h).v], E (List (List Int)) s0_0 rows_h, Bx b4 [(.int .i64 p_)], Bx b0 [(also_h).v], E (List (List Int)) s0_1 also_h]) ?_ ?_
      ·
       refine loopW _ (fun (s2 : Int) (_ : Unit) => [(2, (.int .i64 n_)), (5, (.pointer (some ⟨b7, 0, none⟩))), (9, (.int .i64 s0_3)), (10, (.func (.func 73) #[] #[(.pointer (some ⟨b4, 0, none⟩)), (.pointer (some ⟨b7, 0, none⟩)), (.pointer (some ⟨b0, 0, none⟩))])), (11, (.int .i64 s0_2)), (12, (.int .i64 s2))]) (fun (s2 : Int) (_ : Unit) w' => Cx w0 fp0 S0 w' [Bx b7 [(rows_h).v], E (List (List Int)) s0_0 rows_h, Bx b4 [(.int .i64 p_)], Bx b0 [(also_h).v], E (List (List Int)) s0_1 also_h]) s0_3 () f14 ⟨rfl, rfl, rfl, rfl, rfl, rfl, trivial⟩ (H.sel [0, 1, 2, 3, 4] rfl) ?_
       ·
        clear H
        rintro T2 s2 _ w4 o1 (H : Cx w0 fp0 S0 w4 [Bx b7 [(rows_h).v], E (List (List Int)) s0_0 rows_h, Bx b4 [(.int .i64 p_)], Bx b0 [(also_h).v], E (List (List Int)) s0_1 also_h]) hrt f16
        refine sq ?_
        obtain ⟨r4, f17, f18⟩ := bindS f16; clear f16
        refine cut (fun (q4 : Bool) => [(2, (.int .i64 n_)), (5, (.pointer (some ⟨b7, 0, none⟩))), (9, (.int .i64 s0_3)), (10, (.func (.func 73) #[] #[(.pointer (some ⟨b4, 0, none⟩)), (.pointer (some ⟨b7, 0, none⟩)), (.pointer (some ⟨b0, 0, none⟩))])), (11, (.int .i64 s0_2)), (12, (.int .i64 s2)), (40, (.bool q4))]) (fun (q4 : Bool) w' => q4 = r4 ∧ Cx w0 fp0 S0 w' [Bx b7 [(rows_h).v], E (List (List Int)) s0_0 rows_h, Bx b4 [(.int .i64 p_)], Bx b0 [(also_h).v], E (List (List Int)) s0_1 also_h]) ?_ ?_
        ·
         refine load1 (H.bx0 0 rfl) ?_
         refine lenE (H.ro (α := List (List Int)) 1 rfl).len ?_
         obtain ⟨a2, e, f19⟩ := bindS f17; clear f17
         refine boolO e ?_; clear e
         cases a2
         ·
          have f20 := condF f19; clear f19
          exact ⟨false, ⟨rfl, rfl, rfl, rfl, rfl, rfl, rfl, trivial⟩, Option.some.inj f20, H.sel [0, 1, 2, 3, 4] rfl⟩
         ·
          have f21 := condT f19; clear f19
          refine load1 (H.bx0 0 rfl) ?_
          obtain ⟨a3, e, f22⟩ := bindS f21; clear f21
          replace H := H.sel [1, 0, 2, 3, 4] rfl
          replace H := H.toEH (α := List Int)
          have HH := H; clear H; obtain ⟨p0, m0, h0, c0, c1, c2, c3, H⟩ := HH.peekL e; clear HH
          clear e
          refine idxE c0 c1 c2 ?_
          refine load1 c3 ?_; clear c3
          obtain ⟨a4, e, f23⟩ := bindS f22; clear f22
          obtain ⟨p1, m1, c4, c5, c6, c7⟩ := (H.rh (α := List Int) 0 rfl 0 rfl).at1 e; clear e
          refine idxE c4 c5 c6 ?_; clear c4 c5 c6
          refine load1 c7 ?_; clear c7
          obtain ⟨a5, e, f24⟩ := bindS f23; clear f23
          refine boolO e ?_; clear e
          replace H := H.ofEH
          exact ⟨a5, ⟨rfl, rfl, rfl, rfl, rfl, rfl, rfl, trivial⟩, Option.some.inj f24, H.sel [1, 0, 2, 3, 4] rfl⟩
        ·
         clear f17 H
         rintro T3 s3 w5 ⟨hr, (H : Cx w0 fp0 S0 w5 [Bx b7 [(rows_h).v], E (List (List Int)) s0_0 rows_h, Bx b4 [(.int .i64 p_)], Bx b0 [(also_h).v], E (List (List Int)) s0_1 also_h])⟩
         subst hr
         cases s3
         ·
          have f25 := condF f18; clear f18
          have hs := Option.some.inj f25; subst hs; clear f25
          have f26 : some _ = some _ := congrArg some (hrt _ rfl).symm
          exact ⟨s2, ⟨rfl, rfl, rfl, rfl, rfl, rfl, trivial⟩, Option.some.inj f26, H.sel [0, 1, 2, 3, 4] rfl⟩
         ·
          have f27 := condT f18; clear f18
          obtain ⟨a6, e, f28⟩ := bindS f27; clear f27
          refine arO e ?_; clear e
          have hs := Option.some.inj f28; subst hs; clear f28
          exact ⟨a6, (), rfl, ⟨rfl, rfl, rfl, rfl, rfl, rfl, trivial⟩, H.sel [0, 1, 2, 3, 4] rfl⟩
      ·
       clear f14 H
       rintro T4 s4 w7 ⟨hr, (H : Cx w0 fp0 S0 w7 [Bx b7 [(rows_h).v], E (List (List Int)) s0_0 rows_h, Bx b4 [(.int .i64 p_)], Bx b0 [(also_h).v], E (List (List Int)) s0_1 also_h])⟩
       subst hr
       refine sq ?_
       refine load1 (H.bx0 0 rfl) ?_
       refine lenE (H.ro (α := List (List Int)) 1 rfl).len ?_
       obtain ⟨a7, e, f29⟩ := bindS f15; clear f15
       refine boolO e ?_; clear e
       cases a7
       ·
        have f30 := condF f29; clear f29
        refine build_ (cs := #[(.int .i64 0), (.int .i64 s0_3), (.int .i64 s4), (.int .i64 0)]) gok rfl rfl rfl ?_
        obtain ⟨y3, e, f31⟩ := bindS f30; clear f30
        obtain ⟨y3_0, y3_1⟩ := y3
        have ey7870 := e; clear e
        replace H := H.sel [2, 0, 1, 3, 4] rfl
        refine callF (impl_reduction_1_c 0 s0_3 s4 0 b4 p_ b7 s0_0 rows_h b0 s0_1 also_h y3_0 y3_1 ey7870) (Γi := [Bx b4 [(.int .i64 p_)], Bx b7 [(rows_h).v], E (List (List Int)) s0_0 rows_h, Bx b0 [(also_h).v], E (List (List Int)) s0_1 also_h]) H trivial ?_; clear H ey7870
        rintro _ _ w8 ⟨rfl, rfl⟩ H
        refine load1 (H.bx0 1 rfl) ?_
        obtain ⟨a8, e, f32⟩ := bindS f31; clear f31
        replace H := H.sel [2, 0, 1, 3, 4] rfl
        replace H := H.toEH (α := List Int)
        have HH := H; clear H; obtain ⟨p2, m2, h1, c8, c9, c10, c11, H⟩ := HH.peekL e; clear HH
        clear e
        refine idxE c8 c9 c10 ?_
        refine load1 c11 ?_; clear c11
        obtain ⟨a9, e, f33⟩ := bindS f32; clear f32
        obtain ⟨p3, m3, c12, c13, c14, c15⟩ := (H.rh (α := List Int) 0 rfl 0 rfl).at1 e; clear e
        refine idxE c12 c13 c14 ?_; clear c12 c13 c14
        refine load1 c15 ?_; clear c15
        refine build_ (cs := #[(.int .i64 1), (.int .i64 s0_3), (.int .i64 0), (.int .i64 a9)]) gok rfl rfl rfl ?_
        replace H := H.ofEH
        obtain ⟨y4, e, f34⟩ := bindS f33; clear f33
        obtain ⟨y4_0, y4_1⟩ := y4
        have ey7890 := e; clear e
        replace H := H.sel [1, 2, 0, 3, 4] rfl
        refine callF (impl_reduction_1_c 1 s0_3 0 a9 b4 p_ b7 y3_0 rows_h b0 y3_1 also_h y4_0 y4_1 ey7890) (Γi := [Bx b4 [(.int .i64 p_)], Bx b7 [(rows_h).v], E (List (List Int)) y3_0 rows_h, Bx b0 [(also_h).v], E (List (List Int)) y3_1 also_h]) H trivial ?_; clear H ey7890
        rintro _ _ w10 ⟨rfl, rfl⟩ H
        refine sq ?_
        refine load1 (H.bx0 1 rfl) ?_
        refine lenE (H.ro (α := List (List Int)) 2 rfl).len ?_
        have x0 := (H.ro (α := List (List Int)) 2 rfl).max
        obtain ⟨r5, e, f35⟩ := bindS f34; clear f34
        refine loopS _ y4_0.length (fun (k0 : Nat) (s5 : List (List Int) × List (List Int)) (_ : Unit) => [(2, (.int .i64 n_)), (5, (.pointer (some ⟨b7, 0, none⟩))), (9, (.int .i64 s0_3)), (10, (.func (.func 73) #[] #[(.pointer (some ⟨b4, 0, none⟩)), (.pointer (some ⟨b7, 0, none⟩)), (.pointer (some ⟨b0, 0, none⟩))])), (11, (.int .i64 s0_2)), (64, (.int .i64 ((y4_0.length : Nat) : Int))), (65, (.int .i64 ((k0 : Nat) : Int)))]) (fun _ (s5 : List (List Int) × List (List Int)) (_ : Unit) w' => Cx w0 fp0 S0 w' [Bx b7 [(rows_h).v], E (List (List Int)) s5.1 rows_h, Bx b4 [(.int .i64 p_)], Bx b0 [(also_h).v], E (List (List Int)) s5.2 also_h]) (y4_0, y4_1) () e ⟨rfl, rfl, rfl, rfl, rfl, rfl, rfl, trivial⟩ (H.sel [1, 2, 0, 3, 4] rfl) ?_ ?_
        ·
         clear H e
         rintro T5 k0 ⟨s5_0, s5_1⟩ _ w11 o2 hk (H : Cx w0 fp0 S0 w11 [Bx b7 [(rows_h).v], E (List (List Int)) s5_0 rows_h, Bx b4 [(.int .i64 p_)], Bx b0 [(also_h).v], E (List (List Int)) s5_1 also_h]) f36
         refine boolE (z := true) (ltLen hk) ?_
         refine sq ?_
         refine sq ?_
         obtain ⟨r6, f37, f38⟩ := bindS f36; clear f36
         refine cut (fun (q5 : Bool) => [(2, (.int .i64 n_)), (5, (.pointer (some ⟨b7, 0, none⟩))), (9, (.int .i64 s0_3)), (10, (.func (.func 73) #[] #[(.pointer (some ⟨b4, 0, none⟩)), (.pointer (some ⟨b7, 0, none⟩)), (.pointer (some ⟨b0, 0, none⟩))])), (11, (.int .i64 s0_2)), (13, (.int .i64 ((k0 : Nat) : Int))), (64, (.int .i64 ((y4_0.length : Nat) : Int))), (65, (.int .i64 ((k0 : Nat) : Int))), (80, (.bool q5))]) (fun (q5 : Bool) w' => q5 = r6 ∧ Cx w0 fp0 S0 w' [Bx b7 [(rows_h).v], E (List (List Int)) s5_0 rows_h, Bx b4 [(.int .i64 p_)], Bx b0 [(also_h).v], E (List (List Int)) s5_1 also_h]) ?_ ?_
         ·
          obtain ⟨a10, e, f39⟩ := bindS f37; clear f37
          refine boolO e ?_; clear e
          cases a10
          ·
           have f40 := condF f39; clear f39
           exact ⟨false, ⟨rfl, rfl, rfl, rfl, rfl, rfl, rfl, rfl, rfl, trivial⟩, Option.some.inj f40, H.sel [0, 1, 2, 3, 4] rfl⟩
          ·
           have f41 := condT f39; clear f39
           refine load1 (H.bx0 0 rfl) ?_
           obtain ⟨a11, e, f42⟩ := bindS f41; clear f41
           replace H := H.sel [1, 0, 2, 3, 4] rfl
           replace H := H.toEH (α := List Int)
           have HH := H; clear H; obtain ⟨p4, m4, h2, c16, c17, c18, c19, H⟩ := HH.peekL e; clear HH
           clear e
           refine idxE c16 c17 c18 ?_
           refine load1 c19 ?_; clear c19
           obtain ⟨a12, e, f43⟩ := bindS f42; clear f42
           obtain ⟨p5, m5, c20, c21, c22, c23⟩ := (H.rh (α := List Int) 0 rfl 0 rfl).at1 e; clear e
           refine idxE c20 c21 c22 ?_; clear c20 c21 c22
           refine load1 c23 ?_; clear c23
           obtain ⟨a13, e, f44⟩ := bindS f43; clear f43
           refine boolO e ?_; clear e
           replace H := H.ofEH
           exact ⟨a13, ⟨rfl, rfl, rfl, rfl, rfl, rfl, rfl, rfl, rfl, trivial⟩, Option.some.inj f44, H.sel [1, 0, 2, 3, 4] rfl⟩
         ·
          clear f37 H
          rintro T6 s6 w12 ⟨hr, (H : Cx w0 fp0 S0 w12 [Bx b7 [(rows_h).v], E (List (List Int)) s5_0 rows_h, Bx b4 [(.int .i64 p_)], Bx b0 [(also_h).v], E (List (List Int)) s5_1 also_h])⟩
          subst hr
          cases s6
          ·
           have f45 := condF f38; clear f38
           refine arK hk x0 ?_
           have hs := Option.some.inj f45; subst hs; clear f45
           exact ⟨(), ⟨rfl, rfl, rfl, rfl, rfl, rfl, rfl, trivial⟩, H.sel [0, 1, 2, 3, 4] rfl⟩
          ·
           have f46 := condT f38; clear f38
           refine load1 (H.bx0 0 rfl) ?_
           obtain ⟨a14, e, f47⟩ := bindS f46; clear f46
           replace H := H.sel [1, 0, 2, 3, 4] rfl
           replace H := H.toEH (α := List Int)
           have HH := H; clear H; obtain ⟨p6, m6, h3, c24, c25, c26, c27, H⟩ := HH.peekL e; clear HH
           clear e
           refine idxE c24 c25 c26 ?_
           refine load1 c27 ?_; clear c27
           obtain ⟨a15, e, f48⟩ := bindS f47; clear f47
           obtain ⟨p7, m7, c28, c29, c30, c31⟩ := (H.rh (α := List Int) 0 rfl 0 rfl).at1 e; clear e
           refine idxE c28 c29 c30 ?_; clear c28 c29 c30
           refine load1 c31 ?_; clear c31
           refine build_ (cs := #[(.int .i64 2), (.int .i64 ((k0 : Nat) : Int)), (.int .i64 s0_3), (.int .i64 a15)]) gok rfl rfl rfl ?_
           replace H := H.ofEH
           obtain ⟨y5, e, f49⟩ := bindS f48; clear f48
           obtain ⟨y5_0, y5_1⟩ := y5
           have ey8132 := e; clear e
           replace H := H.sel [2, 1, 0, 3, 4] rfl
           refine callF (impl_reduction_1_c 2 ((k0 : Nat) : Int) s0_3 a15 b4 p_ b7 s5_0 rows_h b0 s5_1 also_h y5_0 y5_1 ey8132) (Γi := [Bx b4 [(.int .i64 p_)], Bx b7 [(rows_h).v], E (List (List Int)) s5_0 rows_h, Bx b0 [(also_h).v], E (List (List Int)) s5_1 also_h]) H trivial ?_; clear H ey8132
           rintro _ _ w13 ⟨rfl, rfl⟩ H
           refine arK hk x0 ?_
           have hs := Option.some.inj f49; subst hs; clear f49
           exact ⟨(), ⟨rfl, rfl, rfl, rfl, rfl, rfl, rfl, trivial⟩, H.sel [1, 2, 0, 3, 4] rfl⟩
        ·
         clear H e
         obtain ⟨s7_0, s7_1⟩ := r5
         rintro T7 _ w14 (H : Cx w0 fp0 S0 w14 [Bx b7 [(rows_h).v], E (List (List Int)) s7_0 rows_h, Bx b4 [(.int .i64 p_)], Bx b0 [(also_h).v], E (List (List Int)) s7_1 also_h])
         refine boolE (z := false) geLen ?_
         refine sq ?_
         obtain ⟨a16, e, f50⟩ := bindS f35; clear f35
         refine arO e ?_; clear e
         exact ⟨(s7_0, s7_1, a16), ⟨rfl, rfl, rfl, rfl, rfl, trivial⟩, Option.some.inj f50, H.sel [0, 1, 2, 3, 4] rfl⟩
       ·
        have f51 := condT f29; clear f29
        exact ⟨(s0_0, s0_1, s0_3), ⟨rfl, rfl, rfl, rfl, rfl, trivial⟩, Option.some.inj f51, H.sel [0, 1, 2, 3, 4] rfl⟩
     ·
      clear f12 H
      rintro T8 ⟨s8_0, s8_1, s8_2⟩ w15 ⟨hr, (H : Cx w0 fp0 S0 w15 [Bx b7 [(rows_h).v], E (List (List Int)) s8_0 rows_h, Bx b4 [(.int .i64 p_)], Bx b0 [(also_h).v], E (List (List Int)) s8_1 also_h])⟩
      subst hr
      obtain ⟨a17, e, f52⟩ := bindS f13; clear f13
      refine arO e ?_; clear e
      have hs := Option.some.inj f52; subst hs; clear f52
      exact ⟨(s8_0, s8_1, a17, s8_2), (), rfl, ⟨rfl, rfl, rfl, rfl, rfl, trivial⟩, H.sel [0, 1, 2, 3, 4] rfl⟩
 ·
  clear f0 H
  rintro T9 ⟨s9_0, s9_1, s9_2⟩ w16 ⟨hr, (H : Cx w0 fp0 S0 w16 [E (List (List Int)) s9_0 rows_h, E (List (List Int)) s9_1 also_h])⟩
  subst hr
  cases f1
  exact ⟨_, _, rfl, ⟨rfl, rfl⟩, (H.sel [0, 1] rfl).close ⟨cloE, cloE, trivial⟩⟩

theorem impl_reduced_c (p_ : Int) (rows_ : List (List Int)) (rows_h : Hd) (n_ : Int) (y : List (List Int)) (hF : F_impl_reduced p_ rows_ n_ = some y) :
  ConF Tryd.prog 99 #[(.int .i64 p_), (rows_h).v, (.int .i64 n_)] [Es (List (List Int)) rows_ rows_h] [] (fun v Γ' => ∃ z0 : Hd, v = (z0).v ∧ Γ' = [E (List (List Int)) y z0]) := by
 intro w0 S0 fp0 hI hS
 have H : Cx w0 fp0 S0 w0 [Es (List (List Int)) rows_ rows_h] := Cx.start hI hS
 clear hI hS
 refine enterC (args := [_, _, _]) gok Tryd.func99 rfl _ rfl rfl rfl ?_
 obtain ⟨y2, e, hF3⟩ := bindS hF; clear hF
 have ey2 := e; clear e
 refine callF (impl_clones_c rows_ rows_h y2 ey2) (Γi := []) H ⟨Vw.sh 0 rfl, trivial⟩ ?_; clear H ey2
 rintro _ _ w4 ⟨h5, rfl, rfl⟩ H
 refine lenE (H.ro (α := List (List Int)) 0 rfl).len ?_
 obtain ⟨a7, e, hF8⟩ := bindS hF3; clear hF3
 refine make_ (α := List Int) gok rfl rfl rfl rfl (makeCO_of e) H ?_; clear e H; intro h0 w9 hx H
 clear hx
 obtain ⟨y0, e, f0⟩ := bindS hF8; clear hF8
 obtain ⟨y0_0, y0_1, y0_2⟩ := y0
 have ey12 := e; clear e
 replace H := H.sel [1, 0, 2] rfl
 refine callF (impl_reduction_c p_ y2 h5 n_ a7 h0 y0_0 y0_1 y0_2 ey12) (Γi := [E (List (List Int)) y2 h5, E (List (List Int)) a7 h0]) H trivial ?_; clear H ey12
 rintro _ _ w1 ⟨rfl, rfl⟩ H
 obtain ⟨a0, e, f1⟩ := bindS f0; clear f0
 refine slO3 (α := List Int) gok rfl rfl H e ?_; clear e H; intro h1 H
 cases f1
 exact ⟨_, _, rfl, ⟨h1, rfl, rfl⟩, (H.sel [0] rfl).close ⟨cloE, trivial⟩⟩

theorem impl_zeros_c (n_ : Int) (y : List Int) (hF : F_impl_zeros n_ = some y) :
  ConF Tryd.prog 112 #[(.int .i64 n_)] [] [] (fun v Γ' => ∃ z0 : Hd, v = (z0).v ∧ Γ' = [E (List Int) y z0]) := by
 intro w0 S0 fp0 hI hS
 have H : Cx w0 fp0 S0 w0 [] := Cx.start hI hS
 clear hI hS
 refine enterC (args := [_]) gok Tryd.func112 rfl _ rfl rfl rfl ?_
 obtain ⟨a1, e, hF2⟩ := bindS hF; clear hF
 refine make_ (α := Int) gok rfl rfl rfl rfl (makeCO_of e) H ?_; clear e H; intro h4 w3 hx H
 clear hx
 cases hF2
 exact ⟨_, _, rfl, ⟨h4, rfl, rfl⟩, (H.sel [0] rfl).close ⟨cloE, trivial⟩⟩

theorem impl_combine_c (p_ : Int) (x_ : List Int) (x_h : Hd) (rows_ : List (List Int)) (rows_h : Hd) (n_ : Int) (y : List Int) (hF : F_impl_combine p_ x_ rows_ n_ = some y) :
  ConF Tryd.prog 102 #[(.int .i64 p_), (x_h).v, (rows_h).v, (.int .i64 n_)] [Es (List Int) x_ x_h, Es (List (List Int)) rows_ rows_h] [] (fun v Γ' => ∃ z0 : Hd, v = (z0).v ∧ Γ' = [E (List Int) y z0]) := by
 intro w0 S0 fp0 hI hS
 have H : Cx w0 fp0 S0 w0 [Es (List Int) x_ x_h, Es (List (List Int)) rows_ rows_h] := Cx.start hI hS
 clear hI hS
 refine enterC (args := [_, _, _, _]) gok Tryd.func102 rfl _ rfl rfl rfl ?_
 obtain ⟨y3, e, hF4⟩ := bindS hF; clear hF
 have ey3 := e; clear e
 refine callF (impl_zeros_c n_ y3 ey3) (Γi := []) H trivial ?_; clear H ey3
 rintro _ _ w5 ⟨h6, rfl, rfl⟩ H
 refine sq ?_
 refine lenE (H.rs (α := List (List Int)) 2 rfl).len ?_
 have x0 := (H.rs (α := List (List Int)) 2 rfl).max
 obtain ⟨r0, e, f0⟩ := bindS hF4; clear hF4
 refine loopS _ rows_.length (fun (k8 : Nat) (s0 : List Int) (_ : Unit) => [(0, (.int .i64 p_)), (1, (x_h).v), (9, (h6).v), (14, (rows_h).v), (15, (.int .i64 ((rows_.length : Nat) : Int))), (16, (.int .i64 ((k8 : Nat) : Int)))]) (fun _ (s0 : List Int) (_ : Unit) w' => Cx w0 fp0 S0 w' [Es (List Int) x_ x_h, E (List Int) s0 h6, Es (List (List Int)) rows_ rows_h]) y3 () e ⟨rfl, rfl, rfl, rfl, rfl, rfl, trivial⟩ (H.sel [1, 0, 2] rfl) ?_ ?_
 ·
  clear H e
  rintro T0 k8 s0 _ w1 o0 hk (H : Cx w0 fp0 S0 w1 [Es (List Int) x_ x_h, E (List Int) s0 h6, Es (List (List Int)) rows_ rows_h]) f1
  refine boolE (z := true) (ltLen hk) ?_
  refine sq ?_
  refine sq ?_
  obtain ⟨a0, e, f2⟩ := bindS f1; clear f1
  have HH := H; clear H; obtain ⟨p0, m0, h0, c0, c1, c2, c3, H⟩ := HH.elL 2 rfl e; clear HH
  clear e
  refine idxE c0 c1 c2 ?_; clear c0 c1 c2
  refine load1 c3 ?_; clear c3
  obtain ⟨a1, e, f3⟩ := bindS f2; clear f2
  obtain ⟨p1, m1, c4, c5, c6, c7⟩ := (H.rs (α := List Int) 1 rfl).at1 e; clear e
  refine idxE c4 c5 c6 ?_; clear c4 c5 c6
  refine load1 c7 ?_; clear c7
  obtain ⟨y0, e, f4⟩ := bindS f3; clear f3
  have ey82 := e; clear e
  replace H := H.sel [2, 0, 1, 3] rfl
  refine callF (impl_addTimes_c p_ s0 h6 a1 a0 h0 y0 ey82) (Γi := [E (List Int) s0 h6]) H ⟨Vw.sh 0 rfl, trivial⟩ ?_; clear H ey82
  rintro _ _ w2 ⟨rfl, rfl⟩ H
  refine arK hk x0 ?_
  have hs := Option.some.inj f4; subst hs; clear f4
  exact ⟨(), ⟨rfl, rfl, rfl, rfl, rfl, rfl, trivial⟩, H.sel [2, 0, 3] rfl⟩
 ·
  clear H e
  rintro T1 _ w3 (H : Cx w0 fp0 S0 w3 [Es (List Int) x_ x_h, E (List Int) r0 h6, Es (List (List Int)) rows_ rows_h])
  refine boolE (z := false) geLen ?_
  refine sq ?_
  cases f0
  exact ⟨_, _, rfl, ⟨h6, rfl, rfl⟩, (H.sel [1] rfl).close ⟨cloE, trivial⟩⟩

theorem impl_product_c (p_ : Int) (rows_ : List (List Int)) (rows_h : Hd) (m_ : List (List Int)) (m_h : Hd) (n_ : Int) (y : List (List Int)) (hF : F_impl_product p_ rows_ m_ n_ = some y) :
  ConF Tryd.prog 72 #[(.int .i64 p_), (rows_h).v, (m_h).v, (.int .i64 n_)] [Es (List (List Int)) rows_ rows_h, Es (List (List Int)) m_ m_h] [] (fun v Γ' => ∃ z0 : Hd, v = (z0).v ∧ Γ' = [E (List (List Int)) y z0]) := by
 intro w0 S0 fp0 hI hS
 have H : Cx w0 fp0 S0 w0 [Es (List (List Int)) rows_ rows_h, Es (List (List Int)) m_ m_h] := Cx.start hI hS
 clear hI hS
 refine enterC (args := [_, _, _, _]) gok Tryd.func72 rfl _ rfl rfl rfl ?_
 refine lit0 (α := List Int) gok rfl rfl H ?_; clear H; intro h4 w3 hx H
 clear hx
 refine sq ?_
 refine lenE (H.rs (α := List (List Int)) 1 rfl).len ?_
 have x0 := (H.rs (α := List (List Int)) 1 rfl).max
 obtain ⟨r0, e, f0⟩ := bindS hF; clear hF
 refine loopS _ rows_.length (fun (k6 : Nat) (s0 : List (List Int)) (g0 : Hd) => [(0, (.int .i64 p_)), (2, (m_h).v), (3, (.int .i64 n_)), (9, (g0).v), (13, (rows_h).v), (14, (.int .i64 ((rows_.length : Nat) : Int))), (15, (.int .i64 ((k6 : Nat) : Int)))]) (fun _ (s0 : List (List Int)) (g0 : Hd) w' => Cx w0 fp0 S0 w' [Es (List (List Int)) m_ m_h, E (List (List Int)) s0 g0, Es (List (List Int)) rows_ rows_h]) ([] : List (List Int)) h4 e ⟨rfl, rfl, rfl, rfl, rfl, rfl, rfl, trivial⟩ (H.sel [2, 0, 1] rfl) ?_ ?_
 ·
  clear H e
  rintro T0 k6 s0 g0 w1 o0 hk (H : Cx w0 fp0 S0 w1 [Es (List (List Int)) m_ m_h, E (List (List Int)) s0 g0, Es (List (List Int)) rows_ rows_h]) f1
  refine boolE (z := true) (ltLen hk) ?_
  refine sq ?_
  refine sq ?_
  obtain ⟨a0, e, f2⟩ := bindS f1; clear f1
  have HH := H; clear H; obtain ⟨p0, m0, h0, c0, c1, c2, c3, H⟩ := HH.elL 2 rfl e; clear HH
  clear e
  refine idxE c0 c1 c2 ?_; clear c0 c1 c2
  refine load1 c3 ?_; clear c3
  obtain ⟨y0, e, f3⟩ := bindS f2; clear f2
  have ey78 := e; clear e
  refine callF (impl_combine_c p_ a0 h0 m_ m_h n_ y0 ey78) (Γi := []) H ⟨Vw.sh 0 rfl, Vw.sh 1 rfl, trivial⟩ ?_; clear H ey78
  rintro _ _ w2 ⟨h1, rfl, rfl⟩ H
  refine lit1 (α := List Int) (g := h1) gok rfl rfl rfl rfl rfl H ?_; clear H; intro h2 w4 hx H
  clear hx
  obtain ⟨a1, e, f4⟩ := bindS f3; clear f3
  replace H := H.sel [3, 0, 1, 2, 4] rfl
  refine append_ (α := List Int) gok rfl rfl rfl rfl H e ?_; clear e H; intro h3 w5 H
  refine arK hk x0 ?_
  have hs := Option.some.inj f4; subst hs; clear f4
  exact ⟨h3, ⟨rfl, rfl, rfl, rfl, rfl, rfl, rfl, trivial⟩, H.sel [2, 0, 3] rfl⟩
 ·
  clear H e
  rintro T1 g1 w6 (H : Cx w0 fp0 S0 w6 [Es (List (List Int)) m_ m_h, E (List (List Int)) r0 g1, Es (List (List Int)) rows_ rows_h])
  refine boolE (z := false) geLen ?_
  refine sq ?_
  cases f0
  exact ⟨_, _, rfl, ⟨g1, rfl, rfl⟩, (H.sel [1] rfl).close ⟨cloE, trivial⟩⟩

theorem impl_StateSpace_reachable_c (s__0 : Int) (s__1 : Int) (s__2 : Int) (s__3 : List (List Int)) (s__3h : Hd) (s__4 : List (List Int)) (s__4h : Hd) (s__5 : List (List Int)) (s__5h : Hd) (s__6 : List (List Int)) (s__6h : Hd) (p_ : Int) (y : List (List Int)) (hF : F_impl_StateSpace_reachable (s__0, s__1, s__2, s__3, s__4, s__5, s__6) p_ = some y) :
  ConF Tryd.prog 66 #[(.agg #[(.int .i64 s__0), (.int .i64 s__1), (.int .i64 s__2), (s__3h).v, (s__4h).v, (s__5h).v, (s__6h).v]), (.int .i64 p_)] [Es (List (List Int)) s__3 s__3h, Es (List (List Int)) s__4 s__4h, Es (List (List Int)) s__5 s__5h, Es (List (List Int)) s__6 s__6h] [] (fun v Γ' => ∃ z0 : Hd, v = (z0).v ∧ Γ' = [E (List (List Int)) y z0]) := by
 intro w0 S0 fp0 hI hS
 have H : Cx w0 fp0 S0 w0 [Es (List (List Int)) s__3 s__3h, Es (List (List Int)) s__4 s__4h, Es (List (List Int)) s__5 s__5h, Es (List (List Int)) s__6 s__6h] := Cx.start hI hS
 clear hI hS
 refine enterC (args := [_, _]) gok Tryd.func66 rfl _ rfl rfl rfl ?_
 refine box_ H ?_; clear H; intro b6 w5 hx H
 clear hx
 refine fld gok rfl rfl rfl rfl ?_
 refine load1 (H.bx 0 rfl (j := 4) rfl) ?_
 refine fld gok rfl rfl rfl rfl ?_
 refine load1 (H.bx 0 rfl (j := 0) rfl) ?_
 obtain ⟨y8, e, hF9⟩ := bindS hF; clear hF
 have ey8 := e; clear e
 refine callF (impl_reduced_c p_ s__4 s__4h s__0 y8 ey8) (Γi := []) H ⟨Vw.sh 2 rfl, trivial⟩ ?_; clear H ey8
 rintro _ _ w1 ⟨h0, rfl, rfl⟩ H
 refine sq ?_
 refine fld gok rfl rfl rfl rfl ?_
 refine load1 (H.bx 1 rfl (j := 0) rfl) ?_
 obtain ⟨a0, hn, f0⟩ := bindS hF9; clear hF9
 obtain ⟨r0, e, f1⟩ := bindS f0; clear f0
 refine loopS _ s__0.toNat (fun (k0 : Nat) (s0 : List (List Int)) (g0 : Hd) => [(1, (.int .i64 p_)), (2, (.pointer (some ⟨b6, 0, none⟩))), (5, (g0).v), (13, (.int .i64 s__0)), (14, (.int .i64 ((k0 : Nat) : Int)))]) (fun _ (s0 : List (List Int)) (g0 : Hd) w' => Cx w0 fp0 S0 w' [Bx b6 [(.int .i64 s__0), (.int .i64 s__1), (.int .i64 s__2), (s__3h).v, (s__4h).v, (s__5h).v, (s__6h).v], Es (List (List Int)) s__3 s__3h, Es (List (List Int)) s__4 s__4h, Es (List (List Int)) s__5 s__5h, Es (List (List Int)) s__6 s__6h, E (List (List Int)) s0 g0]) y8 h0 e ⟨rfl, rfl, rfl, rfl, rfl, trivial⟩ (H.sel [1, 2, 3, 4, 5, 0] rfl) ?_ ?_
 ·
  clear H e
  rintro T0 k0 s0 g0 w2 o0 hk (H : Cx w0 fp0 S0 w2 [Bx b6 [(.int .i64 s__0), (.int .i64 s__1), (.int .i64 s__2), (s__3h).v, (s__4h).v, (s__5h).v, (s__6h).v], Es (List (List Int)) s__3 s__3h, Es (List (List Int)) s__4 s__4h, Es (List (List Int)) s__5 s__5h, Es (List (List Int)) s__6 s__6h, E (List (List Int)) s0 g0]) f2
  refine boolE (z := true) (ltNat hk) ?_
  refine sq ?_
  refine sq ?_
  refine heldX H [10, 13, 14, 0, 1, 3, 4, 5, 6, 7, 8, 11, 12] (.pure 0 (.pure 1 (.pure 3 (.pure 4 (.pure 5 (.pure 6 (.pure 7 (.pure 8 (.pure 11 (.pure 12 (.act 2 (.act 9 (.act 10 (.act 13 (.act 14 .done))))))))))))))) mixed [((Addr.add ⟨b6, 0, none⟩ 3), (s__3h).v), ((Addr.add ⟨b6, 0, none⟩ 0), (.int .i64 s__0)), ((Addr.add ⟨b6, 0, none⟩ 0), (.int .i64 s__0))] ⟨H.bx 0 rfl (j := 3) rfl, H.bx 0 rfl (j := 0) rfl, H.bx 0 rfl (j := 0) rfl, trivial⟩ (by kernel_rfl) ?_
  clear H; intro w3 H
  have hX : Ext w3 w3 := Upd.refl _ _
  have H0 := H
  refine anyH (fun _ => fld gok rfl rfl rfl rfl ⟨rfl, rfl⟩) ?_
  refine load1W 0 rfl ?_
  refine anyH (fun _ => fld gok rfl rfl rfl rfl ⟨rfl, rfl⟩) ?_
  refine load1W 1 rfl ?_
  refine anyH (fun _ => fld gok rfl rfl rfl rfl ⟨rfl, rfl⟩) ?_
  refine load1W 2 rfl ?_
  obtain ⟨y0, e, f3⟩ := bindS f2; clear f2
  have ey74 := e; clear e
  refine callFx (impl_clones_c s0 g0 y0 ey74) H ⟨Vw.own 5 rfl, trivial⟩ ?_; clear H ey74
  rintro _ _ w4 ⟨h1, rfl, rfl⟩ hx H
  replace hX := hX.trans0 hx; clear hx
  refine hold hX ?_
  obtain ⟨y1, e, f4⟩ := bindS f3; clear f3
  have ey79 := e; clear e
  refine callFx (impl_product_c p_ s0 g0 s__3 s__3h s__0 y1 ey79) H ⟨Vw.own 6 rfl, Vw.sh 2 rfl, trivial⟩ ?_; clear H ey79
  rintro _ _ w6 ⟨h2, rfl, rfl⟩ hx H
  replace hX := hX.trans0 hx; clear hx
  refine hold hX ?_
  obtain ⟨a1, e, f5⟩ := bindS f4; clear f4
  replace H := H.sel [1, 0, 2, 3, 4, 5, 6, 7] rfl
  refine append_ (α := List Int) gok rfl rfl rfl rfl H e ?_; clear e H; intro h3 w7 H
  refine hold ⟨H.bx 1 rfl (j := 3) rfl, H.bx 1 rfl (j := 0) rfl, H.bx 1 rfl (j := 0) rfl, trivial⟩ ?_
  obtain ⟨y2, e, f6⟩ := bindS f5; clear f5
  have ey89 := e; clear e
  refine callF (impl_reduced_c p_ a1 h3 s__0 y2 ey89) (Γi := []) H ⟨Vw.own 0 rfl, trivial⟩ ?_; clear H ey89
  rintro _ _ w8 ⟨h4, rfl, rfl⟩ H
  refine hold ⟨H.bx 2 rfl (j := 3) rfl, H.bx 2 rfl (j := 0) rfl, H.bx 2 rfl (j := 0) rfl, trivial⟩ ?_
  refine hold ⟨H.bx 2 rfl (j := 3) rfl, H.bx 2 rfl (j := 0) rfl, H.bx 2 rfl (j := 0) rfl, trivial⟩ ?_
  refine arK hk (maxI hn) ?_
  have hs := Option.some.inj f6; subst hs; clear f6
  exact ⟨h4, ⟨rfl, rfl, rfl, rfl, rfl, trivial⟩, H.sel [2, 3, 4, 5, 6, 0] rfl⟩
 ·
  clear H e
  rintro T1 g1 w9 (H : Cx w0 fp0 S0 w9 [Bx b6 [(.int .i64 s__0), (.int .i64 s__1), (.int .i64 s__2), (s__3h).v, (s__4h).v, (s__5h).v, (s__6h).v], Es (List (List Int)) s__3 s__3h, Es (List (List Int)) s__4 s__4h, Es (List (List Int)) s__5 s__5h, Es (List (List Int)) s__6 s__6h, E (List (List Int)) r0 g1])
  refine boolE (z := false) geNat ?_
  refine sq ?_
  cases f1
  exact ⟨_, _, rfl, ⟨g1, rfl, rfl⟩, (H.sel [5] rfl).close ⟨cloE, trivial⟩⟩

theorem impl_unit_c (n_ : Int) (at_ : Int) (y : List Int) (hF : F_impl_unit n_ at_ = some y) :
  ConF Tryd.prog 126 #[(.int .i64 n_), (.int .i64 at_)] [] [] (fun v Γ' => ∃ z0 : Hd, v = (z0).v ∧ Γ' = [E (List Int) y z0]) := by
 intro w0 S0 fp0 hI hS
 have H : Cx w0 fp0 S0 w0 [] := Cx.start hI hS
 clear hI hS
 refine enterC (args := [_, _]) gok Tryd.func126 rfl _ rfl rfl rfl ?_
 obtain ⟨y1, e, hF2⟩ := bindS hF; clear hF
 have ey1 := e; clear e
 refine callF (impl_zeros_c n_ y1 ey1) (Γi := []) H trivial ?_; clear H ey1
 rintro _ _ w3 ⟨h4, rfl, rfl⟩ H
 obtain ⟨a0, e, f0⟩ := bindS hF2; clear hF2
 have ea12 := e; clear e
 obtain ⟨p0, m0, c6, c7, c8⟩ := (H.ro (α := List Int) 0 rfl).setp ea12
 refine idxE c6 c7 c8 ?_
 refine setS (α := Int) H c6 c7 ea12 ?_; clear H c6 c7 c8 ea12; intro w1 H
 cases f0
 exact ⟨_, _, rfl, ⟨h4, rfl, rfl⟩, (H.sel [0] rfl).close ⟨cloE, trivial⟩⟩

theorem impl_identityRows_c (n_ : Int) (y : List (List Int)) (hF : F_impl_identityRows n_ = some y) :
  ConF Tryd.prog 115 #[(.int .i64 n_)] [] [] (fun v Γ' => ∃ z0 : Hd, v = (z0).v ∧ Γ' = [E (List (List Int)) y z0]) := by
 intro w0 S0 fp0 hI hS
 have H : Cx w0 fp0 S0 w0 [] := Cx.start hI hS
 clear hI hS
 refine enterC (args := [_]) gok Tryd.func115 rfl _ rfl rfl rfl ?_
 refine lit0 (α := List Int) gok rfl rfl H ?_; clear H; intro h2 w1 hx H
 clear hx
 refine sq ?_
 obtain ⟨a0, hn, f0⟩ := bindS hF; clear hF
 obtain ⟨r0, e, f1⟩ := bindS f0; clear f0
 refine loopS _ n_.toNat (fun (k4 : Nat) (s0 : List (List Int)) (g0 : Hd) => [(0, (.int .i64 n_)), (3, (g0).v), (6, (.int .i64 n_)), (7, (.int .i64 ((k4 : Nat) : Int)))]) (fun _ (s0 : List (List Int)) (g0 : Hd) w' => Cx w0 fp0 S0 w' [E (List (List Int)) s0 g0]) ([] : List (List Int)) h2 e ⟨rfl, rfl, rfl, rfl, trivial⟩ (H.sel [0] rfl) ?_ ?_
 ·
  clear H e
  rintro T0 k4 s0 g0 w2 o0 hk (H : Cx w0 fp0 S0 w2 [E (List (List Int)) s0 g0]) f2
  refine boolE (z := true) (ltNat hk) ?_
  refine sq ?_
  refine sq ?_
  obtain ⟨y0, e, f3⟩ := bindS f2; clear f2
  have ey48 := e; clear e
  refine callF (impl_unit_c n_ ((k4 : Nat) : Int) y0 ey48) (Γi := []) H trivial ?_; clear H ey48
  rintro _ _ w3 ⟨h0, rfl, rfl⟩ H
  refine lit1 (α := List Int) (g := h0) gok rfl rfl rfl rfl rfl H ?_; clear H; intro h1 w4 hx H
  clear hx
  obtain ⟨a1, e, f4⟩ := bindS f3; clear f3
  replace H := H.sel [1, 0] rfl
  refine append_ (α := List Int) gok rfl rfl rfl rfl H e ?_; clear e H; intro h3 w5 H
  refine arK hk (maxI hn) ?_
  have hs := Option.some.inj f4; subst hs; clear f4
  exact ⟨h3, ⟨rfl, rfl, rfl, rfl, trivial⟩, H.sel [0] rfl⟩
 ·
  clear H e
  rintro T1 g1 w6 (H : Cx w0 fp0 S0 w6 [E (List (List Int)) r0 g1])
  refine boolE (z := false) geNat ?_
  refine sq ?_
  cases f1
  exact ⟨_, _, rfl, ⟨g1, rfl, rfl⟩, (H.sel [0] rfl).close ⟨cloE, trivial⟩⟩

theorem impl_kernel_c (p_ : Int) (rows_ : List (List Int)) (rows_h : Hd) (n_ : Int) (y : List (List Int)) (hF : F_impl_kernel p_ rows_ n_ = some y) :
  ConF Tryd.prog 100 #[(.int .i64 p_), (rows_h).v, (.int .i64 n_)] [Es (List (List Int)) rows_ rows_h] [] (fun v Γ' => ∃ z0 : Hd, v = (z0).v ∧ Γ' = [E (List (List Int)) y z0]) := by
 intro w0 S0 fp0 hI hS
 have H : Cx w0 fp0 S0 w0 [Es (List (List Int)) rows_ rows_h] := Cx.start hI hS
 clear hI hS
 refine enterC (args := [_, _, _]) gok Tryd.func100 rfl _ rfl rfl rfl ?_
 obtain ⟨y2, e, hF3⟩ := bindS hF; clear hF
 have ey2 := e; clear e
 refine callF (impl_clones_c rows_ rows_h y2 ey2) (Γi := []) H ⟨Vw.sh 0 rfl, trivial⟩ ?_; clear H ey2
 rintro _ _ w4 ⟨h5, rfl, rfl⟩ H
 refine lenE (H.rs (α := List (List Int)) 1 rfl).len ?_
 obtain ⟨y7, e, hF8⟩ := bindS hF3; clear hF3
 have ey7 := e; clear e
 refine callF (impl_identityRows_c ((rows_.length : Nat) : Int) y7 ey7) (Γi := []) H trivial ?_; clear H ey7
 rintro _ _ w9 ⟨h0, rfl, rfl⟩ H
 obtain ⟨y0, e, f0⟩ := bindS hF8; clear hF8
 obtain ⟨y0_0, y0_1, y0_2⟩ := y0
 have ey12 := e; clear e
 replace H := H.sel [1, 0, 2] rfl
 refine callF (impl_reduction_c p_ y2 h5 n_ y7 h0 y0_0 y0_1 y0_2 ey12) (Γi := [E (List (List Int)) y2 h5, E (List (List Int)) y7 h0]) H trivial ?_; clear H ey12
 rintro _ _ w1 ⟨rfl, rfl⟩ H
 obtain ⟨a0, e, f1⟩ := bindS f0; clear f0
 replace H := H.sel [1, 0, 2] rfl
 replace H := H.frz
 refine slS (α := List Int) (hi := none) gok rfl rfl H 0 rfl e rfl (congrArg (fun n : Nat => some (n : Int)) (H.rs (α := List (List Int)) 0 rfl).len) ?_; clear e H; intro h1 H
 refine lenE (H.rs (α := List (List Int)) 3 rfl).len ?_
 obtain ⟨y1, e, f2⟩ := bindS f1; clear f1
 have ey19 := e; clear e
 refine callF (impl_reduced_c p_ a0 h1 ((rows_.length : Nat) : Int) y1 ey19) (Γi := []) H ⟨Vw.sh 0 rfl, trivial⟩ ?_; clear H ey19
 rintro _ _ w2 ⟨h2, rfl, rfl⟩ H
 cases f2
 exact ⟨_, _, rfl, ⟨h2, rfl, rfl⟩, (H.sel [0] rfl).close ⟨cloE, trivial⟩⟩

theorem impl_StateSpace_hidden_c (s__0 : Int) (s__1 : Int) (s__2 : Int) (s__3 : List (List Int)) (s__3h : Hd) (s__4 : List (List Int)) (s__4h : Hd) (s__5 : List (List Int)) (s__5h : Hd) (s__6 : List (List Int)) (s__6h : Hd) (p_ : Int) (y : List (List Int)) (hF : F_impl_StateSpace_hidden (s__0, s__1, s__2, s__3, s__4, s__5, s__6) p_ = some y) :
  ConF Tryd.prog 67 #[(.agg #[(.int .i64 s__0), (.int .i64 s__1), (.int .i64 s__2), (s__3h).v, (s__4h).v, (s__5h).v, (s__6h).v]), (.int .i64 p_)] [Es (List (List Int)) s__3 s__3h, Es (List (List Int)) s__4 s__4h, Es (List (List Int)) s__5 s__5h, Es (List (List Int)) s__6 s__6h] [] (fun v Γ' => ∃ z0 : Hd, v = (z0).v ∧ Γ' = [E (List (List Int)) y z0]) := by
 intro w0 S0 fp0 hI hS
 have H : Cx w0 fp0 S0 w0 [Es (List (List Int)) s__3 s__3h, Es (List (List Int)) s__4 s__4h, Es (List (List Int)) s__5 s__5h, Es (List (List Int)) s__6 s__6h] := Cx.start hI hS
 clear hI hS
 refine enterC (args := [_, _]) gok Tryd.func67 rfl _ rfl rfl rfl ?_
 refine box_ H ?_; clear H; intro b6 w5 hx H
 clear hx
 refine fld gok rfl rfl rfl rfl ?_
 refine load1 (H.bx 0 rfl (j := 0) rfl) ?_
 obtain ⟨a8, e, hF9⟩ := bindS hF; clear hF
 refine make_ (α := List Int) gok rfl rfl rfl rfl (makeCO_of e) H ?_; clear e H; intro h0 w1 hx H
 clear hx
 refine fld gok rfl rfl rfl rfl ?_
 refine load1 (H.bx 1 rfl (j := 5) rfl) ?_
 obtain ⟨y0, e, f0⟩ := bindS hF9; clear hF9
 have ey13 := e; clear e
 refine callF (impl_clones_c s__5 s__5h y0 ey13) (Γi := []) H ⟨Vw.sh 4 rfl, trivial⟩ ?_; clear H ey13
 rintro _ _ w2 ⟨h1, rfl, rfl⟩ H
 refine sq ?_
 refine fld gok rfl rfl rfl rfl ?_
 refine load1 (H.bx 2 rfl (j := 0) rfl) ?_
 replace H := H.frz
 obtain ⟨a0, hn, f1⟩ := bindS f0; clear f0
 obtain ⟨r0, e, f2⟩ := bindS f1; clear f1
 refine loopS _ s__0.toNat (fun (k0 : Nat) (s0 : List (List Int) × List (List Int)) (g0 : Hd) => [(1, (.int .i64 p_)), (2, (.pointer (some ⟨b6, 0, none⟩))), (5, (h0).v), (6, (g0).v), (15, (.int .i64 s__0)), (16, (.int .i64 ((k0 : Nat) : Int)))]) (fun _ (s0 : List (List Int) × List (List Int)) (g0 : Hd) w' => Cx w0 fp0 S0 w' [Bx b6 [(.int .i64 s__0), (.int .i64 s__1), (.int .i64 s__2), (s__3h).v, (s__4h).v, (s__5h).v, (s__6h).v], Es (List (List Int)) s__3 s__3h, Es (List (List Int)) s__4 s__4h, Es (List (List Int)) s__5 s__5h, Es (List (List Int)) s__6 s__6h, E (List (List Int)) s0.1 h0, Es (List (List Int)) s0.2 g0]) (a8, y0) h1 e ⟨rfl, rfl, rfl, rfl, rfl, rfl, trivial⟩ (H.sel [2, 3, 4, 5, 6, 1, 0] rfl) ?_ ?_
 ·
  clear H e
  rintro T0 k0 ⟨s0_0, s0_1⟩ g0 w3 o0 hk (H : Cx w0 fp0 S0 w3 [Bx b6 [(.int .i64 s__0), (.int .i64 s__1), (.int .i64 s__2), (s__3h).v, (s__4h).v, (s__5h).v, (s__6h).v], Es (List (List Int)) s__3 s__3h, Es (List (List Int)) s__4 s__4h, Es (List (List Int)) s__5 s__5h, Es (List (List Int)) s__6 s__6h, E (List (List Int)) s0_0 h0, Es (List (List Int)) s0_1 g0]) f3
  refine boolE (z := true) (ltNat hk) ?_
  refine sq ?_
  refine sq ?_
  refine sq ?_
  refine lenE (H.ro (α := List (List Int)) 5 rfl).len ?_
  have x0 := (H.ro (α := List (List Int)) 5 rfl).max
  obtain ⟨r1, e, f4⟩ := bindS f3; clear f3
  refine loopS _ s0_0.length (fun (k1 : Nat) (s1 : List (List Int)) (_ : Unit) => [(1, (.int .i64 p_)), (2, (.pointer (some ⟨b6, 0, none⟩))), (5, (h0).v), (6, (g0).v), (15, (.int .i64 s__0)), (16, (.int .i64 ((k0 : Nat) : Int))), (19, (.int .i64 ((s0_0.length : Nat) : Int))), (20, (.int .i64 ((k1 : Nat) : Int)))]) (fun _ (s1 : List (List Int)) (_ : Unit) w' => Cx w0 fp0 S0 w' [Bx b6 [(.int .i64 s__0), (.int .i64 s__1), (.int .i64 s__2), (s__3h).v, (s__4h).v, (s__5h).v, (s__6h).v], Es (List (List Int)) s__3 s__3h, Es (List (List Int)) s__4 s__4h, Es (List (List Int)) s__5 s__5h, Es (List (List Int)) s__6 s__6h, E (List (List Int)) s1 h0, Es (List (List Int)) s0_1 g0]) s0_0 () e ⟨rfl, rfl, rfl, rfl, rfl, rfl, rfl, rfl, trivial⟩ (H.sel [0, 1, 2, 3, 4, 5, 6] rfl) ?_ ?_
  ·
   clear H e
   rintro T1 k1 s1 _ w4 o1 hk (H : Cx w0 fp0 S0 w4 [Bx b6 [(.int .i64 s__0), (.int .i64 s__1), (.int .i64 s__2), (s__3h).v, (s__4h).v, (s__5h).v, (s__6h).v], Es (List (List Int)) s__3 s__3h, Es (List (List Int)) s__4 s__4h, Es (List (List Int)) s__5 s__5h, Es (List (List Int)) s__6 s__6h, E (List (List Int)) s1 h0, Es (List (List Int)) s0_1 g0]) f5
   refine boolE (z := true) (ltLen hk) ?_
   refine sq ?_
   refine sq ?_
   refine heldX H [10, 12, 11, 0, 1] (.pure 0 (.pure 1 (.fst 2 (.fst 3 (.fst 4 (.fst 6 (.fst 7 (.fst 8 (.fst 5 (.fst 9 (.act 10 (.act 11 (.act 12 .done))))))))))))) mixed [] trivial (by kernel_rfl) ?_
   clear H; intro w6 H
   have hX : Ext w6 w6 := Upd.refl _ _
   have H0 := H
   obtain ⟨a1, e, f6⟩ := bindS f5; clear f5
   replace H := H.sel [5, 0, 1, 2, 3, 4, 6] rfl
   replace H := H.toEH (α := List Int)
   have HH := H; clear H; obtain ⟨p0, m0, h2, c0, c1, c2, c3, H⟩ := HH.peekL e; clear HH
   clear e
   refine idxE c0 c1 c2 ?_
   obtain ⟨a2, e, f7⟩ := bindS f6; clear f6
   have HH := H; clear H; obtain ⟨p1, m1, h3, c4, c5, c6, c7, H⟩ := HH.elL 6 rfl e; clear HH
   clear e
   refine idxE c4 c5 c6 ?_; clear c4 c5 c6
   refine load1X c3 ?_; clear c3
   refine load1X c7 ?_; clear c7
   replace H := H.sel [1, 0, 2, 3, 4, 5, 6, 7] rfl
   replace H := H.takeK 0 rfl
   obtain ⟨a3, e, f8⟩ := bindS f7; clear f7
   refine appendS (α := Int) gok rfl rfl rfl rfl H (Vw.sh 1 rfl) e ?_; clear e H; intro h4 w7 H
   refine hold trivial ?_
   refine idxE c0 c1 c2 ?_
   refine hold trivial ?_
   replace H := H.sel [1, 0, 2, 3, 4, 5, 6, 7, 8] rfl
   refine stX0 H c0 rfl rfl ?_; clear H; intro w8 H
   obtain ⟨a4, e, f9⟩ := bindS f8; clear f8
   replace H := H.sel [1, 0, 2, 3, 4, 5, 6, 7, 8] rfl
   replace H := H.put c1 e; clear e
   refine hold trivial ?_
   refine arK hk x0 ?_
   have hs := Option.some.inj f9; subst hs; clear f9
   exact ⟨(), ⟨rfl, rfl, rfl, rfl, rfl, rfl, rfl, rfl, trivial⟩, H.sel [2, 3, 4, 5, 6, 0, 7] rfl⟩
  ·
   clear H e
   rintro T2 _ w9 (H : Cx w0 fp0 S0 w9 [Bx b6 [(.int .i64 s__0), (.int .i64 s__1), (.int .i64 s__2), (s__3h).v, (s__4h).v, (s__5h).v, (s__6h).v], Es (List (List Int)) s__3 s__3h, Es (List (List Int)) s__4 s__4h, Es (List (List Int)) s__5 s__5h, Es (List (List Int)) s__6 s__6h, E (List (List Int)) r1 h0, Es (List (List Int)) s0_1 g0])
   refine boolE (z := false) geLen ?_
   refine sq ?_
   refine fld gok rfl rfl rfl rfl ?_
   refine load1 (H.bx 0 rfl (j := 3) rfl) ?_
   refine fld gok rfl rfl rfl rfl ?_
   refine load1 (H.bx 0 rfl (j := 2) rfl) ?_
   obtain ⟨y1, e, f10⟩ := bindS f4; clear f4
   have ey582 := e; clear e
   refine callF (impl_product_c p_ s__3 s__3h s0_1 g0 s__2 y1 ey582) (Γi := []) H ⟨Vw.sh 1 rfl, Vw.sh 6 rfl, trivial⟩ ?_; clear H ey582
   rintro _ _ w11 ⟨h5, rfl, rfl⟩ H
   refine arK hk (maxI hn) ?_
   replace H := H.frz
   have hs := Option.some.inj f10; subst hs; clear f10
   exact ⟨h5, ⟨rfl, rfl, rfl, rfl, rfl, rfl, trivial⟩, H.sel [1, 2, 3, 4, 5, 6, 0] rfl⟩
 ·
  clear H e
  obtain ⟨s2_0, s2_1⟩ := r0
  rintro T3 g1 w12 (H : Cx w0 fp0 S0 w12 [Bx b6 [(.int .i64 s__0), (.int .i64 s__1), (.int .i64 s__2), (s__3h).v, (s__4h).v, (s__5h).v, (s__6h).v], Es (List (List Int)) s__3 s__3h, Es (List (List Int)) s__4 s__4h, Es (List (List Int)) s__5 s__5h, Es (List (List Int)) s__6 s__6h, E (List (List Int)) s2_0 h0, Es (List (List Int)) s2_1 g1])
  refine boolE (z := false) geNat ?_
  refine sq ?_
  refine fld gok rfl rfl rfl rfl ?_
  refine load1 (H.bx 0 rfl (j := 0) rfl) ?_
  refine fld gok rfl rfl rfl rfl ?_
  refine load1 (H.bx 0 rfl (j := 2) rfl) ?_
  obtain ⟨a5, e, f11⟩ := bindS f2; clear f2
  refine arO e ?_; clear e
  obtain ⟨y2, e, f12⟩ := bindS f11; clear f11
  have ey594 := e; clear e
  refine callF (impl_kernel_c p_ s2_0 h0 a5 y2 ey594) (Γi := []) H ⟨Vw.own 5 rfl, trivial⟩ ?_; clear H ey594
  rintro _ _ w13 ⟨h6, rfl, rfl⟩ H
  cases f12
  exact ⟨_, _, rfl, ⟨h6, rfl, rfl⟩, (H.sel [0] rfl).close ⟨cloE, trivial⟩⟩

theorem impl_StateSpace_isMinimal_c (s__0 : Int) (s__1 : Int) (s__2 : Int) (s__3 : List (List Int)) (s__3h : Hd) (s__4 : List (List Int)) (s__4h : Hd) (s__5 : List (List Int)) (s__5h : Hd) (s__6 : List (List Int)) (s__6h : Hd) (p_ : Int) (y : Bool) (hF : F_impl_StateSpace_isMinimal (s__0, s__1, s__2, s__3, s__4, s__5, s__6) p_ = some y) :
  ConF Tryd.prog 37 #[(.agg #[(.int .i64 s__0), (.int .i64 s__1), (.int .i64 s__2), (s__3h).v, (s__4h).v, (s__5h).v, (s__6h).v]), (.int .i64 p_)] [Es (List (List Int)) s__3 s__3h, Es (List (List Int)) s__4 s__4h, Es (List (List Int)) s__5 s__5h, Es (List (List Int)) s__6 s__6h] [] (fun v Γ' => v = (.bool y) ∧ Γ' = []) := by
 intro w0 S0 fp0 hI hS
 have H : Cx w0 fp0 S0 w0 [Es (List (List Int)) s__3 s__3h, Es (List (List Int)) s__4 s__4h, Es (List (List Int)) s__5 s__5h, Es (List (List Int)) s__6 s__6h] := Cx.start hI hS
 clear hI hS
 refine enterC (args := [_, _]) gok Tryd.func37 rfl _ rfl rfl rfl ?_
 refine box_ H ?_; clear H; intro b6 w5 hx H
 clear hx
 obtain ⟨r0, f0, f1⟩ := bindS hF; clear hF
 refine cut (fun (q0 : Bool) => [(4, (.bool q0))]) (fun (q0 : Bool) w' => q0 = r0 ∧ Cx w0 fp0 S0 w' []) ?_ ?_
 ·
  refine heldX H [] (.fst 1 (.fst 4 (.fst 0 (.fst 5 (.act 2 (.fst 3 (.fst 6 (.fst 7 (.fst 9 (.fst 8 (.act 10 (.fst 11 (.fst 12 (.fst 13 (.fst 14 .done))))))))))))))) mixed [] trivial (by kernel_rfl) ?_
  clear H; intro w1 H
  have hX : Ext w1 w1 := Upd.refl _ _
  have H0 := H
  refine anyH (fun _ => fld gok rfl rfl rfl rfl ⟨rfl, rfl⟩) ?_
  refine loadNX [(.int .i64 s__0), (.int .i64 s__1), (.int .i64 s__2), (s__3h).v, (s__4h).v, (s__5h).v, (s__6h).v] rfl (fun j u hj => H.bx 0 rfl hj) ?_
  refine load1X (H.bx 0 rfl (j := 0) rfl) ?_
  obtain ⟨y0, e, f2⟩ := bindS f0; clear f0
  have ey32 := e; clear e
  refine callFx (impl_StateSpace_reachable_c s__0 s__1 s__2 s__3 s__3h s__4 s__4h s__5 s__5h s__6 s__6h p_ y0 ey32) H ⟨Vw.sh 1 rfl, Vw.sh 2 rfl, Vw.sh 3 rfl, Vw.sh 4 rfl, trivial⟩ ?_; clear H ey32
  rintro _ _ w2 ⟨h0, rfl, rfl⟩ hx H
  replace hX := hX.trans0 hx; clear hx
  refine hold hX ?_
  refine lenE (H.ro (α := List (List Int)) 0 rfl).len ?_
  obtain ⟨a0, e, f3⟩ := bindS f2; clear f2
  refine boolO e ?_; clear e
  cases a0
  ·
   have f4 := condF f3; clear f3
   exact ⟨false, ⟨rfl, trivial⟩, Option.some.inj f4, H.sel [] rfl⟩
  ·
   have f5 := condT f3; clear f3
   refine loadNX [(.int .i64 s__0), (.int .i64 s__1), (.int .i64 s__2), (s__3h).v, (s__4h).v, (s__5h).v, (s__6h).v] rfl (fun j u hj => H0.bx 0 rfl hj) ?_
   obtain ⟨y1, e, f6⟩ := bindS f5; clear f5
   have ey41 := e; clear e
   refine callFx (impl_StateSpace_hidden_c s__0 s__1 s__2 s__3 s__3h s__4 s__4h s__5 s__5h s__6 s__6h p_ y1 ey41) H ⟨Vw.sh 2 rfl, Vw.sh 3 rfl, Vw.sh 4 rfl, Vw.sh 5 rfl, trivial⟩ ?_; clear H ey41
   rintro _ _ w3 ⟨h1, rfl, rfl⟩ hx H
   replace hX := hX.trans0 hx; clear hx
   refine hold hX ?_
   refine lenE (H.ro (α := List (List Int)) 0 rfl).len ?_
   obtain ⟨a1, e, f7⟩ := bindS f6; clear f6
   refine boolO e ?_; clear e
   exact ⟨a1, ⟨rfl, trivial⟩, Option.some.inj f7, H.sel [] rfl⟩
 ·
  clear f0 H
  rintro T0 s0 w4 ⟨hr, (H : Cx w0 fp0 S0 w4 [])⟩
  subst hr
  cases f1
  exact ⟨_, _, rfl, ⟨rfl, rfl⟩, (H.sel [] rfl).close trivial⟩

theorem impl_StateSpace_markov_c (s__0 : Int) (s__1 : Int) (s__2 : Int) (s__3 : List (List Int)) (s__3h : Hd) (s__4 : List (List Int)) (s__4h : Hd) (s__5 : List (List Int)) (s__5h : Hd) (s__6 : List (List Int)) (s__6h : Hd) (p_ : Int) (n_ : Int) (y : List (Int × List (List Int))) (hF : F_impl_StateSpace_markov (s__0, s__1, s__2, s__3, s__4, s__5, s__6) p_ n_ = some y) :
  ConF Tryd.prog 69 #[(.agg #[(.int .i64 s__0), (.int .i64 s__1), (.int .i64 s__2), (s__3h).v, (s__4h).v, (s__5h).v, (s__6h).v]), (.int .i64 p_), (.int .i64 n_)] [Es (List (List Int)) s__3 s__3h, Es (List (List Int)) s__4 s__4h, Es (List (List Int)) s__5 s__5h, Es (List (List Int)) s__6 s__6h] [] (fun v Γ' => ∃ z0 : Hd, v = (z0).v ∧ Γ' = [E (List (Int × List (List Int))) y z0]) := by
 intro w0 S0 fp0 hI hS
 have H : Cx w0 fp0 S0 w0 [Es (List (List Int)) s__3 s__3h, Es (List (List Int)) s__4 s__4h, Es (List (List Int)) s__5 s__5h, Es (List (List Int)) s__6 s__6h] := Cx.start hI hS
 clear hI hS
 refine enterC (args := [_, _, _]) gok Tryd.func69 rfl _ rfl rfl rfl ?_
 refine box_ H ?_; clear H; intro b6 w5 hx H
 clear hx
 refine lit0 (α := Int × List (List Int)) gok rfl rfl H ?_; clear H; intro h9 w8 hx H
 clear hx
 refine fld gok rfl rfl rfl rfl ?_
 refine load1 (H.bx 1 rfl (j := 4) rfl) ?_
 obtain ⟨y0, e, f0⟩ := bindS hF; clear hF
 have ey11 := e; clear e
 refine callF (impl_clones_c s__4 s__4h y0 ey11) (Γi := []) H ⟨Vw.sh 3 rfl, trivial⟩ ?_; clear H ey11
 rintro _ _ w1 ⟨h0, rfl, rfl⟩ H
 refine sq ?_
 obtain ⟨a0, hn, f1⟩ := bindS f0; clear f0
 obtain ⟨r0, e, f2⟩ := bindS f1; clear f1
 refine loopS _ n_.toNat (fun (k0 : Nat) (s0 : (List (Int × List (List Int))) × List (List Int)) (g0 : Hd × Hd) => [(1, (.int .i64 p_)), (3, (.pointer (some ⟨b6, 0, none⟩))), (7, (g0.1).v), (8, (g0.2).v), (14, (.int .i64 n_)), (15, (.int .i64 ((k0 : Nat) : Int)))]) (fun _ (s0 : (List (Int × List (List Int))) × List (List Int)) (g0 : Hd × Hd) w' => Cx w0 fp0 S0 w' [Bx b6 [(.int .i64 s__0), (.int .i64 s__1), (.int .i64 s__2), (s__3h).v, (s__4h).v, (s__5h).v, (s__6h).v], Es (List (List Int)) s__3 s__3h, Es (List (List Int)) s__4 s__4h, Es (List (List Int)) s__5 s__5h, Es (List (List Int)) s__6 s__6h, E (List (Int × List (List Int))) s0.1 g0.1, E (List (List Int)) s0.2 g0.2]) (([] : List (Int × List (List Int))), y0) (h9, h0) e ⟨rfl, rfl, rfl, rfl, rfl, rfl, trivial⟩ (H.sel [2, 3, 4, 5, 6, 1, 0] rfl) ?_ ?_
 ·
  clear H e
  rintro T0 k0 ⟨s0_0, s0_1⟩ ⟨g0_0, g0_1⟩ w2 o0 hk (H : Cx w0 fp0 S0 w2 [Bx b6 [(.int .i64 s__0), (.int .i64 s__1), (.int .i64 s__2), (s__3h).v, (s__4h).v, (s__5h).v, (s__6h).v], Es (List (List Int)) s__3 s__3h, Es (List (List Int)) s__4 s__4h, Es (List (List Int)) s__5 s__5h, Es (List (List Int)) s__6 s__6h, E (List (Int × List (List Int))) s0_0 g0_0, E (List (List Int)) s0_1 g0_1]) f3
  refine boolE (z := true) (ltNat hk) ?_
  refine sq ?_
  obtain ⟨r1, f4, f5⟩ := bindS f3; clear f3
  refine cut (fun (q0 : ((List (Int × List (List Int))) × List (List Int)) × (Hd × Hd)) => [(1, (.int .i64 p_)), (3, (.pointer (some ⟨b6, 0, none⟩))), (7, (q0.2.1).v), (8, (q0.2.2).v), (14, (.int .i64 n_)), (15, (.int .i64 ((k0 : Nat) : Int)))]) (fun (q0 : ((List (Int × List (List Int))) × List (List Int)) × (Hd × Hd)) w' => (q0.1.1, q0.1.2) = r1 ∧ Cx w0 fp0 S0 w' [Bx b6 [(.int .i64 s__0), (.int .i64 s__1), (.int .i64 s__2), (s__3h).v, (s__4h).v, (s__5h).v, (s__6h).v], Es (List (List Int)) s__3 s__3h, Es (List (List Int)) s__4 s__4h, Es (List (List Int)) s__5 s__5h, Es (List (List Int)) s__6 s__6h, E (List (Int × List (List Int))) q0.1.1 q0.2.1, E (List (List Int)) q0.1.2 q0.2.2]) ?_ ?_
  ·
   refine sq ?_
   obtain ⟨a1, e, f6⟩ := bindS f4; clear f4
   refine boolO e ?_; clear e
   cases a1
   ·
    have f7 := condF f6; clear f6
    refine heldX H [12, 13] (.fst 0 (.fst 1 (.fst 3 (.fst 4 (.fst 5 (.fst 7 (.fst 2 (.fst 6 (.fst 8 (.act 9 (.fst 10 (.act 11 (.act 12 (.act 13 .done)))))))))))))) mixed [] trivial (by kernel_rfl) ?_
    clear H; intro w3 H
    have hX : Ext w3 w3 := Upd.refl _ _
    have H0 := H
    refine anyH (fun _ => fld gok rfl rfl rfl rfl ⟨rfl, rfl⟩) ?_
    refine anyH (fun _ => fld gok rfl rfl rfl rfl ⟨rfl, rfl⟩) ?_
    refine anyH (fun _ => fld gok rfl rfl rfl rfl ⟨rfl, rfl⟩) ?_
    refine load1X (H.bx 0 rfl (j := 2) rfl) ?_
    refine load1X (H.bx 0 rfl (j := 5) rfl) ?_
    refine load1X (H.bx 0 rfl (j := 2) rfl) ?_
    obtain ⟨y1, e, f8⟩ := bindS f7; clear f7
    have ey273 := e; clear e
    refine callFx (impl_product_c p_ s0_1 g0_1 s__5 s__5h s__2 y1 ey273) H ⟨Vw.own 6 rfl, Vw.sh 3 rfl, trivial⟩ ?_; clear H ey273
    rintro _ _ w4 ⟨h1, rfl, rfl⟩ hx H
    replace hX := hX.trans0 hx; clear hx
    refine hold hX ?_
    refine anyH (fun _ => build_ (cs := #[(.int .i64 s__2), (h1).v]) gok rfl rfl rfl ⟨rfl, rfl⟩) ?_
    replace H := H.sc (α := Int) s__2
    replace H := H.join (α := Int) (β := List (List Int))
    refine lit1 (α := Int × List (List Int)) (g := ((), h1)) gok rfl rfl rfl rfl rfl H ?_; clear H; intro h2 w6 hx H
    replace hX := hX.trans0 hx; clear hx
    refine hold hX ?_
    obtain ⟨a2, e, f9⟩ := bindS f8; clear f8
    replace H := H.sel [6, 0, 1, 2, 3, 4, 5, 7] rfl
    refine append_ (α := Int × List (List Int)) gok rfl rfl rfl rfl H e ?_; clear e H; intro h3 w7 H
    refine hold trivial ?_
    refine hold trivial ?_
    refine fld gok rfl rfl rfl rfl ?_
    refine load1 (H.bx 1 rfl (j := 3) rfl) ?_
    refine fld gok rfl rfl rfl rfl ?_
    refine load1 (H.bx 1 rfl (j := 0) rfl) ?_
    obtain ⟨y2, e, f10⟩ := bindS f9; clear f9
    have ey288 := e; clear e
    refine callF (impl_product_c p_ s0_1 g0_1 s__3 s__3h s__0 y2 ey288) (Γi := []) H ⟨Vw.own 6 rfl, Vw.sh 2 rfl, trivial⟩ ?_; clear H ey288
    rintro _ _ w9 ⟨h4, rfl, rfl⟩ H
    exact ⟨((a2, y2), (h3, h4)), ⟨rfl, rfl, rfl, rfl, rfl, rfl, trivial⟩, Option.some.inj f10, H.sel [2, 3, 4, 5, 6, 1, 0] rfl⟩
   ·
    have f11 := condT f6; clear f6
    refine heldX H [8, 9] (.fst 0 (.fst 1 (.fst 3 (.fst 2 (.fst 4 (.act 5 (.fst 6 (.act 7 (.act 8 (.act 9 .done)))))))))) mixed [] trivial (by kernel_rfl) ?_
    clear H; intro w10 H
    have hX : Ext w10 w10 := Upd.refl _ _
    have H0 := H
    refine anyH (fun _ => fld gok rfl rfl rfl rfl ⟨rfl, rfl⟩) ?_
    refine anyH (fun _ => fld gok rfl rfl rfl rfl ⟨rfl, rfl⟩) ?_
    refine load1X (H.bx 0 rfl (j := 2) rfl) ?_
    refine load1X (H.bx 0 rfl (j := 6) rfl) ?_
    obtain ⟨y3, e, f12⟩ := bindS f11; clear f11
    have ey295 := e; clear e
    refine callFx (impl_clones_c s__6 s__6h y3 ey295) H ⟨Vw.sh 4 rfl, trivial⟩ ?_; clear H ey295
    rintro _ _ w11 ⟨h5, rfl, rfl⟩ hx H
    replace hX := hX.trans0 hx; clear hx
    refine hold hX ?_
    refine anyH (fun _ => build_ (cs := #[(.int .i64 s__2), (h5).v]) gok rfl rfl rfl ⟨rfl, rfl⟩) ?_
    replace H := H.sc (α := Int) s__2
    replace H := H.join (α := Int) (β := List (List Int))
    refine lit1 (α := Int × List (List Int)) (g := ((), h5)) gok rfl rfl rfl rfl rfl H ?_; clear H; intro h6 w12 hx H
    replace hX := hX.trans0 hx; clear hx
    refine hold hX ?_
    obtain ⟨a3, e, f13⟩ := bindS f12; clear f12
    replace H := H.sel [6, 0, 1, 2, 3, 4, 5, 7] rfl
    refine append_ (α := Int × List (List Int)) gok rfl rfl rfl rfl H e ?_; clear e H; intro h7 w14 H
    refine hold trivial ?_
    refine hold trivial ?_
    exact ⟨((a3, s0_1), (h7, g0_1)), ⟨rfl, rfl, rfl, rfl, rfl, rfl, trivial⟩, Option.some.inj f13, H.sel [1, 2, 3, 4, 5, 0, 6] rfl⟩
  ·
   clear f4 H
   rintro T1 ⟨⟨s1_0, s1_1⟩, ⟨g1_0, g1_1⟩⟩ w15 ⟨hr, (H : Cx w0 fp0 S0 w15 [Bx b6 [(.int .i64 s__0), (.int .i64 s__1), (.int .i64 s__2), (s__3h).v, (s__4h).v, (s__5h).v, (s__6h).v], Es (List (List Int)) s__3 s__3h, Es (List (List Int)) s__4 s__4h, Es (List (List Int)) s__5 s__5h, Es (List (List Int)) s__6 s__6h, E (List (Int × List (List Int))) s1_0 g1_0, E (List (List Int)) s1_1 g1_1])⟩
   subst hr
   refine arK hk (maxI hn) ?_
   have hs := Option.some.inj f5; subst hs; clear f5
   exact ⟨(g1_0, g1_1), ⟨rfl, rfl, rfl, rfl, rfl, rfl, trivial⟩, H.sel [0, 1, 2, 3, 4, 5, 6] rfl⟩
 ·
  clear H e
  obtain ⟨s2_0, s2_1⟩ := r0
  rintro T2 ⟨g2_0, g2_1⟩ w16 (H : Cx w0 fp0 S0 w16 [Bx b6 [(.int .i64 s__0), (.int .i64 s__1), (.int .i64 s__2), (s__3h).v, (s__4h).v, (s__5h).v, (s__6h).v], Es (List (List Int)) s__3 s__3h, Es (List (List Int)) s__4 s__4h, Es (List (List Int)) s__5 s__5h, Es (List (List Int)) s__6 s__6h, E (List (Int × List (List Int))) s2_0 g2_0, E (List (List Int)) s2_1 g2_1])
  refine boolE (z := false) geNat ?_
  refine sq ?_
  cases f2
  exact ⟨_, _, rfl, ⟨g2_0, rfl, rfl⟩, (H.sel [5] rfl).close ⟨cloE, trivial⟩⟩

theorem slices_Equal_int_int_c (s1_ : List Int) (s1_h : Hd) (s2_ : List Int) (s2_h : Hd) (y : Bool) (hF : F_slices_Equal_int_int s1_ s2_ = some y) :
  ConF Tryd.prog 117 #[(s1_h).v, (s2_h).v] [Es (List Int) s1_ s1_h, Es (List Int) s2_ s2_h] [] (fun v Γ' => v = (.bool y) ∧ Γ' = []) := by
 intro w0 S0 fp0 hI hS
 have H : Cx w0 fp0 S0 w0 [Es (List Int) s1_ s1_h, Es (List Int) s2_ s2_h] := Cx.start hI hS
 clear hI hS
 refine enterC (args := [_, _]) gok Tryd.func117 rfl _ rfl rfl rfl ?_
 refine sq ?_
 refine lenE (H.rs (α := List Int) 0 rfl).len ?_
 refine lenE (H.rs (α := List Int) 1 rfl).len ?_
 obtain ⟨a3, e, hF4⟩ := bindS hF; clear hF
 refine boolO e ?_; clear e
 cases a3
 ·
  have hF5 := condF hF4; clear hF4
  refine sq ?_
  refine lenE (H.rs (α := List Int) 0 rfl).len ?_
  have x0 := (H.rs (α := List Int) 0 rfl).max
  obtain ⟨r0, e, f0⟩ := bindS hF5; clear hF5
  refine loopO _ s1_.length (fun (k6 : Nat) (_ : Unit) (_ : Unit) => [(0, (s1_h).v), (1, (s2_h).v), (12, (.int .i64 ((s1_.length : Nat) : Int))), (13, (.int .i64 ((k6 : Nat) : Int)))]) (fun _ (_ : Unit) (_ : Unit) w' => Cx w0 fp0 S0 w' [Es (List Int) s1_ s1_h, Es (List Int) s2_ s2_h]) () () e ⟨rfl, rfl, rfl, rfl, trivial⟩ (H.sel [0, 1] rfl) ?_ ?_
  ·
   clear H e
   rintro T0 k6 _ _ w1 o0 hk (H : Cx w0 fp0 S0 w1 [Es (List Int) s1_ s1_h, Es (List Int) s2_ s2_h]) hrt f1
   refine boolE (z := true) (ltLen hk) ?_
   refine sq ?_
   refine sq ?_
   refine heldX H [] (.fst 0 (.fst 1 (.fst 2 (.fst 4 (.fst 5 (.fst 6 (.fst 3 (.fst 7 (.fst 8 .done))))))))) mixed [] trivial (by kernel_rfl) ?_
   clear H; intro w2 H
   have hX : Ext w2 w2 := Upd.refl _ _
   have H0 := H
   obtain ⟨a0, e, f2⟩ := bindS f1; clear f1
   obtain ⟨p0, m0, c0, c1, c2, c3⟩ := (H.rs (α := List Int) 0 rfl).at1 e; clear e
   refine idxE c0 c1 c2 ?_; clear c0 c1 c2
   obtain ⟨a1, e, f3⟩ := bindS f2; clear f2
   obtain ⟨p1, m1, c4, c5, c6, c7⟩ := (H.rs (α := List Int) 1 rfl).at1 e; clear e
   refine idxE c4 c5 c6 ?_; clear c4 c5 c6
   refine load1X c3 ?_; clear c3
   refine load1X c7 ?_; clear c7
   obtain ⟨a2, e, f4⟩ := bindS f3; clear f3
   refine boolO e ?_; clear e
   cases a2
   ·
    have f5 := condF f4; clear f4
    refine arK hk x0 ?_
    have hs := Option.some.inj f5; subst hs; clear f5
    exact ⟨(), (), rfl, ⟨rfl, rfl, rfl, rfl, trivial⟩, H.sel [0, 1] rfl⟩
   ·
    have f6 := condT f4; clear f4
    have hs := Option.some.inj f6; subst hs; clear f6
    have hr := hrt _ rfl; subst hr
    have f7 : some _ = some _ := f0
    cases f7
    exact ⟨_, _, rfl, ⟨rfl, rfl⟩, (H.sel [] rfl).close trivial⟩
  ·
   clear H e
   rintro T1 _ _ w3 hr (H : Cx w0 fp0 S0 w3 [Es (List Int) s1_ s1_h, Es (List Int) s2_ s2_h])
   subst hr
   refine boolE (z := false) geLen ?_
   refine sq ?_
   cases f0
   exact ⟨_, _, rfl, ⟨rfl, rfl⟩, (H.sel [] rfl).close trivial⟩
 ·
  have f8 := condT hF4; clear hF4
  cases f8
  exact ⟨_, _, rfl, ⟨rfl, rfl⟩, (H.sel [] rfl).close trivial⟩

theorem slices_EqualFunc_int_int_int_int_slices_Equal_int_int_c (s1_ : List (List Int)) (s1_h : Hd) (s2_ : List (List Int)) (s2_h : Hd) (y : Bool) (hF : F_slices_EqualFunc_int_int_int_int_slices_Equal_int_int s1_ s2_ = some y) :
  ConF Tryd.prog 116 #[(s1_h).v, (s2_h).v, (.func (.func 117) #[] #[])] [Es (List (List Int)) s1_ s1_h, Es (List (List Int)) s2_ s2_h] [] (fun v Γ' => v = (.bool y) ∧ Γ' = []) := by
 intro w0 S0 fp0 hI hS
 have H : Cx w0 fp0 S0 w0 [Es (List (List Int)) s1_ s1_h, Es (List (List Int)) s2_ s2_h] := Cx.start hI hS
 clear hI hS
 refine enterC (args := [_, _, _]) gok Tryd.func116 rfl _ rfl rfl rfl ?_
 refine sq ?_
 refine lenE (H.rs (α := List (List Int)) 0 rfl).len ?_
 refine lenE (H.rs (α := List (List Int)) 1 rfl).len ?_
 obtain ⟨a3, e, hF4⟩ := bindS hF; clear hF
 refine boolO e ?_; clear e
 cases a3
 ·
  have hF5 := condF hF4; clear hF4
  refine sq ?_
  refine lenE (H.rs (α := List (List Int)) 0 rfl).len ?_
  have x0 := (H.rs (α := List (List Int)) 0 rfl).max
  obtain ⟨r0, e, f0⟩ := bindS hF5; clear hF5
  refine loopO _ s1_.length (fun (k6 : Nat) (_ : Unit) (_ : Unit) => [(1, (s2_h).v), (2, (.func (.func 117) #[] #[])), (15, (s1_h).v), (16, (.int .i64 ((s1_.length : Nat) : Int))), (17, (.int .i64 ((k6 : Nat) : Int)))]) (fun _ (_ : Unit) (_ : Unit) w' => Cx w0 fp0 S0 w' [Es (List (List Int)) s2_ s2_h, Es (List (List Int)) s1_ s1_h]) () () e ⟨rfl, rfl, rfl, rfl, rfl, trivial⟩ (H.sel [1, 0] rfl) ?_ ?_
  ·
   clear H e
   rintro T0 k6 _ _ w1 o0 hk (H : Cx w0 fp0 S0 w1 [Es (List (List Int)) s2_ s2_h, Es (List (List Int)) s1_ s1_h]) hrt f1
   refine boolE (z := true) (ltLen hk) ?_
   refine sq ?_
   refine sq ?_
   obtain ⟨a0, e, f2⟩ := bindS f1; clear f1
   have HH := H; clear H; obtain ⟨p0, m0, h0, c0, c1, c2, c3, H⟩ := HH.elL 1 rfl e; clear HH
   clear e
   refine idxE c0 c1 c2 ?_; clear c0 c1 c2
   refine load1 c3 ?_; clear c3
   obtain ⟨a1, e, f3⟩ := bindS f2; clear f2
   have HH := H; clear H; obtain ⟨p1, m1, h1, c4, c5, c6, c7, H⟩ := HH.elL 1 rfl e; clear HH
   clear e
   refine idxE c4 c5 c6 ?_; clear c4 c5 c6
   refine load1 c7 ?_; clear c7
   obtain ⟨y0, e, f4⟩ := bindS f3; clear f3
   have ey65 := e; clear e
   refine callF (slices_Equal_int_int_c a0 h0 a1 h1 y0 ey65) (Γi := []) H ⟨Vw.sh 1 rfl, Vw.sh 0 rfl, trivial⟩ ?_; clear H ey65
   rintro _ _ w2 ⟨rfl, rfl⟩ H
   obtain ⟨a2, e, f5⟩ := bindS f4; clear f4
   refine boolO e ?_; clear e
   cases a2
   ·
    have f6 := condF f5; clear f5
    refine arK hk x0 ?_
    have hs := Option.some.inj f6; subst hs; clear f6
    exact ⟨(), (), rfl, ⟨rfl, rfl, rfl, rfl, rfl, trivial⟩, H.sel [2, 3] rfl⟩
   ·
    have f7 := condT f5; clear f5
    have hs := Option.some.inj f7; subst hs; clear f7
    have hr := hrt _ rfl; subst hr
    have f8 : some _ = some _ := f0
    cases f8
    exact ⟨_, _, rfl, ⟨rfl, rfl⟩, (H.sel [] rfl).close trivial⟩
  ·
   clear H e
   rintro T1 _ _ w3 hr (H : Cx w0 fp0 S0 w3 [Es (List (List Int)) s2_ s2_h, Es (List (List Int)) s1_ s1_h])
   subst hr
   refine boolE (z := false) geLen ?_
   refine sq ?_
   cases f0
   exact ⟨_, _, rfl, ⟨rfl, rfl⟩, (H.sel [] rfl).close trivial⟩
 ·
  have f9 := condT hF4; clear hF4
  cases f9
  exact ⟨_, _, rfl, ⟨rfl, rfl⟩, (H.sel [] rfl).close trivial⟩

theorem impl_sameRows_c (a_ : List (List Int)) (a_h : Hd) (b_ : List (List Int)) (b_h : Hd) (y : Bool) (hF : F_impl_sameRows a_ b_ = some y) :
  ConF Tryd.prog 101 #[(a_h).v, (b_h).v] [Es (List (List Int)) a_ a_h, Es (List (List Int)) b_ b_h] [] (fun v Γ' => v = (.bool y) ∧ Γ' = []) := by
 intro w0 S0 fp0 hI hS
 have H : Cx w0 fp0 S0 w0 [Es (List (List Int)) a_ a_h, Es (List (List Int)) b_ b_h] := Cx.start hI hS
 clear hI hS
 refine enterC (args := [_, _]) gok Tryd.func101 rfl _ rfl rfl rfl ?_
 obtain ⟨y3, e, hF4⟩ := bindS hF; clear hF
 have ey3 := e; clear e
 refine callF (slices_EqualFunc_int_int_int_int_slices_Equal_int_int_c a_ a_h b_ b_h y3 ey3) (Γi := []) H ⟨Vw.sh 0 rfl, Vw.sh 1 rfl, trivial⟩ ?_; clear H ey3
 rintro _ _ w5 ⟨rfl, rfl⟩ H
 cases hF4
 exact ⟨_, _, rfl, ⟨rfl, rfl⟩, (H.sel [] rfl).close trivial⟩

theorem impl_equalMatrices_c (a__0 : Int) (a__1 : List (List Int)) (a__1h : Hd) (b__0 : Int) (b__1 : List (List Int)) (b__1h : Hd) (y : Bool) (hF : F_impl_equalMatrices (a__0, a__1) (b__0, b__1) = some y) :
  ConF Tryd.prog 70 #[(.agg #[(.int .i64 a__0), (a__1h).v]), (.agg #[(.int .i64 b__0), (b__1h).v])] [Es (List (List Int)) a__1 a__1h, Es (List (List Int)) b__1 b__1h] [] (fun v Γ' => v = (.bool y) ∧ Γ' = []) := by
 intro w0 S0 fp0 hI hS
 have H : Cx w0 fp0 S0 w0 [Es (List (List Int)) a__1 a__1h, Es (List (List Int)) b__1 b__1h] := Cx.start hI hS
 clear hI hS
 refine enterC (args := [_, _]) gok Tryd.func70 rfl _ rfl rfl rfl ?_
 refine box_ H ?_; clear H; intro b4 w3 hx H
 clear hx
 refine box_ H ?_; clear H; intro b7 w6 hx H
 clear hx
 obtain ⟨r0, f0, f1⟩ := bindS hF; clear hF
 refine cut (fun (q0 : Bool) => [(4, (.bool q0))]) (fun (q0 : Bool) w' => q0 = r0 ∧ Cx w0 fp0 S0 w' []) ?_ ?_
 ·
  refine fld gok rfl rfl rfl rfl ?_
  refine load1 (H.bx 1 rfl (j := 0) rfl) ?_
  refine fld gok rfl rfl rfl rfl ?_
  refine load1 (H.bx 0 rfl (j := 0) rfl) ?_
  obtain ⟨a0, e, f2⟩ := bindS f0; clear f0
  refine boolO e ?_; clear e
  cases a0
  ·
   have f3 := condF f2; clear f2
   exact ⟨false, ⟨rfl, trivial⟩, Option.some.inj f3, H.sel [] rfl⟩
  ·
   have f4 := condT f2; clear f2
   refine fld gok rfl rfl rfl rfl ?_
   refine load1 (H.bx 1 rfl (j := 1) rfl) ?_
   refine fld gok rfl rfl rfl rfl ?_
   refine load1 (H.bx 0 rfl (j := 1) rfl) ?_
   obtain ⟨y0, e, f5⟩ := bindS f4; clear f4
   have ey26 := e; clear e
   refine callF (impl_sameRows_c a__1 a__1h b__1 b__1h y0 ey26) (Γi := []) H ⟨Vw.sh 2 rfl, Vw.sh 3 rfl, trivial⟩ ?_; clear H ey26
   rintro _ _ w1 ⟨rfl, rfl⟩ H
   exact ⟨y0, ⟨rfl, trivial⟩, Option.some.inj f5, H.sel [] rfl⟩
 ·
  clear f0 H
  rintro T0 s0 w2 ⟨hr, (H : Cx w0 fp0 S0 w2 [])⟩
  subst hr
  cases f1
  exact ⟨_, _, rfl, ⟨rfl, rfl⟩, (H.sel [] rfl).close trivial⟩

theorem slices_EqualFunc_impl_Matrix_impl_Matrix_impl_Matrix_impl_Matrix_impl_equalMatrices_c (s1_ : List (Int × List (List Int))) (s1_h : Hd) (s2_ : List (Int × List (List Int))) (s2_h : Hd) (y : Bool) (hF : F_slices_EqualFunc_impl_Matrix_impl_Matrix_impl_Matrix_impl_Matrix_impl_equalMatrices s1_ s2_ = some y) :
  ConF Tryd.prog 68 #[(s1_h).v, (s2_h).v, (.func (.func 70) #[] #[])] [Es (List (Int × List (List Int))) s1_ s1_h, Es (List (Int × List (List Int))) s2_ s2_h] [] (fun v Γ' => v = (.bool y) ∧ Γ' = []) := by
 intro w0 S0 fp0 hI hS
 have H : Cx w0 fp0 S0 w0 [Es (List (Int × List (List Int))) s1_ s1_h, Es (List (Int × List (List Int))) s2_ s2_h] := Cx.start hI hS
 clear hI hS
 refine enterC (args := [_, _, _]) gok Tryd.func68 rfl _ rfl rfl rfl ?_
 refine sq ?_
 refine lenE (H.rs (α := List (Int × List (List Int))) 0 rfl).len ?_
 refine lenE (H.rs (α := List (Int × List (List Int))) 1 rfl).len ?_
 obtain ⟨a3, e, hF4⟩ := bindS hF; clear hF
 refine boolO e ?_; clear e
 cases a3
 ·
  have hF5 := condF hF4; clear hF4
  refine sq ?_
  refine lenE (H.rs (α := List (Int × List (List Int))) 0 rfl).len ?_
  have x0 := (H.rs (α := List (Int × List (List Int))) 0 rfl).max
  obtain ⟨r0, e, f0⟩ := bindS hF5; clear hF5
  refine loopO _ s1_.length (fun (k6 : Nat) (_ : Unit) (_ : Unit) => [(1, (s2_h).v), (2, (.func (.func 70) #[] #[])), (15, (s1_h).v), (16, (.int .i64 ((s1_.length : Nat) : Int))), (17, (.int .i64 ((k6 : Nat) : Int)))]) (fun _ (_ : Unit) (_ : Unit) w' => Cx w0 fp0 S0 w' [Es (List (Int × List (List Int))) s2_ s2_h, Es (List (Int × List (List Int))) s1_ s1_h]) () () e ⟨rfl, rfl, rfl, rfl, rfl, trivial⟩ (H.sel [1, 0] rfl) ?_ ?_
  ·
   clear H e
   rintro T0 k6 _ _ w1 o0 hk (H : Cx w0 fp0 S0 w1 [Es (List (Int × List (List Int))) s2_ s2_h, Es (List (Int × List (List Int))) s1_ s1_h]) hrt f1
   refine boolE (z := true) (ltLen hk) ?_
   refine sq ?_
   refine sq ?_
   obtain ⟨a0, e, f2⟩ := bindS f1; clear f1
   have HH := H; clear H; obtain ⟨p0, m0, g0, c0, c1, c2, c3, H⟩ := HH.el (α := Int × List (List Int)) 1 rfl e; clear HH
   clear e
   obtain ⟨a0_0, a0_1⟩ := a0
   obtain ⟨_, h0⟩ := g0
   replace H := H.part (β := List (List Int)) a0_1 (h0 : Hd) 0 rfl (fun S h => (And.right h))
   replace H := H.sel [0, 2, 3] rfl
   refine idxE c0 c1 c2 ?_; clear c0 c1 c2
   refine loadN [(.int .i64 a0_0), (h0).v] rfl c3 ?_; clear c3
   refine alloc_ gok rfl H ?_; clear H; intro b0 w2 hx H
   clear hx
   refine stA gok [(.int .i64 a0_0), (h0).v] rfl H rfl rfl rfl ?_; clear H; intro w3 H
   obtain ⟨a1, e, f3⟩ := bindS f2; clear f2
   have HH := H; clear H; obtain ⟨p1, m1, g1, c4, c5, c6, c7, H⟩ := HH.el (α := Int × List (List Int)) 2 rfl e; clear HH
   clear e
   obtain ⟨a1_0, a1_1⟩ := a1
   obtain ⟨_, h1⟩ := g1
   replace H := H.part (β := List (List Int)) a1_1 (h1 : Hd) 0 rfl (fun S h => (And.right h))
   replace H := H.sel [0, 2, 3, 4, 5] rfl
   refine idxE c4 c5 c6 ?_; clear c4 c5 c6
   refine loadN [(.int .i64 a1_0), (h1).v] rfl c7 ?_; clear c7
   refine alloc_ gok rfl H ?_; clear H; intro b1 w4 hx H
   clear hx
   refine stA gok [(.int .i64 a1_0), (h1).v] rfl H rfl rfl rfl ?_; clear H; intro w5 H
   refine loadN [(.int .i64 a0_0), (h0).v] rfl (fun j u hj => H.bx 2 rfl hj) ?_
   refine loadN [(.int .i64 a1_0), (h1).v] rfl (fun j u hj => H.bx 0 rfl hj) ?_
   obtain ⟨y0, e, f4⟩ := bindS f3; clear f3
   have ey89 := e; clear e
   refine callF (impl_equalMatrices_c a0_0 a0_1 h0 a1_0 a1_1 h1 y0 ey89) (Γi := []) H ⟨Vw.sh 3 rfl, Vw.sh 1 rfl, trivial⟩ ?_; clear H ey89
   rintro _ _ w6 ⟨rfl, rfl⟩ H
   obtain ⟨a2, e, f5⟩ := bindS f4; clear f4
   refine boolO e ?_; clear e
   cases a2
   ·
    have f6 := condF f5; clear f5
    refine arK hk x0 ?_
    have hs := Option.some.inj f6; subst hs; clear f6
    exact ⟨(), (), rfl, ⟨rfl, rfl, rfl, rfl, rfl, trivial⟩, H.sel [4, 5] rfl⟩
   ·
    have f7 := condT f5; clear f5
    have hs := Option.some.inj f7; subst hs; clear f7
    have hr := hrt _ rfl; subst hr
    have f8 : some _ = some _ := f0
    cases f8
    exact ⟨_, _, rfl, ⟨rfl, rfl⟩, (H.sel [] rfl).close trivial⟩
  ·
   clear H e
   rintro T1 _ _ w7 hr (H : Cx w0 fp0 S0 w7 [Es (List (Int × List (List Int))) s2_ s2_h, Es (List (Int × List (List Int))) s1_ s1_h])
   subst hr
   refine boolE (z := false) geLen ?_
   refine sq ?_
   cases f0
   exact ⟨_, _, rfl, ⟨rfl, rfl⟩, (H.sel [] rfl).close trivial⟩
 ·
  have f9 := condT hF4; clear hF4
  cases f9
  exact ⟨_, _, rfl, ⟨rfl, rfl⟩, (H.sel [] rfl).close trivial⟩

theorem impl_sameOutputs_c (p_ : Int) (a__0 : Int) (a__1 : Int) (a__2 : Int) (a__3 : List (List Int)) (a__3h : Hd) (a__4 : List (List Int)) (a__4h : Hd) (a__5 : List (List Int)) (a__5h : Hd) (a__6 : List (List Int)) (a__6h : Hd) (b__0 : Int) (b__1 : Int) (b__2 : Int) (b__3 : List (List Int)) (b__3h : Hd) (b__4 : List (List Int)) (b__4h : Hd) (b__5 : List (List Int)) (b__5h : Hd) (b__6 : List (List Int)) (b__6h : Hd) (y : Bool) (hF : F_impl_sameOutputs p_ (a__0, a__1, a__2, a__3, a__4, a__5, a__6) (b__0, b__1, b__2, b__3, b__4, b__5, b__6) = some y) :
  ConF Tryd.prog 38 #[(.int .i64 p_), (.agg #[(.int .i64 a__0), (.int .i64 a__1), (.int .i64 a__2), (a__3h).v, (a__4h).v, (a__5h).v, (a__6h).v]), (.agg #[(.int .i64 b__0), (.int .i64 b__1), (.int .i64 b__2), (b__3h).v, (b__4h).v, (b__5h).v, (b__6h).v])] [Es (List (List Int)) a__3 a__3h, Es (List (List Int)) a__4 a__4h, Es (List (List Int)) a__5 a__5h, Es (List (List Int)) a__6 a__6h, Es (List (List Int)) b__3 b__3h, Es (List (List Int)) b__4 b__4h, Es (List (List Int)) b__5 b__5h, Es (List (List Int)) b__6 b__6h] [] (fun v Γ' => v = (.bool y) ∧ Γ' = []) := by
 intro w0 S0 fp0 hI hS
 have H : Cx w0 fp0 S0 w0 [Es (List (List Int)) a__3 a__3h, Es (List (List Int)) a__4 a__4h, Es (List (List Int)) a__5 a__5h, Es (List (List Int)) a__6 a__6h, Es (List (List Int)) b__3 b__3h, Es (List (List Int)) b__4 b__4h, Es (List (List Int)) b__5 b__5h, Es (List (List Int)) b__6 b__6h] := Cx.start hI hS
 clear hI hS
 refine enterC (args := [_, _, _]) gok Tryd.func38 rfl _ rfl rfl rfl ?_
 refine box_ H ?_; clear H; intro b0 w9 hx H
 clear hx
 refine box_ H ?_; clear H; intro b1 w1 hx H
 clear hx
 refine fld gok rfl rfl rfl rfl ?_
 refine load1 (H.bx 1 rfl (j := 0) rfl) ?_
 refine fld gok rfl rfl rfl rfl ?_
 refine load1 (H.bx 0 rfl (j := 0) rfl) ?_
 obtain ⟨a0, e, f0⟩ := bindS hF; clear hF
 refine arO e ?_; clear e
 obtain ⟨a1, e, f1⟩ := bindS f0; clear f0
 refine arO e ?_; clear e
 refine heldX H [] (.fst 1 (.fst 2 (.fst 5 (.fst 6 (.fst 0 (.fst 4 (.act 3 (.act 7 (.act 8 (.fst 9 .done)))))))))) mixed [] trivial (by kernel_rfl) ?_
 clear H; intro w2 H
 have hX : Ext w2 w2 := Upd.refl _ _
 have H0 := H
 refine loadNX [(.int .i64 a__0), (.int .i64 a__1), (.int .i64 a__2), (a__3h).v, (a__4h).v, (a__5h).v, (a__6h).v] rfl (fun j u hj => H.bx 1 rfl hj) ?_
 refine loadNX [(.int .i64 b__0), (.int .i64 b__1), (.int .i64 b__2), (b__3h).v, (b__4h).v, (b__5h).v, (b__6h).v] rfl (fun j u hj => H.bx 0 rfl hj) ?_
 obtain ⟨y0, e, f2⟩ := bindS f1; clear f1
 have ey20 := e; clear e
 refine callFx (impl_StateSpace_markov_c a__0 a__1 a__2 a__3 a__3h a__4 a__4h a__5 a__5h a__6 a__6h p_ a1 y0 ey20) H ⟨Vw.sh 2 rfl, Vw.sh 3 rfl, Vw.sh 4 rfl, Vw.sh 5 rfl, trivial⟩ ?_; clear H ey20
 rintro _ _ w3 ⟨h0, rfl, rfl⟩ hx H
 replace hX := hX.trans0 hx; clear hx
 refine hold hX ?_
 obtain ⟨y1, e, f3⟩ := bindS f2; clear f2
 have ey25 := e; clear e
 refine callFx (impl_StateSpace_markov_c b__0 b__1 b__2 b__3 b__3h b__4 b__4h b__5 b__5h b__6 b__6h p_ a1 y1 ey25) H ⟨Vw.sh 7 rfl, Vw.sh 8 rfl, Vw.sh 9 rfl, Vw.sh 10 rfl, trivial⟩ ?_; clear H ey25
 rintro _ _ w4 ⟨h1, rfl, rfl⟩ hx H
 replace hX := hX.trans0 hx; clear hx
 refine hold hX ?_
 obtain ⟨y2, e, f4⟩ := bindS f3; clear f3
 have ey30 := e; clear e
 refine callFx (slices_EqualFunc_impl_Matrix_impl_Matrix_impl_Matrix_impl_Matrix_impl_equalMatrices_c y0 h0 y1 h1 y2 ey30) H ⟨Vw.own 1 rfl, Vw.own 0 rfl, trivial⟩ ?_; clear H ey30
 rintro _ _ w5 ⟨rfl, rfl⟩ hx H
 replace hX := hX.trans0 hx; clear hx
 refine hold hX ?_
 cases f4
 exact ⟨_, _, rfl, ⟨rfl, rfl⟩, (H.sel [] rfl).close trivial⟩

theorem impl_StateSpace_reachedRows_c (s__0 : Int) (s__1 : Int) (s__2 : Int) (s__3 : List (List Int)) (s__3h : Hd) (s__4 : List (List Int)) (s__4h : Hd) (s__5 : List (List Int)) (s__5h : Hd) (s__6 : List (List Int)) (s__6h : Hd) (p_ : Int) (y : List (List Int)) (hF : F_impl_StateSpace_reachedRows (s__0, s__1, s__2, s__3, s__4, s__5, s__6) p_ = some y) :
  ConF Tryd.prog 39 #[(.agg #[(.int .i64 s__0), (.int .i64 s__1), (.int .i64 s__2), (s__3h).v, (s__4h).v, (s__5h).v, (s__6h).v]), (.int .i64 p_)] [Es (List (List Int)) s__3 s__3h, Es (List (List Int)) s__4 s__4h, Es (List (List Int)) s__5 s__5h, Es (List (List Int)) s__6 s__6h] [] (fun v Γ' => ∃ z0 : Hd, v = (z0).v ∧ Γ' = [E (List (List Int)) y z0]) := by
 intro w0 S0 fp0 hI hS
 have H : Cx w0 fp0 S0 w0 [Es (List (List Int)) s__3 s__3h, Es (List (List Int)) s__4 s__4h, Es (List (List Int)) s__5 s__5h, Es (List (List Int)) s__6 s__6h] := Cx.start hI hS
 clear hI hS
 refine enterC (args := [_, _]) gok Tryd.func39 rfl _ rfl rfl rfl ?_
 refine box_ H ?_; clear H; intro b6 w5 hx H
 clear hx
 refine lit0 (α := List Int) gok rfl rfl H ?_; clear H; intro h9 w8 hx H
 clear hx
 refine fld gok rfl rfl rfl rfl ?_
 refine load1 (H.bx 1 rfl (j := 4) rfl) ?_
 obtain ⟨y0, e, f0⟩ := bindS hF; clear hF
 have ey11 := e; clear e
 refine callF (impl_clones_c s__4 s__4h y0 ey11) (Γi := []) H ⟨Vw.sh 3 rfl, trivial⟩ ?_; clear H ey11
 rintro _ _ w1 ⟨h0, rfl, rfl⟩ H
 refine sq ?_
 refine fld gok rfl rfl rfl rfl ?_
 refine load1 (H.bx 2 rfl (j := 0) rfl) ?_
 obtain ⟨a0, hn, f1⟩ := bindS f0; clear f0
 obtain ⟨r0, e, f2⟩ := bindS f1; clear f1
 refine loopS _ s__0.toNat (fun (k0 : Nat) (s0 : List (List Int) × List (List Int)) (g0 : Hd × Hd) => [(1, (.int .i64 p_)), (2, (.pointer (some ⟨b6, 0, none⟩))), (5, (g0.1).v), (6, (g0.2).v), (12, (.int .i64 s__0)), (13, (.int .i64 ((k0 : Nat) : Int)))]) (fun _ (s0 : List (List Int) × List (List Int)) (g0 : Hd × Hd) w' => Cx w0 fp0 S0 w' [Bx b6 [(.int .i64 s__0), (.int .i64 s__1), (.int .i64 s__2), (s__3h).v, (s__4h).v, (s__5h).v, (s__6h).v], Es (List (List Int)) s__3 s__3h, Es (List (List Int)) s__4 s__4h, Es (List (List Int)) s__5 s__5h, Es (List (List Int)) s__6 s__6h, E (List (List Int)) s0.1 g0.1, E (List (List Int)) s0.2 g0.2]) (([] : List (List Int)), y0) (h9, h0) e ⟨rfl, rfl, rfl, rfl, rfl, rfl, trivial⟩ (H.sel [2, 3, 4, 5, 6, 1, 0] rfl) ?_ ?_
 ·
  clear H e
  rintro T0 k0 ⟨s0_0, s0_1⟩ ⟨g0_0, g0_1⟩ w2 o0 hk (H : Cx w0 fp0 S0 w2 [Bx b6 [(.int .i64 s__0), (.int .i64 s__1), (.int .i64 s__2), (s__3h).v, (s__4h).v, (s__5h).v, (s__6h).v], Es (List (List Int)) s__3 s__3h, Es (List (List Int)) s__4 s__4h, Es (List (List Int)) s__5 s__5h, Es (List (List Int)) s__6 s__6h, E (List (List Int)) s0_0 g0_0, E (List (List Int)) s0_1 g0_1]) f3
  refine boolE (z := true) (ltNat hk) ?_
  refine sq ?_
  refine sq ?_
  obtain ⟨a1, e, f4⟩ := bindS f3; clear f3
  replace H := H.sel [5, 6, 0, 1, 2, 3, 4] rfl
  refine appendV (α := List Int) gok rfl rfl rfl rfl H e ?_; clear e H; intro h1 w3 H
  refine fld gok rfl rfl rfl rfl ?_
  refine load1 (H.bx 1 rfl (j := 3) rfl) ?_
  refine fld gok rfl rfl rfl rfl ?_
  refine load1 (H.bx 1 rfl (j := 0) rfl) ?_
  obtain ⟨y1, e, f5⟩ := bindS f4; clear f4
  have ey61 := e; clear e
  refine callF (impl_product_c p_ s0_1 g0_1 s__3 s__3h s__0 y1 ey61) (Γi := []) H ⟨Vw.ev 0 rfl, Vw.sh 2 rfl, trivial⟩ ?_; clear H ey61
  rintro _ _ w4 ⟨h2, rfl, rfl⟩ H
  replace H := H.sel [1, 0, 2, 3, 4, 5, 6] rfl
  replace H := H.ofEV
  refine arK hk (maxI hn) ?_
  have hs := Option.some.inj f5; subst hs; clear f5
  exact ⟨(h1, h2), ⟨rfl, rfl, rfl, rfl, rfl, rfl, trivial⟩, H.sel [2, 3, 4, 5, 6, 0, 1] rfl⟩
 ·
  clear H e
  obtain ⟨s1_0, s1_1⟩ := r0
  rintro T1 ⟨g1_0, g1_1⟩ w6 (H : Cx w0 fp0 S0 w6 [Bx b6 [(.int .i64 s__0), (.int .i64 s__1), (.int .i64 s__2), (s__3h).v, (s__4h).v, (s__5h).v, (s__6h).v], Es (List (List Int)) s__3 s__3h, Es (List (List Int)) s__4 s__4h, Es (List (List Int)) s__5 s__5h, Es (List (List Int)) s__6 s__6h, E (List (List Int)) s1_0 g1_0, E (List (List Int)) s1_1 g1_1])
  refine boolE (z := false) geNat ?_
  refine sq ?_
  cases f2
  exact ⟨_, _, rfl, ⟨g1_0, rfl, rfl⟩, (H.sel [5] rfl).close ⟨cloE, trivial⟩⟩

theorem impl_SimilarityOf_c (p_ : Int) (a__0 : Int) (a__1 : Int) (a__2 : Int) (a__3 : List (List Int)) (a__3h : Hd) (a__4 : List (List Int)) (a__4h : Hd) (a__5 : List (List Int)) (a__5h : Hd) (a__6 : List (List Int)) (a__6h : Hd) (b__0 : Int) (b__1 : Int) (b__2 : Int) (b__3 : List (List Int)) (b__3h : Hd) (b__4 : List (List Int)) (b__4h : Hd) (b__5 : List (List Int)) (b__5h : Hd) (b__6 : List (List Int)) (b__6h : Hd) (y0_0 : Int) (y0_1 : List (List Int)) (y1 : Bool) (hF : F_impl_SimilarityOf p_ (a__0, a__1, a__2, a__3, a__4, a__5, a__6) (b__0, b__1, b__2, b__3, b__4, b__5, b__6) = some ((y0_0, y0_1), y1)) :
  ConF Tryd.prog 9 #[(.int .i64 p_), (.agg #[(.int .i64 a__0), (.int .i64 a__1), (.int .i64 a__2), (a__3h).v, (a__4h).v, (a__5h).v, (a__6h).v]), (.agg #[(.int .i64 b__0), (.int .i64 b__1), (.int .i64 b__2), (b__3h).v, (b__4h).v, (b__5h).v, (b__6h).v])] [Es (List (List Int)) a__3 a__3h, Es (List (List Int)) a__4 a__4h, Es (List (List Int)) a__5 a__5h, Es (List (List Int)) a__6 a__6h, Es (List (List Int)) b__3 b__3h, Es (List (List Int)) b__4 b__4h, Es (List (List Int)) b__5 b__5h, Es (List (List Int)) b__6 b__6h, Gl 0 [.int .i64 2, .int .i64 3, .int .i64 5, .int .i64 7]] [] (fun v Γ' => ∃ z0 : Hd, v = (.tuple #[(.agg #[(.int .i64 y0_0), (z0).v]), (.bool y1)]) ∧ Γ' = [E (List (List Int)) y0_1 z0]) := by
 intro w0 S0 fp0 hI hS
 have H : Cx w0 fp0 S0 w0 [Es (List (List Int)) a__3 a__3h, Es (List (List Int)) a__4 a__4h, Es (List (List Int)) a__5 a__5h, Es (List (List Int)) a__6 a__6h, Es (List (List Int)) b__3 b__3h, Es (List (List Int)) b__4 b__4h, Es (List (List Int)) b__5 b__5h, Es (List (List Int)) b__6 b__6h, Gl 0 [.int .i64 2, .int .i64 3, .int .i64 5, .int .i64 7]] := Cx.start hI hS
 clear hI hS
 refine enterC (args := [_, _, _]) gok Tryd.func9 rfl _ rfl rfl rfl ?_
 refine box_ H ?_; clear H; intro b0 w1 hx H
 clear hx
 refine box_ H ?_; clear H; intro b1 w2 hx H
 clear hx
 refine alloc_ gok rfl H ?_; clear H; intro b2 w3 hx H
 clear hx
 refine sq ?_
 obtain ⟨r0, f0, f1⟩ := bindS hF; clear hF
 refine cut (fun (q0 : Bool) => [(0, (.int .i64 p_)), (4, (.pointer (some ⟨b0, 0, none⟩))), (5, (.pointer (some ⟨b1, 0, none⟩))), (6, (.pointer (some ⟨b2, 0, none⟩))), (33, (.bool q0))]) (fun (q0 : Bool) w' => q0 = r0 ∧ Cx w0 fp0 S0 w' [Bx b0 [(.int .i64 a__0), (.int .i64 a__1), (.int .i64 a__2), (a__3h).v, (a__4h).v, (a__5h).v, (a__6h).v], Es (List (List Int)) a__3 a__3h, Es (List (List Int)) a__4 a__4h, Es (List (List Int)) a__5 a__5h, Es (List (List Int)) a__6 a__6h, Bx b1 [(.int .i64 b__0), (.int .i64 b__1), (.int .i64 b__2), (b__3h).v, (b__4h).v, (b__5h).v, (b__6h).v], Es (List (List Int)) b__3 b__3h, Es (List (List Int)) b__4 b__4h, Es (List (List Int)) b__5 b__5h, Es (List (List Int)) b__6 b__6h, Bx b2 [(.int .i64 0), (.slice none 0 0)], Gl 0 [.int .i64 2, .int .i64 3, .int .i64 5, .int .i64 7]]) ?_ ?_
 ·
  refine loadN [(.int .i64 a__0), (.int .i64 a__1), (.int .i64 a__2), (a__3h).v, (a__4h).v, (a__5h).v, (a__6h).v] rfl (fun j u hj => H.bx 2 rfl hj) ?_
  refine loadN [(.int .i64 b__0), (.int .i64 b__1), (.int .i64 b__2), (b__3h).v, (b__4h).v, (b__5h).v, (b__6h).v] rfl (fun j u hj => H.bx 1 rfl hj) ?_
  obtain ⟨y0, e, f2⟩ := bindS f0; clear f0
  have ey51 := e; clear e
  refine callF (impl_twoStateSpaces_c p_ a__0 a__1 a__2 a__3 a__3h a__4 a__4h a__5 a__5h a__6 a__6h b__0 b__1 b__2 b__3 b__3h b__4 b__4h b__5 b__5h b__6 b__6h y0 ey51) (Γi := []) H ⟨Vw.sh 3 rfl, Vw.sh 4 rfl, Vw.sh 5 rfl, Vw.sh 6 rfl, Vw.sh 7 rfl, Vw.sh 8 rfl, Vw.sh 9 rfl, Vw.sh 10 rfl, Vw.gl 11 rfl, trivial⟩ ?_; clear H ey51
  rintro _ _ w4 ⟨rfl, rfl⟩ H
  obtain ⟨a0, e, f3⟩ := bindS f2; clear f2
  refine boolO e ?_; clear e
  cases a0
  ·
   have f4 := condF f3; clear f3
   refine loadN [(.int .i64 a__0), (.int .i64 a__1), (.int .i64 a__2), (a__3h).v, (a__4h).v, (a__5h).v, (a__6h).v] rfl (fun j u hj => H.bx 2 rfl hj) ?_
   obtain ⟨y2, e, f5⟩ := bindS f4; clear f4
   have ey57 := e; clear e
   refine callF (impl_StateSpace_isMinimal_c a__0 a__1 a__2 a__3 a__3h a__4 a__4h a__5 a__5h a__6 a__6h p_ y2 ey57) (Γi := []) H ⟨Vw.sh 3 rfl, Vw.sh 4 rfl, Vw.sh 5 rfl, Vw.sh 6 rfl, trivial⟩ ?_; clear H ey57
   rintro _ _ w5 ⟨rfl, rfl⟩ H
   obtain ⟨a1, e, f6⟩ := bindS f5; clear f5
   refine boolO e ?_; clear e
   cases a1
   ·
    have f7 := condF f6; clear f6
    refine loadN [(.int .i64 b__0), (.int .i64 b__1), (.int .i64 b__2), (b__3h).v, (b__4h).v, (b__5h).v, (b__6h).v] rfl (fun j u hj => H.bx 1 rfl hj) ?_
    obtain ⟨y3, e, f8⟩ := bindS f7; clear f7
    have ey63 := e; clear e
    refine callF (impl_StateSpace_isMinimal_c b__0 b__1 b__2 b__3 b__3h b__4 b__4h b__5 b__5h b__6 b__6h p_ y3 ey63) (Γi := []) H ⟨Vw.sh 7 rfl, Vw.sh 8 rfl, Vw.sh 9 rfl, Vw.sh 10 rfl, trivial⟩ ?_; clear H ey63
    rintro _ _ w6 ⟨rfl, rfl⟩ H
    obtain ⟨a2, e, f9⟩ := bindS f8; clear f8
    refine boolO e ?_; clear e
    cases a2
    ·
     have f10 := condF f9; clear f9
     refine loadN [(.int .i64 a__0), (.int .i64 a__1), (.int .i64 a__2), (a__3h).v, (a__4h).v, (a__5h).v, (a__6h).v] rfl (fun j u hj => H.bx 2 rfl hj) ?_
     refine loadN [(.int .i64 b__0), (.int .i64 b__1), (.int .i64 b__2), (b__3h).v, (b__4h).v, (b__5h).v, (b__6h).v] rfl (fun j u hj => H.bx 1 rfl hj) ?_
     obtain ⟨y4, e, f11⟩ := bindS f10; clear f10
     have ey69 := e; clear e
     refine callF (impl_sameOutputs_c p_ a__0 a__1 a__2 a__3 a__3h a__4 a__4h a__5 a__5h a__6 a__6h b__0 b__1 b__2 b__3 b__3h b__4 b__4h b__5 b__5h b__6 b__6h y4 ey69) (Γi := []) H ⟨Vw.sh 3 rfl, Vw.sh 4 rfl, Vw.sh 5 rfl, Vw.sh 6 rfl, Vw.sh 7 rfl, Vw.sh 8 rfl, Vw.sh 9 rfl, Vw.sh 10 rfl, trivial⟩ ?_; clear H ey69
     rintro _ _ w7 ⟨rfl, rfl⟩ H
     obtain ⟨a3, e, f12⟩ := bindS f11; clear f11
     refine boolO e ?_; clear e
     exact ⟨a3, ⟨rfl, rfl, rfl, rfl, rfl, trivial⟩, Option.some.inj f12, H.sel [2, 3, 4, 5, 6, 1, 7, 8, 9, 10, 0, 11] rfl⟩
    ·
     have f13 := condT f9; clear f9
     exact ⟨true, ⟨rfl, rfl, rfl, rfl, rfl, trivial⟩, Option.some.inj f13, H.sel [2, 3, 4, 5, 6, 1, 7, 8, 9, 10, 0, 11] rfl⟩
   ·
    have f14 := condT f6; clear f6
    exact ⟨true, ⟨rfl, rfl, rfl, rfl, rfl, trivial⟩, Option.some.inj f14, H.sel [2, 3, 4, 5, 6, 1, 7, 8, 9, 10, 0, 11] rfl⟩
  ·
   have f15 := condT f3; clear f3
   exact ⟨true, ⟨rfl, rfl, rfl, rfl, rfl, trivial⟩, Option.some.inj f15, H.sel [2, 3, 4, 5, 6, 1, 7, 8, 9, 10, 0, 11] rfl⟩
 ·
  clear f0 H
  rintro T0 s0 w8 ⟨hr, (H : Cx w0 fp0 S0 w8 [Bx b0 [(.int .i64 a__0), (.int .i64 a__1), (.int .i64 a__2), (a__3h).v, (a__4h).v, (a__5h).v, (a__6h).v], Es (List (List Int)) a__3 a__3h, Es (List (List Int)) a__4 a__4h, Es (List (List Int)) a__5 a__5h, Es (List (List Int)) a__6 a__6h, Bx b1 [(.int .i64 b__0), (.int .i64 b__1), (.int .i64 b__2), (b__3h).v, (b__4h).v, (b__5h).v, (b__6h).v], Es (List (List Int)) b__3 b__3h, Es (List (List Int)) b__4 b__4h, Es (List (List Int)) b__5 b__5h, Es (List (List Int)) b__6 b__6h, Bx b2 [(.int .i64 0), (.slice none 0 0)], Gl 0 [.int .i64 2, .int .i64 3, .int .i64 5, .int .i64 7]])⟩
  subst hr
  cases s0
  ·
   have f16 := condF f1; clear f1
   refine heldX H [] (.fst 1 (.fst 4 (.fst 0 (.fst 3 (.act 2 (.act 5 (.fst 6 (.fst 7 .done)))))))) mixed [] trivial (by kernel_rfl) ?_
   clear H; intro w9 H
   have hX : Ext w9 w9 := Upd.refl _ _
   have H0 := H
   refine loadNX [(.int .i64 b__0), (.int .i64 b__1), (.int .i64 b__2), (b__3h).v, (b__4h).v, (b__5h).v, (b__6h).v] rfl (fun j u hj => H.bx 5 rfl hj) ?_
   refine loadNX [(.int .i64 a__0), (.int .i64 a__1), (.int .i64 a__2), (a__3h).v, (a__4h).v, (a__5h).v, (a__6h).v] rfl (fun j u hj => H.bx 0 rfl hj) ?_
   obtain ⟨y5, e, f17⟩ := bindS f16; clear f16
   have ey81 := e; clear e
   refine callFx (impl_StateSpace_reachedRows_c b__0 b__1 b__2 b__3 b__3h b__4 b__4h b__5 b__5h b__6 b__6h p_ y5 ey81) H ⟨Vw.sh 6 rfl, Vw.sh 7 rfl, Vw.sh 8 rfl, Vw.sh 9 rfl, trivial⟩ ?_; clear H ey81
   rintro _ _ w11 ⟨h0, rfl, rfl⟩ hx H
   replace hX := hX.trans0 hx; clear hx
   refine hold hX ?_
   obtain ⟨y6, e, f18⟩ := bindS f17; clear f17
   have ey86 := e; clear e
   refine callFx (impl_StateSpace_reachedRows_c a__0 a__1 a__2 a__3 a__3h a__4 a__4h a__5 a__5h a__6 a__6h p_ y6 ey86) H ⟨Vw.sh 2 rfl, Vw.sh 3 rfl, Vw.sh 4 rfl, Vw.sh 5 rfl, trivial⟩ ?_; clear H ey86
   rintro _ _ w12 ⟨h1, rfl, rfl⟩ hx H
   replace hX := hX.trans0 hx; clear hx
   refine hold hX ?_
   refine fld gok rfl rfl rfl rfl ?_
   refine load1 (H.bx 7 rfl (j := 0) rfl) ?_
   obtain ⟨y7, e, f19⟩ := bindS f18; clear f18
   obtain ⟨y7_0, y7_1, y7_2⟩ := y7
   have ey91 := e; clear e
   replace H := H.sel [1, 0, 2, 3, 4, 5, 6, 7, 8, 9, 10, 11, 12, 13] rfl
   refine callF (impl_reduction_c p_ y5 h0 b__0 y6 h1 y7_0 y7_1 y7_2 ey91) (Γi := [E (List (List Int)) y5 h0, E (List (List Int)) y6 h1]) H trivial ?_; clear H ey91
   rintro _ _ w14 ⟨rfl, rfl⟩ H
   refine heldX H [7, 8] (.fst 0 (.fst 2 (.fst 3 (.fst 1 (.fst 4 (.fst 5 (.fst 6 (.act 7 (.act 8 .done))))))))) mixed [] trivial (by kernel_rfl) ?_
   clear H; intro w15 H
   have hX : Ext w15 w15 := Upd.refl _ _
   have H0 := H
   refine anyH (fun _ => fld gok rfl rfl rfl rfl ⟨rfl, rfl⟩) ?_
   refine anyH (fun _ => fld gok rfl rfl rfl rfl ⟨rfl, rfl⟩) ?_
   refine load1X (H.bx 2 rfl (j := 0) rfl) ?_
   refine load1X (H.bx 2 rfl (j := 0) rfl) ?_
   obtain ⟨a4, e, f20⟩ := bindS f19; clear f19
   replace H := H.sel [1, 0, 2, 3, 4, 5, 6, 7, 8, 9, 10, 11, 12, 13] rfl
   refine slOX (α := List Int) gok rfl rfl H e rfl rfl ?_; clear e; intro h2 HH; clear H; have H := HH; clear HH
   refine anyH (fun _ => build_ (cs := #[(.int .i64 a__0), (h2).v]) gok rfl rfl rfl ⟨rfl, rfl⟩) ?_
   replace H := H.sel [12, 0, 1, 2, 3, 4, 5, 6, 7, 8, 9, 10, 11, 13] rfl
   refine stA gok [(.int .i64 a__0), (h2).v] rfl H rfl rfl rfl ?_; clear H; intro w17 H
   refine hold trivial ?_
   refine hold trivial ?_
   refine loadN [(.int .i64 a__0), (h2).v] rfl (fun j u hj => H.bx 0 rfl hj) ?_
   cases f20
   exact ⟨_, _, rfl, ⟨h2, rfl, rfl⟩, (H.sel [1] rfl).close ⟨cloE, trivial⟩⟩
  ·
   have f21 := condT f1; clear f1
   refine build_ (cs := #[(.int .i64 0), (.slice none 0 0)]) gok rfl rfl rfl ?_
   replace H := H.sel [10, 0, 1, 2, 3, 4, 5, 6, 7, 8, 9, 11] rfl
   refine stA gok [(.int .i64 0), (.slice none 0 0)] rfl H rfl rfl rfl ?_; clear H; intro w18 H
   refine loadN [(.int .i64 0), (.slice none 0 0)] rfl (fun j u hj => H.bx 0 rfl hj) ?_
   replace H := H.nil (α := List Int)
   cases f21
   exact ⟨_, _, rfl, ⟨nilH, rfl, rfl⟩, (H.sel [0] rfl).close ⟨cloE, trivial⟩⟩

theorem laws_eqIntS_c (a_ : List Int) (a_h : Hd) (b_ : List Int) (b_h : Hd) (y : Bool) (hF : F_laws_eqIntS a_ b_ = some y) :
  ConF Tryd.prog 18 #[(a_h).v, (b_h).v] [Es (List Int) a_ a_h, Es (List Int) b_ b_h] [] (fun v Γ' => v = (.bool y) ∧ Γ' = []) := by
 intro w0 S0 fp0 hI hS
 have H : Cx w0 fp0 S0 w0 [Es (List Int) a_ a_h, Es (List Int) b_ b_h] := Cx.start hI hS
 clear hI hS
 refine enterC (args := [_, _]) gok Tryd.func18 rfl _ rfl rfl rfl ?_
 refine sq ?_
 refine lenE (H.rs (α := List Int) 0 rfl).len ?_
 refine lenE (H.rs (α := List Int) 1 rfl).len ?_
 obtain ⟨a3, e, hF4⟩ := bindS hF; clear hF
 refine boolO e ?_; clear e
 cases a3
 ·
  have hF5 := condF hF4; clear hF4
  obtain ⟨r0, f0, f1⟩ := bindS hF5; clear hF5
  refine cut (fun (q0 : Unit) => []) (fun (q0 : Unit) w' => .inl () = r0 ∧ Cx w0 fp0 S0 w' []) ?_ ?_
  ·
   refine loopW _ (fun (s0 : Int) (_ : Unit) => [(0, (a_h).v), (1, (b_h).v), (5, (.int .i64 s0))]) (fun (s0 : Int) (_ : Unit) w' => Cx w0 fp0 S0 w' [Es (List Int) a_ a_h, Es (List Int) b_ b_h]) 0 () f0 ⟨rfl, rfl, rfl, trivial⟩ (H.sel [0, 1] rfl) ?_
   ·
    clear H
    rintro T0 s0 _ w1 o0 (H : Cx w0 fp0 S0 w1 [Es (List Int) a_ a_h, Es (List Int) b_ b_h]) hrt f2
    refine sq ?_
    refine lenE (H.rs (α := List Int) 0 rfl).len ?_
    obtain ⟨a0, e, f3⟩ := bindS f2; clear f2
    refine boolO e ?_; clear e
    cases a0
    ·
     have f4 := condF f3; clear f3
     have hs := Option.some.inj f4; subst hs; clear f4
     have f5 : some _ = some _ := congrArg some (hrt _ rfl).symm
     exact ⟨(), trivial, Option.some.inj f5, H.sel [] rfl⟩
    ·
     have f6 := condT f3; clear f3
     refine sq ?_
     refine heldX H [] (.fst 0 (.fst 1 (.fst 2 (.fst 4 (.fst 5 (.fst 6 (.fst 3 (.fst 7 (.fst 8 .done))))))))) mixed [] trivial (by kernel_rfl) ?_
     clear H; intro w2 H
     have hX : Ext w2 w2 := Upd.refl _ _
     have H0 := H
     obtain ⟨a1, e, f7⟩ := bindS f6; clear f6
     obtain ⟨p0, m0, c0, c1, c2, c3⟩ := (H.rs (α := List Int) 0 rfl).at1 e; clear e
     refine idxE c0 c1 c2 ?_; clear c0 c1 c2
     obtain ⟨a2, e, f8⟩ := bindS f7; clear f7
     obtain ⟨p1, m1, c4, c5, c6, c7⟩ := (H.rs (α := List Int) 1 rfl).at1 e; clear e
     refine idxE c4 c5 c6 ?_; clear c4 c5 c6
     refine load1X c3 ?_; clear c3
     refine load1X c7 ?_; clear c7
     obtain ⟨a4, e, f9⟩ := bindS f8; clear f8
     refine boolO e ?_; clear e
     cases a4
     ·
      have f10 := condF f9; clear f9
      obtain ⟨a5, e, f11⟩ := bindS f10; clear f10
      refine arO e ?_; clear e
      have hs := Option.some.inj f11; subst hs; clear f11
      exact ⟨a5, (), rfl, ⟨rfl, rfl, rfl, trivial⟩, H.sel [0, 1] rfl⟩
     ·
      have f12 := condT f9; clear f9
      have hs := Option.some.inj f12; subst hs; clear f12
      have f13 : some _ = some _ := congrArg some (hrt _ rfl).symm
      have hs := Option.some.inj f13; subst hs; clear f13
      have f14 : some _ = some _ := f1; clear f1
      cases f14
      exact ⟨_, _, rfl, ⟨rfl, rfl⟩, (H.sel [] rfl).close trivial⟩
  ·
   clear f0 H
   rintro T1 _ w3 ⟨hr, (H : Cx w0 fp0 S0 w3 [])⟩
   subst hr
   cases f1
   exact ⟨_, _, rfl, ⟨rfl, rfl⟩, (H.sel [] rfl).close trivial⟩
 ·
  have f15 := condT hF4; clear hF4
  cases f15
  exact ⟨_, _, rfl, ⟨rfl, rfl⟩, (H.sel [] rfl).close trivial⟩

theorem laws_eqIntSS_c (a_ : List (List Int)) (a_h : Hd) (b_ : List (List Int)) (b_h : Hd) (y : Bool) (hF : F_laws_eqIntSS a_ b_ = some y) :
  ConF Tryd.prog 41 #[(a_h).v, (b_h).v] [Es (List (List Int)) a_ a_h, Es (List (List Int)) b_ b_h] [] (fun v Γ' => v = (.bool y) ∧ Γ' = []) := by
 intro w0 S0 fp0 hI hS
 have H : Cx w0 fp0 S0 w0 [Es (List (List Int)) a_ a_h, Es (List (List Int)) b_ b_h] := Cx.start hI hS
 clear hI hS
 refine enterC (args := [_, _]) gok Tryd.func41 rfl _ rfl rfl rfl ?_
 refine sq ?_
 refine lenE (H.rs (α := List (List Int)) 0 rfl).len ?_
 refine lenE (H.rs (α := List (List Int)) 1 rfl).len ?_
 obtain ⟨a3, e, hF4⟩ := bindS hF; clear hF
 refine boolO e ?_; clear e
 cases a3
 ·
  have hF5 := condF hF4; clear hF4
  obtain ⟨r0, f0, f1⟩ := bindS hF5; clear hF5
  refine cut (fun (q0 : Unit) => []) (fun (q0 : Unit) w' => .inl () = r0 ∧ Cx w0 fp0 S0 w' []) ?_ ?_
  ·
   refine loopW _ (fun (s0 : Int) (_ : Unit) => [(0, (a_h).v), (1, (b_h).v), (5, (.int .i64 s0))]) (fun (s0 : Int) (_ : Unit) w' => Cx w0 fp0 S0 w' [Es (List (List Int)) a_ a_h, Es (List (List Int)) b_ b_h]) 0 () f0 ⟨rfl, rfl, rfl, trivial⟩ (H.sel [0, 1] rfl) ?_
   ·
    clear H
    rintro T0 s0 _ w1 o0 (H : Cx w0 fp0 S0 w1 [Es (List (List Int)) a_ a_h, Es (List (List Int)) b_ b_h]) hrt f2
    refine sq ?_
    refine lenE (H.rs (α := List (List Int)) 0 rfl).len ?_
    obtain ⟨a0, e, f3⟩ := bindS f2; clear f2
    refine boolO e ?_; clear e
    cases a0
    ·
     have f4 := condF f3; clear f3
     have hs := Option.some.inj f4; subst hs; clear f4
     have f5 : some _ = some _ := congrArg some (hrt _ rfl).symm
     exact ⟨(), trivial, Option.some.inj f5, H.sel [] rfl⟩
    ·
     have f6 := condT f3; clear f3
     refine sq ?_
     refine heldX H [] (.fst 0 (.fst 1 (.fst 2 (.fst 4 (.fst 5 (.fst 6 (.fst 3 (.fst 7 (.act 8 (.fst 9 .done)))))))))) mixed [] trivial (by kernel_rfl) ?_
     clear H; intro w2 H
     have hX : Ext w2 w2 := Upd.refl _ _
     have H0 := H
     obtain ⟨a1, e, f7⟩ := bindS f6; clear f6
     have HH := H; clear H; obtain ⟨p0, m0, h0, c0, c1, c2, c3, H⟩ := HH.elL 0 rfl e; clear HH
     clear e
     refine idxE c0 c1 c2 ?_; clear c0 c1 c2
     obtain ⟨a2, e, f8⟩ := bindS f7; clear f7
     have HH := H; clear H; obtain ⟨p1, m1, h1, c4, c5, c6, c7, H⟩ := HH.elL 2 rfl e; clear HH
     clear e
     refine idxE c4 c5 c6 ?_; clear c4 c5 c6
     refine load1X c3 ?_; clear c3
     refine load1X c7 ?_; clear c7
     obtain ⟨y0, e, f9⟩ := bindS f8; clear f8
     have ey236 := e; clear e
     refine callFx (laws_eqIntS_c a1 h0 a2 h1 y0 ey236) H ⟨Vw.sh 1 rfl, Vw.sh 0 rfl, trivial⟩ ?_; clear H ey236
     rintro _ _ w3 ⟨rfl, rfl⟩ hx H
     replace hX := hX.trans0 hx; clear hx
     refine hold hX ?_
     obtain ⟨a4, e, f10⟩ := bindS f9; clear f9
     refine boolO e ?_; clear e
     cases a4
     ·
      have f11 := condF f10; clear f10
      obtain ⟨a5, e, f12⟩ := bindS f11; clear f11
      refine arO e ?_; clear e
      have hs := Option.some.inj f12; subst hs; clear f12
      exact ⟨a5, (), rfl, ⟨rfl, rfl, rfl, trivial⟩, H.sel [2, 3] rfl⟩
     ·
      have f13 := condT f10; clear f10
      have hs := Option.some.inj f13; subst hs; clear f13
      have f14 : some _ = some _ := congrArg some (hrt _ rfl).symm
      have hs := Option.some.inj f14; subst hs; clear f14
      have f15 : some _ = some _ := f1; clear f1
      cases f15
      exact ⟨_, _, rfl, ⟨rfl, rfl⟩, (H.sel [] rfl).close trivial⟩
  ·
   clear f0 H
   rintro T1 _ w4 ⟨hr, (H : Cx w0 fp0 S0 w4 [])⟩
   subst hr
   cases f1
   exact ⟨_, _, rfl, ⟨rfl, rfl⟩, (H.sel [] rfl).close trivial⟩
 ·
  have f16 := condT hF4; clear hF4
  cases f16
  exact ⟨_, _, rfl, ⟨rfl, rfl⟩, (H.sel [] rfl).close trivial⟩

theorem laws_eqMatrix_c (a__0 : Int) (a__1 : List (List Int)) (a__1h : Hd) (b__0 : Int) (b__1 : List (List Int)) (b__1h : Hd) (y : Bool) (hF : F_laws_eqMatrix (a__0, a__1) (b__0, b__1) = some y) :
  ConF Tryd.prog 10 #[(.agg #[(.int .i64 a__0), (a__1h).v]), (.agg #[(.int .i64 b__0), (b__1h).v])] [Es (List (List Int)) a__1 a__1h, Es (List (List Int)) b__1 b__1h] [] (fun v Γ' => v = (.bool y) ∧ Γ' = []) := by
 intro w0 S0 fp0 hI hS
 have H : Cx w0 fp0 S0 w0 [Es (List (List Int)) a__1 a__1h, Es (List (List Int)) b__1 b__1h] := Cx.start hI hS
 clear hI hS
 refine enterC (args := [_, _]) gok Tryd.func10 rfl _ rfl rfl rfl ?_
 refine box_ H ?_; clear H; intro b4 w3 hx H
 clear hx
 refine box_ H ?_; clear H; intro b7 w6 hx H
 clear hx
 refine sq ?_
 refine fld gok rfl rfl rfl rfl ?_
 refine load1 (H.bx 1 rfl (j := 0) rfl) ?_
 refine fld gok rfl rfl rfl rfl ?_
 refine load1 (H.bx 0 rfl (j := 0) rfl) ?_
 obtain ⟨a9, e, f0⟩ := bindS hF; clear hF
 refine boolO e ?_; clear e
 cases a9
 ·
  have f1 := condF f0; clear f0
  refine sq ?_
  refine fld gok rfl rfl rfl rfl ?_
  refine load1 (H.bx 1 rfl (j := 1) rfl) ?_
  refine fld gok rfl rfl rfl rfl ?_
  refine load1 (H.bx 0 rfl (j := 1) rfl) ?_
  obtain ⟨y0, e, f2⟩ := bindS f1; clear f1
  have ey12 := e; clear e
  refine callF (laws_eqIntSS_c a__1 a__1h b__1 b__1h y0 ey12) (Γi := []) H ⟨Vw.sh 2 rfl, Vw.sh 3 rfl, trivial⟩ ?_; clear H ey12
  rintro _ _ w1 ⟨rfl, rfl⟩ H
  obtain ⟨a0, e, f3⟩ := bindS f2; clear f2
  refine boolO e ?_; clear e
  cases a0
  ·
   have f4 := condF f3; clear f3
   cases f4
   exact ⟨_, _, rfl, ⟨rfl, rfl⟩, (H.sel [] rfl).close trivial⟩
  ·
   have f5 := condT f3; clear f3
   cases f5
   exact ⟨_, _, rfl, ⟨rfl, rfl⟩, (H.sel [] rfl).close trivial⟩
 ·
  have f6 := condT f0; clear f0
  cases f6
  exact ⟨_, _, rfl, ⟨rfl, rfl⟩, (H.sel [] rfl).close trivial⟩

theorem laws_eqStateSpace_c (a__0 : Int) (a__1 : Int) (a__2 : Int) (a__3 : List (List Int)) (a__3h : Hd) (a__4 : List (List Int)) (a__4h : Hd) (a__5 : List (List Int)) (a__5h : Hd) (a__6 : List (List Int)) (a__6h : Hd) (b__0 : Int) (b__1 : Int) (b__2 : Int) (b__3 : List (List Int)) (b__3h : Hd) (b__4 : List (List Int)) (b__4h : Hd) (b__5 : List (List Int)) (b__5h : Hd) (b__6 : List (List Int)) (b__6h : Hd) (y : Bool) (hF : F_laws_eqStateSpace (a__0, a__1, a__2, a__3, a__4, a__5, a__6) (b__0, b__1, b__2, b__3, b__4, b__5, b__6) = some y) :
  ConF Tryd.prog 11 #[(.agg #[(.int .i64 a__0), (.int .i64 a__1), (.int .i64 a__2), (a__3h).v, (a__4h).v, (a__5h).v, (a__6h).v]), (.agg #[(.int .i64 b__0), (.int .i64 b__1), (.int .i64 b__2), (b__3h).v, (b__4h).v, (b__5h).v, (b__6h).v])] [Es (List (List Int)) a__3 a__3h, Es (List (List Int)) a__4 a__4h, Es (List (List Int)) a__5 a__5h, Es (List (List Int)) a__6 a__6h, Es (List (List Int)) b__3 b__3h, Es (List (List Int)) b__4 b__4h, Es (List (List Int)) b__5 b__5h, Es (List (List Int)) b__6 b__6h] [] (fun v Γ' => v = (.bool y) ∧ Γ' = []) := by
 intro w0 S0 fp0 hI hS
 have H : Cx w0 fp0 S0 w0 [Es (List (List Int)) a__3 a__3h, Es (List (List Int)) a__4 a__4h, Es (List (List Int)) a__5 a__5h, Es (List (List Int)) a__6 a__6h, Es (List (List Int)) b__3 b__3h, Es (List (List Int)) b__4 b__4h, Es (List (List Int)) b__5 b__5h, Es (List (List Int)) b__6 b__6h] := Cx.start hI hS
 clear hI hS
 refine enterC (args := [_, _]) gok Tryd.func11 rfl _ rfl rfl rfl ?_
 refine box_ H ?_; clear H; intro b0 w9 hx H
 clear hx
 refine box_ H ?_; clear H; intro b1 w1 hx H
 clear hx
 refine sq ?_
 refine fld gok rfl rfl rfl rfl ?_
 refine load1 (H.bx 1 rfl (j := 0) rfl) ?_
 refine fld gok rfl rfl rfl rfl ?_
 refine load1 (H.bx 0 rfl (j := 0) rfl) ?_
 obtain ⟨a0, e, f0⟩ := bindS hF; clear hF
 refine boolO e ?_; clear e
 cases a0
 ·
  have f1 := condF f0; clear f0
  refine sq ?_
  refine fld gok rfl rfl rfl rfl ?_
  refine load1 (H.bx 1 rfl (j := 1) rfl) ?_
  refine fld gok rfl rfl rfl rfl ?_
  refine load1 (H.bx 0 rfl (j := 1) rfl) ?_
  obtain ⟨a1, e, f2⟩ := bindS f1; clear f1
  refine boolO e ?_; clear e
  cases a1
  ·
   have f3 := condF f2; clear f2
   refine sq ?_
   refine fld gok rfl rfl rfl rfl ?_
   refine load1 (H.bx 1 rfl (j := 2) rfl) ?_
   refine fld gok rfl rfl rfl rfl ?_
   refine load1 (H.bx 0 rfl (j := 2) rfl) ?_
   obtain ⟨a2, e, f4⟩ := bindS f3; clear f3
   refine boolO e ?_; clear e
   cases a2
   ·
    have f5 := condF f4; clear f4
    refine sq ?_
    refine fld gok rfl rfl rfl rfl ?_
    refine load1 (H.bx 1 rfl (j := 3) rfl) ?_
    refine fld gok rfl rfl rfl rfl ?_
    refine load1 (H.bx 0 rfl (j := 3) rfl) ?_
    obtain ⟨y0, e, f6⟩ := bindS f5; clear f5
    have ey24 := e; clear e
    refine callF (laws_eqIntSS_c a__3 a__3h b__3 b__3h y0 ey24) (Γi := []) H ⟨Vw.sh 2 rfl, Vw.sh 6 rfl, trivial⟩ ?_; clear H ey24
    rintro _ _ w2 ⟨rfl, rfl⟩ H
    obtain ⟨a3, e, f7⟩ := bindS f6; clear f6
    refine boolO e ?_; clear e
    cases a3
    ·
     have f8 := condF f7; clear f7
     refine sq ?_
     refine fld gok rfl rfl rfl rfl ?_
     refine load1 (H.bx 1 rfl (j := 4) rfl) ?_
     refine fld gok rfl rfl rfl rfl ?_
     refine load1 (H.bx 0 rfl (j := 4) rfl) ?_
     obtain ⟨y1, e, f9⟩ := bindS f8; clear f8
     have ey30 := e; clear e
     refine callF (laws_eqIntSS_c a__4 a__4h b__4 b__4h y1 ey30) (Γi := []) H ⟨Vw.sh 3 rfl, Vw.sh 7 rfl, trivial⟩ ?_; clear H ey30
     rintro _ _ w3 ⟨rfl, rfl⟩ H
     obtain ⟨a4, e, f10⟩ := bindS f9; clear f9
     refine boolO e ?_; clear e
     cases a4
     ·
      have f11 := condF f10; clear f10
      refine sq ?_
      refine fld gok rfl rfl rfl rfl ?_
      refine load1 (H.bx 1 rfl (j := 5) rfl) ?_
      refine fld gok rfl rfl rfl rfl ?_
      refine load1 (H.bx 0 rfl (j := 5) rfl) ?_
      obtain ⟨y2, e, f12⟩ := bindS f11; clear f11
      have ey36 := e; clear e
      refine callF (laws_eqIntSS_c a__5 a__5h b__5 b__5h y2 ey36) (Γi := []) H ⟨Vw.sh 4 rfl, Vw.sh 8 rfl, trivial⟩ ?_; clear H ey36
      rintro _ _ w4 ⟨rfl, rfl⟩ H
      obtain ⟨a5, e, f13⟩ := bindS f12; clear f12
      refine boolO e ?_; clear e
      cases a5
      ·
       have f14 := condF f13; clear f13
       refine sq ?_
       refine fld gok rfl rfl rfl rfl ?_
       refine load1 (H.bx 1 rfl (j := 6) rfl) ?_
       refine fld gok rfl rfl rfl rfl ?_
       refine load1 (H.bx 0 rfl (j := 6) rfl) ?_
       obtain ⟨y3, e, f15⟩ := bindS f14; clear f14
       have ey42 := e; clear e
       refine callF (laws_eqIntSS_c a__6 a__6h b__6 b__6h y3 ey42) (Γi := []) H ⟨Vw.sh 5 rfl, Vw.sh 9 rfl, trivial⟩ ?_; clear H ey42
       rintro _ _ w5 ⟨rfl, rfl⟩ H
       obtain ⟨a6, e, f16⟩ := bindS f15; clear f15
       refine boolO e ?_; clear e
       cases a6
       ·
        have f17 := condF f16; clear f16
        cases f17
        exact ⟨_, _, rfl, ⟨rfl, rfl⟩, (H.sel [] rfl).close trivial⟩
       ·
        have f18 := condT f16; clear f16
        cases f18
        exact ⟨_, _, rfl, ⟨rfl, rfl⟩, (H.sel [] rfl).close trivial⟩
      ·
       have f19 := condT f13; clear f13
       cases f19
       exact ⟨_, _, rfl, ⟨rfl, rfl⟩, (H.sel [] rfl).close trivial⟩
     ·
      have f20 := condT f10; clear f10
      cases f20
      exact ⟨_, _, rfl, ⟨rfl, rfl⟩, (H.sel [] rfl).close trivial⟩
    ·
     have f21 := condT f7; clear f7
     cases f21
     exact ⟨_, _, rfl, ⟨rfl, rfl⟩, (H.sel [] rfl).close trivial⟩
   ·
    have f22 := condT f4; clear f4
    cases f22
    exact ⟨_, _, rfl, ⟨rfl, rfl⟩, (H.sel [] rfl).close trivial⟩
  ·
   have f23 := condT f2; clear f2
   cases f23
   exact ⟨_, _, rfl, ⟨rfl, rfl⟩, (H.sel [] rfl).close trivial⟩
 ·
  have f24 := condT f0; clear f0
  cases f24
  exact ⟨_, _, rfl, ⟨rfl, rfl⟩, (H.sel [] rfl).close trivial⟩

theorem laws_markIntS_c (a_ : List Int) (a_h : Hd) (k_ : Int) (y0 : List Int) (y1 : Int) (hF : F_laws_markIntS a_ k_ = some (y0, y1)) :
  ConF Tryd.prog 19 #[(a_h).v, (.int .i64 k_)] [] [E (List Int) a_ a_h] (fun v Γ' => v = (.int .i64 y1) ∧ Γ' = [E (List Int) y0 a_h]) := by
 intro w0 S0 fp0 hI hS
 have H : Cx w0 fp0 S0 w0 [E (List Int) a_ a_h] := Cx.start hI hS
 clear hI hS
 refine enterC (args := [_, _]) gok Tryd.func19 rfl _ rfl rfl rfl ?_
 obtain ⟨r0, f0, f1⟩ := bindS hF; clear hF
 refine cut (fun (q0 : List Int × Int) => [(1, (.int .i64 q0.2))]) (fun (q0 : List Int × Int) w' => (q0.1, q0.2) = r0 ∧ Cx w0 fp0 S0 w' [E (List Int) q0.1 a_h]) ?_ ?_
 ·
  refine loopW _ (fun (s0 : List Int × Int × Int) (_ : Unit) => [(0, (a_h).v), (1, (.int .i64 s0.2.1)), (5, (.int .i64 s0.2.2))]) (fun (s0 : List Int × Int × Int) (_ : Unit) w' => Cx w0 fp0 S0 w' [E (List Int) s0.1 a_h]) (a_, k_, 0) () f0 ⟨rfl, rfl, rfl, trivial⟩ (H.sel [0] rfl) ?_
  ·
   clear H
   rintro T0 ⟨s0_0, s0_1, s0_2⟩ _ w1 o0 (H : Cx w0 fp0 S0 w1 [E (List Int) s0_0 a_h]) hrt f2
   refine sq ?_
   refine lenE (H.ro (α := List Int) 0 rfl).len ?_
   obtain ⟨a0, e, f3⟩ := bindS f2; clear f2
   refine boolO e ?_; clear e
   cases a0
   ·
    have f4 := condF f3; clear f3
    have hs := Option.some.inj f4; subst hs; clear f4
    have f5 : some _ = some _ := congrArg some (hrt _ rfl).symm
    exact ⟨(s0_0, s0_1), ⟨rfl, trivial⟩, Option.some.inj f5, H.sel [0] rfl⟩
   ·
    have f6 := condT f3; clear f3
    refine sq ?_
    obtain ⟨a1, e, f7⟩ := bindS f6; clear f6
    have ea131 := e; clear e
    obtain ⟨p0, m0, c0, c1, c2⟩ := (H.ro (α := List Int) 0 rfl).setp ea131
    refine idxE c0 c1 c2 ?_
    refine setS (α := Int) H c0 c1 ea131 ?_; clear H c0 c1 c2 ea131; intro w2 H
    obtain ⟨a2, e, f8⟩ := bindS f7; clear f7
    refine arO e ?_; clear e
    obtain ⟨a3, e, f9⟩ := bindS f8; clear f8
    refine arO e ?_; clear e
    have hs := Option.some.inj f9; subst hs; clear f9
    exact ⟨(a1, a2, a3), (), rfl, ⟨rfl, rfl, rfl, trivial⟩, H.sel [0] rfl⟩
 ·
  clear f0 H
  rintro T1 ⟨s1_0, s1_1⟩ w3 ⟨hr, (H : Cx w0 fp0 S0 w3 [E (List Int) s1_0 a_h])⟩
  subst hr
  cases f1
  exact ⟨_, _, rfl, ⟨rfl, rfl⟩, (H.sel [0] rfl).close ⟨cloE, trivial⟩⟩

theorem laws_markIntSS_c (a_ : List (List Int)) (a_h : Hd) (k_ : Int) (y0 : List (List Int)) (y1 : Int) (hF : F_laws_markIntSS a_ k_ = some (y0, y1)) :
  ConF Tryd.prog 42 #[(a_h).v, (.int .i64 k_)] [] [E (List (List Int)) a_ a_h] (fun v Γ' => v = (.int .i64 y1) ∧ Γ' = [E (List (List Int)) y0 a_h]) := by
 intro w0 S0 fp0 hI hS
 have H : Cx w0 fp0 S0 w0 [E (List (List Int)) a_ a_h] := Cx.start hI hS
 clear hI hS
 refine enterC (args := [_, _]) gok Tryd.func42 rfl _ rfl rfl rfl ?_
 obtain ⟨r0, f0, f1⟩ := bindS hF; clear hF
 refine cut (fun (q0 : List (List Int) × Int) => [(1, (.int .i64 q0.2))]) (fun (q0 : List (List Int) × Int) w' => (q0.1, q0.2) = r0 ∧ Cx w0 fp0 S0 w' [E (List (List Int)) q0.1 a_h]) ?_ ?_
 ·
  refine loopW _ (fun (s0 : List (List Int) × Int × Int) (_ : Unit) => [(0, (a_h).v), (1, (.int .i64 s0.2.1)), (5, (.int .i64 s0.2.2))]) (fun (s0 : List (List Int) × Int × Int) (_ : Unit) w' => Cx w0 fp0 S0 w' [E (List (List Int)) s0.1 a_h]) (a_, k_, 0) () f0 ⟨rfl, rfl, rfl, trivial⟩ (H.sel [0] rfl) ?_
  ·
   clear H
   rintro T0 ⟨s0_0, s0_1, s0_2⟩ _ w1 o0 (H : Cx w0 fp0 S0 w1 [E (List (List Int)) s0_0 a_h]) hrt f2
   refine sq ?_
   refine lenE (H.ro (α := List (List Int)) 0 rfl).len ?_
   obtain ⟨a0, e, f3⟩ := bindS f2; clear f2
   refine boolO e ?_; clear e
   cases a0
   ·
    have f4 := condF f3; clear f3
    have hs := Option.some.inj f4; subst hs; clear f4
    have f5 : some _ = some _ := congrArg some (hrt _ rfl).symm
    exact ⟨(s0_0, s0_1), ⟨rfl, trivial⟩, Option.some.inj f5, H.sel [0] rfl⟩
   ·
    have f6 := condT f3; clear f3
    refine sq ?_
    obtain ⟨a1, e, f7⟩ := bindS f6; clear f6
    replace H := H.toEH (α := List Int)
    have HH := H; clear H; obtain ⟨p0, m0, h0, c0, c1, c2, c3, H⟩ := HH.peekL e; clear HH
    clear e
    refine idxE c0 c1 c2 ?_
    refine load1 c3 ?_; clear c3
    obtain ⟨y2, e, f8⟩ := bindS f7; clear f7
    obtain ⟨y2_0, y2_1⟩ := y2
    have ey154 := e; clear e
    replace H := H.takeK 0 rfl
    refine callF (laws_markIntS_c a1 h0 s0_1 y2_0 y2_1 ey154) (Γi := [E (List Int) a1 h0]) H trivial ?_; clear H ey154
    rintro _ _ w2 ⟨rfl, rfl⟩ H
    obtain ⟨a2, e, f9⟩ := bindS f8; clear f8
    replace H := H.put c1 e; clear e
    obtain ⟨a3, e, f10⟩ := bindS f9; clear f9
    refine arO e ?_; clear e
    have hs := Option.some.inj f10; subst hs; clear f10
    exact ⟨(a2, y2_1, a3), (), rfl, ⟨rfl, rfl, rfl, trivial⟩, H.sel [0] rfl⟩
 ·
  clear f0 H
  rintro T1 ⟨s1_0, s1_1⟩ w3 ⟨hr, (H : Cx w0 fp0 S0 w3 [E (List (List Int)) s1_0 a_h])⟩
  subst hr
  cases f1
  exact ⟨_, _, rfl, ⟨rfl, rfl⟩, (H.sel [0] rfl).close ⟨cloE, trivial⟩⟩

theorem laws_markStateSpace_c (a__0 : Int) (a__1 : Int) (a__2 : Int) (a__3 : List (List Int)) (a__3h : Hd) (a__4 : List (List Int)) (a__4h : Hd) (a__5 : List (List Int)) (a__5h : Hd) (a__6 : List (List Int)) (a__6h : Hd) (k_ : Int) (y0_0 : Int) (y0_1 : Int) (y0_2 : Int) (y0_3 : List (List Int)) (y0_4 : List (List Int)) (y0_5 : List (List Int)) (y0_6 : List (List Int)) (y1 : Int) (hF : F_laws_markStateSpace (a__0, a__1, a__2, a__3, a__4, a__5, a__6) k_ = some ((y0_0, y0_1, y0_2, y0_3, y0_4, y0_5, y0_6), y1)) :
  ConF Tryd.prog 12 #[(.agg #[(.int .i64 a__0), (.int .i64 a__1), (.int .i64 a__2), (a__3h).v, (a__4h).v, (a__5h).v, (a__6h).v]), (.int .i64 k_)] [] [E (List (List Int)) a__3 a__3h, E (List (List Int)) a__4 a__4h, E (List (List Int)) a__5 a__5h, E (List (List Int)) a__6 a__6h] (fun v Γ' => v = (.int .i64 y1) ∧ Γ' = [E (List (List Int)) y0_3 a__3h, E (List (List Int)) y0_4 a__4h, E (List (List Int)) y0_5 a__5h, E (List (List Int)) y0_6 a__6h]) := by
 intro w0 S0 fp0 hI hS
 have H : Cx w0 fp0 S0 w0 [E (List (List Int)) a__3 a__3h, E (List (List Int)) a__4 a__4h, E (List (List Int)) a__5 a__5h, E (List (List Int)) a__6 a__6h] := Cx.start hI hS
 clear hI hS
 refine enterC (args := [_, _]) gok Tryd.func12 rfl _ rfl rfl rfl ?_
 refine box_ H ?_; clear H; intro b6 w5 hx H
 clear hx
 refine fld gok rfl rfl rfl rfl ?_
 refine load1 (H.bx 0 rfl (j := 3) rfl) ?_
 obtain ⟨y8, e, hF9⟩ := bindS hF; clear hF
 obtain ⟨y8_0, y8_1⟩ := y8
 have ey8 := e; clear e
 replace H := H.sel [1, 0, 2, 3, 4] rfl
 refine callF (laws_markIntSS_c a__3 a__3h k_ y8_0 y8_1 ey8) (Γi := [E (List (List Int)) a__3 a__3h]) H trivial ?_; clear H ey8
 rintro _ _ w1 ⟨rfl, rfl⟩ H
 refine fld gok rfl rfl rfl rfl ?_
 refine load1 (H.bx 1 rfl (j := 4) rfl) ?_
 obtain ⟨y0, e, f0⟩ := bindS hF9; clear hF9
 obtain ⟨y0_0, y0_1⟩ := y0
 have ey11 := e; clear e
 replace H := H.sel [2, 0, 1, 3, 4] rfl
 refine callF (laws_markIntSS_c a__4 a__4h y8_1 y0_0 y0_1 ey11) (Γi := [E (List (List Int)) a__4 a__4h]) H trivial ?_; clear H ey11
 rintro _ _ w2 ⟨rfl, rfl⟩ H
 refine fld gok rfl rfl rfl rfl ?_
 refine load1 (H.bx 2 rfl (j := 5) rfl) ?_
 obtain ⟨y2, e, f1⟩ := bindS f0; clear f0
 obtain ⟨y2_0, y2_1⟩ := y2
 have ey14 := e; clear e
 replace H := H.sel [3, 0, 1, 2, 4] rfl
 refine callF (laws_markIntSS_c a__5 a__5h y0_1 y2_0 y2_1 ey14) (Γi := [E (List (List Int)) a__5 a__5h]) H trivial ?_; clear H ey14
 rintro _ _ w3 ⟨rfl, rfl⟩ H
 refine fld gok rfl rfl rfl rfl ?_
 refine load1 (H.bx 3 rfl (j := 6) rfl) ?_
 obtain ⟨y3, e, f2⟩ := bindS f1; clear f1
 obtain ⟨y3_0, y3_1⟩ := y3
 have ey17 := e; clear e
 replace H := H.sel [4, 0, 1, 2, 3] rfl
 refine callF (laws_markIntSS_c a__6 a__6h y2_1 y3_0 y3_1 ey17) (Γi := [E (List (List Int)) a__6 a__6h]) H trivial ?_; clear H ey17
 rintro _ _ w4 ⟨rfl, rfl⟩ H
 cases f2
 exact ⟨_, _, rfl, ⟨rfl, rfl⟩, (H.sel [3, 2, 1, 0] rfl).close ⟨cloE, cloE, cloE, cloE, trivial⟩⟩

theorem laws_markMatrix_c (a__0 : Int) (a__1 : List (List Int)) (a__1h : Hd) (k_ : Int) (y0_0 : Int) (y0_1 : List (List Int)) (y1 : Int) (hF : F_laws_markMatrix (a__0, a__1) k_ = some ((y0_0, y0_1), y1)) :
  ConF Tryd.prog 13 #[(.agg #[(.int .i64 a__0), (a__1h).v]), (.int .i64 k_)] [] [E (List (List Int)) a__1 a__1h] (fun v Γ' => v = (.int .i64 y1) ∧ Γ' = [E (List (List Int)) y0_1 a__1h]) := by
 intro w0 S0 fp0 hI hS
 have H : Cx w0 fp0 S0 w0 [E (List (List Int)) a__1 a__1h] := Cx.start hI hS
 clear hI hS
 refine enterC (args := [_, _]) gok Tryd.func13 rfl _ rfl rfl rfl ?_
 refine box_ H ?_; clear H; intro b3 w2 hx H
 clear hx
 refine fld gok rfl rfl rfl rfl ?_
 refine load1 (H.bx 0 rfl (j := 1) rfl) ?_
 obtain ⟨y5, e, hF6⟩ := bindS hF; clear hF
 obtain ⟨y5_0, y5_1⟩ := y5
 have ey5 := e; clear e
 replace H := H.sel [1, 0] rfl
 refine callF (laws_markIntSS_c a__1 a__1h k_ y5_0 y5_1 ey5) (Γi := [E (List (List Int)) a__1 a__1h]) H trivial ?_; clear H ey5
 rintro _ _ w7 ⟨rfl, rfl⟩ H
 cases hF6
 exact ⟨_, _, rfl, ⟨rfl, rfl⟩, (H.sel [0] rfl).close ⟨cloE, trivial⟩⟩

theorem laws_heldIntS_c (a_ : List Int) (a_h : Hd) (k_ : Int) (y : Int) (hF : F_laws_heldIntS a_ k_ = some y) :
  ConF Tryd.prog 75 #[(a_h).v, (.int .i64 k_)] [Es (List Int) a_ a_h] [] (fun v Γ' => v = (.int .i64 y) ∧ Γ' = []) := by
 intro w0 S0 fp0 hI hS
 have H : Cx w0 fp0 S0 w0 [Es (List Int) a_ a_h] := Cx.start hI hS
 clear hI hS
 refine enterC (args := [_, _]) gok Tryd.func75 rfl _ rfl rfl rfl ?_
 obtain ⟨r0, f0, f1⟩ := bindS hF; clear hF
 refine cut (fun (q0 : Int) => [(1, (.int .i64 q0))]) (fun (q0 : Int) w' => .inl q0 = r0 ∧ Cx w0 fp0 S0 w' []) ?_ ?_
 ·
  refine loopW _ (fun (s0 : Int × Int) (_ : Unit) => [(0, (a_h).v), (1, (.int .i64 s0.1)), (5, (.int .i64 s0.2))]) (fun (s0 : Int × Int) (_ : Unit) w' => Cx w0 fp0 S0 w' [Es (List Int) a_ a_h]) (k_, 0) () f0 ⟨rfl, rfl, rfl, trivial⟩ (H.sel [0] rfl) ?_
  ·
   clear H
   rintro T0 ⟨s0_0, s0_1⟩ _ w1 o0 (H : Cx w0 fp0 S0 w1 [Es (List Int) a_ a_h]) hrt f2
   refine sq ?_
   refine lenE (H.rs (α := List Int) 0 rfl).len ?_
   obtain ⟨a0, e, f3⟩ := bindS f2; clear f2
   refine boolO e ?_; clear e
   cases a0
   ·
    have f4 := condF f3; clear f3
    have hs := Option.some.inj f4; subst hs; clear f4
    have f5 : some _ = some _ := congrArg some (hrt _ rfl).symm
    exact ⟨s0_0, ⟨rfl, trivial⟩, Option.some.inj f5, H.sel [] rfl⟩
   ·
    have f6 := condT f3; clear f3
    refine sq ?_
    refine sq ?_
    obtain ⟨a1, e, f7⟩ := bindS f6; clear f6
    obtain ⟨p0, m0, c0, c1, c2, c3⟩ := (H.rs (α := List Int) 0 rfl).at1 e; clear e
    refine idxE c0 c1 c2 ?_; clear c0 c1 c2
    refine load1 c3 ?_; clear c3
    obtain ⟨a2, e, f8⟩ := bindS f7; clear f7
    refine boolO e ?_; clear e
    cases a2
    ·
     have f9 := condF f8; clear f8
     obtain ⟨a3, e, f10⟩ := bindS f9; clear f9
     refine arO e ?_; clear e
     obtain ⟨a4, e, f11⟩ := bindS f10; clear f10
     refine arO e ?_; clear e
     have hs := Option.some.inj f11; subst hs; clear f11
     exact ⟨(a3, a4), (), rfl, ⟨rfl, rfl, rfl, trivial⟩, H.sel [0] rfl⟩
    ·
     have f12 := condT f8; clear f8
     have hs := Option.some.inj f12; subst hs; clear f12
     have f13 : some _ = some _ := congrArg some (hrt _ rfl).symm
     have hs := Option.some.inj f13; subst hs; clear f13
     have f14 : some _ = some _ := f1; clear f1
     cases f14
     exact ⟨_, _, rfl, ⟨rfl, rfl⟩, (H.sel [] rfl).close trivial⟩
 ·
  clear f0 H
  rintro T1 s1 w2 ⟨hr, (H : Cx w0 fp0 S0 w2 [])⟩
  subst hr
  cases f1
  exact ⟨_, _, rfl, ⟨rfl, rfl⟩, (H.sel [] rfl).close trivial⟩

theorem laws_heldIntSS_c (a_ : List (List Int)) (a_h : Hd) (k_ : Int) (y : Int) (hF : F_laws_heldIntSS a_ k_ = some y) :
  ConF Tryd.prog 43 #[(a_h).v, (.int .i64 k_)] [Es (List (List Int)) a_ a_h] [] (fun v Γ' => v = (.int .i64 y) ∧ Γ' = []) := by
 intro w0 S0 fp0 hI hS
 have H : Cx w0 fp0 S0 w0 [Es (List (List Int)) a_ a_h] := Cx.start hI hS
 clear hI hS
 refine enterC (args := [_, _]) gok Tryd.func43 rfl _ rfl rfl rfl ?_
 obtain ⟨r0, f0, f1⟩ := bindS hF; clear hF
 refine cut (fun (q0 : Int) => [(1, (.int .i64 q0))]) (fun (q0 : Int) w' => .inl q0 = r0 ∧ Cx w0 fp0 S0 w' []) ?_ ?_
 ·
  refine loopW _ (fun (s0 : Int × Int) (_ : Unit) => [(0, (a_h).v), (1, (.int .i64 s0.1)), (5, (.int .i64 s0.2))]) (fun (s0 : Int × Int) (_ : Unit) w' => Cx w0 fp0 S0 w' [Es (List (List Int)) a_ a_h]) (k_, 0) () f0 ⟨rfl, rfl, rfl, trivial⟩ (H.sel [0] rfl) ?_
  ·
   clear H
   rintro T0 ⟨s0_0, s0_1⟩ _ w1 o0 (H : Cx w0 fp0 S0 w1 [Es (List (List Int)) a_ a_h]) hrt f2
   refine sq ?_
   refine lenE (H.rs (α := List (List Int)) 0 rfl).len ?_
   obtain ⟨a0, e, f3⟩ := bindS f2; clear f2
   refine boolO e ?_; clear e
   cases a0
   ·
    have f4 := condF f3; clear f3
    have hs := Option.some.inj f4; subst hs; clear f4
    have f5 : some _ = some _ := congrArg some (hrt _ rfl).symm
    exact ⟨s0_0, ⟨rfl, trivial⟩, Option.some.inj f5, H.sel [] rfl⟩
   ·
    have f6 := condT f3; clear f3
    refine sq ?_
    obtain ⟨a1, e, f7⟩ := bindS f6; clear f6
    have HH := H; clear H; obtain ⟨p0, m0, h0, c0, c1, c2, c3, H⟩ := HH.elL 0 rfl e; clear HH
    clear e
    refine idxE c0 c1 c2 ?_; clear c0 c1 c2
    refine load1 c3 ?_; clear c3
    obtain ⟨y0, e, f8⟩ := bindS f7; clear f7
    have ey166 := e; clear e
    refine callF (laws_heldIntS_c a1 h0 s0_0 y0 ey166) (Γi := []) H ⟨Vw.sh 0 rfl, trivial⟩ ?_; clear H ey166
    rintro _ _ w2 ⟨rfl, rfl⟩ H
    obtain ⟨a2, e, f9⟩ := bindS f8; clear f8
    refine boolO e ?_; clear e
    cases a2
    ·
     have f10 := condF f9; clear f9
     obtain ⟨a3, e, f11⟩ := bindS f10; clear f10
     refine arO e ?_; clear e
     have hs := Option.some.inj f11; subst hs; clear f11
     exact ⟨(y0, a3), (), rfl, ⟨rfl, rfl, rfl, trivial⟩, H.sel [1] rfl⟩
    ·
     have f12 := condT f9; clear f9
     have hs := Option.some.inj f12; subst hs; clear f12
     have f13 : some _ = some _ := congrArg some (hrt _ rfl).symm
     have hs := Option.some.inj f13; subst hs; clear f13
     have f14 : some _ = some _ := f1; clear f1
     cases f14
     exact ⟨_, _, rfl, ⟨rfl, rfl⟩, (H.sel [] rfl).close trivial⟩
 ·
  clear f0 H
  rintro T1 s1 w3 ⟨hr, (H : Cx w0 fp0 S0 w3 [])⟩
  subst hr
  cases f1
  exact ⟨_, _, rfl, ⟨rfl, rfl⟩, (H.sel [] rfl).close trivial⟩

theorem laws_heldMatrix_c (a__0 : Int) (a__1 : List (List Int)) (a__1h : Hd) (k_ : Int) (y : Int) (hF : F_laws_heldMatrix (a__0, a__1) k_ = some y) :
  ConF Tryd.prog 14 #[(.agg #[(.int .i64 a__0), (a__1h).v]), (.int .i64 k_)] [Es (List (List Int)) a__1 a__1h] [] (fun v Γ' => v = (.int .i64 y) ∧ Γ' = []) := by
 intro w0 S0 fp0 hI hS
 have H : Cx w0 fp0 S0 w0 [Es (List (List Int)) a__1 a__1h] := Cx.start hI hS
 clear hI hS
 refine enterC (args := [_, _]) gok Tryd.func14 rfl _ rfl rfl rfl ?_
 refine box_ H ?_; clear H; intro b3 w2 hx H
 clear hx
 refine fld gok rfl rfl rfl rfl ?_
 refine load1 (H.bx 0 rfl (j := 1) rfl) ?_
 obtain ⟨y5, e, hF6⟩ := bindS hF; clear hF
 have ey5 := e; clear e
 refine callF (laws_heldIntSS_c a__1 a__1h k_ y5 ey5) (Γi := []) H ⟨Vw.sh 1 rfl, trivial⟩ ?_; clear H ey5
 rintro _ _ w7 ⟨rfl, rfl⟩ H
 refine sq ?_
 obtain ⟨a8, e, hF9⟩ := bindS hF6; clear hF6
 refine boolO e ?_; clear e
 cases a8
 ·
  have f0 := condF hF9; clear hF9
  cases f0
  exact ⟨_, _, rfl, ⟨rfl, rfl⟩, (H.sel [] rfl).close trivial⟩
 ·
  have f1 := condT hF9; clear hF9
  cases f1
  exact ⟨_, _, rfl, ⟨rfl, rfl⟩, (H.sel [] rfl).close trivial⟩
end Go.Proofs.YtocpeclcoikdpaaDoor
