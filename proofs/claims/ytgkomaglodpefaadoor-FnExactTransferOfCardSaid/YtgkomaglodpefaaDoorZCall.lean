/-
 Contracts, printed by a program (wip/y/gen.py): each function of Go computes its partial function. Condition of each: its partial function yields a value.
-/
import Derived.Test.YtgkomaglodpefaaDoorZOps20
import Derived.Test.YtgkomaglodpefaaDoorZFn
namespace Go.Proofs.YtgkomaglodpefaaDoor
open Go Go.Proofs.YtgkomaglodpefaaDoor.RW
set_option maxRecDepth 100000
set_option maxHeartbeats 1000000
set_option linter.unusedVariables false

theorem laws_szIntS_c (a_ : List Int) (a_h : Hd) (left_ : Int) (y : Int) (hF : F_laws_szIntS a_ left_ = some y) :
  ConF Tryd.prog 25 #[(a_h).v, (.int .i64 left_)] [Es (List Int) a_ a_h] [] (fun v Γ' => v = (.int .i64 y) ∧ Γ' = []) := by
 intro w0 S0 fp0 hI hS
 have H : Cx w0 fp0 S0 w0 [Es (List Int) a_ a_h] := Cx.start hI hS
 clear hI hS
 refine enterC (args := [_, _]) gok Tryd.func25 rfl _ rfl rfl rfl ?_
 refine lenE (H.rs (α := List Int) 0 rfl).len ?_
 obtain ⟨a2, e, hF3⟩ := bindS hF; clear hF
 refine arO e ?_; clear e
 refine sq ?_
 obtain ⟨a4, e, hF5⟩ := bindS hF3; clear hF3
 refine boolO e ?_; clear e
 cases a4
 ·
  have hF6 := condF hF5; clear hF5
  cases hF6
  exact ⟨_, _, rfl, ⟨rfl, rfl⟩, (H.sel [] rfl).close trivial⟩
 ·
  have hF7 := condT hF5; clear hF5
  cases hF7
  exact ⟨_, _, rfl, ⟨rfl, rfl⟩, (H.sel [] rfl).close trivial⟩

theorem laws_szIntSS_c (a_ : List (List Int)) (a_h : Hd) (left_ : Int) (y : Int) (hF : F_laws_szIntSS a_ left_ = some y) :
  ConF Tryd.prog 13 #[(a_h).v, (.int .i64 left_)] [Es (List (List Int)) a_ a_h] [] (fun v Γ' => v = (.int .i64 y) ∧ Γ' = []) := by
 intro w0 S0 fp0 hI hS
 have H : Cx w0 fp0 S0 w0 [Es (List (List Int)) a_ a_h] := Cx.start hI hS
 clear hI hS
 refine enterC (args := [_, _]) gok Tryd.func13 rfl _ rfl rfl rfl ?_
 refine lenE (H.rs (α := List (List Int)) 0 rfl).len ?_
 obtain ⟨a2, e, hF3⟩ := bindS hF; clear hF
 refine arO e ?_; clear e
 refine sq ?_
 obtain ⟨a4, e, hF5⟩ := bindS hF3; clear hF3
 refine boolO e ?_; clear e
 cases a4
 ·
  have hF6 := condF hF5; clear hF5
  obtain ⟨r0, f0, f1⟩ := bindS hF6; clear hF6
  refine cut (fun (q0 : Int) => [(1, (.int .i64 q0))]) (fun (q0 : Int) w' => .inl q0 = r0 ∧ Cx w0 fp0 S0 w' []) ?_ ?_
  ·
   refine loopW _ (fun (s0 : Int × Int) (_ : Unit) => [(0, (a_h).v), (1, (.int .i64 s0.1)), (5, (.int .i64 s0.2))]) (fun (s0 : Int × Int) (_ : Unit) w' => Cx w0 fp0 S0 w' [Es (List (List Int)) a_ a_h]) (a2, 0) () f0 ⟨rfl, rfl, rfl, trivial⟩ (H.sel [0] rfl) ?_
   ·
    clear H
    rintro T0 ⟨s0_0, s0_1⟩ _ w1 o0 (H : Cx w0 fp0 S0 w1 [Es (List (List Int)) a_ a_h]) hrt f2
    refine sq ?_
    refine lenE (H.rs (α := List (List Int)) 0 rfl).len ?_
    obtain ⟨a0, e, f3⟩ := bindS f2; clear f2
    refine boolO e ?_; clear e
    cases a0
    ·
     have f4 := condF f3; clear f3
     have hs := Option.some.inj f4; subst hs; clear f4
     have f5 : some _ = some _ := congrArg some (hrt _ rfl).symm
     exact ⟨s0_0, ⟨rfl, trivial⟩, Option.some.inj f5, H.sel [] rfl⟩
    ·
     have f6 := condT f3; clear f3
     refine sq ?_
     obtain ⟨a1, e, f7⟩ := bindS f6; clear f6
     have HH := H; clear H; obtain ⟨p0, m0, h0, c0, c1, c2, c3, H⟩ := HH.elL 0 rfl e; clear HH
     clear e
     refine idxE c0 c1 c2 ?_; clear c0 c1 c2
     refine load1 c3 ?_; clear c3
     obtain ⟨y0, e, f8⟩ := bindS f7; clear f7
     have i0 := e; clear e
     refine callF (laws_szIntS_c a1 h0 s0_0 y0 i0) (Γi := []) H ⟨Vw.sh 0 rfl, trivial⟩ ?_; clear H i0
     rintro _ _ w2 ⟨rfl, rfl⟩ H
     obtain ⟨a3, e, f9⟩ := bindS f8; clear f8
     refine boolO e ?_; clear e
     cases a3
     ·
      have f10 := condF f9; clear f9
      obtain ⟨a5, e, f11⟩ := bindS f10; clear f10
      refine arO e ?_; clear e
      have hs := Option.some.inj f11; subst hs; clear f11
      exact ⟨(y0, a5), (), rfl, ⟨rfl, rfl, rfl, trivial⟩, H.sel [1] rfl⟩
     ·
      have f12 := condT f9; clear f9
      have hs := Option.some.inj f12; subst hs; clear f12
      have f13 : some _ = some _ := congrArg some (hrt _ rfl).symm
      have hs := Option.some.inj f13; subst hs; clear f13
      have f14 : some _ = some _ := f1; clear f1
      cases f14
      exact ⟨_, _, rfl, ⟨rfl, rfl⟩, (H.sel [] rfl).close trivial⟩
  ·
   clear f0 H
   rintro T1 s1 w3 ⟨hr, (H : Cx w0 fp0 S0 w3 [])⟩
   subst hr
   cases f1
   exact ⟨_, _, rfl, ⟨rfl, rfl⟩, (H.sel [] rfl).close trivial⟩
 ·
  have f15 := condT hF5; clear hF5
  cases f15
  exact ⟨_, _, rfl, ⟨rfl, rfl⟩, (H.sel [] rfl).close trivial⟩

theorem laws_szStateSpace_c (a__0 : Int) (a__1 : Int) (a__2 : Int) (a__3 : List (List Int)) (a__3h : Hd) (a__4 : List (List Int)) (a__4h : Hd) (a__5 : List (List Int)) (a__5h : Hd) (a__6 : List (List Int)) (a__6h : Hd) (left_ : Int) (y : Int) (hF : F_laws_szStateSpace (a__0, a__1, a__2, a__3, a__4, a__5, a__6) left_ = some y) :
  ConF Tryd.prog 4 #[(.agg #[(.int .i64 a__0), (.int .i64 a__1), (.int .i64 a__2), (a__3h).v, (a__4h).v, (a__5h).v, (a__6h).v]), (.int .i64 left_)] [Es (List (List Int)) a__3 a__3h, Es (List (List Int)) a__4 a__4h, Es (List (List Int)) a__5 a__5h, Es (List (List Int)) a__6 a__6h] [] (fun v Γ' => v = (.int .i64 y) ∧ Γ' = []) := by
 intro w0 S0 fp0 hI hS
 have H : Cx w0 fp0 S0 w0 [Es (List (List Int)) a__3 a__3h, Es (List (List Int)) a__4 a__4h, Es (List (List Int)) a__5 a__5h, Es (List (List Int)) a__6 a__6h] := Cx.start hI hS
 clear hI hS
 refine enterC (args := [_, _]) gok Tryd.func4 rfl _ rfl rfl rfl ?_
 refine box_ H ?_; clear H; intro b6 w5 hx H
 clear hx
 refine fld gok rfl rfl rfl rfl ?_
 refine load1 (H.bx 0 rfl (j := 3) rfl) ?_
 obtain ⟨y8, e, hF9⟩ := bindS hF; clear hF
 have ey8 := e; clear e
 refine callF (laws_szIntSS_c a__3 a__3h left_ y8 ey8) (Γi := []) H ⟨Vw.sh 1 rfl, trivial⟩ ?_; clear H ey8
 rintro _ _ w1 ⟨rfl, rfl⟩ H
 refine sq ?_
 obtain ⟨a0, e, f0⟩ := bindS hF9; clear hF9
 refine boolO e ?_; clear e
 cases a0
 ·
  have f1 := condF f0; clear f0
  refine fld gok rfl rfl rfl rfl ?_
  refine load1 (H.bx 0 rfl (j := 4) rfl) ?_
  obtain ⟨y0, e, f2⟩ := bindS f1; clear f1
  have i0 := e; clear e
  refine callF (laws_szIntSS_c a__4 a__4h y8 y0 i0) (Γi := []) H ⟨Vw.sh 2 rfl, trivial⟩ ?_; clear H i0
  rintro _ _ w2 ⟨rfl, rfl⟩ H
  refine sq ?_
  obtain ⟨a1, e, f3⟩ := bindS f2; clear f2
  refine boolO e ?_; clear e
  cases a1
  ·
   have f4 := condF f3; clear f3
   refine fld gok rfl rfl rfl rfl ?_
   refine load1 (H.bx 0 rfl (j := 5) rfl) ?_
   obtain ⟨y1, e, f5⟩ := bindS f4; clear f4
   have i1 := e; clear e
   refine callF (laws_szIntSS_c a__5 a__5h y0 y1 i1) (Γi := []) H ⟨Vw.sh 3 rfl, trivial⟩ ?_; clear H i1
   rintro _ _ w3 ⟨rfl, rfl⟩ H
   refine sq ?_
   obtain ⟨a2, e, f6⟩ := bindS f5; clear f5
   refine boolO e ?_; clear e
   cases a2
   ·
    have f7 := condF f6; clear f6
    refine fld gok rfl rfl rfl rfl ?_
    refine load1 (H.bx 0 rfl (j := 6) rfl) ?_
    obtain ⟨y2, e, f8⟩ := bindS f7; clear f7
    have i2 := e; clear e
    refine callF (laws_szIntSS_c a__6 a__6h y1 y2 i2) (Γi := []) H ⟨Vw.sh 4 rfl, trivial⟩ ?_; clear H i2
    rintro _ _ w4 ⟨rfl, rfl⟩ H
    refine sq ?_
    obtain ⟨a3, e, f9⟩ := bindS f8; clear f8
    refine boolO e ?_; clear e
    cases a3
    ·
     have f10 := condF f9; clear f9
     cases f10
     exact ⟨_, _, rfl, ⟨rfl, rfl⟩, (H.sel [] rfl).close trivial⟩
    ·
     have f11 := condT f9; clear f9
     cases f11
     exact ⟨_, _, rfl, ⟨rfl, rfl⟩, (H.sel [] rfl).close trivial⟩
   ·
    have f12 := condT f6; clear f6
    cases f12
    exact ⟨_, _, rfl, ⟨rfl, rfl⟩, (H.sel [] rfl).close trivial⟩
  ·
   have f13 := condT f3; clear f3
   cases f13
   exact ⟨_, _, rfl, ⟨rfl, rfl⟩, (H.sel [] rfl).close trivial⟩
 ·
  have f14 := condT f0; clear f0
  cases f14
  exact ⟨_, _, rfl, ⟨rfl, rfl⟩, (H.sel [] rfl).close trivial⟩

theorem laws_toIntS_c (a_ : List Int) (a_h : Hd) (y : List Int) (hF : F_laws_toIntS a_ = some y) :
  ConF Tryd.prog 35 #[(a_h).v] [Es (List Int) a_ a_h] [] (fun v Γ' => ∃ z0 : Hd, v = (z0).v ∧ Γ' = [E (List Int) y z0]) := by
 intro w0 S0 fp0 hI hS
 have H : Cx w0 fp0 S0 w0 [Es (List Int) a_ a_h] := Cx.start hI hS
 clear hI hS
 refine enterC (args := [_]) gok Tryd.func35 rfl _ rfl rfl rfl ?_
 refine lenE (H.rs (α := List Int) 0 rfl).len ?_
 obtain ⟨a2, e, hF3⟩ := bindS hF; clear hF
 refine make_ (α := Int) gok rfl rfl rfl rfl (makeCO_of e) H ?_; clear e H; intro h5 w4 hx H
 clear hx
 obtain ⟨r0, f0, f1⟩ := bindS hF3; clear hF3
 refine cut (fun (q0 : List Int) => [(3, (h5).v)]) (fun (q0 : List Int) w' => q0 = r0 ∧ Cx w0 fp0 S0 w' [E (List Int) q0 h5]) ?_ ?_
 ·
  refine loopW _ (fun (s0 : List Int × Int) (_ : Unit) => [(0, (a_h).v), (3, (h5).v), (4, (.int .i64 s0.2))]) (fun (s0 : List Int × Int) (_ : Unit) w' => Cx w0 fp0 S0 w' [Es (List Int) a_ a_h, E (List Int) s0.1 h5]) (a2, 0) () f0 ⟨rfl, rfl, rfl, trivial⟩ (H.sel [1, 0] rfl) ?_
  ·
   clear H
   rintro T0 ⟨s0_0, s0_1⟩ _ w1 o0 (H : Cx w0 fp0 S0 w1 [Es (List Int) a_ a_h, E (List Int) s0_0 h5]) hrt f2
   refine sq ?_
   refine lenE (H.rs (α := List Int) 0 rfl).len ?_
   obtain ⟨a0, e, f3⟩ := bindS f2; clear f2
   refine boolO e ?_; clear e
   cases a0
   ·
    have f4 := condF f3; clear f3
    have hs := Option.some.inj f4; subst hs; clear f4
    have f5 : some _ = some _ := congrArg some (hrt _ rfl).symm
    exact ⟨s0_0, ⟨rfl, trivial⟩, Option.some.inj f5, H.sel [1] rfl⟩
   ·
    have f6 := condT f3; clear f3
    refine sq ?_
    obtain ⟨a1, e, f7⟩ := bindS f6; clear f6
    obtain ⟨p0, m0, c0, c1, c2, c3⟩ := (H.rs (α := List Int) 0 rfl).at1 e; clear e
    refine idxE c0 c1 c2 ?_; clear c0 c1 c2
    refine load1 c3 ?_; clear c3
    obtain ⟨a3, e, f8⟩ := bindS f7; clear f7
    have i0 := e; clear e
    obtain ⟨p1, m1, c4, c5, c6⟩ := (H.ro (α := List Int) 1 rfl).setp i0
    refine idxE c4 c5 c6 ?_
    replace H := H.sel [1, 0] rfl
    refine setS (α := Int) H c4 c5 i0 ?_; clear H c4 c5 c6 i0; intro w2 H
    obtain ⟨a4, e, f9⟩ := bindS f8; clear f8
    refine arO e ?_; clear e
    have hs := Option.some.inj f9; subst hs; clear f9
    exact ⟨(a3, a4), (), rfl, ⟨rfl, rfl, rfl, trivial⟩, H.sel [1, 0] rfl⟩
 ·
  clear f0 H
  rintro T1 s1 w3 ⟨hr, (H : Cx w0 fp0 S0 w3 [E (List Int) s1 h5])⟩
  subst hr
  cases f1
  exact ⟨_, _, rfl, ⟨h5, rfl, rfl⟩, (H.sel [0] rfl).close ⟨cloE, trivial⟩⟩

theorem laws_toIntSS_c (a_ : List (List Int)) (a_h : Hd) (y : List (List Int)) (hF : F_laws_toIntSS a_ = some y) :
  ConF Tryd.prog 17 #[(a_h).v] [Es (List (List Int)) a_ a_h] [] (fun v Γ' => ∃ z0 : Hd, v = (z0).v ∧ Γ' = [E (List (List Int)) y z0]) := by
 intro w0 S0 fp0 hI hS
 have H : Cx w0 fp0 S0 w0 [Es (List (List Int)) a_ a_h] := Cx.start hI hS
 clear hI hS
 refine enterC (args := [_]) gok Tryd.func17 rfl _ rfl rfl rfl ?_
 refine lenE (H.rs (α := List (List Int)) 0 rfl).len ?_
 obtain ⟨a2, e, hF3⟩ := bindS hF; clear hF
 refine make_ (α := List Int) gok rfl rfl rfl rfl (makeCO_of e) H ?_; clear e H; intro h5 w4 hx H
 clear hx
 obtain ⟨r0, f0, f1⟩ := bindS hF3; clear hF3
 refine cut (fun (q0 : List (List Int)) => [(3, (h5).v)]) (fun (q0 : List (List Int)) w' => q0 = r0 ∧ Cx w0 fp0 S0 w' [E (List (List Int)) q0 h5]) ?_ ?_
 ·
  refine loopW _ (fun (s0 : List (List Int) × Int) (_ : Unit) => [(0, (a_h).v), (3, (h5).v), (4, (.int .i64 s0.2))]) (fun (s0 : List (List Int) × Int) (_ : Unit) w' => Cx w0 fp0 S0 w' [Es (List (List Int)) a_ a_h, E (List (List Int)) s0.1 h5]) (a2, 0) () f0 ⟨rfl, rfl, rfl, trivial⟩ (H.sel [1, 0] rfl) ?_
  ·
   clear H
   rintro T0 ⟨s0_0, s0_1⟩ _ w1 o0 (H : Cx w0 fp0 S0 w1 [Es (List (List Int)) a_ a_h, E (List (List Int)) s0_0 h5]) hrt f2
   refine sq ?_
   refine lenE (H.rs (α := List (List Int)) 0 rfl).len ?_
   obtain ⟨a0, e, f3⟩ := bindS f2; clear f2
   refine boolO e ?_; clear e
   cases a0
   ·
    have f4 := condF f3; clear f3
    have hs := Option.some.inj f4; subst hs; clear f4
    have f5 : some _ = some _ := congrArg some (hrt _ rfl).symm
    exact ⟨s0_0, ⟨rfl, trivial⟩, Option.some.inj f5, H.sel [1] rfl⟩
   ·
    have f6 := condT f3; clear f3
    refine sq ?_
    obtain ⟨a1, e, f7⟩ := bindS f6; clear f6
    have HH := H; clear H; obtain ⟨p0, m0, h0, c0, c1, c2, c3, H⟩ := HH.elL 0 rfl e; clear HH
    clear e
    refine idxE c0 c1 c2 ?_; clear c0 c1 c2
    refine load1 c3 ?_; clear c3
    obtain ⟨y0, e, f8⟩ := bindS f7; clear f7
    have i0 := e; clear e
    refine callF (laws_toIntS_c a1 h0 y0 i0) (Γi := []) H ⟨Vw.sh 0 rfl, trivial⟩ ?_; clear H i0
    rintro _ _ w2 ⟨h1, rfl, rfl⟩ H
    obtain ⟨a3, e, f9⟩ := bindS f8; clear f8
    have i1 := e; clear e
    obtain ⟨p1, m1, c4, c5, c6⟩ := (H.ro (α := List (List Int)) 3 rfl).setp i1
    refine idxE c4 c5 c6 ?_
    replace H := H.sel [3, 0, 1, 2] rfl
    refine setL H c4 c5 i1 ?_; clear H c4 c5 c6 i1; intro w3 H
    obtain ⟨a4, e, f10⟩ := bindS f9; clear f9
    refine arO e ?_; clear e
    have hs := Option.some.inj f10; subst hs; clear f10
    exact ⟨(a3, a4), (), rfl, ⟨rfl, rfl, rfl, trivial⟩, H.sel [2, 0] rfl⟩
 ·
  clear f0 H
  rintro T1 s1 w5 ⟨hr, (H : Cx w0 fp0 S0 w5 [E (List (List Int)) s1 h5])⟩
  subst hr
  cases f1
  exact ⟨_, _, rfl, ⟨h5, rfl, rfl⟩, (H.sel [0] rfl).close ⟨cloE, trivial⟩⟩

theorem laws_toStateSpace_c (a__0 : Int) (a__1 : Int) (a__2 : Int) (a__3 : List (List Int)) (a__3h : Hd) (a__4 : List (List Int)) (a__4h : Hd) (a__5 : List (List Int)) (a__5h : Hd) (a__6 : List (List Int)) (a__6h : Hd) (y_0 : Int) (y_1 : Int) (y_2 : Int) (y_3 : List (List Int)) (y_4 : List (List Int)) (y_5 : List (List Int)) (y_6 : List (List Int)) (hF : F_laws_toStateSpace (a__0, a__1, a__2, a__3, a__4, a__5, a__6) = some (y_0, y_1, y_2, y_3, y_4, y_5, y_6)) :
  ConF Tryd.prog 6 #[(.agg #[(.int .i64 a__0), (.int .i64 a__1), (.int .i64 a__2), (a__3h).v, (a__4h).v, (a__5h).v, (a__6h).v])] [Es (List (List Int)) a__3 a__3h, Es (List (List Int)) a__4 a__4h, Es (List (List Int)) a__5 a__5h, Es (List (List Int)) a__6 a__6h] [] (fun v Γ' => ∃ z0 z1 z2 z3 : Hd, v = (.agg #[(.int .i64 y_0), (.int .i64 y_1), (.int .i64 y_2), (z0).v, (z1).v, (z2).v, (z3).v]) ∧ Γ' = [E (List (List Int)) y_3 z0, E (List (List Int)) y_4 z1, E (List (List Int)) y_5 z2, E (List (List Int)) y_6 z3]) := by
 intro w0 S0 fp0 hI hS
 have H : Cx w0 fp0 S0 w0 [Es (List (List Int)) a__3 a__3h, Es (List (List Int)) a__4 a__4h, Es (List (List Int)) a__5 a__5h, Es (List (List Int)) a__6 a__6h] := Cx.start hI hS
 clear hI hS
 refine enterC (args := [_]) gok Tryd.func6 rfl _ rfl rfl rfl ?_
 refine box_ H ?_; clear H; intro b6 w5 hx H
 clear hx
 refine alloc_ gok rfl H ?_; clear H; intro b9 w8 hx H
 clear hx
 refine alloc_ gok rfl H ?_; clear H; intro b0 w1 hx H
 clear hx
 refine fld gok rfl rfl rfl rfl ?_
 refine load1 (H.bx 2 rfl (j := 0) rfl) ?_
 refine fld gok rfl rfl rfl rfl ?_
 refine stB (j := 0) H rfl rfl ?_; clear H; intro w2 H
 refine fld gok rfl rfl rfl rfl ?_
 refine load1 (H.bx 2 rfl (j := 1) rfl) ?_
 refine fld gok rfl rfl rfl rfl ?_
 refine stB (j := 1) H rfl rfl ?_; clear H; intro w3 H
 refine fld gok rfl rfl rfl rfl ?_
 refine load1 (H.bx 2 rfl (j := 2) rfl) ?_
 refine fld gok rfl rfl rfl rfl ?_
 refine stB (j := 2) H rfl rfl ?_; clear H; intro w4 H
 refine fld gok rfl rfl rfl rfl ?_
 refine load1 (H.bx 2 rfl (j := 3) rfl) ?_
 obtain ⟨y0, e, f0⟩ := bindS hF; clear hF
 have i0 := e; clear e
 refine callF (laws_toIntSS_c a__3 a__3h y0 i0) (Γi := []) H ⟨Vw.sh 3 rfl, trivial⟩ ?_; clear H i0
 rintro _ _ w6 ⟨h0, rfl, rfl⟩ H
 refine fld gok rfl rfl rfl rfl ?_
 replace H := H.sel [1, 0, 2, 3, 4, 5, 6, 7] rfl
 refine stB (j := 3) H rfl rfl ?_; clear H; intro w7 H
 refine fld gok rfl rfl rfl rfl ?_
 refine load1 (H.bx 3 rfl (j := 4) rfl) ?_
 obtain ⟨y1, e, f1⟩ := bindS f0; clear f0
 have i1 := e; clear e
 refine callF (laws_toIntSS_c a__4 a__4h y1 i1) (Γi := []) H ⟨Vw.sh 5 rfl, trivial⟩ ?_; clear H i1
 rintro _ _ w9 ⟨h1, rfl, rfl⟩ H
 refine fld gok rfl rfl rfl rfl ?_
 replace H := H.sel [1, 0, 2, 3, 4, 5, 6, 7, 8] rfl
 refine stB (j := 4) H rfl rfl ?_; clear H; intro w10 H
 refine fld gok rfl rfl rfl rfl ?_
 refine load1 (H.bx 4 rfl (j := 5) rfl) ?_
 obtain ⟨y2, e, f2⟩ := bindS f1; clear f1
 have i2 := e; clear e
 refine callF (laws_toIntSS_c a__5 a__5h y2 i2) (Γi := []) H ⟨Vw.sh 7 rfl, trivial⟩ ?_; clear H i2
 rintro _ _ w12 ⟨h2, rfl, rfl⟩ H
 refine fld gok rfl rfl rfl rfl ?_
 replace H := H.sel [1, 0, 2, 3, 4, 5, 6, 7, 8, 9] rfl
 refine stB (j := 5) H rfl rfl ?_; clear H; intro w13 H
 refine fld gok rfl rfl rfl rfl ?_
 refine load1 (H.bx 5 rfl (j := 6) rfl) ?_
 obtain ⟨y3, e, f3⟩ := bindS f2; clear f2
 have i3 := e; clear e
 refine callF (laws_toIntSS_c a__6 a__6h y3 i3) (Γi := []) H ⟨Vw.sh 9 rfl, trivial⟩ ?_; clear H i3
 rintro _ _ w17 ⟨h3, rfl, rfl⟩ H
 refine fld gok rfl rfl rfl rfl ?_
 replace H := H.sel [1, 0, 2, 3, 4, 5, 6, 7, 8, 9, 10] rfl
 refine stB (j := 6) H rfl rfl ?_; clear H; intro w18 H
 refine loadN [(.int .i64 a__0), (.int .i64 a__1), (.int .i64 a__2), (h0).v, (h1).v, (h2).v, (h3).v] rfl (fun j u hj => H.bx 0 rfl hj) ?_
 replace H := H.sel [5, 0, 1, 2, 3, 4, 6, 7, 8, 9, 10] rfl
 refine stA gok [(.int .i64 a__0), (.int .i64 a__1), (.int .i64 a__2), (h0).v, (h1).v, (h2).v, (h3).v] rfl H rfl rfl rfl ?_; clear H; intro w20 H
 refine loadN [(.int .i64 a__0), (.int .i64 a__1), (.int .i64 a__2), (h0).v, (h1).v, (h2).v, (h3).v] rfl (fun j u hj => H.bx 0 rfl hj) ?_
 cases f3
 exact ⟨_, _, rfl, ⟨h0, h1, h2, h3, rfl, rfl⟩, (H.sel [5, 4, 3, 2] rfl).close ⟨cloE, cloE, cloE, cloE, trivial⟩⟩

theorem spec_l1In_c (n_ : Int) (lo_ : Int) (hi_ : Int) (y : Bool) (hF : F_spec_l1In n_ lo_ hi_ = some y) :
  ConF Tryd.prog 27 #[(.int .i64 n_), (.int .i64 lo_), (.int .i64 hi_)] [] [] (fun v Γ' => v = (.bool y) ∧ Γ' = []) := by
 intro w0 S0 fp0 hI hS
 have H : Cx w0 fp0 S0 w0 [] := Cx.start hI hS
 clear hI hS
 refine enterC (args := [_, _, _]) gok Tryd.func27 rfl _ rfl rfl rfl ?_
 obtain ⟨r9, f0, f1⟩ := bindS hF; clear hF
 refine cut (fun (q0 : Bool) => [(6, (.bool q0))]) (fun (q0 : Bool) w' => q0 = r9 ∧ Cx w0 fp0 S0 w' []) ?_ ?_
 ·
  obtain ⟨a0, e, f2⟩ := bindS f0; clear f0
  refine boolO e ?_; clear e
  cases a0
  ·
   have f3 := condF f2; clear f2
   exact ⟨false, ⟨rfl, trivial⟩, Option.some.inj f3, H.sel [] rfl⟩
  ·
   have f4 := condT f2; clear f2
   obtain ⟨a1, e, f5⟩ := bindS f4; clear f4
   refine boolO e ?_; clear e
   exact ⟨a1, ⟨rfl, trivial⟩, Option.some.inj f5, H.sel [] rfl⟩
 ·
  clear f0 H
  rintro T0 s7 w1 ⟨hr, (H : Cx w0 fp0 S0 w1 [])⟩
  subst hr
  cases f1
  exact ⟨_, _, rfl, ⟨rfl, rfl⟩, (H.sel [] rfl).close trivial⟩

theorem spec_fdGood_c (p_ : Int) (y : Bool) (hF : F_spec_fdGood p_ = some y) :
  ConF Tryd.prog 26 #[(.int .i64 p_)] [] [] (fun v Γ' => v = (.bool y) ∧ Γ' = []) := by
 intro w0 S0 fp0 hI hS
 have H : Cx w0 fp0 S0 w0 [] := Cx.start hI hS
 clear hI hS
 refine enterC (args := [_]) gok Tryd.func26 rfl _ rfl rfl rfl ?_
 refine sq ?_
 obtain ⟨y1, e, hF2⟩ := bindS hF; clear hF
 have ey1 := e; clear e
 refine callF (spec_l1In_c p_ 2 97 y1 ey1) (Γi := []) H trivial ?_; clear H ey1
 rintro _ _ w3 ⟨rfl, rfl⟩ H
 obtain ⟨a4, e, hF5⟩ := bindS hF2; clear hF2
 refine boolO e ?_; clear e
 cases a4
 ·
  have hF6 := condF hF5; clear hF5
  obtain ⟨r0, f0, f1⟩ := bindS hF6; clear hF6
  refine cut (fun (q0 : Unit) => []) (fun (q0 : Unit) w' => .inl () = r0 ∧ Cx w0 fp0 S0 w' []) ?_ ?_
  ·
   refine loopW _ (fun (s0 : Int) (_ : Unit) => [(0, (.int .i64 p_)), (3, (.int .i64 s0))]) (fun (s0 : Int) (_ : Unit) w' => Cx w0 fp0 S0 w' []) 2 () f0 ⟨rfl, rfl, trivial⟩ (H.sel [] rfl) ?_
   ·
    clear H
    rintro T0 s0 _ w1 o0 (H : Cx w0 fp0 S0 w1 []) hrt f2
    refine sq ?_
    obtain ⟨a0, e, f3⟩ := bindS f2; clear f2
    refine arO e ?_; clear e
    obtain ⟨a1, e, f4⟩ := bindS f3; clear f3
    refine boolO e ?_; clear e
    cases a1
    ·
     have f5 := condF f4; clear f4
     have hs := Option.some.inj f5; subst hs; clear f5
     have f6 : some _ = some _ := congrArg some (hrt _ rfl).symm
     exact ⟨(), trivial, Option.some.inj f6, H.sel [] rfl⟩
    ·
     have f7 := condT f4; clear f4
     refine sq ?_
     obtain ⟨a2, e, f8⟩ := bindS f7; clear f7
     refine remO_ e ?_; clear e
     obtain ⟨a3, e, f9⟩ := bindS f8; clear f8
     refine boolO e ?_; clear e
     cases a3
     ·
      have f10 := condF f9; clear f9
      obtain ⟨a5, e, f11⟩ := bindS f10; clear f10
      refine arO e ?_; clear e
      have hs := Option.some.inj f11; subst hs; clear f11
      exact ⟨a5, (), rfl, ⟨rfl, rfl, trivial⟩, H.sel [] rfl⟩
     ·
      have f12 := condT f9; clear f9
      have hs := Option.some.inj f12; subst hs; clear f12
      have f13 : some _ = some _ := congrArg some (hrt _ rfl).symm
      have hs := Option.some.inj f13; subst hs; clear f13
      have f14 : some _ = some _ := f1; clear f1
      cases f14
      exact ⟨_, _, rfl, ⟨rfl, rfl⟩, (H.sel [] rfl).close trivial⟩
  ·
   clear f0 H
   rintro T1 _ w2 ⟨hr, (H : Cx w0 fp0 S0 w2 [])⟩
   subst hr
   cases f1
   exact ⟨_, _, rfl, ⟨rfl, rfl⟩, (H.sel [] rfl).close trivial⟩
 ·
  have f15 := condT hF5; clear hF5
  cases f15
  exact ⟨_, _, rfl, ⟨rfl, rfl⟩, (H.sel [] rfl).close trivial⟩

theorem spec_l1All_c (l_ : List Int) (l_h : Hd) (lo_ : Int) (hi_ : Int) (y : Bool) (hF : F_spec_l1All l_ lo_ hi_ = some y) :
  ConF Tryd.prog 83 #[(l_h).v, (.int .i64 lo_), (.int .i64 hi_)] [Es (List Int) l_ l_h] [] (fun v Γ' => v = (.bool y) ∧ Γ' = []) := by
 intro w0 S0 fp0 hI hS
 have H : Cx w0 fp0 S0 w0 [Es (List Int) l_ l_h] := Cx.start hI hS
 clear hI hS
 refine enterC (args := [_, _, _]) gok Tryd.func83 rfl _ rfl rfl rfl ?_
 refine sq ?_
 refine lenE (H.rs (α := List Int) 0 rfl).len ?_
 have x0 := (H.rs (α := List Int) 0 rfl).max
 obtain ⟨r0, e, f0⟩ := bindS hF; clear hF
 refine loopO _ l_.length (fun (k2 : Nat) (_ : Unit) (_ : Unit) => [(1, (.int .i64 lo_)), (2, (.int .i64 hi_)), (9, (l_h).v), (10, (.int .i64 ((l_.length : Nat) : Int))), (11, (.int .i64 ((k2 : Nat) : Int)))]) (fun _ (_ : Unit) (_ : Unit) w' => Cx w0 fp0 S0 w' [Es (List Int) l_ l_h]) () () e ⟨rfl, rfl, rfl, rfl, rfl, trivial⟩ (H.sel [0] rfl) ?_ ?_
 ·
  clear H e
  rintro T0 k2 _ _ w1 o0 hk (H : Cx w0 fp0 S0 w1 [Es (List Int) l_ l_h]) hrt f1
  refine boolE (z := true) (ltLen hk) ?_
  refine sq ?_
  refine sq ?_
  obtain ⟨a0, e, f2⟩ := bindS f1; clear f1
  obtain ⟨p0, m0, c0, c1, c2, c3⟩ := (H.rs (α := List Int) 0 rfl).at1 e; clear e
  refine idxE c0 c1 c2 ?_; clear c0 c1 c2
  refine load1 c3 ?_; clear c3
  obtain ⟨y0, e, f3⟩ := bindS f2; clear f2
  have i0 := e; clear e
  refine callF (spec_l1In_c a0 lo_ hi_ y0 i0) (Γi := []) H trivial ?_; clear H i0
  rintro _ _ w2 ⟨rfl, rfl⟩ H
  obtain ⟨a1, e, f4⟩ := bindS f3; clear f3
  refine boolO e ?_; clear e
  cases a1
  ·
   have f5 := condF f4; clear f4
   refine arK hk x0 ?_
   have hs := Option.some.inj f5; subst hs; clear f5
   exact ⟨(), (), rfl, ⟨rfl, rfl, rfl, rfl, rfl, trivial⟩, H.sel [0] rfl⟩
  ·
   have f6 := condT f4; clear f4
   have hs := Option.some.inj f6; subst hs; clear f6
   have hr := hrt _ rfl; subst hr
   have f7 : some _ = some _ := f0
   cases f7
   exact ⟨_, _, rfl, ⟨rfl, rfl⟩, (H.sel [] rfl).close trivial⟩
 ·
  clear H e
  rintro T1 _ _ w3 hr (H : Cx w0 fp0 S0 w3 [Es (List Int) l_ l_h])
  subst hr
  refine boolE (z := false) geLen ?_
  refine sq ?_
  cases f0
  exact ⟨_, _, rfl, ⟨rfl, rfl⟩, (H.sel [] rfl).close trivial⟩

theorem spec_fdIn_c (p_ : Int) (l_ : List Int) (l_h : Hd) (y : Bool) (hF : F_spec_fdIn p_ l_ = some y) :
  ConF Tryd.prog 64 #[(.int .i64 p_), (l_h).v] [Es (List Int) l_ l_h] [] (fun v Γ' => v = (.bool y) ∧ Γ' = []) := by
 intro w0 S0 fp0 hI hS
 have H : Cx w0 fp0 S0 w0 [Es (List Int) l_ l_h] := Cx.start hI hS
 clear hI hS
 refine enterC (args := [_, _]) gok Tryd.func64 rfl _ rfl rfl rfl ?_
 obtain ⟨a2, e, hF3⟩ := bindS hF; clear hF
 refine arO e ?_; clear e
 obtain ⟨y4, e, hF5⟩ := bindS hF3; clear hF3
 have ey4 := e; clear e
 refine callF (spec_l1All_c l_ l_h 0 a2 y4 ey4) (Γi := []) H ⟨Vw.sh 0 rfl, trivial⟩ ?_; clear H ey4
 rintro _ _ w6 ⟨rfl, rfl⟩ H
 cases hF5
 exact ⟨_, _, rfl, ⟨rfl, rfl⟩, (H.sel [] rfl).close trivial⟩

theorem spec_spRows_c (p_ : Int) (size_ : Int) (rows_ : List (List Int)) (rows_h : Hd) (y : Bool) (hF : F_spec_spRows p_ size_ rows_ = some y) :
  ConF Tryd.prog 46 #[(.int .i64 p_), (.int .i64 size_), (rows_h).v] [Es (List (List Int)) rows_ rows_h] [] (fun v Γ' => v = (.bool y) ∧ Γ' = []) := by
 intro w0 S0 fp0 hI hS
 have H : Cx w0 fp0 S0 w0 [Es (List (List Int)) rows_ rows_h] := Cx.start hI hS
 clear hI hS
 refine enterC (args := [_, _, _]) gok Tryd.func46 rfl _ rfl rfl rfl ?_
 refine sq ?_
 refine lenE (H.rs (α := List (List Int)) 0 rfl).len ?_
 have x0 := (H.rs (α := List (List Int)) 0 rfl).max
 obtain ⟨r0, e, f0⟩ := bindS hF; clear hF
 refine loopO _ rows_.length (fun (k2 : Nat) (_ : Unit) (_ : Unit) => [(0, (.int .i64 p_)), (1, (.int .i64 size_)), (9, (rows_h).v), (10, (.int .i64 ((rows_.length : Nat) : Int))), (11, (.int .i64 ((k2 : Nat) : Int)))]) (fun _ (_ : Unit) (_ : Unit) w' => Cx w0 fp0 S0 w' [Es (List (List Int)) rows_ rows_h]) () () e ⟨rfl, rfl, rfl, rfl, rfl, trivial⟩ (H.sel [0] rfl) ?_ ?_
 ·
  clear H e
  rintro T0 k2 _ _ w1 o0 hk (H : Cx w0 fp0 S0 w1 [Es (List (List Int)) rows_ rows_h]) hrt f1
  refine boolE (z := true) (ltLen hk) ?_
  refine sq ?_
  refine sq ?_
  obtain ⟨a0, e, f2⟩ := bindS f1; clear f1
  have HH := H; clear H; obtain ⟨p0, m0, h0, c0, c1, c2, c3, H⟩ := HH.elL 0 rfl e; clear HH
  clear e
  refine idxE c0 c1 c2 ?_; clear c0 c1 c2
  refine load1 c3 ?_; clear c3
  obtain ⟨r1, f3, f4⟩ := bindS f2; clear f2
  refine cut (fun (q0 : Bool) => [(0, (.int .i64 p_)), (1, (.int .i64 size_)), (9, (rows_h).v), (10, (.int .i64 ((rows_.length : Nat) : Int))), (11, (.int .i64 ((k2 : Nat) : Int))), (24, (.bool q0))]) (fun (q0 : Bool) w' => q0 = r1 ∧ Cx w0 fp0 S0 w' [Es (List (List Int)) rows_ rows_h]) ?_ ?_
  ·
   refine lenE (H.rs (α := List Int) 0 rfl).len ?_
   obtain ⟨a1, e, f5⟩ := bindS f3; clear f3
   refine boolO e ?_; clear e
   cases a1
   ·
    have f6 := condF f5; clear f5
    obtain ⟨y0, e, f7⟩ := bindS f6; clear f6
    have i0 := e; clear e
    refine callF (spec_fdIn_c p_ a0 h0 y0 i0) (Γi := []) H ⟨Vw.sh 0 rfl, trivial⟩ ?_; clear H i0
    rintro _ _ w2 ⟨rfl, rfl⟩ H
    obtain ⟨a2, e, f8⟩ := bindS f7; clear f7
    refine boolO e ?_; clear e
    exact ⟨a2, ⟨rfl, rfl, rfl, rfl, rfl, rfl, trivial⟩, Option.some.inj f8, H.sel [1] rfl⟩
   ·
    have f9 := condT f5; clear f5
    exact ⟨true, ⟨rfl, rfl, rfl, rfl, rfl, rfl, trivial⟩, Option.some.inj f9, H.sel [1] rfl⟩
  ·
   clear f3 H
   rintro T1 s0 w3 ⟨hr, (H : Cx w0 fp0 S0 w3 [Es (List (List Int)) rows_ rows_h])⟩
   subst hr
   cases s0
   ·
    have f10 := condF f4; clear f4
    refine arK hk x0 ?_
    have hs := Option.some.inj f10; subst hs; clear f10
    exact ⟨(), (), rfl, ⟨rfl, rfl, rfl, rfl, rfl, trivial⟩, H.sel [0] rfl⟩
   ·
    have f11 := condT f4; clear f4
    have hs := Option.some.inj f11; subst hs; clear f11
    have hr := hrt _ rfl; subst hr
    have f12 : some _ = some _ := f0
    cases f12
    exact ⟨_, _, rfl, ⟨rfl, rfl⟩, (H.sel [] rfl).close trivial⟩
 ·
  clear H e
  rintro T2 _ _ w4 hr (H : Cx w0 fp0 S0 w4 [Es (List (List Int)) rows_ rows_h])
  subst hr
  refine boolE (z := false) geLen ?_
  refine sq ?_
  cases f0
  exact ⟨_, _, rfl, ⟨rfl, rfl⟩, (H.sel [] rfl).close trivial⟩

theorem spec_ssTable_c (p_ : Int) (rows_ : Int) (cols_ : Int) (m_ : List (List Int)) (m_h : Hd) (y : Bool) (hF : F_spec_ssTable p_ rows_ cols_ m_ = some y) :
  ConF Tryd.prog 28 #[(.int .i64 p_), (.int .i64 rows_), (.int .i64 cols_), (m_h).v] [Es (List (List Int)) m_ m_h] [] (fun v Γ' => v = (.bool y) ∧ Γ' = []) := by
 intro w0 S0 fp0 hI hS
 have H : Cx w0 fp0 S0 w0 [Es (List (List Int)) m_ m_h] := Cx.start hI hS
 clear hI hS
 refine enterC (args := [_, _, _, _]) gok Tryd.func28 rfl _ rfl rfl rfl ?_
 obtain ⟨r0, f0, f1⟩ := bindS hF; clear hF
 refine cut (fun (q0 : Bool) => [(8, (.bool q0))]) (fun (q0 : Bool) w' => q0 = r0 ∧ Cx w0 fp0 S0 w' []) ?_ ?_
 ·
  refine lenE (H.rs (α := List (List Int)) 0 rfl).len ?_
  obtain ⟨a0, e, f2⟩ := bindS f0; clear f0
  refine boolO e ?_; clear e
  cases a0
  ·
   have f3 := condF f2; clear f2
   exact ⟨false, ⟨rfl, trivial⟩, Option.some.inj f3, H.sel [] rfl⟩
  ·
   have f4 := condT f2; clear f2
   obtain ⟨y0, e, f5⟩ := bindS f4; clear f4
   have i0 := e; clear e
   refine callF (spec_spRows_c p_ cols_ m_ m_h y0 i0) (Γi := []) H ⟨Vw.sh 0 rfl, trivial⟩ ?_; clear H i0
   rintro _ _ w1 ⟨rfl, rfl⟩ H
   exact ⟨y0, ⟨rfl, trivial⟩, Option.some.inj f5, H.sel [] rfl⟩
 ·
  clear f0 H
  rintro T0 s9 w2 ⟨hr, (H : Cx w0 fp0 S0 w2 [])⟩
  subst hr
  cases f1
  exact ⟨_, _, rfl, ⟨rfl, rfl⟩, (H.sel [] rfl).close trivial⟩

theorem spec_ssGood_c (p_ : Int) (s__0 : Int) (s__1 : Int) (s__2 : Int) (s__3 : List (List Int)) (s__3h : Hd) (s__4 : List (List Int)) (s__4h : Hd) (s__5 : List (List Int)) (s__5h : Hd) (s__6 : List (List Int)) (s__6h : Hd) (y : Bool) (hF : F_spec_ssGood p_ (s__0, s__1, s__2, s__3, s__4, s__5, s__6) = some y) :
  ConF Tryd.prog 14 #[(.int .i64 p_), (.agg #[(.int .i64 s__0), (.int .i64 s__1), (.int .i64 s__2), (s__3h).v, (s__4h).v, (s__5h).v, (s__6h).v])] [Es (List (List Int)) s__3 s__3h, Es (List (List Int)) s__4 s__4h, Es (List (List Int)) s__5 s__5h, Es (List (List Int)) s__6 s__6h] [] (fun v Γ' => v = (.bool y) ∧ Γ' = []) := by
 intro w0 S0 fp0 hI hS
 have H : Cx w0 fp0 S0 w0 [Es (List (List Int)) s__3 s__3h, Es (List (List Int)) s__4 s__4h, Es (List (List Int)) s__5 s__5h, Es (List (List Int)) s__6 s__6h] := Cx.start hI hS
 clear hI hS
 refine enterC (args := [_, _]) gok Tryd.func14 rfl _ rfl rfl rfl ?_
 refine box_ H ?_; clear H; intro b6 w5 hx H
 clear hx
 obtain ⟨r0, f0, f1⟩ := bindS hF; clear hF
 refine cut (fun (q0 : Bool) => [(4, (.bool q0))]) (fun (q0 : Bool) w' => q0 = r0 ∧ Cx w0 fp0 S0 w' []) ?_ ?_
 ·
  obtain ⟨y0, e, f2⟩ := bindS f0; clear f0
  have i0 := e; clear e
  refine callF (spec_fdGood_c p_ y0 i0) (Γi := []) H trivial ?_; clear H i0
  rintro _ _ w1 ⟨rfl, rfl⟩ H
  cases y0
  ·
   have f3 := condF f2; clear f2
   exact ⟨false, ⟨rfl, trivial⟩, Option.some.inj f3, H.sel [] rfl⟩
  ·
   have f4 := condT f2; clear f2
   refine fld gok rfl rfl rfl rfl ?_
   refine load1 (H.bx 0 rfl (j := 0) rfl) ?_
   obtain ⟨y1, e, f5⟩ := bindS f4; clear f4
   have i1 := e; clear e
   refine callF (spec_l1In_c s__0 0 24 y1 i1) (Γi := []) H trivial ?_; clear H i1
   rintro _ _ w2 ⟨rfl, rfl⟩ H
   cases y1
   ·
    have f6 := condF f5; clear f5
    exact ⟨false, ⟨rfl, trivial⟩, Option.some.inj f6, H.sel [] rfl⟩
   ·
    have f7 := condT f5; clear f5
    refine fld gok rfl rfl rfl rfl ?_
    refine load1 (H.bx 0 rfl (j := 1) rfl) ?_
    obtain ⟨y2, e, f8⟩ := bindS f7; clear f7
    have i2 := e; clear e
    refine callF (spec_l1In_c s__1 0 8 y2 i2) (Γi := []) H trivial ?_; clear H i2
    rintro _ _ w3 ⟨rfl, rfl⟩ H
    cases y2
    ·
     have f9 := condF f8; clear f8
     exact ⟨false, ⟨rfl, trivial⟩, Option.some.inj f9, H.sel [] rfl⟩
    ·
     have f10 := condT f8; clear f8
     refine fld gok rfl rfl rfl rfl ?_
     refine load1 (H.bx 0 rfl (j := 2) rfl) ?_
     obtain ⟨y3, e, f11⟩ := bindS f10; clear f10
     have i3 := e; clear e
     refine callF (spec_l1In_c s__2 0 8 y3 i3) (Γi := []) H trivial ?_; clear H i3
     rintro _ _ w4 ⟨rfl, rfl⟩ H
     cases y3
     ·
      have f12 := condF f11; clear f11
      exact ⟨false, ⟨rfl, trivial⟩, Option.some.inj f12, H.sel [] rfl⟩
     ·
      have f13 := condT f11; clear f11
      refine fld gok rfl rfl rfl rfl ?_
      refine load1 (H.bx 0 rfl (j := 0) rfl) ?_
      refine fld gok rfl rfl rfl rfl ?_
      refine load1 (H.bx 0 rfl (j := 0) rfl) ?_
      refine fld gok rfl rfl rfl rfl ?_
      refine load1 (H.bx 0 rfl (j := 3) rfl) ?_
      obtain ⟨y4, e, f14⟩ := bindS f13; clear f13
      have i4 := e; clear e
      refine callF (spec_ssTable_c p_ s__0 s__0 s__3 s__3h y4 i4) (Γi := []) H ⟨Vw.sh 1 rfl, trivial⟩ ?_; clear H i4
      rintro _ _ w6 ⟨rfl, rfl⟩ H
      cases y4
      ·
       have f15 := condF f14; clear f14
       exact ⟨false, ⟨rfl, trivial⟩, Option.some.inj f15, H.sel [] rfl⟩
      ·
       have f16 := condT f14; clear f14
       refine fld gok rfl rfl rfl rfl ?_
       refine load1 (H.bx 0 rfl (j := 1) rfl) ?_
       refine fld gok rfl rfl rfl rfl ?_
       refine load1 (H.bx 0 rfl (j := 0) rfl) ?_
       refine fld gok rfl rfl rfl rfl ?_
       refine load1 (H.bx 0 rfl (j := 4) rfl) ?_
       obtain ⟨y5, e, f17⟩ := bindS f16; clear f16
       have i5 := e; clear e
       refine callF (spec_ssTable_c p_ s__1 s__0 s__4 s__4h y5 i5) (Γi := []) H ⟨Vw.sh 2 rfl, trivial⟩ ?_; clear H i5
       rintro _ _ w7 ⟨rfl, rfl⟩ H
       cases y5
       ·
        have f18 := condF f17; clear f17
        exact ⟨false, ⟨rfl, trivial⟩, Option.some.inj f18, H.sel [] rfl⟩
       ·
        have f19 := condT f17; clear f17
        refine fld gok rfl rfl rfl rfl ?_
        refine load1 (H.bx 0 rfl (j := 0) rfl) ?_
        refine fld gok rfl rfl rfl rfl ?_
        refine load1 (H.bx 0 rfl (j := 2) rfl) ?_
        refine fld gok rfl rfl rfl rfl ?_
        refine load1 (H.bx 0 rfl (j := 5) rfl) ?_
        obtain ⟨y6, e, f20⟩ := bindS f19; clear f19
        have i6 := e; clear e
        refine callF (spec_ssTable_c p_ s__0 s__2 s__5 s__5h y6 i6) (Γi := []) H ⟨Vw.sh 3 rfl, trivial⟩ ?_; clear H i6
        rintro _ _ w8 ⟨rfl, rfl⟩ H
        cases y6
        ·
         have f21 := condF f20; clear f20
         exact ⟨false, ⟨rfl, trivial⟩, Option.some.inj f21, H.sel [] rfl⟩
        ·
         have f22 := condT f20; clear f20
         refine fld gok rfl rfl rfl rfl ?_
         refine load1 (H.bx 0 rfl (j := 1) rfl) ?_
         refine fld gok rfl rfl rfl rfl ?_
         refine load1 (H.bx 0 rfl (j := 2) rfl) ?_
         refine fld gok rfl rfl rfl rfl ?_
         refine load1 (H.bx 0 rfl (j := 6) rfl) ?_
         obtain ⟨y7, e, f23⟩ := bindS f22; clear f22
         have i7 := e; clear e
         refine callF (spec_ssTable_c p_ s__1 s__2 s__6 s__6h y7 i7) (Γi := []) H ⟨Vw.sh 4 rfl, trivial⟩ ?_; clear H i7
         rintro _ _ w9 ⟨rfl, rfl⟩ H
         exact ⟨y7, ⟨rfl, trivial⟩, Option.some.inj f23, H.sel [] rfl⟩
 ·
  clear f0 H
  rintro T0 s0 w10 ⟨hr, (H : Cx w0 fp0 S0 w10 [])⟩
  subst hr
  cases f1
  exact ⟨_, _, rfl, ⟨rfl, rfl⟩, (H.sel [] rfl).close trivial⟩

theorem spec_l1Own_c (l_ : List Int) (l_h : Hd) (y : List Int) (hF : F_spec_l1Own l_ = some y) :
  ConF Tryd.prog 47 #[(l_h).v] [Es (List Int) l_ l_h] [] (fun v Γ' => ∃ z0 : Hd, v = (z0).v ∧ Γ' = [E (List Int) y z0]) := by
 intro w0 S0 fp0 hI hS
 have H : Cx w0 fp0 S0 w0 [Es (List Int) l_ l_h] := Cx.start hI hS
 clear hI hS
 refine enterC (args := [_]) gok Tryd.func47 rfl _ rfl rfl rfl ?_
 refine lit0 (α := Int) gok rfl rfl H ?_; clear H; intro h3 w2 hx H
 clear hx
 obtain ⟨a5, e, hF6⟩ := bindS hF; clear hF
 refine appendS (α := Int) gok rfl rfl rfl rfl H (Vw.sh 0 rfl) e ?_; clear e H; intro h8 w7 H
 cases hF6
 exact ⟨_, _, rfl, ⟨h8, rfl, rfl⟩, (H.sel [0] rfl).close ⟨cloE, trivial⟩⟩

theorem spec_ssCopy_c (m_ : List (List Int)) (m_h : Hd) (y : List (List Int)) (hF : F_spec_ssCopy m_ = some y) :
  ConF Tryd.prog 29 #[(m_h).v] [Es (List (List Int)) m_ m_h] [] (fun v Γ' => ∃ z0 : Hd, v = (z0).v ∧ Γ' = [E (List (List Int)) y z0]) := by
 intro w0 S0 fp0 hI hS
 have H : Cx w0 fp0 S0 w0 [Es (List (List Int)) m_ m_h] := Cx.start hI hS
 clear hI hS
 refine enterC (args := [_]) gok Tryd.func29 rfl _ rfl rfl rfl ?_
 refine sq ?_
 refine lenE (H.rs (α := List (List Int)) 0 rfl).len ?_
 have x0 := (H.rs (α := List (List Int)) 0 rfl).max
 obtain ⟨r0, e, f0⟩ := bindS hF; clear hF
 replace H := H.nil (α := List Int)
 refine loopS _ m_.length (fun (k2 : Nat) (s0 : List (List Int)) (g0 : Hd) => [(3, (g0).v), (6, (m_h).v), (7, (.int .i64 ((m_.length : Nat) : Int))), (8, (.int .i64 ((k2 : Nat) : Int)))]) (fun _ (s0 : List (List Int)) (g0 : Hd) w' => Cx w0 fp0 S0 w' [E (List (List Int)) s0 g0, Es (List (List Int)) m_ m_h]) [] nilH e ⟨rfl, rfl, rfl, rfl, trivial⟩ (H.sel [0, 1] rfl) ?_ ?_
 ·
  clear H e
  rintro T0 k2 s0 g0 w1 o0 hk (H : Cx w0 fp0 S0 w1 [E (List (List Int)) s0 g0, Es (List (List Int)) m_ m_h]) f1
  refine boolE (z := true) (ltLen hk) ?_
  refine sq ?_
  refine sq ?_
  obtain ⟨a0, e, f2⟩ := bindS f1; clear f1
  have HH := H; clear H; obtain ⟨p0, m0, h0, c0, c1, c2, c3, H⟩ := HH.elL 1 rfl e; clear HH
  clear e
  refine idxE c0 c1 c2 ?_; clear c0 c1 c2
  refine load1 c3 ?_; clear c3
  obtain ⟨y0, e, f3⟩ := bindS f2; clear f2
  have i0 := e; clear e
  refine callF (spec_l1Own_c a0 h0 y0 i0) (Γi := []) H ⟨Vw.sh 0 rfl, trivial⟩ ?_; clear H i0
  rintro _ _ w2 ⟨h1, rfl, rfl⟩ H
  refine lit1 (α := List Int) (g := h1) gok rfl rfl rfl rfl rfl H ?_; clear H; intro h2 w3 hx H
  clear hx
  obtain ⟨a1, e, f4⟩ := bindS f3; clear f3
  replace H := H.sel [2, 0, 1, 3] rfl
  refine append_ (α := List Int) gok rfl rfl rfl rfl H e ?_; clear e H; intro h3 w4 H
  refine arK hk x0 ?_
  have hs := Option.some.inj f4; subst hs; clear f4
  exact ⟨h3, ⟨rfl, rfl, rfl, rfl, trivial⟩, H.sel [0, 2] rfl⟩
 ·
  clear H e
  rintro T1 g1 w5 (H : Cx w0 fp0 S0 w5 [E (List (List Int)) r0 g1, Es (List (List Int)) m_ m_h])
  refine boolE (z := false) geLen ?_
  refine sq ?_
  cases f0
  exact ⟨_, _, rfl, ⟨g1, rfl, rfl⟩, (H.sel [0] rfl).close ⟨cloE, trivial⟩⟩

theorem spec_spSum_c (p_ : Int) (size_ : Int) (rows_ : List (List Int)) (rows_h : Hd) (coefs_ : List Int) (coefs_h : Hd) (y : List Int) (hF : F_spec_spSum p_ size_ rows_ coefs_ = some y) :
  ConF Tryd.prog 48 #[(.int .i64 p_), (.int .i64 size_), (rows_h).v, (coefs_h).v] [Es (List (List Int)) rows_ rows_h, Es (List Int) coefs_ coefs_h] [] (fun v Γ' => ∃ z0 : Hd, v = (z0).v ∧ Γ' = [E (List Int) y z0]) := by
 intro w0 S0 fp0 hI hS
 have H : Cx w0 fp0 S0 w0 [Es (List (List Int)) rows_ rows_h, Es (List Int) coefs_ coefs_h] := Cx.start hI hS
 clear hI hS
 refine enterC (args := [_, _, _, _]) gok Tryd.func48 rfl _ rfl rfl rfl ?_
 obtain ⟨a3, e, hF4⟩ := bindS hF; clear hF
 refine make_ (α := Int) gok rfl rfl rfl rfl (makeCO_of e) H ?_; clear e H; intro h6 w5 hx H
 clear hx
 refine sq ?_
 refine lenE (H.rs (α := List (List Int)) 1 rfl).len ?_
 have x0 := (H.rs (α := List (List Int)) 1 rfl).max
 obtain ⟨r0, e, f0⟩ := bindS hF4; clear hF4
 refine loopS _ rows_.length (fun (k8 : Nat) (s0 : List Int) (_ : Unit) => [(0, (.int .i64 p_)), (3, (coefs_h).v), (9, (h6).v), (16, (rows_h).v), (17, (.int .i64 ((rows_.length : Nat) : Int))), (18, (.int .i64 ((k8 : Nat) : Int)))]) (fun _ (s0 : List Int) (_ : Unit) w' => Cx w0 fp0 S0 w' [Es (List Int) coefs_ coefs_h, E (List Int) s0 h6, Es (List (List Int)) rows_ rows_h]) a3 () e ⟨rfl, rfl, rfl, rfl, rfl, rfl, trivial⟩ (H.sel [2, 0, 1] rfl) ?_ ?_
 ·
  clear H e
  rintro T0 k8 s0 _ w1 o0 hk (H : Cx w0 fp0 S0 w1 [Es (List Int) coefs_ coefs_h, E (List Int) s0 h6, Es (List (List Int)) rows_ rows_h]) f1
  refine boolE (z := true) (ltLen hk) ?_
  refine sq ?_
  refine sq ?_
  obtain ⟨a0, e, f2⟩ := bindS f1; clear f1
  have HH := H; clear H; obtain ⟨p0, m0, h0, c0, c1, c2, c3, H⟩ := HH.elL 2 rfl e; clear HH
  clear e
  refine idxE c0 c1 c2 ?_; clear c0 c1 c2
  refine load1 c3 ?_; clear c3
  refine lenE (H.rs (α := List Int) 0 rfl).len ?_
  have x1 := (H.rs (α := List Int) 0 rfl).max
  obtain ⟨r1, e, f3⟩ := bindS f2; clear f2
  refine loopS _ a0.length (fun (k0 : Nat) (s1 : List Int) (_ : Unit) => [(0, (.int .i64 p_)), (3, (coefs_h).v), (9, (h6).v), (10, (.int .i64 ((k8 : Nat) : Int))), (16, (rows_h).v), (17, (.int .i64 ((rows_.length : Nat) : Int))), (18, (.int .i64 ((k8 : Nat) : Int))), (23, (h0).v), (24, (.int .i64 ((a0.length : Nat) : Int))), (25, (.int .i64 ((k0 : Nat) : Int)))]) (fun _ (s1 : List Int) (_ : Unit) w' => Cx w0 fp0 S0 w' [Es (List Int) coefs_ coefs_h, E (List Int) s1 h6, Es (List (List Int)) rows_ rows_h, Es (List Int) a0 h0]) s0 () e ⟨rfl, rfl, rfl, rfl, rfl, rfl, rfl, rfl, rfl, rfl, trivial⟩ (H.sel [1, 2, 3, 0] rfl) ?_ ?_
  ·
   clear H e
   rintro T1 k0 s1 _ w2 o1 hk (H : Cx w0 fp0 S0 w2 [Es (List Int) coefs_ coefs_h, E (List Int) s1 h6, Es (List (List Int)) rows_ rows_h, Es (List Int) a0 h0]) f4
   refine boolE (z := true) (ltLen hk) ?_
   refine sq ?_
   refine sq ?_
   obtain ⟨a1, e, f5⟩ := bindS f4; clear f4
   obtain ⟨p1, m1, c4, c5, c6, c7⟩ := (H.rs (α := List Int) 3 rfl).at1 e; clear e
   refine idxE c4 c5 c6 ?_; clear c4 c5 c6
   refine load1 c7 ?_; clear c7
   refine heldX H [16] (.fst 0 (.fst 1 (.fst 2 (.fst 3 (.fst 4 (.fst 6 (.fst 7 (.fst 8 (.fst 10 (.fst 13 (.fst 5 (.fst 9 (.fst 11 (.fst 12 (.fst 14 (.fst 15 (.act 16 .done))))))))))))))))) mixed [] trivial (by kernel_rfl) ?_
   clear H; intro w3 H
   have hX : Ext w3 w3 := Upd.refl _ _
   have H0 := H
   obtain ⟨a2, e, f6⟩ := bindS f5; clear f5
   obtain ⟨p2, m2, c8, c9, c10, c11⟩ := (H.ro (α := List Int) 1 rfl).at1 e; clear e
   refine idxE c8 c9 c10 ?_; clear c8 c9 c10
   obtain ⟨a4, e, f7⟩ := bindS f6; clear f6
   obtain ⟨p3, m3, c12, c13, c14, c15⟩ := (H.rs (α := List Int) 0 rfl).at1 e; clear e
   refine idxE c12 c13 c14 ?_; clear c12 c13 c14
   refine load1X c11 ?_; clear c11
   refine load1X c15 ?_; clear c15
   obtain ⟨a5, e, f8⟩ := bindS f7; clear f7
   refine arO e ?_; clear e
   obtain ⟨a6, e, f9⟩ := bindS f8; clear f8
   refine arO e ?_; clear e
   obtain ⟨a7, e, f10⟩ := bindS f9; clear f9
   refine remO_ e ?_; clear e
   obtain ⟨a8, e, f11⟩ := bindS f10; clear f10
   have i0 := e; clear e
   obtain ⟨p4, m4, c16, c17, c18⟩ := (H.ro (α := List Int) 1 rfl).setp i0
   refine idxE c16 c17 c18 ?_
   replace H := H.sel [1, 0, 2, 3] rfl
   refine setS (α := Int) H c16 c17 i0 ?_; clear H c16 c17 c18 i0; intro w4 H
   refine hold trivial ?_
   refine arK hk x1 ?_
   have hs := Option.some.inj f11; subst hs; clear f11
   exact ⟨(), ⟨rfl, rfl, rfl, rfl, rfl, rfl, rfl, rfl, rfl, rfl, trivial⟩, H.sel [1, 0, 2, 3] rfl⟩
  ·
   clear H e
   rintro T2 _ w6 (H : Cx w0 fp0 S0 w6 [Es (List Int) coefs_ coefs_h, E (List Int) r1 h6, Es (List (List Int)) rows_ rows_h, Es (List Int) a0 h0])
   refine boolE (z := false) geLen ?_
   refine sq ?_
   refine arK hk x0 ?_
   have hs := Option.some.inj f3; subst hs; clear f3
   exact ⟨(), ⟨rfl, rfl, rfl, rfl, rfl, rfl, trivial⟩, H.sel [0, 1, 2] rfl⟩
 ·
  clear H e
  rintro T3 _ w7 (H : Cx w0 fp0 S0 w7 [Es (List Int) coefs_ coefs_h, E (List Int) r0 h6, Es (List (List Int)) rows_ rows_h])
  refine boolE (z := false) geLen ?_
  refine sq ?_
  cases f0
  exact ⟨_, _, rfl, ⟨h6, rfl, rfl⟩, (H.sel [1] rfl).close ⟨cloE, trivial⟩⟩

theorem spec_ssTimes_c (p_ : Int) (cols_ : Int) (rows_ : List (List Int)) (rows_h : Hd) (m_ : List (List Int)) (m_h : Hd) (y : List (List Int)) (hF : F_spec_ssTimes p_ cols_ rows_ m_ = some y) :
  ConF Tryd.prog 30 #[(.int .i64 p_), (.int .i64 cols_), (rows_h).v, (m_h).v] [Es (List (List Int)) rows_ rows_h, Es (List (List Int)) m_ m_h] [] (fun v Γ' => ∃ z0 : Hd, v = (z0).v ∧ Γ' = [E (List (List Int)) y z0]) := by
 intro w0 S0 fp0 hI hS
 have H : Cx w0 fp0 S0 w0 [Es (List (List Int)) rows_ rows_h, Es (List (List Int)) m_ m_h] := Cx.start hI hS
 clear hI hS
 refine enterC (args := [_, _, _, _]) gok Tryd.func30 rfl _ rfl rfl rfl ?_
 refine sq ?_
 refine lenE (H.rs (α := List (List Int)) 0 rfl).len ?_
 have x0 := (H.rs (α := List (List Int)) 0 rfl).max
 obtain ⟨r0, e, f0⟩ := bindS hF; clear hF
 replace H := H.nil (α := List Int)
 refine loopS _ rows_.length (fun (k3 : Nat) (s0 : List (List Int)) (g0 : Hd) => [(0, (.int .i64 p_)), (1, (.int .i64 cols_)), (3, (m_h).v), (9, (g0).v), (12, (rows_h).v), (13, (.int .i64 ((rows_.length : Nat) : Int))), (14, (.int .i64 ((k3 : Nat) : Int)))]) (fun _ (s0 : List (List Int)) (g0 : Hd) w' => Cx w0 fp0 S0 w' [Es (List (List Int)) m_ m_h, E (List (List Int)) s0 g0, Es (List (List Int)) rows_ rows_h]) [] nilH e ⟨rfl, rfl, rfl, rfl, rfl, rfl, rfl, trivial⟩ (H.sel [2, 0, 1] rfl) ?_ ?_
 ·
  clear H e
  rintro T0 k3 s0 g0 w1 o0 hk (H : Cx w0 fp0 S0 w1 [Es (List (List Int)) m_ m_h, E (List (List Int)) s0 g0, Es (List (List Int)) rows_ rows_h]) f1
  refine boolE (z := true) (ltLen hk) ?_
  refine sq ?_
  refine sq ?_
  obtain ⟨a0, e, f2⟩ := bindS f1; clear f1
  have HH := H; clear H; obtain ⟨p0, m0, h0, c0, c1, c2, c3, H⟩ := HH.elL 2 rfl e; clear HH
  clear e
  refine idxE c0 c1 c2 ?_; clear c0 c1 c2
  refine load1 c3 ?_; clear c3
  obtain ⟨y0, e, f3⟩ := bindS f2; clear f2
  have i0 := e; clear e
  refine callF (spec_spSum_c p_ cols_ m_ m_h a0 h0 y0 i0) (Γi := []) H ⟨Vw.sh 1 rfl, Vw.sh 0 rfl, trivial⟩ ?_; clear H i0
  rintro _ _ w2 ⟨h1, rfl, rfl⟩ H
  refine lit1 (α := List Int) (g := h1) gok rfl rfl rfl rfl rfl H ?_; clear H; intro h2 w3 hx H
  clear hx
  obtain ⟨a1, e, f4⟩ := bindS f3; clear f3
  replace H := H.sel [3, 0, 1, 2, 4] rfl
  refine append_ (α := List Int) gok rfl rfl rfl rfl H e ?_; clear e H; intro h3 w4 H
  refine arK hk x0 ?_
  have hs := Option.some.inj f4; subst hs; clear f4
  exact ⟨h3, ⟨rfl, rfl, rfl, rfl, rfl, rfl, rfl, trivial⟩, H.sel [2, 0, 3] rfl⟩
 ·
  clear H e
  rintro T1 g1 w5 (H : Cx w0 fp0 S0 w5 [Es (List (List Int)) m_ m_h, E (List (List Int)) r0 g1, Es (List (List Int)) rows_ rows_h])
  refine boolE (z := false) geLen ?_
  refine sq ?_
  cases f0
  exact ⟨_, _, rfl, ⟨g1, rfl, rfl⟩, (H.sel [1] rfl).close ⟨cloE, trivial⟩⟩

theorem spec_ssMarkov_c (p_ : Int) (s__0 : Int) (s__1 : Int) (s__2 : Int) (s__3 : List (List Int)) (s__3h : Hd) (s__4 : List (List Int)) (s__4h : Hd) (s__5 : List (List Int)) (s__5h : Hd) (s__6 : List (List Int)) (s__6h : Hd) (n_ : Int) (y : List (Int × List (List Int))) (hF : F_spec_ssMarkov p_ (s__0, s__1, s__2, s__3, s__4, s__5, s__6) n_ = some y) :
  ConF Tryd.prog 15 #[(.int .i64 p_), (.agg #[(.int .i64 s__0), (.int .i64 s__1), (.int .i64 s__2), (s__3h).v, (s__4h).v, (s__5h).v, (s__6h).v]), (.int .i64 n_)] [Es (List (List Int)) s__3 s__3h, Es (List (List Int)) s__4 s__4h, Es (List (List Int)) s__5 s__5h, Es (List (List Int)) s__6 s__6h] [] (fun v Γ' => ∃ z0 : Hd, v = (z0).v ∧ Γ' = [E (List (Int × List (List Int))) y z0]) := by
 intro w0 S0 fp0 hI hS
 have H : Cx w0 fp0 S0 w0 [Es (List (List Int)) s__3 s__3h, Es (List (List Int)) s__4 s__4h, Es (List (List Int)) s__5 s__5h, Es (List (List Int)) s__6 s__6h] := Cx.start hI hS
 clear hI hS
 refine enterC (args := [_, _, _]) gok Tryd.func15 rfl _ rfl rfl rfl ?_
 refine box_ H ?_; clear H; intro b6 w5 hx H
 clear hx
 refine fld gok rfl rfl rfl rfl ?_
 refine load1 (H.bx 0 rfl (j := 4) rfl) ?_
 obtain ⟨y8, e, hF9⟩ := bindS hF; clear hF
 have ey8 := e; clear e
 refine callF (spec_ssCopy_c s__4 s__4h y8 ey8) (Γi := []) H ⟨Vw.sh 2 rfl, trivial⟩ ?_; clear H ey8
 rintro _ _ w1 ⟨h0, rfl, rfl⟩ H
 obtain ⟨r0, f0, f1⟩ := bindS hF9; clear hF9
 refine cut (fun (q0 : (List (Int × List (List Int))) × Hd) => [(7, (q0.2).v)]) (fun (q0 : (List (Int × List (List Int))) × Hd) w' => q0.1 = r0 ∧ Cx w0 fp0 S0 w' [E (List (Int × List (List Int))) q0.1 q0.2]) ?_ ?_
 ·
  replace H := H.nil (α := Int × List (List Int))
  refine loopW _ (fun (s0 : (List (Int × List (List Int))) × List (List Int) × Int) (g0 : Hd × Hd) => [(0, (.int .i64 p_)), (2, (.int .i64 n_)), (4, (.pointer (some ⟨b6, 0, none⟩))), (7, (g0.1).v), (8, (g0.2).v), (9, (.int .i64 s0.2.2))]) (fun (s0 : (List (Int × List (List Int))) × List (List Int) × Int) (g0 : Hd × Hd) w' => Cx w0 fp0 S0 w' [Bx b6 [(.int .i64 s__0), (.int .i64 s__1), (.int .i64 s__2), (s__3h).v, (s__4h).v, (s__5h).v, (s__6h).v], Es (List (List Int)) s__3 s__3h, Es (List (List Int)) s__4 s__4h, Es (List (List Int)) s__5 s__5h, Es (List (List Int)) s__6 s__6h, E (List (Int × List (List Int))) s0.1 g0.1, E (List (List Int)) s0.2.1 g0.2]) ([], y8, 0) (nilH, h0) f0 ⟨rfl, rfl, rfl, rfl, rfl, rfl, trivial⟩ (H.sel [2, 3, 4, 5, 6, 0, 1] rfl) ?_
  ·
   clear H
   rintro T0 ⟨s0_0, s0_1, s0_2⟩ ⟨g0_0, g0_1⟩ w2 o0 (H : Cx w0 fp0 S0 w2 [Bx b6 [(.int .i64 s__0), (.int .i64 s__1), (.int .i64 s__2), (s__3h).v, (s__4h).v, (s__5h).v, (s__6h).v], Es (List (List Int)) s__3 s__3h, Es (List (List Int)) s__4 s__4h, Es (List (List Int)) s__5 s__5h, Es (List (List Int)) s__6 s__6h, E (List (Int × List (List Int))) s0_0 g0_0, E (List (List Int)) s0_1 g0_1]) hrt f2
   refine sq ?_
   obtain ⟨a0, e, f3⟩ := bindS f2; clear f2
   refine boolO e ?_; clear e
   cases a0
   ·
    have f4 := condF f3; clear f3
    have hs := Option.some.inj f4; subst hs; clear f4
    have f5 : some _ = some _ := congrArg some (hrt _ rfl).symm
    exact ⟨(s0_0, g0_0), ⟨rfl, trivial⟩, Option.some.inj f5, H.sel [5] rfl⟩
   ·
    have f6 := condT f3; clear f3
    obtain ⟨r1, f7, f8⟩ := bindS f6; clear f6
    refine cut (fun (q1 : ((List (Int × List (List Int))) × List (List Int)) × (Hd × Hd)) => [(0, (.int .i64 p_)), (2, (.int .i64 n_)), (4, (.pointer (some ⟨b6, 0, none⟩))), (7, (q1.2.1).v), (8, (q1.2.2).v), (9, (.int .i64 s0_2))]) (fun (q1 : ((List (Int × List (List Int))) × List (List Int)) × (Hd × Hd)) w' => (q1.1.1, q1.1.2) = r1 ∧ Cx w0 fp0 S0 w' [Bx b6 [(.int .i64 s__0), (.int .i64 s__1), (.int .i64 s__2), (s__3h).v, (s__4h).v, (s__5h).v, (s__6h).v], Es (List (List Int)) s__3 s__3h, Es (List (List Int)) s__4 s__4h, Es (List (List Int)) s__5 s__5h, Es (List (List Int)) s__6 s__6h, E (List (Int × List (List Int))) q1.1.1 q1.2.1, E (List (List Int)) q1.1.2 q1.2.2]) ?_ ?_
    ·
     refine sq ?_
     obtain ⟨a1, e, f9⟩ := bindS f7; clear f7
     refine boolO e ?_; clear e
     cases a1
     ·
      have f10 := condF f9; clear f9
      refine heldX H [12, 13] (.fst 0 (.fst 1 (.fst 3 (.fst 4 (.fst 6 (.fst 7 (.fst 2 (.fst 5 (.fst 8 (.act 9 (.fst 10 (.act 11 (.act 12 (.act 13 .done)))))))))))))) mixed [] trivial (by kernel_rfl) ?_
      clear H; intro w3 H
      have hX : Ext w3 w3 := Upd.refl _ _
      have H0 := H
      refine anyH (fun _ => fld gok rfl rfl rfl rfl ⟨rfl, rfl⟩) ?_
      refine anyH (fun _ => fld gok rfl rfl rfl rfl ⟨rfl, rfl⟩) ?_
      refine anyH (fun _ => fld gok rfl rfl rfl rfl ⟨rfl, rfl⟩) ?_
      refine load1X (H.bx 0 rfl (j := 2) rfl) ?_
      refine load1X (H.bx 0 rfl (j := 2) rfl) ?_
      refine load1X (H.bx 0 rfl (j := 5) rfl) ?_
      obtain ⟨y0, e, f11⟩ := bindS f10; clear f10
      have i0 := e; clear e
      refine callFx (spec_ssTimes_c p_ s__2 s0_1 g0_1 s__5 s__5h y0 i0) H ⟨Vw.own 6 rfl, Vw.sh 3 rfl, trivial⟩ ?_; clear H i0
      rintro _ _ w4 ⟨h1, rfl, rfl⟩ hx H
      replace hX := hX.trans0 hx; clear hx
      refine hold hX ?_
      refine anyH (fun _ => build_ (cs := #[(.int .i64 s__2), (h1).v]) gok rfl rfl rfl ⟨rfl, rfl⟩) ?_
      replace H := H.sc (α := Int) s__2
      replace H := H.join (α := Int) (β := List (List Int))
      refine lit1 (α := Int × List (List Int)) (g := ((), h1)) gok rfl rfl rfl rfl rfl H ?_; clear H; intro h2 w6 hx H
      replace hX := hX.trans0 hx; clear hx
      refine hold hX ?_
      obtain ⟨a2, e, f12⟩ := bindS f11; clear f11
      replace H := H.sel [6, 0, 1, 2, 3, 4, 5, 7] rfl
      refine append_ (α := Int × List (List Int)) gok rfl rfl rfl rfl H e ?_; clear e H; intro h3 w7 H
      refine hold trivial ?_
      refine hold trivial ?_
      refine fld gok rfl rfl rfl rfl ?_
      refine load1 (H.bx 1 rfl (j := 0) rfl) ?_
      refine fld gok rfl rfl rfl rfl ?_
      refine load1 (H.bx 1 rfl (j := 3) rfl) ?_
      obtain ⟨y1, e, f13⟩ := bindS f12; clear f12
      have i1 := e; clear e
      refine callF (spec_ssTimes_c p_ s__0 s0_1 g0_1 s__3 s__3h y1 i1) (Γi := []) H ⟨Vw.own 6 rfl, Vw.sh 2 rfl, trivial⟩ ?_; clear H i1
      rintro _ _ w8 ⟨h4, rfl, rfl⟩ H
      exact ⟨((a2, y1), (h3, h4)), ⟨rfl, rfl, rfl, rfl, rfl, rfl, trivial⟩, Option.some.inj f13, H.sel [2, 3, 4, 5, 6, 1, 0] rfl⟩
     ·
      have f14 := condT f9; clear f9
      refine heldX H [8, 9] (.fst 0 (.fst 1 (.fst 3 (.fst 2 (.fst 4 (.act 5 (.fst 6 (.act 7 (.act 8 (.act 9 .done)))))))))) mixed [] trivial (by kernel_rfl) ?_
      clear H; intro w9 H
      have hX : Ext w9 w9 := Upd.refl _ _
      have H0 := H
      refine anyH (fun _ => fld gok rfl rfl rfl rfl ⟨rfl, rfl⟩) ?_
      refine anyH (fun _ => fld gok rfl rfl rfl rfl ⟨rfl, rfl⟩) ?_
      refine load1X (H.bx 0 rfl (j := 2) rfl) ?_
      refine load1X (H.bx 0 rfl (j := 6) rfl) ?_
      obtain ⟨y2, e, f15⟩ := bindS f14; clear f14
      have i2 := e; clear e
      refine callFx (spec_ssCopy_c s__6 s__6h y2 i2) H ⟨Vw.sh 4 rfl, trivial⟩ ?_; clear H i2
      rintro _ _ w11 ⟨h5, rfl, rfl⟩ hx H
      replace hX := hX.trans0 hx; clear hx
      refine hold hX ?_
      refine anyH (fun _ => build_ (cs := #[(.int .i64 s__2), (h5).v]) gok rfl rfl rfl ⟨rfl, rfl⟩) ?_
      replace H := H.sc (α := Int) s__2
      replace H := H.join (α := Int) (β := List (List Int))
      refine lit1 (α := Int × List (List Int)) (g := ((), h5)) gok rfl rfl rfl rfl rfl H ?_; clear H; intro h6 w12 hx H
      replace hX := hX.trans0 hx; clear hx
      refine hold hX ?_
      obtain ⟨a3, e, f16⟩ := bindS f15; clear f15
      replace H := H.sel [6, 0, 1, 2, 3, 4, 5, 7] rfl
      refine append_ (α := Int × List (List Int)) gok rfl rfl rfl rfl H e ?_; clear e H; intro h7 w13 H
      refine hold trivial ?_
      refine hold trivial ?_
      exact ⟨((a3, s0_1), (h7, g0_1)), ⟨rfl, rfl, rfl, rfl, rfl, rfl, trivial⟩, Option.some.inj f16, H.sel [1, 2, 3, 4, 5, 0, 6] rfl⟩
    ·
     clear f7 H
     rintro T1 ⟨⟨s1_0, s1_1⟩, ⟨g1_0, g1_1⟩⟩ w14 ⟨hr, (H : Cx w0 fp0 S0 w14 [Bx b6 [(.int .i64 s__0), (.int .i64 s__1), (.int .i64 s__2), (s__3h).v, (s__4h).v, (s__5h).v, (s__6h).v], Es (List (List Int)) s__3 s__3h, Es (List (List Int)) s__4 s__4h, Es (List (List Int)) s__5 s__5h, Es (List (List Int)) s__6 s__6h, E (List (Int × List (List Int))) s1_0 g1_0, E (List (List Int)) s1_1 g1_1])⟩
     subst hr
     obtain ⟨a4, e, f17⟩ := bindS f8; clear f8
     refine arO e ?_; clear e
     have hs := Option.some.inj f17; subst hs; clear f17
     exact ⟨(s1_0, s1_1, a4), (g1_0, g1_1), rfl, ⟨rfl, rfl, rfl, rfl, rfl, rfl, trivial⟩, H.sel [0, 1, 2, 3, 4, 5, 6] rfl⟩
 ·
  clear f0 H
  rintro T2 ⟨s2, g2⟩ w15 ⟨hr, (H : Cx w0 fp0 S0 w15 [E (List (Int × List (List Int))) s2 g2])⟩
  subst hr
  cases f1
  exact ⟨_, _, rfl, ⟨g2, rfl, rfl⟩, (H.sel [0] rfl).close ⟨cloE, trivial⟩⟩

theorem spec_fdInv_c (p_ : Int) (a_ : Int) (y : Int) (hF : F_spec_fdInv p_ a_ = some y) :
  ConF Tryd.prog 53 #[(.int .i64 p_), (.int .i64 a_)] [] [] (fun v Γ' => v = (.int .i64 y) ∧ Γ' = []) := by
 intro w0 S0 fp0 hI hS
 have H : Cx w0 fp0 S0 w0 [] := Cx.start hI hS
 clear hI hS
 refine enterC (args := [_, _]) gok Tryd.func53 rfl _ rfl rfl rfl ?_
 obtain ⟨r0, f0, f1⟩ := bindS hF; clear hF
 refine cut (fun (q0 : Unit) => []) (fun (q0 : Unit) w' => .inl () = r0 ∧ Cx w0 fp0 S0 w' []) ?_ ?_
 ·
  refine loopW _ (fun (s0 : Int) (_ : Unit) => [(0, (.int .i64 p_)), (1, (.int .i64 a_)), (5, (.int .i64 s0))]) (fun (s0 : Int) (_ : Unit) w' => Cx w0 fp0 S0 w' []) 1 () f0 ⟨rfl, rfl, rfl, trivial⟩ (H.sel [] rfl) ?_
  ·
   clear H
   rintro T0 s0 _ w1 o0 (H : Cx w0 fp0 S0 w1 []) hrt f2
   refine sq ?_
   obtain ⟨a0, e, f3⟩ := bindS f2; clear f2
   refine boolO e ?_; clear e
   cases a0
   ·
    have f4 := condF f3; clear f3
    have hs := Option.some.inj f4; subst hs; clear f4
    have f5 : some _ = some _ := congrArg some (hrt _ rfl).symm
    exact ⟨(), trivial, Option.some.inj f5, H.sel [] rfl⟩
   ·
    have f6 := condT f3; clear f3
    refine sq ?_
    obtain ⟨a1, e, f7⟩ := bindS f6; clear f6
    refine arO e ?_; clear e
    obtain ⟨a2, e, f8⟩ := bindS f7; clear f7
    refine remO_ e ?_; clear e
    obtain ⟨a3, e, f9⟩ := bindS f8; clear f8
    refine boolO e ?_; clear e
    cases a3
    ·
     have f10 := condF f9; clear f9
     obtain ⟨a4, e, f11⟩ := bindS f10; clear f10
     refine arO e ?_; clear e
     have hs := Option.some.inj f11; subst hs; clear f11
     exact ⟨a4, (), rfl, ⟨rfl, rfl, rfl, trivial⟩, H.sel [] rfl⟩
    ·
     have f12 := condT f9; clear f9
     have hs := Option.some.inj f12; subst hs; clear f12
     have f13 : some _ = some _ := congrArg some (hrt _ rfl).symm
     have hs := Option.some.inj f13; subst hs; clear f13
     have f14 : some _ = some _ := f1; clear f1
     cases f14
     exact ⟨_, _, rfl, ⟨rfl, rfl⟩, (H.sel [] rfl).close trivial⟩
 ·
  clear f0 H
  rintro T1 _ w2 ⟨hr, (H : Cx w0 fp0 S0 w2 [])⟩
  subst hr
  cases f1
  exact ⟨_, _, rfl, ⟨rfl, rfl⟩, (H.sel [] rfl).close trivial⟩

theorem spec_fdMul_c (p_ : Int) (a_ : Int) (b_ : Int) (y : Int) (hF : F_spec_fdMul p_ a_ b_ = some y) :
  ConF Tryd.prog 69 #[(.int .i64 p_), (.int .i64 a_), (.int .i64 b_)] [] [] (fun v Γ' => v = (.int .i64 y) ∧ Γ' = []) := by
 intro w0 S0 fp0 hI hS
 have H : Cx w0 fp0 S0 w0 [] := Cx.start hI hS
 clear hI hS
 refine enterC (args := [_, _, _]) gok Tryd.func69 rfl _ rfl rfl rfl ?_
 obtain ⟨a1, e, hF2⟩ := bindS hF; clear hF
 refine arO e ?_; clear e
 obtain ⟨a3, e, hF4⟩ := bindS hF2; clear hF2
 refine remO_ e ?_; clear e
 cases hF4
 exact ⟨_, _, rfl, ⟨rfl, rfl⟩, (H.sel [] rfl).close trivial⟩

theorem spec_fdSub_c (p_ : Int) (a_ : Int) (b_ : Int) (y : Int) (hF : F_spec_fdSub p_ a_ b_ = some y) :
  ConF Tryd.prog 70 #[(.int .i64 p_), (.int .i64 a_), (.int .i64 b_)] [] [] (fun v Γ' => v = (.int .i64 y) ∧ Γ' = []) := by
 intro w0 S0 fp0 hI hS
 have H : Cx w0 fp0 S0 w0 [] := Cx.start hI hS
 clear hI hS
 refine enterC (args := [_, _, _]) gok Tryd.func70 rfl _ rfl rfl rfl ?_
 obtain ⟨a1, e, hF2⟩ := bindS hF; clear hF
 refine arO e ?_; clear e
 obtain ⟨a3, e, hF4⟩ := bindS hF2; clear hF2
 refine arO e ?_; clear e
 obtain ⟨a5, e, hF6⟩ := bindS hF4; clear hF4
 refine remO_ e ?_; clear e
 cases hF6
 exact ⟨_, _, rfl, ⟨rfl, rfl⟩, (H.sel [] rfl).close trivial⟩

theorem spec_spReduce_c (p_ : Int) (size_ : Int) (rows_ : List (List Int)) (rows_h : Hd) (y : List (List Int)) (hF : F_spec_spReduce p_ size_ rows_ = some y) :
  ConF Tryd.prog 65 #[(.int .i64 p_), (.int .i64 size_), (rows_h).v] [Es (List (List Int)) rows_ rows_h] [] (fun v Γ' => ∃ z0 : Hd, v = (z0).v ∧ Γ' = [E (List (List Int)) y z0]) := by
 intro w0 S0 fp0 hI hS
 have H : Cx w0 fp0 S0 w0 [Es (List (List Int)) rows_ rows_h] := Cx.start hI hS
 clear hI hS
 refine enterC (args := [_, _, _]) gok Tryd.func65 rfl _ rfl rfl rfl ?_
 refine sq ?_
 refine lenE (H.rs (α := List (List Int)) 0 rfl).len ?_
 have x0 := (H.rs (α := List (List Int)) 0 rfl).max
 obtain ⟨r0, e, f0⟩ := bindS hF; clear hF
 replace H := H.nil (α := List Int)
 refine loopS _ rows_.length (fun (k2 : Nat) (s0 : List (List Int)) (g0 : Hd) => [(0, (.int .i64 p_)), (1, (.int .i64 size_)), (7, (g0).v), (19, (rows_h).v), (20, (.int .i64 ((rows_.length : Nat) : Int))), (21, (.int .i64 ((k2 : Nat) : Int)))]) (fun _ (s0 : List (List Int)) (g0 : Hd) w' => Cx w0 fp0 S0 w' [E (List (List Int)) s0 g0, Es (List (List Int)) rows_ rows_h]) [] nilH e ⟨rfl, rfl, rfl, rfl, rfl, rfl, trivial⟩ (H.sel [0, 1] rfl) ?_ ?_
 ·
  clear H e
  rintro T0 k2 s0 g0 w1 o0 hk (H : Cx w0 fp0 S0 w1 [E (List (List Int)) s0 g0, Es (List (List Int)) rows_ rows_h]) f1
  refine boolE (z := true) (ltLen hk) ?_
  refine sq ?_
  refine sq ?_
  obtain ⟨a0, e, f2⟩ := bindS f1; clear f1
  have HH := H; clear H; obtain ⟨p0, m0, h0, c0, c1, c2, c3, H⟩ := HH.elL 1 rfl e; clear HH
  clear e
  refine idxE c0 c1 c2 ?_; clear c0 c1 c2
  refine load1 c3 ?_; clear c3
  obtain ⟨y0, e, f3⟩ := bindS f2; clear f2
  have i0 := e; clear e
  refine callF (spec_l1Own_c a0 h0 y0 i0) (Γi := []) H ⟨Vw.sh 0 rfl, trivial⟩ ?_; clear H i0
  rintro _ _ w2 ⟨h1, rfl, rfl⟩ H
  refine lit1 (α := List Int) (g := h1) gok rfl rfl rfl rfl rfl H ?_; clear H; intro h2 w3 hx H
  clear hx
  obtain ⟨a1, e, f4⟩ := bindS f3; clear f3
  replace H := H.sel [2, 0, 1, 3] rfl
  refine append_ (α := List Int) gok rfl rfl rfl rfl H e ?_; clear e H; intro h3 w4 H
  refine arK hk x0 ?_
  have hs := Option.some.inj f4; subst hs; clear f4
  exact ⟨h3, ⟨rfl, rfl, rfl, rfl, rfl, rfl, trivial⟩, H.sel [0, 2] rfl⟩
 ·
  clear H e
  rintro T1 g1 w5 (H : Cx w0 fp0 S0 w5 [E (List (List Int)) r0 g1, Es (List (List Int)) rows_ rows_h])
  refine boolE (z := false) geLen ?_
  refine sq ?_
  obtain ⟨r1, f5, f6⟩ := bindS f0; clear f0
  refine cut (fun (q0 : List (List Int) × Int) => [(7, (g1).v), (10, (.int .i64 q0.2))]) (fun (q0 : List (List Int) × Int) w' => (q0.1, q0.2) = r1 ∧ Cx w0 fp0 S0 w' [E (List (List Int)) q0.1 g1]) ?_ ?_
  ·
   refine loopW _ (fun (s1 : List (List Int) × Int × Int) (_ : Unit) => [(0, (.int .i64 p_)), (1, (.int .i64 size_)), (7, (g1).v), (10, (.int .i64 s1.2.1)), (11, (.int .i64 s1.2.2))]) (fun (s1 : List (List Int) × Int × Int) (_ : Unit) w' => Cx w0 fp0 S0 w' [E (List (List Int)) s1.1 g1]) (r0, 0, 0) () f5 ⟨rfl, rfl, rfl, rfl, rfl, trivial⟩ (H.sel [0] rfl) ?_
   ·
    clear H
    rintro T2 ⟨s1_0, s1_1, s1_2⟩ _ w6 o1 (H : Cx w0 fp0 S0 w6 [E (List (List Int)) s1_0 g1]) hrt f7
    refine sq ?_
    obtain ⟨r2, f8, f9⟩ := bindS f7; clear f7
    refine cut (fun (q1 : Bool) => [(0, (.int .i64 p_)), (1, (.int .i64 size_)), (7, (g1).v), (10, (.int .i64 s1_1)), (11, (.int .i64 s1_2)), (39, (.bool q1))]) (fun (q1 : Bool) w' => q1 = r2 ∧ Cx w0 fp0 S0 w' [E (List (List Int)) s1_0 g1]) ?_ ?_
    ·
     obtain ⟨a2, e, f10⟩ := bindS f8; clear f8
     refine boolO e ?_; clear e
     cases a2
     ·
      have f11 := condF f10; clear f10
      exact ⟨false, ⟨rfl, rfl, rfl, rfl, rfl, rfl, trivial⟩, Option.some.inj f11, H.sel [0] rfl⟩
     ·
      have f12 := condT f10; clear f10
      refine lenE (H.ro (α := List (List Int)) 0 rfl).len ?_
      obtain ⟨a3, e, f13⟩ := bindS f12; clear f12
      refine boolO e ?_; clear e
      exact ⟨a3, ⟨rfl, rfl, rfl, rfl, rfl, rfl, trivial⟩, Option.some.inj f13, H.sel [0] rfl⟩
    ·
     clear f8 H
     rintro T3 s2 w7 ⟨hr, (H : Cx w0 fp0 S0 w7 [E (List (List Int)) s1_0 g1])⟩
     subst hr
     cases s2
     ·
      have f14 := condF f9; clear f9
      have hs := Option.some.inj f14; subst hs; clear f14
      have f15 : some _ = some _ := congrArg some (hrt _ rfl).symm
      exact ⟨(s1_0, s1_1), ⟨rfl, rfl, trivial⟩, Option.some.inj f15, H.sel [0] rfl⟩
     ·
      have f16 := condT f9; clear f9
      obtain ⟨r3, f17, f18⟩ := bindS f16; clear f16
      refine cut (fun (q2 : List (List Int) × Int) => [(0, (.int .i64 p_)), (1, (.int .i64 size_)), (7, (g1).v), (10, (.int .i64 q2.2)), (11, (.int .i64 s1_2))]) (fun (q2 : List (List Int) × Int) w' => (q2.1, q2.2) = r3 ∧ Cx w0 fp0 S0 w' [E (List (List Int)) q2.1 g1]) ?_ ?_
      ·
       obtain ⟨r4, f19, f20⟩ := bindS f17; clear f17
       refine cut (fun (q3 : Int) => [(0, (.int .i64 p_)), (1, (.int .i64 size_)), (7, (g1).v), (10, (.int .i64 s1_1)), (11, (.int .i64 s1_2)), (12, (.int .i64 q3))]) (fun (q3 : Int) w' => q3 = r4 ∧ Cx w0 fp0 S0 w' [E (List (List Int)) s1_0 g1]) ?_ ?_
       ·
        refine loopW _ (fun (s3 : Int) (_ : Unit) => [(0, (.int .i64 p_)), (1, (.int .i64 size_)), (7, (g1).v), (10, (.int .i64 s1_1)), (11, (.int .i64 s1_2)), (12, (.int .i64 s3))]) (fun (s3 : Int) (_ : Unit) w' => Cx w0 fp0 S0 w' [E (List (List Int)) s1_0 g1]) s1_1 () f19 ⟨rfl, rfl, rfl, rfl, rfl, rfl, trivial⟩ (H.sel [0] rfl) ?_
        ·
         clear H
         rintro T4 s3 _ w8 o2 (H : Cx w0 fp0 S0 w8 [E (List (List Int)) s1_0 g1]) hrt f21
         refine sq ?_
         obtain ⟨r5, f22, f23⟩ := bindS f21; clear f21
         refine cut (fun (q4 : Bool) => [(0, (.int .i64 p_)), (1, (.int .i64 size_)), (7, (g1).v), (10, (.int .i64 s1_1)), (11, (.int .i64 s1_2)), (12, (.int .i64 s3)), (56, (.bool q4))]) (fun (q4 : Bool) w' => q4 = r5 ∧ Cx w0 fp0 S0 w' [E (List (List Int)) s1_0 g1]) ?_ ?_
         ·
          refine lenE (H.ro (α := List (List Int)) 0 rfl).len ?_
          obtain ⟨a4, e, f24⟩ := bindS f22; clear f22
          refine boolO e ?_; clear e
          cases a4
          ·
           have f25 := condF f24; clear f24
           exact ⟨false, ⟨rfl, rfl, rfl, rfl, rfl, rfl, rfl, trivial⟩, Option.some.inj f25, H.sel [0] rfl⟩
          ·
           have f26 := condT f24; clear f24
           obtain ⟨a5, e, f27⟩ := bindS f26; clear f26
           replace H := H.toEH (α := List Int)
           have HH := H; clear H; obtain ⟨p1, m1, h4, c4, c5, c6, c7, H⟩ := HH.peekL e; clear HH
           clear e
           refine idxE c4 c5 c6 ?_
           refine load1 c7 ?_; clear c7
           obtain ⟨a6, e, f28⟩ := bindS f27; clear f27
           obtain ⟨p2, m2, c8, c9, c10, c11⟩ := (H.rh (α := List Int) 0 rfl 0 rfl).at1 e; clear e
           refine idxE c8 c9 c10 ?_; clear c8 c9 c10
           refine load1 c11 ?_; clear c11
           obtain ⟨a7, e, f29⟩ := bindS f28; clear f28
           refine boolO e ?_; clear e
           replace H := H.ofEH
           exact ⟨a7, ⟨rfl, rfl, rfl, rfl, rfl, rfl, rfl, trivial⟩, Option.some.inj f29, H.sel [0] rfl⟩
         ·
          clear f22 H
          rintro T5 s4 w9 ⟨hr, (H : Cx w0 fp0 S0 w9 [E (List (List Int)) s1_0 g1])⟩
          subst hr
          cases s4
          ·
           have f30 := condF f23; clear f23
           have hs := Option.some.inj f30; subst hs; clear f30
           have f31 : some _ = some _ := congrArg some (hrt _ rfl).symm
           exact ⟨s3, ⟨rfl, rfl, rfl, rfl, rfl, rfl, trivial⟩, Option.some.inj f31, H.sel [0] rfl⟩
          ·
           have f32 := condT f23; clear f23
           obtain ⟨a8, e, f33⟩ := bindS f32; clear f32
           refine arO e ?_; clear e
           have hs := Option.some.inj f33; subst hs; clear f33
           exact ⟨a8, (), rfl, ⟨rfl, rfl, rfl, rfl, rfl, rfl, trivial⟩, H.sel [0] rfl⟩
       ·
        clear f19 H
        rintro T6 s5 w10 ⟨hr, (H : Cx w0 fp0 S0 w10 [E (List (List Int)) s1_0 g1])⟩
        subst hr
        refine sq ?_
        refine lenE (H.ro (α := List (List Int)) 0 rfl).len ?_
        obtain ⟨a9, e, f34⟩ := bindS f20; clear f20
        refine boolO e ?_; clear e
        cases a9
        ·
         have f35 := condF f34; clear f34
         obtain ⟨a10, e, f36⟩ := bindS f35; clear f35
         replace H := H.toEH (α := List Int)
         have HH := H; clear H; obtain ⟨p3, m3, h5, c12, c13, c14, c15, H⟩ := HH.peekL e; clear HH
         clear e
         refine idxE c12 c13 c14 ?_
         refine load1 c15 ?_; clear c15
         obtain ⟨a11, e, f37⟩ := bindS f36; clear f36
         have HH := H; clear H; obtain ⟨p4, m4, h6, c16, c17, c18, c19, H⟩ := HH.peekL e; clear HH
         clear e
         refine idxE c16 c17 c18 ?_
         refine load1 c19 ?_; clear c19
         refine idxE c12 c13 c14 ?_
         refine stZ1 (ki := 1) (kj := 0) H rfl rfl c12 ?_; clear H; intro w11 H
         refine idxE c16 c17 c18 ?_
         obtain ⟨a12, e, f38⟩ := bindS f37; clear f37
         refine stZ2 H c13 c17 c16 e ?_; clear H e; intro w12 H
         obtain ⟨a13, e, f39⟩ := bindS f38; clear f38
         replace H := H.toEH (α := List Int)
         have HH := H; clear H; obtain ⟨p5, m5, h7, c20, c21, c22, c23, H⟩ := HH.peekL e; clear HH
         clear e
         refine idxE c20 c21 c22 ?_
         refine load1 c23 ?_; clear c23
         obtain ⟨a14, e, f40⟩ := bindS f39; clear f39
         obtain ⟨p6, m6, c24, c25, c26, c27⟩ := (H.rh (α := List Int) 0 rfl 0 rfl).at1 e; clear e
         refine idxE c24 c25 c26 ?_; clear c24 c25 c26
         refine load1 c27 ?_; clear c27
         obtain ⟨y1, e, f41⟩ := bindS f40; clear f40
         have i1 := e; clear e
         refine callF (spec_fdInv_c p_ a14 y1 i1) (Γi := []) H trivial ?_; clear H i1
         rintro _ _ w13 ⟨rfl, rfl⟩ H
         refine sq ?_
         obtain ⟨a15, e, f42⟩ := bindS f41; clear f41
         have HH := H; clear H; obtain ⟨p7, m7, h8, c28, c29, c30, c31, H⟩ := HH.peekL e; clear HH
         clear e
         refine idxE c28 c29 c30 ?_
         refine load1 c31 ?_; clear c31
         have x1 := (H.rh (α := List Int) 0 rfl 0 rfl).max
         refine lenE (H.rh (α := List Int) 0 rfl 0 rfl).len ?_
         replace H := H.ofEH
         obtain ⟨r6, e, f43⟩ := bindS f42; clear f42
         refine loopS _ a15.length (fun (k0 : Nat) (s6 : List (List Int)) (_ : Unit) => [(0, (.int .i64 p_)), (1, (.int .i64 size_)), (7, (g1).v), (10, (.int .i64 s1_1)), (11, (.int .i64 s1_2)), (14, (.int .i64 y1)), (91, (.int .i64 ((a15.length : Nat) : Int))), (92, (.int .i64 ((k0 : Nat) : Int)))]) (fun _ (s6 : List (List Int)) (_ : Unit) w' => Cx w0 fp0 S0 w' [E (List (List Int)) s6 g1]) a12 () e ⟨rfl, rfl, rfl, rfl, rfl, rfl, rfl, rfl, trivial⟩ (H.sel [0] rfl) ?_ ?_
         ·
          clear H e
          rintro T7 k0 s6 _ w14 o3 hk (H : Cx w0 fp0 S0 w14 [E (List (List Int)) s6 g1]) f44
          refine boolE (z := true) (ltLen hk) ?_
          refine sq ?_
          refine sq ?_
          refine heldX H [16] (.fst 0 (.fst 1 (.fst 2 (.fst 4 (.fst 5 (.fst 6 (.fst 7 (.fst 8 (.fst 10 (.fst 13 (.fst 3 (.fst 9 (.fst 11 (.fst 12 (.act 14 (.fst 15 (.act 16 .done))))))))))))))))) mixed [] trivial (by kernel_rfl) ?_
          clear H; intro w15 H
          have hX : Ext w15 w15 := Upd.refl _ _
          have H0 := H
          obtain ⟨a16, e, f45⟩ := bindS f44; clear f44
          replace H := H.toEH (α := List Int)
          have HH := H; clear H; obtain ⟨p8, m8, h9, c32, c33, c34, c35, H⟩ := HH.peekL e; clear HH
          clear e
          refine idxE c32 c33 c34 ?_
          obtain ⟨a17, e, f46⟩ := bindS f45; clear f45
          have HH := H; clear H; obtain ⟨p9, m9, h10, c36, c37, c38, c39, H⟩ := HH.peekL e; clear HH
          clear e
          refine idxE c36 c37 c38 ?_
          refine load1X c35 ?_; clear c35
          refine load1X c39 ?_; clear c39
          obtain ⟨a18, e, f47⟩ := bindS f46; clear f46
          obtain ⟨p10, m10, c40, c41, c42, c43⟩ := (H.rh (α := List Int) 0 rfl 0 rfl).at1 e; clear e
          refine idxE c40 c41 c42 ?_; clear c40 c41 c42
          refine load1X c43 ?_; clear c43
          obtain ⟨y2, e, f48⟩ := bindS f47; clear f47
          have i2 := e; clear e
          refine callFx (spec_fdMul_c p_ a18 y1 y2 i2) H trivial ?_; clear H i2
          rintro _ _ w16 ⟨rfl, rfl⟩ hx H
          replace hX := hX.trans0 hx; clear hx
          refine hold hX ?_
          replace H := H.takeK 1 rfl
          obtain ⟨a19, e, f49⟩ := bindS f48; clear f48
          have i3 := e; clear e
          obtain ⟨p11, m11, c44, c45, c46⟩ := (H.ro (α := List Int) 0 rfl).setp i3
          refine idxE c44 c45 c46 ?_
          refine setS (α := Int) H c44 c45 i3 ?_; clear H c44 c45 c46 i3; intro w17 H
          obtain ⟨a20, e, f50⟩ := bindS f49; clear f49
          replace H := H.put c33 e; clear e
          refine hold trivial ?_
          refine arK hk x1 ?_
          have hs := Option.some.inj f50; subst hs; clear f50
          exact ⟨(), ⟨rfl, rfl, rfl, rfl, rfl, rfl, rfl, rfl, trivial⟩, H.sel [0] rfl⟩
         ·
          clear H e
          rintro T8 _ w18 (H : Cx w0 fp0 S0 w18 [E (List (List Int)) r6 g1])
          refine boolE (z := false) geLen ?_
          refine sq ?_
          refine sq ?_
          refine lenE (H.ro (α := List (List Int)) 0 rfl).len ?_
          have x2 := (H.ro (α := List (List Int)) 0 rfl).max
          obtain ⟨r7, e, f51⟩ := bindS f43; clear f43
          refine loopS _ r6.length (fun (k1 : Nat) (s7 : List (List Int)) (_ : Unit) => [(0, (.int .i64 p_)), (1, (.int .i64 size_)), (7, (g1).v), (10, (.int .i64 s1_1)), (11, (.int .i64 s1_2)), (113, (.int .i64 ((r6.length : Nat) : Int))), (114, (.int .i64 ((k1 : Nat) : Int)))]) (fun _ (s7 : List (List Int)) (_ : Unit) w' => Cx w0 fp0 S0 w' [E (List (List Int)) s7 g1]) r6 () e ⟨rfl, rfl, rfl, rfl, rfl, rfl, rfl, trivial⟩ (H.sel [0] rfl) ?_ ?_
          ·
           clear H e
           rintro T9 k1 s7 _ w19 o4 hk (H : Cx w0 fp0 S0 w19 [E (List (List Int)) s7 g1]) f52
           refine boolE (z := true) (ltLen hk) ?_
           refine sq ?_
           obtain ⟨r8, f53, f54⟩ := bindS f52; clear f52
           refine cut (fun (q5 : List (List Int)) => [(0, (.int .i64 p_)), (1, (.int .i64 size_)), (7, (g1).v), (10, (.int .i64 s1_1)), (11, (.int .i64 s1_2)), (113, (.int .i64 ((r6.length : Nat) : Int))), (114, (.int .i64 ((k1 : Nat) : Int)))]) (fun (q5 : List (List Int)) w' => q5 = r8 ∧ Cx w0 fp0 S0 w' [E (List (List Int)) q5 g1]) ?_ ?_
           ·
            refine sq ?_
            obtain ⟨r9, f55, f56⟩ := bindS f53; clear f53
            refine cut (fun (q6 : Bool) => [(0, (.int .i64 p_)), (1, (.int .i64 size_)), (7, (g1).v), (10, (.int .i64 s1_1)), (11, (.int .i64 s1_2)), (16, (.int .i64 ((k1 : Nat) : Int))), (113, (.int .i64 ((r6.length : Nat) : Int))), (114, (.int .i64 ((k1 : Nat) : Int))), (129, (.bool q6))]) (fun (q6 : Bool) w' => q6 = r9 ∧ Cx w0 fp0 S0 w' [E (List (List Int)) s7 g1]) ?_ ?_
            ·
             obtain ⟨a21, e, f57⟩ := bindS f55; clear f55
             refine boolO e ?_; clear e
             cases a21
             ·
              have f58 := condF f57; clear f57
              obtain ⟨a22, e, f59⟩ := bindS f58; clear f58
              replace H := H.toEH (α := List Int)
              have HH := H; clear H; obtain ⟨p12, m12, h11, c47, c48, c49, c50, H⟩ := HH.peekL e; clear HH
              clear e
              refine idxE c47 c48 c49 ?_
              refine load1 c50 ?_; clear c50
              obtain ⟨a23, e, f60⟩ := bindS f59; clear f59
              obtain ⟨p13, m13, c51, c52, c53, c54⟩ := (H.rh (α := List Int) 0 rfl 0 rfl).at1 e; clear e
              refine idxE c51 c52 c53 ?_; clear c51 c52 c53
              refine load1 c54 ?_; clear c54
              obtain ⟨a24, e, f61⟩ := bindS f60; clear f60
              refine boolO e ?_; clear e
              replace H := H.ofEH
              exact ⟨a24, ⟨rfl, rfl, rfl, rfl, rfl, rfl, rfl, rfl, rfl, trivial⟩, Option.some.inj f61, H.sel [0] rfl⟩
             ·
              have f62 := condT f57; clear f57
              exact ⟨true, ⟨rfl, rfl, rfl, rfl, rfl, rfl, rfl, rfl, rfl, trivial⟩, Option.some.inj f62, H.sel [0] rfl⟩
            ·
             clear f55 H
             rintro T10 s8 w20 ⟨hr, (H : Cx w0 fp0 S0 w20 [E (List (List Int)) s7 g1])⟩
             subst hr
             cases s8
             ·
              have f63 := condF f56; clear f56
              obtain ⟨a25, e, f64⟩ := bindS f63; clear f63
              replace H := H.toEH (α := List Int)
              have HH := H; clear H; obtain ⟨p14, m14, h12, c55, c56, c57, c58, H⟩ := HH.peekL e; clear HH
              clear e
              refine idxE c55 c56 c57 ?_
              refine load1 c58 ?_; clear c58
              obtain ⟨a26, e, f65⟩ := bindS f64; clear f64
              obtain ⟨p15, m15, c59, c60, c61, c62⟩ := (H.rh (α := List Int) 0 rfl 0 rfl).at1 e; clear e
              refine idxE c59 c60 c61 ?_; clear c59 c60 c61
              refine load1 c62 ?_; clear c62
              replace H := H.ofEH
              obtain ⟨a27, e, f66⟩ := bindS f65; clear f65
              replace H := H.toEH (α := List Int)
              have HH := H; clear H; obtain ⟨p16, m16, h13, c63, c64, c65, c70, H⟩ := HH.peekL e; clear HH
              clear e
              refine idxE c63 c64 c65 ?_
              refine load1 c70 ?_; clear c70
              have x3 := (H.rh (α := List Int) 0 rfl 0 rfl).max
              refine lenE (H.rh (α := List Int) 0 rfl 0 rfl).len ?_
              replace H := H.ofEH
              obtain ⟨r10, e, f67⟩ := bindS f66; clear f66
              refine loopS _ a27.length (fun (k3 : Nat) (s9 : List (List Int)) (_ : Unit) => [(0, (.int .i64 p_)), (1, (.int .i64 size_)), (7, (g1).v), (10, (.int .i64 s1_1)), (11, (.int .i64 s1_2)), (16, (.int .i64 ((k1 : Nat) : Int))), (17, (.int .i64 a26)), (113, (.int .i64 ((r6.length : Nat) : Int))), (114, (.int .i64 ((k1 : Nat) : Int))), (141, (.int .i64 ((a27.length : Nat) : Int))), (142, (.int .i64 ((k3 : Nat) : Int)))]) (fun _ (s9 : List (List Int)) (_ : Unit) w' => Cx w0 fp0 S0 w' [E (List (List Int)) s9 g1]) s7 () e ⟨rfl, rfl, rfl, rfl, rfl, rfl, rfl, rfl, rfl, rfl, rfl, trivial⟩ (H.sel [0] rfl) ?_ ?_
              ·
               clear H e
               rintro T11 k3 s9 _ w21 o5 hk (H : Cx w0 fp0 S0 w21 [E (List (List Int)) s9 g1]) f68
               refine boolE (z := true) (ltLen hk) ?_
               refine sq ?_
               refine sq ?_
               refine heldX H [25] (.fst 0 (.fst 1 (.fst 2 (.fst 4 (.fst 5 (.fst 6 (.fst 7 (.fst 8 (.fst 10 (.fst 13 (.fst 14 (.fst 15 (.fst 16 (.fst 17 (.fst 19 (.fst 3 (.fst 9 (.fst 11 (.fst 12 (.fst 18 (.fst 20 (.fst 21 (.act 22 (.act 23 (.fst 24 (.act 25 .done)))))))))))))))))))))))))) mixed [] trivial (by kernel_rfl) ?_
               clear H; intro w22 H
               have hX : Ext w22 w22 := Upd.refl _ _
               have H0 := H
               obtain ⟨a28, e, f69⟩ := bindS f68; clear f68
               replace H := H.toEH (α := List Int)
               have HH := H; clear H; obtain ⟨p17, m17, h14, c71, c72, c73, c74, H⟩ := HH.peekL e; clear HH
               clear e
               refine idxE c71 c72 c73 ?_
               obtain ⟨a29, e, f70⟩ := bindS f69; clear f69
               have HH := H; clear H; obtain ⟨p18, m18, h15, c75, c76, c77, c78, H⟩ := HH.peekL e; clear HH
               clear e
               refine idxE c75 c76 c77 ?_
               obtain ⟨a30, e, f71⟩ := bindS f70; clear f70
               have HH := H; clear H; obtain ⟨p19, m19, h16, c79, c80, c81, c82, H⟩ := HH.peekL e; clear HH
               clear e
               refine idxE c79 c80 c81 ?_
               refine load1X c74 ?_; clear c74
               refine load1X c78 ?_; clear c78
               obtain ⟨a31, e, f72⟩ := bindS f71; clear f71
               obtain ⟨p20, m20, c83, c84, c85, c86⟩ := (H.rh (α := List Int) 0 rfl 1 rfl).at1 e; clear e
               refine idxE c83 c84 c85 ?_; clear c83 c84 c85
               refine load1X c86 ?_; clear c86
               refine load1X c82 ?_; clear c82
               obtain ⟨a32, e, f73⟩ := bindS f72; clear f72
               obtain ⟨p21, m21, c87, c88, c89, c90⟩ := (H.rh (α := List Int) 0 rfl 0 rfl).at1 e; clear e
               refine idxE c87 c88 c89 ?_; clear c87 c88 c89
               refine load1X c90 ?_; clear c90
               obtain ⟨y3, e, f74⟩ := bindS f73; clear f73
               have i4 := e; clear e
               refine callFx (spec_fdMul_c p_ a26 a32 y3 i4) H trivial ?_; clear H i4
               rintro _ _ w23 ⟨rfl, rfl⟩ hx H
               replace hX := hX.trans0 hx; clear hx
               refine hold hX ?_
               obtain ⟨y4, e, f75⟩ := bindS f74; clear f74
               have i5 := e; clear e
               refine callFx (spec_fdSub_c p_ a31 y3 y4 i5) H trivial ?_; clear H i5
               rintro _ _ w24 ⟨rfl, rfl⟩ hx H
               replace hX := hX.trans0 hx; clear hx
               refine hold hX ?_
               replace H := H.takeK 2 rfl
               obtain ⟨a33, e, f76⟩ := bindS f75; clear f75
               have i6 := e; clear e
               obtain ⟨p22, m22, c91, c92, c93⟩ := (H.ro (α := List Int) 0 rfl).setp i6
               refine idxE c91 c92 c93 ?_
               refine setS (α := Int) H c91 c92 i6 ?_; clear H c91 c92 c93 i6; intro w25 H
               obtain ⟨a34, e, f77⟩ := bindS f76; clear f76
               replace H := H.put c72 e; clear e
               refine hold trivial ?_
               refine arK hk x3 ?_
               have hs := Option.some.inj f77; subst hs; clear f77
               exact ⟨(), ⟨rfl, rfl, rfl, rfl, rfl, rfl, rfl, rfl, rfl, rfl, rfl, trivial⟩, H.sel [0] rfl⟩
              ·
               clear H e
               rintro T12 _ w26 (H : Cx w0 fp0 S0 w26 [E (List (List Int)) r10 g1])
               refine boolE (z := false) geLen ?_
               refine sq ?_
               exact ⟨r10, ⟨rfl, rfl, rfl, rfl, rfl, rfl, rfl, trivial⟩, Option.some.inj f67, H.sel [0] rfl⟩
             ·
              have f78 := condT f56; clear f56
              exact ⟨s7, ⟨rfl, rfl, rfl, rfl, rfl, rfl, rfl, trivial⟩, Option.some.inj f78, H.sel [0] rfl⟩
           ·
            clear f53 H
            rintro T13 s10 w27 ⟨hr, (H : Cx w0 fp0 S0 w27 [E (List (List Int)) s10 g1])⟩
            subst hr
            refine arK hk x2 ?_
            have hs := Option.some.inj f54; subst hs; clear f54
            exact ⟨(), ⟨rfl, rfl, rfl, rfl, rfl, rfl, rfl, trivial⟩, H.sel [0] rfl⟩
          ·
           clear H e
           rintro T14 _ w28 (H : Cx w0 fp0 S0 w28 [E (List (List Int)) r7 g1])
           refine boolE (z := false) geLen ?_
           refine sq ?_
           obtain ⟨a35, e, f79⟩ := bindS f51; clear f51
           refine arO e ?_; clear e
           exact ⟨(r7, a35), ⟨rfl, rfl, rfl, rfl, rfl, trivial⟩, Option.some.inj f79, H.sel [0] rfl⟩
        ·
         have f80 := condT f34; clear f34
         exact ⟨(s1_0, s1_1), ⟨rfl, rfl, rfl, rfl, rfl, trivial⟩, Option.some.inj f80, H.sel [0] rfl⟩
      ·
       clear f17 H
       rintro T15 ⟨s11_0, s11_1⟩ w29 ⟨hr, (H : Cx w0 fp0 S0 w29 [E (List (List Int)) s11_0 g1])⟩
       subst hr
       obtain ⟨a36, e, f81⟩ := bindS f18; clear f18
       refine arO e ?_; clear e
       have hs := Option.some.inj f81; subst hs; clear f81
       exact ⟨(s11_0, s11_1, a36), (), rfl, ⟨rfl, rfl, rfl, rfl, rfl, trivial⟩, H.sel [0] rfl⟩
  ·
   clear f5 H
   rintro T16 ⟨s12_0, s12_1⟩ w30 ⟨hr, (H : Cx w0 fp0 S0 w30 [E (List (List Int)) s12_0 g1])⟩
   subst hr
   obtain ⟨a37, e, f82⟩ := bindS f6; clear f6
   refine slO (α := List Int) gok rfl rfl H e rfl rfl ?_; clear e H; intro h17 H
   cases f82
   exact ⟨_, _, rfl, ⟨h17, rfl, rfl⟩, (H.sel [0] rfl).close ⟨cloE, trivial⟩⟩

theorem spec_spLead_c (v_ : List Int) (v_h : Hd) (y : Int) (hF : F_spec_spLead v_ = some y) :
  ConF Tryd.prog 66 #[(v_h).v] [Es (List Int) v_ v_h] [] (fun v Γ' => v = (.int .i64 y) ∧ Γ' = []) := by
 intro w0 S0 fp0 hI hS
 have H : Cx w0 fp0 S0 w0 [Es (List Int) v_ v_h] := Cx.start hI hS
 clear hI hS
 refine enterC (args := [_]) gok Tryd.func66 rfl _ rfl rfl rfl ?_
 obtain ⟨r0, f0, f1⟩ := bindS hF; clear hF
 refine cut (fun (q0 : Int) => [(3, (.int .i64 q0))]) (fun (q0 : Int) w' => q0 = r0 ∧ Cx w0 fp0 S0 w' []) ?_ ?_
 ·
  refine loopW _ (fun (s0 : Int) (_ : Unit) => [(0, (v_h).v), (3, (.int .i64 s0))]) (fun (s0 : Int) (_ : Unit) w' => Cx w0 fp0 S0 w' [Es (List Int) v_ v_h]) 0 () f0 ⟨rfl, rfl, trivial⟩ (H.sel [0] rfl) ?_
  ·
   clear H
   rintro T0 s0 _ w1 o0 (H : Cx w0 fp0 S0 w1 [Es (List Int) v_ v_h]) hrt f2
   refine sq ?_
   obtain ⟨r1, f3, f4⟩ := bindS f2; clear f2
   refine cut (fun (q1 : Bool) => [(0, (v_h).v), (3, (.int .i64 s0)), (14, (.bool q1))]) (fun (q1 : Bool) w' => q1 = r1 ∧ Cx w0 fp0 S0 w' [Es (List Int) v_ v_h]) ?_ ?_
   ·
    refine lenE (H.rs (α := List Int) 0 rfl).len ?_
    obtain ⟨a0, e, f5⟩ := bindS f3; clear f3
    refine boolO e ?_; clear e
    cases a0
    ·
     have f6 := condF f5; clear f5
     exact ⟨false, ⟨rfl, rfl, rfl, trivial⟩, Option.some.inj f6, H.sel [0] rfl⟩
    ·
     have f7 := condT f5; clear f5
     obtain ⟨a1, e, f8⟩ := bindS f7; clear f7
     obtain ⟨p0, m0, c0, c1, c2, c3⟩ := (H.rs (α := List Int) 0 rfl).at1 e; clear e
     refine idxE c0 c1 c2 ?_; clear c0 c1 c2
     refine load1 c3 ?_; clear c3
     obtain ⟨a2, e, f9⟩ := bindS f8; clear f8
     refine boolO e ?_; clear e
     exact ⟨a2, ⟨rfl, rfl, rfl, trivial⟩, Option.some.inj f9, H.sel [0] rfl⟩
   ·
    clear f3 H
    rintro T1 s1 w2 ⟨hr, (H : Cx w0 fp0 S0 w2 [Es (List Int) v_ v_h])⟩
    subst hr
    cases s1
    ·
     have f10 := condF f4; clear f4
     have hs := Option.some.inj f10; subst hs; clear f10
     have f11 : some _ = some _ := congrArg some (hrt _ rfl).symm
     exact ⟨s0, ⟨rfl, trivial⟩, Option.some.inj f11, H.sel [] rfl⟩
    ·
     have f12 := condT f4; clear f4
     obtain ⟨a3, e, f13⟩ := bindS f12; clear f12
     refine arO e ?_; clear e
     have hs := Option.some.inj f13; subst hs; clear f13
     exact ⟨a3, (), rfl, ⟨rfl, rfl, trivial⟩, H.sel [0] rfl⟩
 ·
  clear f0 H
  rintro T2 s2 w3 ⟨hr, (H : Cx w0 fp0 S0 w3 [])⟩
  subst hr
  cases f1
  exact ⟨_, _, rfl, ⟨rfl, rfl⟩, (H.sel [] rfl).close trivial⟩

theorem spec_fdNeg_c (p_ : Int) (a_ : Int) (y : Int) (hF : F_spec_fdNeg p_ a_ = some y) :
  ConF Tryd.prog 67 #[(.int .i64 p_), (.int .i64 a_)] [] [] (fun v Γ' => v = (.int .i64 y) ∧ Γ' = []) := by
 intro w0 S0 fp0 hI hS
 have H : Cx w0 fp0 S0 w0 [] := Cx.start hI hS
 clear hI hS
 refine enterC (args := [_, _]) gok Tryd.func67 rfl _ rfl rfl rfl ?_
 obtain ⟨a1, e, hF2⟩ := bindS hF; clear hF
 refine arO e ?_; clear e
 obtain ⟨a3, e, hF4⟩ := bindS hF2; clear hF2
 refine remO_ e ?_; clear e
 cases hF4
 exact ⟨_, _, rfl, ⟨rfl, rfl⟩, (H.sel [] rfl).close trivial⟩

theorem spec_spNull_c (p_ : Int) (size_ : Int) (rows_ : List (List Int)) (rows_h : Hd) (y : List (List Int)) (hF : F_spec_spNull p_ size_ rows_ = some y) :
  ConF Tryd.prog 49 #[(.int .i64 p_), (.int .i64 size_), (rows_h).v] [Es (List (List Int)) rows_ rows_h] [] (fun v Γ' => ∃ z0 : Hd, v = (z0).v ∧ Γ' = [E (List (List Int)) y z0]) := by
 intro w0 S0 fp0 hI hS
 have H : Cx w0 fp0 S0 w0 [Es (List (List Int)) rows_ rows_h] := Cx.start hI hS
 clear hI hS
 refine enterC (args := [_, _, _]) gok Tryd.func49 rfl _ rfl rfl rfl ?_
 obtain ⟨y2, e, hF3⟩ := bindS hF; clear hF
 have ey2 := e; clear e
 refine callF (spec_spReduce_c p_ size_ rows_ rows_h y2 ey2) (Γi := []) H ⟨Vw.sh 0 rfl, trivial⟩ ?_; clear H ey2
 rintro _ _ w4 ⟨h5, rfl, rfl⟩ H
 obtain ⟨a7, e, hF8⟩ := bindS hF3; clear hF3
 refine make_ (α := Int) gok rfl rfl rfl rfl (makeCO_of e) H ?_; clear e H; intro h0 w9 hx H
 clear hx
 refine sq ?_
 refine lenE (H.ro (α := List Int) 0 rfl).len ?_
 have x0 := (H.ro (α := List Int) 0 rfl).max
 obtain ⟨r0, e, f0⟩ := bindS hF8; clear hF8
 refine loopS _ a7.length (fun (k0 : Nat) (s0 : List Int) (_ : Unit) => [(0, (.int .i64 p_)), (1, (.int .i64 size_)), (7, (h5).v), (8, (h0).v), (24, (.int .i64 ((a7.length : Nat) : Int))), (25, (.int .i64 ((k0 : Nat) : Int)))]) (fun _ (s0 : List Int) (_ : Unit) w' => Cx w0 fp0 S0 w' [E (List (List Int)) y2 h5, E (List Int) s0 h0]) a7 () e ⟨rfl, rfl, rfl, rfl, rfl, rfl, trivial⟩ (H.sel [1, 0] rfl) ?_ ?_
 ·
  clear H e
  rintro T0 k0 s0 _ w1 o0 hk (H : Cx w0 fp0 S0 w1 [E (List (List Int)) y2 h5, E (List Int) s0 h0]) f1
  refine boolE (z := true) (ltLen hk) ?_
  refine sq ?_
  refine sq ?_
  obtain ⟨a0, e, f2⟩ := bindS f1; clear f1
  have i0 := e; clear e
  obtain ⟨p0, m0, c0, c1, c2⟩ := (H.ro (α := List Int) 1 rfl).setp i0
  refine idxE c0 c1 c2 ?_
  replace H := H.sel [1, 0] rfl
  refine setS (α := Int) H c0 c1 i0 ?_; clear H c0 c1 c2 i0; intro w2 H
  refine arK hk x0 ?_
  have hs := Option.some.inj f2; subst hs; clear f2
  exact ⟨(), ⟨rfl, rfl, rfl, rfl, rfl, rfl, trivial⟩, H.sel [1, 0] rfl⟩
 ·
  clear H e
  rintro T1 _ w3 (H : Cx w0 fp0 S0 w3 [E (List (List Int)) y2 h5, E (List Int) r0 h0])
  refine boolE (z := false) geLen ?_
  refine sq ?_
  refine sq ?_
  refine lenE (H.ro (α := List (List Int)) 0 rfl).len ?_
  replace H := H.frz
  have x1 := (H.rs (α := List (List Int)) 0 rfl).max
  obtain ⟨r1, e, f3⟩ := bindS f0; clear f0
  refine loopS _ y2.length (fun (k1 : Nat) (s1 : List Int) (_ : Unit) => [(0, (.int .i64 p_)), (1, (.int .i64 size_)), (7, (h5).v), (8, (h0).v), (32, (h5).v), (33, (.int .i64 ((y2.length : Nat) : Int))), (34, (.int .i64 ((k1 : Nat) : Int)))]) (fun _ (s1 : List Int) (_ : Unit) w' => Cx w0 fp0 S0 w' [Es (List (List Int)) y2 h5, E (List Int) s1 h0]) r0 () e ⟨rfl, rfl, rfl, rfl, rfl, rfl, rfl, trivial⟩ (H.sel [0, 1] rfl) ?_ ?_
  ·
   clear H e
   rintro T2 k1 s1 _ w5 o1 hk (H : Cx w0 fp0 S0 w5 [Es (List (List Int)) y2 h5, E (List Int) s1 h0]) f4
   refine boolE (z := true) (ltLen hk) ?_
   refine sq ?_
   refine sq ?_
   obtain ⟨a1, e, f5⟩ := bindS f4; clear f4
   have HH := H; clear H; obtain ⟨p1, m1, h1, c3, c4, c5, c6, H⟩ := HH.elL 0 rfl e; clear HH
   clear e
   refine idxE c3 c4 c5 ?_; clear c3 c4 c5
   refine load1 c6 ?_; clear c6
   obtain ⟨y0, e, f6⟩ := bindS f5; clear f5
   have i1 := e; clear e
   refine callF (spec_spLead_c a1 h1 y0 i1) (Γi := []) H ⟨Vw.sh 0 rfl, trivial⟩ ?_; clear H i1
   rintro _ _ w6 ⟨rfl, rfl⟩ H
   obtain ⟨a2, e, f7⟩ := bindS f6; clear f6
   have i2 := e; clear e
   obtain ⟨p2, m2, c7, c8, c9⟩ := (H.ro (α := List Int) 2 rfl).setp i2
   refine idxE c7 c8 c9 ?_
   replace H := H.sel [2, 0, 1] rfl
   refine setS (α := Int) H c7 c8 i2 ?_; clear H c7 c8 c9 i2; intro w7 H
   refine arK hk x1 ?_
   have hs := Option.some.inj f7; subst hs; clear f7
   exact ⟨(), ⟨rfl, rfl, rfl, rfl, rfl, rfl, rfl, trivial⟩, H.sel [2, 0] rfl⟩
  ·
   clear H e
   rintro T3 _ w8 (H : Cx w0 fp0 S0 w8 [Es (List (List Int)) y2 h5, E (List Int) r1 h0])
   refine boolE (z := false) geLen ?_
   refine sq ?_
   obtain ⟨r2, f8, f9⟩ := bindS f3; clear f3
   refine cut (fun (q0 : List (List Int) × Hd) => [(0, (.int .i64 p_)), (1, (.int .i64 size_)), (12, (q0.2).v)]) (fun (q0 : List (List Int) × Hd) w' => q0.1 = r2 ∧ Cx w0 fp0 S0 w' [E (List (List Int)) q0.1 q0.2]) ?_ ?_
   ·
    replace H := H.nil (α := List Int)
    refine loopW _ (fun (s2 : List (List Int) × Int) (g0 : Hd) => [(0, (.int .i64 p_)), (1, (.int .i64 size_)), (7, (h5).v), (8, (h0).v), (12, (g0).v), (13, (.int .i64 s2.2))]) (fun (s2 : List (List Int) × Int) (g0 : Hd) w' => Cx w0 fp0 S0 w' [Es (List (List Int)) y2 h5, E (List Int) r1 h0, E (List (List Int)) s2.1 g0]) ([], 0) nilH f8 ⟨rfl, rfl, rfl, rfl, rfl, rfl, trivial⟩ (H.sel [1, 2, 0] rfl) ?_
    ·
     clear H
     rintro T4 ⟨s2_0, s2_1⟩ g0 w10 o2 (H : Cx w0 fp0 S0 w10 [Es (List (List Int)) y2 h5, E (List Int) r1 h0, E (List (List Int)) s2_0 g0]) hrt f10
     refine sq ?_
     obtain ⟨a3, e, f11⟩ := bindS f10; clear f10
     refine boolO e ?_; clear e
     cases a3
     ·
      have f12 := condF f11; clear f11
      have hs := Option.some.inj f12; subst hs; clear f12
      have f13 : some _ = some _ := congrArg some (hrt _ rfl).symm
      exact ⟨(s2_0, g0), ⟨rfl, rfl, rfl, trivial⟩, Option.some.inj f13, H.sel [2] rfl⟩
     ·
      have f14 := condT f11; clear f11
      obtain ⟨r3, f15, f16⟩ := bindS f14; clear f14
      refine cut (fun (q1 : List (List Int) × Hd) => [(0, (.int .i64 p_)), (1, (.int .i64 size_)), (7, (h5).v), (8, (h0).v), (12, (q1.2).v), (13, (.int .i64 s2_1))]) (fun (q1 : List (List Int) × Hd) w' => q1.1 = r3 ∧ Cx w0 fp0 S0 w' [Es (List (List Int)) y2 h5, E (List Int) r1 h0, E (List (List Int)) q1.1 q1.2]) ?_ ?_
      ·
       refine sq ?_
       obtain ⟨a4, e, f17⟩ := bindS f15; clear f15
       obtain ⟨p3, m3, c10, c11, c12, c13⟩ := (H.ro (α := List Int) 1 rfl).at1 e; clear e
       refine idxE c10 c11 c12 ?_; clear c10 c11 c12
       refine load1 c13 ?_; clear c13
       obtain ⟨a5, e, f18⟩ := bindS f17; clear f17
       refine boolO e ?_; clear e
       cases a5
       ·
        have f19 := condF f18; clear f18
        obtain ⟨a6, e, f20⟩ := bindS f19; clear f19
        refine make_ (α := Int) gok rfl rfl rfl rfl (makeCO_of e) H ?_; clear e H; intro h2 w11 hx H
        clear hx
        obtain ⟨a8, e, f21⟩ := bindS f20; clear f20
        have i3 := e; clear e
        obtain ⟨p4, m4, c14, c15, c16⟩ := (H.ro (α := List Int) 0 rfl).setp i3
        refine idxE c14 c15 c16 ?_
        refine setS (α := Int) H c14 c15 i3 ?_; clear H c14 c15 c16 i3; intro w12 H
        refine sq ?_
        refine lenE (H.rs (α := List (List Int)) 1 rfl).len ?_
        have x2 := (H.rs (α := List (List Int)) 1 rfl).max
        obtain ⟨r4, e, f22⟩ := bindS f21; clear f21
        refine loopS _ y2.length (fun (k2 : Nat) (s3 : List Int) (_ : Unit) => [(0, (.int .i64 p_)), (1, (.int .i64 size_)), (7, (h5).v), (8, (h0).v), (12, (g0).v), (13, (.int .i64 s2_1)), (14, (h2).v), (60, (h5).v), (61, (.int .i64 ((y2.length : Nat) : Int))), (62, (.int .i64 ((k2 : Nat) : Int)))]) (fun _ (s3 : List Int) (_ : Unit) w' => Cx w0 fp0 S0 w' [Es (List (List Int)) y2 h5, E (List Int) r1 h0, E (List (List Int)) s2_0 g0, E (List Int) s3 h2]) a8 () e ⟨rfl, rfl, rfl, rfl, rfl, rfl, rfl, rfl, rfl, rfl, trivial⟩ (H.sel [1, 2, 3, 0] rfl) ?_ ?_
        ·
         clear H e
         rintro T5 k2 s3 _ w13 o3 hk (H : Cx w0 fp0 S0 w13 [Es (List (List Int)) y2 h5, E (List Int) r1 h0, E (List (List Int)) s2_0 g0, E (List Int) s3 h2]) f23
         refine boolE (z := true) (ltLen hk) ?_
         refine sq ?_
         refine sq ?_
         obtain ⟨a9, e, f24⟩ := bindS f23; clear f23
         have HH := H; clear H; obtain ⟨p5, m5, h3, c17, c18, c19, c20, H⟩ := HH.elL 0 rfl e; clear HH
         clear e
         refine idxE c17 c18 c19 ?_; clear c17 c18 c19
         refine load1 c20 ?_; clear c20
         refine heldX H [13] (.fst 0 (.fst 1 (.fst 2 (.fst 3 (.fst 6 (.fst 7 (.fst 8 (.fst 9 (.fst 4 (.fst 10 (.act 5 (.act 11 (.fst 12 (.act 13 .done)))))))))))))) mixed [] trivial (by kernel_rfl) ?_
         clear H; intro w14 H
         have hX : Ext w14 w14 := Upd.refl _ _
         have H0 := H
         obtain ⟨a10, e, f25⟩ := bindS f24; clear f24
         have HH := H; clear H; obtain ⟨p6, m6, h4, c21, c22, c23, c24, H⟩ := HH.elL 1 rfl e; clear HH
         clear e
         refine idxE c21 c22 c23 ?_; clear c21 c22 c23
         obtain ⟨a11, e, f26⟩ := bindS f25; clear f25
         obtain ⟨p7, m7, c25, c26, c27, c28⟩ := (H.rs (α := List Int) 1 rfl).at1 e; clear e
         refine idxE c25 c26 c27 ?_; clear c25 c26 c27
         refine load1X c24 ?_; clear c24
         refine load1X c28 ?_; clear c28
         obtain ⟨y1, e, f27⟩ := bindS f26; clear f26
         have i4 := e; clear e
         refine callFx (spec_spLead_c a10 h4 y1 i4) H ⟨Vw.sh 0 rfl, trivial⟩ ?_; clear H i4
         rintro _ _ w15 ⟨rfl, rfl⟩ hx H
         replace hX := hX.trans0 hx; clear hx
         refine hold hX ?_
         obtain ⟨y3, e, f28⟩ := bindS f27; clear f27
         have i5 := e; clear e
         refine callFx (spec_fdNeg_c p_ a11 y3 i5) H trivial ?_; clear H i5
         rintro _ _ w16 ⟨rfl, rfl⟩ hx H
         replace hX := hX.trans0 hx; clear hx
         refine hold hX ?_
         obtain ⟨a12, e, f29⟩ := bindS f28; clear f28
         have i6 := e; clear e
         obtain ⟨p8, m8, c29, c30, c31⟩ := (H.ro (α := List Int) 5 rfl).setp i6
         refine idxE c29 c30 c31 ?_
         replace H := H.sel [5, 0, 1, 2, 3, 4] rfl
         refine setS (α := Int) H c29 c30 i6 ?_; clear H c29 c30 c31 i6; intro w17 H
         refine hold trivial ?_
         refine arK hk x2 ?_
         have hs := Option.some.inj f29; subst hs; clear f29
         exact ⟨(), ⟨rfl, rfl, rfl, rfl, rfl, rfl, rfl, rfl, rfl, rfl, trivial⟩, H.sel [3, 4, 5, 0] rfl⟩
        ·
         clear H e
         rintro T6 _ w18 (H : Cx w0 fp0 S0 w18 [Es (List (List Int)) y2 h5, E (List Int) r1 h0, E (List (List Int)) s2_0 g0, E (List Int) r4 h2])
         refine boolE (z := false) geLen ?_
         refine sq ?_
         replace H := H.sel [3, 0, 1, 2] rfl
         refine lit1 (α := List Int) (g := h2) gok rfl rfl rfl rfl rfl H ?_; clear H; intro h6 w19 hx H
         clear hx
         obtain ⟨a13, e, f30⟩ := bindS f22; clear f22
         replace H := H.sel [3, 0, 1, 2] rfl
         refine append_ (α := List Int) gok rfl rfl rfl rfl H e ?_; clear e H; intro h7 w20 H
         exact ⟨(a13, h7), ⟨rfl, rfl, rfl, rfl, rfl, rfl, trivial⟩, Option.some.inj f30, H.sel [1, 2, 0] rfl⟩
       ·
        have f31 := condT f18; clear f18
        exact ⟨(s2_0, g0), ⟨rfl, rfl, rfl, rfl, rfl, rfl, trivial⟩, Option.some.inj f31, H.sel [0, 1, 2] rfl⟩
      ·
       clear f15 H
       rintro T7 ⟨s4, g1⟩ w21 ⟨hr, (H : Cx w0 fp0 S0 w21 [Es (List (List Int)) y2 h5, E (List Int) r1 h0, E (List (List Int)) s4 g1])⟩
       subst hr
       obtain ⟨a14, e, f32⟩ := bindS f16; clear f16
       refine arO e ?_; clear e
       have hs := Option.some.inj f32; subst hs; clear f32
       exact ⟨(s4, a14), g1, rfl, ⟨rfl, rfl, rfl, rfl, rfl, rfl, trivial⟩, H.sel [0, 1, 2] rfl⟩
   ·
    clear f8 H
    rintro T8 ⟨s5, g2⟩ w22 ⟨hr, (H : Cx w0 fp0 S0 w22 [E (List (List Int)) s5 g2])⟩
    subst hr
    obtain ⟨y4, e, f33⟩ := bindS f9; clear f9
    have i7 := e; clear e
    refine callF (spec_spReduce_c p_ size_ s5 g2 y4 i7) (Γi := []) H ⟨Vw.own 0 rfl, trivial⟩ ?_; clear H i7
    rintro _ _ w23 ⟨h8, rfl, rfl⟩ H
    cases f33
    exact ⟨_, _, rfl, ⟨h8, rfl, rfl⟩, (H.sel [0] rfl).close ⟨cloE, trivial⟩⟩

theorem spec_frRecurrence_c (p_ : Int) (s_ : List Int) (s_h : Hd) (m_ : Int) (y0 : List Int) (y1 : Bool) (hF : F_spec_frRecurrence p_ s_ m_ = some (y0, y1)) :
  ConS Tryd.prog 31 #[(.int .i64 p_), (s_h).v, (.int .i64 m_)] [Es (List Int) s_ s_h] [] (fun v Γ' => ∃ z0 : Hd, v = (.tuple #[(z0).v, (.bool y1)]) ∧ Γ' = [Es (List Int) y0 z0]) := by
 intro w0 S0 fp0 hI hS
 have H : Cx w0 fp0 S0 w0 [Es (List Int) s_ s_h] := Cx.start hI hS
 clear hI hS
 refine enterC (args := [_, _, _]) gok Tryd.func31 rfl _ rfl rfl rfl ?_
 obtain ⟨r0, f0, f1⟩ := bindS hF; clear hF
 refine cut (fun (q0 : List (List Int) × Hd) => [(0, (.int .i64 p_)), (2, (.int .i64 m_)), (8, (q0.2).v)]) (fun (q0 : List (List Int) × Hd) w' => q0.1 = r0 ∧ Cx w0 fp0 S0 w' [E (List (List Int)) q0.1 q0.2]) ?_ ?_
 ·
  replace H := H.nil (α := List Int)
  refine loopW _ (fun (s0 : List (List Int) × Int) (g0 : Hd) => [(0, (.int .i64 p_)), (1, (s_h).v), (2, (.int .i64 m_)), (8, (g0).v), (9, (.int .i64 s0.2))]) (fun (s0 : List (List Int) × Int) (g0 : Hd) w' => Cx w0 fp0 S0 w' [Es (List Int) s_ s_h, E (List (List Int)) s0.1 g0]) ([], m_) nilH f0 ⟨rfl, rfl, rfl, rfl, rfl, trivial⟩ (H.sel [1, 0] rfl) ?_
  ·
   clear H
   rintro T0 ⟨s0_0, s0_1⟩ g0 w1 o0 (H : Cx w0 fp0 S0 w1 [Es (List Int) s_ s_h, E (List (List Int)) s0_0 g0]) hrt f2
   refine sq ?_
   refine lenE (H.rs (α := List Int) 0 rfl).len ?_
   obtain ⟨a0, e, f3⟩ := bindS f2; clear f2
   refine boolO e ?_; clear e
   cases a0
   ·
    have f4 := condF f3; clear f3
    have hs := Option.some.inj f4; subst hs; clear f4
    have f5 : some _ = some _ := congrArg some (hrt _ rfl).symm
    exact ⟨(s0_0, g0), ⟨rfl, rfl, rfl, trivial⟩, Option.some.inj f5, H.sel [1] rfl⟩
   ·
    have f6 := condT f3; clear f3
    refine sq ?_
    obtain ⟨a1, e, f7⟩ := bindS f6; clear f6
    obtain ⟨p0, m0, c0, c1, c2, c3⟩ := (H.rs (α := List Int) 0 rfl).at1 e; clear e
    refine idxE c0 c1 c2 ?_; clear c0 c1 c2
    refine load1 c3 ?_; clear c3
    refine lit1S (α := Int) gok rfl rfl rfl rfl H ?_; clear H; intro h0 w2 hx H
    clear hx
    obtain ⟨r1, f8, f9⟩ := bindS f7; clear f7
    refine cut (fun (q1 : List Int × Hd) => [(0, (.int .i64 p_)), (1, (s_h).v), (2, (.int .i64 m_)), (8, (g0).v), (9, (.int .i64 s0_1)), (10, (q1.2).v)]) (fun (q1 : List Int × Hd) w' => q1.1 = r1 ∧ Cx w0 fp0 S0 w' [Es (List Int) s_ s_h, E (List (List Int)) s0_0 g0, E (List Int) q1.1 q1.2]) ?_ ?_
    ·
     refine loopW _ (fun (s1 : List Int × Int) (g1 : Hd) => [(0, (.int .i64 p_)), (1, (s_h).v), (2, (.int .i64 m_)), (8, (g0).v), (9, (.int .i64 s0_1)), (10, (g1).v), (11, (.int .i64 s1.2))]) (fun (s1 : List Int × Int) (g1 : Hd) w' => Cx w0 fp0 S0 w' [Es (List Int) s_ s_h, E (List (List Int)) s0_0 g0, E (List Int) s1.1 g1]) ([a1], 1) h0 f8 ⟨rfl, rfl, rfl, rfl, rfl, rfl, rfl, trivial⟩ (H.sel [1, 2, 0] rfl) ?_
     ·
      clear H
      rintro T1 ⟨s1_0, s1_1⟩ g1 w3 o1 (H : Cx w0 fp0 S0 w3 [Es (List Int) s_ s_h, E (List (List Int)) s0_0 g0, E (List Int) s1_0 g1]) hrt f10
      refine sq ?_
      obtain ⟨a2, e, f11⟩ := bindS f10; clear f10
      refine boolO e ?_; clear e
      cases a2
      ·
       have f12 := condF f11; clear f11
       have hs := Option.some.inj f12; subst hs; clear f12
       have f13 : some _ = some _ := congrArg some (hrt _ rfl).symm
       exact ⟨(s1_0, g1), ⟨rfl, rfl, rfl, rfl, rfl, rfl, trivial⟩, Option.some.inj f13, H.sel [0, 1, 2] rfl⟩
      ·
       have f14 := condT f11; clear f11
       refine sq ?_
       obtain ⟨a3, e, f15⟩ := bindS f14; clear f14
       refine arO e ?_; clear e
       obtain ⟨a4, e, f16⟩ := bindS f15; clear f15
       obtain ⟨p1, m1, c4, c5, c6, c7⟩ := (H.rs (α := List Int) 0 rfl).at1 e; clear e
       refine idxE c4 c5 c6 ?_; clear c4 c5 c6
       refine load1 c7 ?_; clear c7
       refine lit1S (α := Int) gok rfl rfl rfl rfl H ?_; clear H; intro h1 w4 hx H
       clear hx
       obtain ⟨a5, e, f17⟩ := bindS f16; clear f16
       replace H := H.sel [3, 0, 1, 2] rfl
       refine append_ (α := Int) gok rfl rfl rfl rfl H e ?_; clear e H; intro h2 w5 H
       obtain ⟨a6, e, f18⟩ := bindS f17; clear f17
       refine arO e ?_; clear e
       have hs := Option.some.inj f18; subst hs; clear f18
       exact ⟨(a5, a6), h2, rfl, ⟨rfl, rfl, rfl, rfl, rfl, rfl, rfl, trivial⟩, H.sel [1, 2, 0] rfl⟩
    ·
     clear f8 H
     rintro T2 ⟨s2, g2⟩ w6 ⟨hr, (H : Cx w0 fp0 S0 w6 [Es (List Int) s_ s_h, E (List (List Int)) s0_0 g0, E (List Int) s2 g2])⟩
     subst hr
     replace H := H.sel [2, 0, 1] rfl
     refine lit1 (α := List Int) (g := g2) gok rfl rfl rfl rfl rfl H ?_; clear H; intro h3 w7 hx H
     clear hx
     obtain ⟨a7, e, f19⟩ := bindS f9; clear f9
     replace H := H.sel [2, 0, 1] rfl
     refine append_ (α := List Int) gok rfl rfl rfl rfl H e ?_; clear e H; intro h4 w8 H
     obtain ⟨a8, e, f20⟩ := bindS f19; clear f19
     refine arO e ?_; clear e
     have hs := Option.some.inj f20; subst hs; clear f20
     exact ⟨(a7, a8), h4, rfl, ⟨rfl, rfl, rfl, rfl, rfl, trivial⟩, H.sel [1, 0] rfl⟩
 ·
  clear f0 H
  rintro T3 ⟨s3, g3⟩ w9 ⟨hr, (H : Cx w0 fp0 S0 w9 [E (List (List Int)) s3 g3])⟩
  subst hr
  refine sq ?_
  obtain ⟨a9, e, f21⟩ := bindS f1; clear f1
  refine arO e ?_; clear e
  obtain ⟨y2, e, f22⟩ := bindS f21; clear f21
  have i0 := e; clear e
  refine callF (spec_spNull_c p_ a9 s3 g3 y2 i0) (Γi := []) H ⟨Vw.own 0 rfl, trivial⟩ ?_; clear H i0
  rintro _ _ w10 ⟨h5, rfl, rfl⟩ H
  refine lenE (H.ro (α := List (List Int)) 0 rfl).len ?_
  replace H := H.frz
  have x0 := (H.rs (α := List (List Int)) 0 rfl).max
  obtain ⟨r2, e, f23⟩ := bindS f22; clear f22
  refine loopO _ y2.length (fun (k0 : Nat) (_ : Unit) (_ : Unit) => [(48, (h5).v), (49, (.int .i64 ((y2.length : Nat) : Int))), (50, (.int .i64 ((k0 : Nat) : Int)))]) (fun _ (_ : Unit) (_ : Unit) w' => Cx w0 fp0 S0 w' [Es (List (List Int)) y2 h5]) () () e ⟨rfl, rfl, rfl, trivial⟩ (H.sel [0] rfl) ?_ ?_
  ·
   clear H e
   rintro T4 k0 _ _ w11 o2 hk (H : Cx w0 fp0 S0 w11 [Es (List (List Int)) y2 h5]) hrt f24
   refine boolE (z := true) (ltLen hk) ?_
   refine sq ?_
   refine sq ?_
   obtain ⟨a10, e, f25⟩ := bindS f24; clear f24
   have HH := H; clear H; obtain ⟨p2, m2, h6, c8, c9, c10, c11, H⟩ := HH.elL 0 rfl e; clear HH
   clear e
   refine idxE c8 c9 c10 ?_; clear c8 c9 c10
   refine load1 c11 ?_; clear c11
   obtain ⟨a11, e, f26⟩ := bindS f25; clear f25
   obtain ⟨p3, m3, c12, c13, c14, c15⟩ := (H.rs (α := List Int) 0 rfl).at1 e; clear e
   refine idxE c12 c13 c14 ?_; clear c12 c13 c14
   refine load1 c15 ?_; clear c15
   obtain ⟨a12, e, f27⟩ := bindS f26; clear f26
   refine boolO e ?_; clear e
   cases a12
   ·
    have f28 := condF f27; clear f27
    refine arK hk x0 ?_
    have hs := Option.some.inj f28; subst hs; clear f28
    exact ⟨(), (), rfl, ⟨rfl, rfl, rfl, trivial⟩, H.sel [1] rfl⟩
   ·
    have f29 := condT f27; clear f27
    obtain ⟨a13, e, f30⟩ := bindS f29; clear f29
    refine slS (α := Int) (hi := none) gok rfl rfl H 0 rfl e rfl (congrArg (fun n : Nat => some (n : Int)) (H.rs (α := List Int) 0 rfl).len) ?_; clear e H; intro h7 H
    have hs := Option.some.inj f30; subst hs; clear f30
    have hr := hrt _ rfl; subst hr
    have f31 : some _ = some _ := f23
    cases f31
    exact ⟨_, _, rfl, ⟨h7, rfl, rfl⟩, (H.sel [0] rfl)⟩
  ·
   clear H e
   rintro T5 _ _ w12 hr (H : Cx w0 fp0 S0 w12 [Es (List (List Int)) y2 h5])
   subst hr
   refine boolE (z := false) geLen ?_
   refine sq ?_
   replace H := H.nil (α := Int)
   replace H := H.frz
   cases f23
   exact ⟨_, _, rfl, ⟨nilH, rfl, rfl⟩, (H.sel [0] rfl)⟩

theorem spec_poTrim_c (f_ : List Int) (f_h : Hd) (y : List Int) (hF : F_spec_poTrim f_ = some y) :
  ConF Tryd.prog 34 #[(f_h).v] [Es (List Int) f_ f_h] [] (fun v Γ' => ∃ z0 : Hd, v = (z0).v ∧ Γ' = [E (List Int) y z0]) := by
 intro w0 S0 fp0 hI hS
 have H : Cx w0 fp0 S0 w0 [Es (List Int) f_ f_h] := Cx.start hI hS
 clear hI hS
 refine enterC (args := [_]) gok Tryd.func34 rfl _ rfl rfl rfl ?_
 refine lenE (H.rs (α := List Int) 0 rfl).len ?_
 obtain ⟨r0, f0, f1⟩ := bindS hF; clear hF
 refine cut (fun (q0 : Int) => [(0, (f_h).v), (3, (.int .i64 q0))]) (fun (q0 : Int) w' => q0 = r0 ∧ Cx w0 fp0 S0 w' [Es (List Int) f_ f_h]) ?_ ?_
 ·
  refine loopW _ (fun (s0 : Int) (_ : Unit) => [(0, (f_h).v), (3, (.int .i64 s0))]) (fun (s0 : Int) (_ : Unit) w' => Cx w0 fp0 S0 w' [Es (List Int) f_ f_h]) ((f_.length : Nat) : Int) () f0 ⟨rfl, rfl, trivial⟩ (H.sel [0] rfl) ?_
  ·
   clear H
   rintro T0 s0 _ w1 o0 (H : Cx w0 fp0 S0 w1 [Es (List Int) f_ f_h]) hrt f2
   refine sq ?_
   obtain ⟨r1, f3, f4⟩ := bindS f2; clear f2
   refine cut (fun (q1 : Bool) => [(0, (f_h).v), (3, (.int .i64 s0)), (15, (.bool q1))]) (fun (q1 : Bool) w' => q1 = r1 ∧ Cx w0 fp0 S0 w' [Es (List Int) f_ f_h]) ?_ ?_
   ·
    obtain ⟨a0, e, f5⟩ := bindS f3; clear f3
    refine boolO e ?_; clear e
    cases a0
    ·
     have f6 := condF f5; clear f5
     exact ⟨false, ⟨rfl, rfl, rfl, trivial⟩, Option.some.inj f6, H.sel [0] rfl⟩
    ·
     have f7 := condT f5; clear f5
     obtain ⟨a1, e, f8⟩ := bindS f7; clear f7
     refine arO e ?_; clear e
     obtain ⟨a2, e, f9⟩ := bindS f8; clear f8
     obtain ⟨p0, m0, c0, c1, c2, c3⟩ := (H.rs (α := List Int) 0 rfl).at1 e; clear e
     refine idxE c0 c1 c2 ?_; clear c0 c1 c2
     refine load1 c3 ?_; clear c3
     obtain ⟨a3, e, f10⟩ := bindS f9; clear f9
     refine boolO e ?_; clear e
     exact ⟨a3, ⟨rfl, rfl, rfl, trivial⟩, Option.some.inj f10, H.sel [0] rfl⟩
   ·
    clear f3 H
    rintro T1 s1 w2 ⟨hr, (H : Cx w0 fp0 S0 w2 [Es (List Int) f_ f_h])⟩
    subst hr
    cases s1
    ·
     have f11 := condF f4; clear f4
     have hs := Option.some.inj f11; subst hs; clear f11
     have f12 : some _ = some _ := congrArg some (hrt _ rfl).symm
     exact ⟨s0, ⟨rfl, rfl, trivial⟩, Option.some.inj f12, H.sel [0] rfl⟩
    ·
     have f13 := condT f4; clear f4
     obtain ⟨a4, e, f14⟩ := bindS f13; clear f13
     refine arO e ?_; clear e
     have hs := Option.some.inj f14; subst hs; clear f14
     exact ⟨a4, (), rfl, ⟨rfl, rfl, trivial⟩, H.sel [0] rfl⟩
 ·
  clear f0 H
  rintro T2 s2 w3 ⟨hr, (H : Cx w0 fp0 S0 w3 [Es (List Int) f_ f_h])⟩
  subst hr
  obtain ⟨a5, e, f15⟩ := bindS f1; clear f1
  refine slS (α := Int) gok rfl rfl H 0 rfl e rfl rfl ?_; clear e H; intro h0 H
  obtain ⟨y0, e, f16⟩ := bindS f15; clear f15
  have i0 := e; clear e
  refine callF (spec_l1Own_c a5 h0 y0 i0) (Γi := []) H ⟨Vw.sh 0 rfl, trivial⟩ ?_; clear H i0
  rintro _ _ w4 ⟨h1, rfl, rfl⟩ H
  cases f16
  exact ⟨_, _, rfl, ⟨h1, rfl, rfl⟩, (H.sel [0] rfl).close ⟨cloE, trivial⟩⟩

theorem spec_poDiv_c (p_ : Int) (f_ : List Int) (f_h : Hd) (g_ : List Int) (g_h : Hd) (y0 : List Int) (y1 : List Int) (hF : F_spec_poDiv p_ f_ g_ = some (y0, y1)) :
  ConF Tryd.prog 52 #[(.int .i64 p_), (f_h).v, (g_h).v] [Es (List Int) f_ f_h, Es (List Int) g_ g_h] [] (fun v Γ' => ∃ z0 z1 : Hd, v = (.tuple #[(z0).v, (z1).v]) ∧ Γ' = [E (List Int) y0 z0, E (List Int) y1 z1]) := by
 intro w0 S0 fp0 hI hS
 have H : Cx w0 fp0 S0 w0 [Es (List Int) f_ f_h, Es (List Int) g_ g_h] := Cx.start hI hS
 clear hI hS
 refine enterC (args := [_, _, _]) gok Tryd.func52 rfl _ rfl rfl rfl ?_
 obtain ⟨y3, e, hF4⟩ := bindS hF; clear hF
 have ey3 := e; clear e
 refine callF (spec_l1Own_c f_ f_h y3 ey3) (Γi := []) H ⟨Vw.sh 0 rfl, trivial⟩ ?_; clear H ey3
 rintro _ _ w5 ⟨h6, rfl, rfl⟩ H
 obtain ⟨r0, f0, f1⟩ := bindS hF4; clear hF4
 refine cut (fun (q0 : List Int × Hd) => [(0, (.int .i64 p_)), (2, (g_h).v), (8, (h6).v), (9, (q0.2).v)]) (fun (q0 : List Int × Hd) w' => q0.1 = r0 ∧ Cx w0 fp0 S0 w' [Es (List Int) g_ g_h, E (List Int) y3 h6, E (List Int) q0.1 q0.2]) ?_ ?_
 ·
  refine lenE (H.rs (α := List Int) 1 rfl).len ?_
  refine lenE (H.rs (α := List Int) 2 rfl).len ?_
  obtain ⟨a0, e, f2⟩ := bindS f0; clear f0
  refine boolO e ?_; clear e
  cases a0
  ·
   have f3 := condF f2; clear f2
   replace H := H.nil (α := Int)
   exact ⟨([], nilH), ⟨rfl, rfl, rfl, rfl, trivial⟩, Option.some.inj f3, H.sel [3, 1, 0] rfl⟩
  ·
   have f4 := condT f2; clear f2
   refine lenE (H.rs (α := List Int) 1 rfl).len ?_
   refine lenE (H.rs (α := List Int) 2 rfl).len ?_
   obtain ⟨a1, e, f5⟩ := bindS f4; clear f4
   refine arO e ?_; clear e
   obtain ⟨a2, e, f6⟩ := bindS f5; clear f5
   refine arO e ?_; clear e
   obtain ⟨a3, e, f7⟩ := bindS f6; clear f6
   refine make_ (α := Int) gok rfl rfl rfl rfl (makeCO_of e) H ?_; clear e H; intro h0 w1 hx H
   clear hx
   exact ⟨(a3, h0), ⟨rfl, rfl, rfl, rfl, trivial⟩, Option.some.inj f7, H.sel [3, 1, 0] rfl⟩
 ·
  clear f0 H
  rintro T0 ⟨s0, g0⟩ w2 ⟨hr, (H : Cx w0 fp0 S0 w2 [Es (List Int) g_ g_h, E (List Int) y3 h6, E (List Int) s0 g0])⟩
  subst hr
  refine lenE (H.rs (α := List Int) 0 rfl).len ?_
  obtain ⟨a4, e, f8⟩ := bindS f1; clear f1
  refine arO e ?_; clear e
  obtain ⟨a5, e, f9⟩ := bindS f8; clear f8
  obtain ⟨p0, m0, c0, c1, c2, c3⟩ := (H.rs (α := List Int) 0 rfl).at1 e; clear e
  refine idxE c0 c1 c2 ?_; clear c0 c1 c2
  refine load1 c3 ?_; clear c3
  obtain ⟨y2, e, f10⟩ := bindS f9; clear f9
  have i0 := e; clear e
  refine callF (spec_fdInv_c p_ a5 y2 i0) (Γi := []) H trivial ?_; clear H i0
  rintro _ _ w3 ⟨rfl, rfl⟩ H
  obtain ⟨r1, f11, f12⟩ := bindS f10; clear f10
  refine cut (fun (q1 : List Int × List Int) => [(8, (h6).v), (9, (g0).v)]) (fun (q1 : List Int × List Int) w' => (q1.1, q1.2) = r1 ∧ Cx w0 fp0 S0 w' [E (List Int) q1.2 h6, E (List Int) q1.1 g0]) ?_ ?_
  ·
   refine lenE (H.ro (α := List Int) 2 rfl).len ?_
   obtain ⟨a6, e, f13⟩ := bindS f11; clear f11
   refine arO e ?_; clear e
   refine loopW _ (fun (s1 : List Int × List Int × Int) (_ : Unit) => [(0, (.int .i64 p_)), (2, (g_h).v), (8, (h6).v), (9, (g0).v), (10, (.int .i64 y2)), (11, (.int .i64 s1.2.2))]) (fun (s1 : List Int × List Int × Int) (_ : Unit) w' => Cx w0 fp0 S0 w' [Es (List Int) g_ g_h, E (List Int) s1.2.1 h6, E (List Int) s1.1 g0]) (s0, y3, a6) () f13 ⟨rfl, rfl, rfl, rfl, rfl, rfl, trivial⟩ (H.sel [0, 1, 2] rfl) ?_
   ·
    clear H
    rintro T1 ⟨s1_0, s1_1, s1_2⟩ _ w4 o0 (H : Cx w0 fp0 S0 w4 [Es (List Int) g_ g_h, E (List Int) s1_1 h6, E (List Int) s1_0 g0]) hrt f14
    refine sq ?_
    obtain ⟨a7, e, f15⟩ := bindS f14; clear f14
    refine boolO e ?_; clear e
    cases a7
    ·
     have f16 := condF f15; clear f15
     have hs := Option.some.inj f16; subst hs; clear f16
     have f17 : some _ = some _ := congrArg some (hrt _ rfl).symm
     exact ⟨(s1_0, s1_1), ⟨rfl, rfl, trivial⟩, Option.some.inj f17, H.sel [1, 2] rfl⟩
    ·
     have f18 := condT f15; clear f15
     refine sq ?_
     refine lenE (H.rs (α := List Int) 0 rfl).len ?_
     obtain ⟨a8, e, f19⟩ := bindS f18; clear f18
     refine arO e ?_; clear e
     obtain ⟨a9, e, f20⟩ := bindS f19; clear f19
     refine arO e ?_; clear e
     obtain ⟨a10, e, f21⟩ := bindS f20; clear f20
     obtain ⟨p1, m1, c4, c5, c6, c7⟩ := (H.ro (α := List Int) 1 rfl).at1 e; clear e
     refine idxE c4 c5 c6 ?_; clear c4 c5 c6
     refine load1 c7 ?_; clear c7
     obtain ⟨y4, e, f22⟩ := bindS f21; clear f21
     have i1 := e; clear e
     refine callF (spec_fdMul_c p_ a10 y2 y4 i1) (Γi := []) H trivial ?_; clear H i1
     rintro _ _ w6 ⟨rfl, rfl⟩ H
     obtain ⟨a11, e, f23⟩ := bindS f22; clear f22
     have i2 := e; clear e
     obtain ⟨p2, m2, c8, c9, c10⟩ := (H.ro (α := List Int) 2 rfl).setp i2
     refine idxE c8 c9 c10 ?_
     replace H := H.sel [2, 0, 1] rfl
     refine setS (α := Int) H c8 c9 i2 ?_; clear H c8 c9 c10 i2; intro w7 H
     refine lenE (H.rs (α := List Int) 1 rfl).len ?_
     have x0 := (H.rs (α := List Int) 1 rfl).max
     obtain ⟨r2, e, f24⟩ := bindS f23; clear f23
     refine loopS _ g_.length (fun (k0 : Nat) (s2 : List Int) (_ : Unit) => [(0, (.int .i64 p_)), (2, (g_h).v), (8, (h6).v), (9, (g0).v), (10, (.int .i64 y2)), (11, (.int .i64 s1_2)), (12, (.int .i64 y4)), (59, (g_h).v), (60, (.int .i64 ((g_.length : Nat) : Int))), (61, (.int .i64 ((k0 : Nat) : Int)))]) (fun _ (s2 : List Int) (_ : Unit) w' => Cx w0 fp0 S0 w' [Es (List Int) g_ g_h, E (List Int) s2 h6, E (List Int) a11 g0]) s1_1 () e ⟨rfl, rfl, rfl, rfl, rfl, rfl, rfl, rfl, rfl, rfl, trivial⟩ (H.sel [1, 2, 0] rfl) ?_ ?_
     ·
      clear H e
      rintro T2 k0 s2 _ w8 o1 hk (H : Cx w0 fp0 S0 w8 [Es (List Int) g_ g_h, E (List Int) s2 h6, E (List Int) a11 g0]) f25
      refine boolE (z := true) (ltLen hk) ?_
      refine sq ?_
      refine sq ?_
      obtain ⟨a12, e, f26⟩ := bindS f25; clear f25
      obtain ⟨p3, m3, c11, c12, c13, c14⟩ := (H.rs (α := List Int) 0 rfl).at1 e; clear e
      refine idxE c11 c12 c13 ?_; clear c11 c12 c13
      refine load1 c14 ?_; clear c14
      refine heldX H [17] (.fst 0 (.fst 1 (.fst 2 (.fst 3 (.fst 4 (.fst 5 (.fst 6 (.fst 7 (.fst 8 (.fst 9 (.fst 11 (.fst 12 (.fst 13 (.fst 10 (.act 14 (.act 15 (.fst 16 (.act 17 .done)))))))))))))))))) mixed [] trivial (by kernel_rfl) ?_
      clear H; intro w9 H
      have hX : Ext w9 w9 := Upd.refl _ _
      have H0 := H
      obtain ⟨a13, e, f27⟩ := bindS f26; clear f26
      refine arO e ?_; clear e
      obtain ⟨a14, e, f28⟩ := bindS f27; clear f27
      refine arO e ?_; clear e
      obtain ⟨a15, e, f29⟩ := bindS f28; clear f28
      obtain ⟨p4, m4, c15, c16, c17, c18⟩ := (H.ro (α := List Int) 1 rfl).at1 e; clear e
      refine idxE c15 c16 c17 ?_; clear c15 c16 c17
      refine load1X c18 ?_; clear c18
      obtain ⟨y5, e, f30⟩ := bindS f29; clear f29
      have i3 := e; clear e
      refine callFx (spec_fdMul_c p_ y4 a12 y5 i3) H trivial ?_; clear H i3
      rintro _ _ w10 ⟨rfl, rfl⟩ hx H
      replace hX := hX.trans0 hx; clear hx
      refine hold hX ?_
      obtain ⟨y6, e, f31⟩ := bindS f30; clear f30
      have i4 := e; clear e
      refine callFx (spec_fdSub_c p_ a15 y5 y6 i4) H trivial ?_; clear H i4
      rintro _ _ w11 ⟨rfl, rfl⟩ hx H
      replace hX := hX.trans0 hx; clear hx
      refine hold hX ?_
      obtain ⟨a16, e, f32⟩ := bindS f31; clear f31
      have i5 := e; clear e
      obtain ⟨p5, m5, c19, c20, c21⟩ := (H.ro (α := List Int) 1 rfl).setp i5
      refine idxE c19 c20 c21 ?_
      replace H := H.sel [1, 0, 2] rfl
      refine setS (α := Int) H c19 c20 i5 ?_; clear H c19 c20 c21 i5; intro w12 H
      refine hold trivial ?_
      refine arK hk x0 ?_
      have hs := Option.some.inj f32; subst hs; clear f32
      exact ⟨(), ⟨rfl, rfl, rfl, rfl, rfl, rfl, rfl, rfl, rfl, rfl, trivial⟩, H.sel [1, 0, 2] rfl⟩
     ·
      clear H e
      rintro T3 _ w13 (H : Cx w0 fp0 S0 w13 [Es (List Int) g_ g_h, E (List Int) r2 h6, E (List Int) a11 g0])
      refine boolE (z := false) geLen ?_
      refine sq ?_
      obtain ⟨a17, e, f33⟩ := bindS f24; clear f24
      refine arO e ?_; clear e
      have hs := Option.some.inj f33; subst hs; clear f33
      exact ⟨(a11, r2, a17), (), rfl, ⟨rfl, rfl, rfl, rfl, rfl, rfl, trivial⟩, H.sel [0, 1, 2] rfl⟩
  ·
   clear f11 H
   rintro T4 ⟨s3_0, s3_1⟩ w14 ⟨hr, (H : Cx w0 fp0 S0 w14 [E (List Int) s3_1 h6, E (List Int) s3_0 g0])⟩
   subst hr
   obtain ⟨y7, e, f34⟩ := bindS f12; clear f12
   have i6 := e; clear e
   refine callF (spec_poTrim_c s3_0 g0 y7 i6) (Γi := []) H ⟨Vw.own 1 rfl, trivial⟩ ?_; clear H i6
   rintro _ _ w15 ⟨h1, rfl, rfl⟩ H
   obtain ⟨y8, e, f35⟩ := bindS f34; clear f34
   have i7 := e; clear e
   refine callF (spec_poTrim_c s3_1 h6 y8 i7) (Γi := []) H ⟨Vw.own 1 rfl, trivial⟩ ?_; clear H i7
   rintro _ _ w16 ⟨h2, rfl, rfl⟩ H
   cases f35
   exact ⟨_, _, rfl, ⟨h1, h2, rfl, rfl⟩, (H.sel [1, 0] rfl).close ⟨cloE, cloE, trivial⟩⟩

theorem spec_poTimes_c (p_ : Int) (k_ : Int) (f_ : List Int) (f_h : Hd) (y : List Int) (hF : F_spec_poTimes p_ k_ f_ = some y) :
  ConF Tryd.prog 54 #[(.int .i64 p_), (.int .i64 k_), (f_h).v] [Es (List Int) f_ f_h] [] (fun v Γ' => ∃ z0 : Hd, v = (z0).v ∧ Γ' = [E (List Int) y z0]) := by
 intro w0 S0 fp0 hI hS
 have H : Cx w0 fp0 S0 w0 [Es (List Int) f_ f_h] := Cx.start hI hS
 clear hI hS
 refine enterC (args := [_, _, _]) gok Tryd.func54 rfl _ rfl rfl rfl ?_
 refine lenE (H.rs (α := List Int) 0 rfl).len ?_
 obtain ⟨a2, e, hF3⟩ := bindS hF; clear hF
 refine make_ (α := Int) gok rfl rfl rfl rfl (makeCO_of e) H ?_; clear e H; intro h5 w4 hx H
 clear hx
 refine sq ?_
 refine lenE (H.rs (α := List Int) 1 rfl).len ?_
 have x0 := (H.rs (α := List Int) 1 rfl).max
 obtain ⟨r0, e, f0⟩ := bindS hF3; clear hF3
 refine loopS _ f_.length (fun (k7 : Nat) (s0 : List Int) (_ : Unit) => [(0, (.int .i64 p_)), (1, (.int .i64 k_)), (7, (h5).v), (13, (f_h).v), (14, (.int .i64 ((f_.length : Nat) : Int))), (15, (.int .i64 ((k7 : Nat) : Int)))]) (fun _ (s0 : List Int) (_ : Unit) w' => Cx w0 fp0 S0 w' [E (List Int) s0 h5, Es (List Int) f_ f_h]) a2 () e ⟨rfl, rfl, rfl, rfl, rfl, rfl, trivial⟩ (H.sel [0, 1] rfl) ?_ ?_
 ·
  clear H e
  rintro T0 k7 s0 _ w1 o0 hk (H : Cx w0 fp0 S0 w1 [E (List Int) s0 h5, Es (List Int) f_ f_h]) f1
  refine boolE (z := true) (ltLen hk) ?_
  refine sq ?_
  refine sq ?_
  obtain ⟨a0, e, f2⟩ := bindS f1; clear f1
  obtain ⟨p0, m0, c0, c1, c2, c3⟩ := (H.rs (α := List Int) 1 rfl).at1 e; clear e
  refine idxE c0 c1 c2 ?_; clear c0 c1 c2
  refine load1 c3 ?_; clear c3
  obtain ⟨y0, e, f3⟩ := bindS f2; clear f2
  have i0 := e; clear e
  refine callF (spec_fdMul_c p_ k_ a0 y0 i0) (Γi := []) H trivial ?_; clear H i0
  rintro _ _ w2 ⟨rfl, rfl⟩ H
  obtain ⟨a1, e, f4⟩ := bindS f3; clear f3
  have i1 := e; clear e
  obtain ⟨p1, m1, c4, c5, c6⟩ := (H.ro (α := List Int) 0 rfl).setp i1
  refine idxE c4 c5 c6 ?_
  refine setS (α := Int) H c4 c5 i1 ?_; clear H c4 c5 c6 i1; intro w3 H
  refine arK hk x0 ?_
  have hs := Option.some.inj f4; subst hs; clear f4
  exact ⟨(), ⟨rfl, rfl, rfl, rfl, rfl, rfl, trivial⟩, H.sel [0, 1] rfl⟩
 ·
  clear H e
  rintro T1 _ w5 (H : Cx w0 fp0 S0 w5 [E (List Int) r0 h5, Es (List Int) f_ f_h])
  refine boolE (z := false) geLen ?_
  refine sq ?_
  obtain ⟨y1, e, f5⟩ := bindS f0; clear f0
  have i2 := e; clear e
  refine callF (spec_poTrim_c r0 h5 y1 i2) (Γi := []) H ⟨Vw.own 0 rfl, trivial⟩ ?_; clear H i2
  rintro _ _ w6 ⟨h0, rfl, rfl⟩ H
  cases f5
  exact ⟨_, _, rfl, ⟨h0, rfl, rfl⟩, (H.sel [0] rfl).close ⟨cloE, trivial⟩⟩

theorem spec_poMonic_c (p_ : Int) (f_ : List Int) (f_h : Hd) (y : List Int) (hF : F_spec_poMonic p_ f_ = some y) :
  ConF Tryd.prog 68 #[(.int .i64 p_), (f_h).v] [Es (List Int) f_ f_h] [] (fun v Γ' => ∃ z0 : Hd, v = (z0).v ∧ Γ' = [E (List Int) y z0]) := by
 intro w0 S0 fp0 hI hS
 have H : Cx w0 fp0 S0 w0 [Es (List Int) f_ f_h] := Cx.start hI hS
 clear hI hS
 refine enterC (args := [_, _]) gok Tryd.func68 rfl _ rfl rfl rfl ?_
 refine lenE (H.rs (α := List Int) 0 rfl).len ?_
 obtain ⟨a2, e, hF3⟩ := bindS hF; clear hF
 refine arO e ?_; clear e
 obtain ⟨a0, e, f0⟩ := bindS hF3; clear hF3
 obtain ⟨p8, m9, c4, c5, c6, c7⟩ := (H.rs (α := List Int) 0 rfl).at1 e; clear e
 refine idxE c4 c5 c6 ?_; clear c4 c5 c6
 refine load1 c7 ?_; clear c7
 obtain ⟨y0, e, f1⟩ := bindS f0; clear f0
 have i0 := e; clear e
 refine callF (spec_fdInv_c p_ a0 y0 i0) (Γi := []) H trivial ?_; clear H i0
 rintro _ _ w1 ⟨rfl, rfl⟩ H
 obtain ⟨y1, e, f2⟩ := bindS f1; clear f1
 have i1 := e; clear e
 refine callF (spec_poTimes_c p_ y0 f_ f_h y1 i1) (Γi := []) H ⟨Vw.sh 0 rfl, trivial⟩ ?_; clear H i1
 rintro _ _ w2 ⟨h0, rfl, rfl⟩ H
 cases f2
 exact ⟨_, _, rfl, ⟨h0, rfl, rfl⟩, (H.sel [0] rfl).close ⟨cloE, trivial⟩⟩

theorem spec_poGcd_c (p_ : Int) (f_ : List Int) (f_h : Hd) (g_ : List Int) (g_h : Hd) (y : List Int) (hF : F_spec_poGcd p_ f_ g_ = some y) :
  ConF Tryd.prog 51 #[(.int .i64 p_), (f_h).v, (g_h).v] [Es (List Int) f_ f_h, Es (List Int) g_ g_h] [] (fun v Γ' => ∃ z0 : Hd, v = (z0).v ∧ Γ' = [E (List Int) y z0]) := by
 intro w0 S0 fp0 hI hS
 have H : Cx w0 fp0 S0 w0 [Es (List Int) f_ f_h, Es (List Int) g_ g_h] := Cx.start hI hS
 clear hI hS
 refine enterC (args := [_, _, _]) gok Tryd.func51 rfl _ rfl rfl rfl ?_
 obtain ⟨r0, f0, f1⟩ := bindS hF; clear hF
 refine cut (fun (q0 : List Int × Hd) => [(0, (.int .i64 p_)), (1, (q0.2).v)]) (fun (q0 : List Int × Hd) w' => q0.1 = r0 ∧ Cx w0 fp0 S0 w' [Es (List Int) q0.1 q0.2]) ?_ ?_
 ·
  refine loopW _ (fun (s0 : List Int × List Int) (g0 : Hd × Hd) => [(0, (.int .i64 p_)), (1, (g0.1).v), (2, (g0.2).v)]) (fun (s0 : List Int × List Int) (g0 : Hd × Hd) w' => Cx w0 fp0 S0 w' [Es (List Int) s0.1 g0.1, Es (List Int) s0.2 g0.2]) (f_, g_) (f_h, g_h) f0 ⟨rfl, rfl, rfl, trivial⟩ (H.sel [0, 1] rfl) ?_
  ·
   clear H
   rintro T0 ⟨s0_0, s0_1⟩ ⟨g0_0, g0_1⟩ w1 o0 (H : Cx w0 fp0 S0 w1 [Es (List Int) s0_0 g0_0, Es (List Int) s0_1 g0_1]) hrt f2
   refine sq ?_
   refine lenE (H.rs (α := List Int) 1 rfl).len ?_
   obtain ⟨a0, e, f3⟩ := bindS f2; clear f2
   refine boolO e ?_; clear e
   cases a0
   ·
    have f4 := condF f3; clear f3
    have hs := Option.some.inj f4; subst hs; clear f4
    have f5 : some _ = some _ := congrArg some (hrt _ rfl).symm
    exact ⟨(s0_0, g0_0), ⟨rfl, rfl, trivial⟩, Option.some.inj f5, H.sel [0] rfl⟩
   ·
    have f6 := condT f3; clear f3
    obtain ⟨y0, e, f7⟩ := bindS f6; clear f6
    obtain ⟨y0_0, y0_1⟩ := y0
    have i0 := e; clear e
    refine callF (spec_poDiv_c p_ s0_0 g0_0 s0_1 g0_1 y0_0 y0_1 i0) (Γi := []) H ⟨Vw.sh 0 rfl, Vw.sh 1 rfl, trivial⟩ ?_; clear H i0
    rintro _ _ w2 ⟨h0, h1, rfl, rfl⟩ H
    replace H := H.sel [1, 0, 2, 3] rfl
    replace H := H.frz
    have hs := Option.some.inj f7; subst hs; clear f7
    exact ⟨(s0_1, y0_1), (g0_1, h1), rfl, ⟨rfl, rfl, rfl, trivial⟩, H.sel [3, 0] rfl⟩
 ·
  clear f0 H
  rintro T1 ⟨s1, g1⟩ w3 ⟨hr, (H : Cx w0 fp0 S0 w3 [Es (List Int) s1 g1])⟩
  subst hr
  obtain ⟨y1, e, f8⟩ := bindS f1; clear f1
  have i1 := e; clear e
  refine callF (spec_poMonic_c p_ s1 g1 y1 i1) (Γi := []) H ⟨Vw.sh 0 rfl, trivial⟩ ?_; clear H i1
  rintro _ _ w4 ⟨h2, rfl, rfl⟩ H
  cases f8
  exact ⟨_, _, rfl, ⟨h2, rfl, rfl⟩, (H.sel [0] rfl).close ⟨cloE, trivial⟩⟩

theorem spec_frMake_c (p_ : Int) (num_ : List Int) (num_h : Hd) (den_ : List Int) (den_h : Hd) (y_0 : List Int) (y_1 : List Int) (hF : F_spec_frMake p_ num_ den_ = some (y_0, y_1)) :
  ConF Tryd.prog 33 #[(.int .i64 p_), (num_h).v, (den_h).v] [Es (List Int) num_ num_h, Es (List Int) den_ den_h] [] (fun v Γ' => ∃ z0 z1 : Hd, v = (.agg #[(z0).v, (z1).v]) ∧ Γ' = [E (List Int) y_0 z0, E (List Int) y_1 z1]) := by
 intro w0 S0 fp0 hI hS
 have H : Cx w0 fp0 S0 w0 [Es (List Int) num_ num_h, Es (List Int) den_ den_h] := Cx.start hI hS
 clear hI hS
 refine enterC (args := [_, _, _]) gok Tryd.func33 rfl _ rfl rfl rfl ?_
 refine alloc_ gok rfl H ?_; clear H; intro b4 w3 hx H
 clear hx
 obtain ⟨y6, e, hF7⟩ := bindS hF; clear hF
 have ey6 := e; clear e
 refine callF (spec_poGcd_c p_ num_ num_h den_ den_h y6 ey6) (Γi := []) H ⟨Vw.sh 1 rfl, Vw.sh 2 rfl, trivial⟩ ?_; clear H ey6
 rintro _ _ w8 ⟨h9, rfl, rfl⟩ H
 obtain ⟨y0, e, f0⟩ := bindS hF7; clear hF7
 obtain ⟨y0_0, y0_1⟩ := y0
 have i0 := e; clear e
 refine callF (spec_poDiv_c p_ num_ num_h y6 h9 y0_0 y0_1 i0) (Γi := []) H ⟨Vw.sh 2 rfl, Vw.own 0 rfl, trivial⟩ ?_; clear H i0
 rintro _ _ w1 ⟨h0, h1, rfl, rfl⟩ H
 obtain ⟨y1, e, f1⟩ := bindS f0; clear f0
 obtain ⟨y1_0, y1_1⟩ := y1
 have i1 := e; clear e
 refine callF (spec_poDiv_c p_ den_ den_h y6 h9 y1_0 y1_1 i1) (Γi := []) H ⟨Vw.sh 5 rfl, Vw.own 2 rfl, trivial⟩ ?_; clear H i1
 rintro _ _ w2 ⟨h2, h3, rfl, rfl⟩ H
 refine lenE (H.ro (α := List Int) 0 rfl).len ?_
 obtain ⟨a0, e, f2⟩ := bindS f1; clear f1
 refine arO e ?_; clear e
 obtain ⟨a1, e, f3⟩ := bindS f2; clear f2
 obtain ⟨p0, m0, c0, c1, c2, c3⟩ := (H.ro (α := List Int) 0 rfl).at1 e; clear e
 refine idxE c0 c1 c2 ?_; clear c0 c1 c2
 refine load1 c3 ?_; clear c3
 obtain ⟨y2, e, f4⟩ := bindS f3; clear f3
 have i2 := e; clear e
 refine callF (spec_fdInv_c p_ a1 y2 i2) (Γi := []) H trivial ?_; clear H i2
 rintro _ _ w4 ⟨rfl, rfl⟩ H
 obtain ⟨y3, e, f5⟩ := bindS f4; clear f4
 have i3 := e; clear e
 refine callF (spec_poTimes_c p_ y2 y0_0 h0 y3 i3) (Γi := []) H ⟨Vw.own 2 rfl, trivial⟩ ?_; clear H i3
 rintro _ _ w5 ⟨h4, rfl, rfl⟩ H
 obtain ⟨y4, e, f6⟩ := bindS f5; clear f5
 have i4 := e; clear e
 refine callF (spec_l1Own_c y3 h4 y4 i4) (Γi := []) H ⟨Vw.own 0 rfl, trivial⟩ ?_; clear H i4
 rintro _ _ w6 ⟨h5, rfl, rfl⟩ H
 obtain ⟨y5, e, f7⟩ := bindS f6; clear f6
 have i5 := e; clear e
 refine callF (spec_poTimes_c p_ y2 y1_0 h2 y5 i5) (Γi := []) H ⟨Vw.own 2 rfl, trivial⟩ ?_; clear H i5
 rintro _ _ w7 ⟨h6, rfl, rfl⟩ H
 obtain ⟨y7, e, f8⟩ := bindS f7; clear f7
 have i6 := e; clear e
 refine callF (spec_l1Own_c y5 h6 y7 i6) (Γi := []) H ⟨Vw.own 0 rfl, trivial⟩ ?_; clear H i6
 rintro _ _ w9 ⟨h7, rfl, rfl⟩ H
 refine build_ (cs := #[(h5).v, (h7).v]) gok rfl rfl rfl ?_
 replace H := H.sel [9, 0, 1, 2, 3, 4, 5, 6, 7, 8, 10, 11] rfl
 refine stA gok [(h5).v, (h7).v] rfl H rfl rfl rfl ?_; clear H; intro w10 H
 refine loadN [(h5).v, (h7).v] rfl (fun j u hj => H.bx 0 rfl hj) ?_
 cases f8
 exact ⟨_, _, rfl, ⟨h5, h7, rfl, rfl⟩, (H.sel [3, 1] rfl).close ⟨cloE, cloE, trivial⟩⟩

theorem spec_frSize_c (f_ : List Int) (f_h : Hd) (y : Bool) (hF : F_spec_frSize f_ = some y) :
  ConF Tryd.prog 50 #[(f_h).v] [Es (List Int) f_ f_h] [] (fun v Γ' => v = (.bool y) ∧ Γ' = []) := by
 intro w0 S0 fp0 hI hS
 have H : Cx w0 fp0 S0 w0 [Es (List Int) f_ f_h] := Cx.start hI hS
 clear hI hS
 refine enterC (args := [_]) gok Tryd.func50 rfl _ rfl rfl rfl ?_
 refine lenE (H.rs (α := List Int) 0 rfl).len ?_
 obtain ⟨a2, e, hF3⟩ := bindS hF; clear hF
 refine boolO e ?_; clear e
 cases hF3
 exact ⟨_, _, rfl, ⟨rfl, rfl⟩, (H.sel [] rfl).close trivial⟩

theorem spec_frIf_c (x__0 : List Int) (x__0h : Hd) (x__1 : List Int) (x__1h : Hd) (y0_0 : List Int) (y0_1 : List Int) (y1 : Bool) (hF : F_spec_frIf (x__0, x__1) = some ((y0_0, y0_1), y1)) :
  ConF Tryd.prog 32 #[(.agg #[(x__0h).v, (x__1h).v])] [] [E (List Int) x__0 x__0h, E (List Int) x__1 x__1h] (fun v Γ' => ∃ z0 z1 : Hd, v = (.tuple #[(.agg #[(z0).v, (z1).v]), (.bool y1)]) ∧ Γ' = [E (List Int) y0_0 z0, E (List Int) y0_1 z1]) := by
 intro w0 S0 fp0 hI hS
 have H : Cx w0 fp0 S0 w0 [E (List Int) x__0 x__0h, E (List Int) x__1 x__1h] := Cx.start hI hS
 clear hI hS
 refine enterC (args := [_]) gok Tryd.func32 rfl _ rfl rfl rfl ?_
 refine box_ H ?_; clear H; intro b4 w3 hx H
 clear hx
 refine alloc_ gok rfl H ?_; clear H; intro b7 w6 hx H
 clear hx
 refine sq ?_
 obtain ⟨r0, f0, f1⟩ := bindS hF; clear hF
 refine cut (fun (q0 : Bool) => [(1, (.pointer (some ⟨b4, 0, none⟩))), (2, (.pointer (some ⟨b7, 0, none⟩))), (13, (.bool q0))]) (fun (q0 : Bool) w' => q0 = r0 ∧ Cx w0 fp0 S0 w' [Bx b4 [(x__0h).v, (x__1h).v], E (List Int) x__0 x__0h, E (List Int) x__1 x__1h, Bx b7 [(.slice none 0 0), (.slice none 0 0)]]) ?_ ?_
 ·
  refine fld gok rfl rfl rfl rfl ?_
  refine load1 (H.bx 1 rfl (j := 0) rfl) ?_
  obtain ⟨y0, e, f2⟩ := bindS f0; clear f0
  have i0 := e; clear e
  refine callF (spec_frSize_c x__0 x__0h y0 i0) (Γi := []) H ⟨Vw.own 2 rfl, trivial⟩ ?_; clear H i0
  rintro _ _ w1 ⟨rfl, rfl⟩ H
  obtain ⟨a0, e, f3⟩ := bindS f2; clear f2
  refine boolO e ?_; clear e
  cases a0
  ·
   have f4 := condF f3; clear f3
   refine fld gok rfl rfl rfl rfl ?_
   refine load1 (H.bx 1 rfl (j := 1) rfl) ?_
   obtain ⟨y2, e, f5⟩ := bindS f4; clear f4
   have i1 := e; clear e
   refine callF (spec_frSize_c x__1 x__1h y2 i1) (Γi := []) H ⟨Vw.own 3 rfl, trivial⟩ ?_; clear H i1
   rintro _ _ w2 ⟨rfl, rfl⟩ H
   obtain ⟨a1, e, f6⟩ := bindS f5; clear f5
   refine boolO e ?_; clear e
   exact ⟨a1, ⟨rfl, rfl, rfl, trivial⟩, Option.some.inj f6, H.sel [1, 2, 3, 0] rfl⟩
  ·
   have f7 := condT f3; clear f3
   exact ⟨true, ⟨rfl, rfl, rfl, trivial⟩, Option.some.inj f7, H.sel [1, 2, 3, 0] rfl⟩
 ·
  clear f0 H
  rintro T0 s0 w4 ⟨hr, (H : Cx w0 fp0 S0 w4 [Bx b4 [(x__0h).v, (x__1h).v], E (List Int) x__0 x__0h, E (List Int) x__1 x__1h, Bx b7 [(.slice none 0 0), (.slice none 0 0)]])⟩
  subst hr
  cases s0
  ·
   have f8 := condF f1; clear f1
   refine loadN [(x__0h).v, (x__1h).v] rfl (fun j u hj => H.bx 0 rfl hj) ?_
   replace H := H.sel [3, 0, 1, 2] rfl
   refine stA gok [(x__0h).v, (x__1h).v] rfl H rfl rfl rfl ?_; clear H; intro w5 H
   refine loadN [(x__0h).v, (x__1h).v] rfl (fun j u hj => H.bx 0 rfl hj) ?_
   cases f8
   exact ⟨_, _, rfl, ⟨x__0h, x__1h, rfl, rfl⟩, (H.sel [2, 3] rfl).close ⟨cloE, cloE, trivial⟩⟩
  ·
   have f9 := condT f1; clear f1
   refine build_ (cs := #[(.slice none 0 0), (.slice none 0 0)]) gok rfl rfl rfl ?_
   replace H := H.sel [3, 0, 1, 2] rfl
   refine stA gok [(.slice none 0 0), (.slice none 0 0)] rfl H rfl rfl rfl ?_; clear H; intro w7 H
   refine loadN [(.slice none 0 0), (.slice none 0 0)] rfl (fun j u hj => H.bx 0 rfl hj) ?_
   replace H := H.nil (α := Int)
   replace H := H.nil (α := Int)
   cases f9
   exact ⟨_, _, rfl, ⟨nilH, nilH, rfl, rfl⟩, (H.sel [1, 0] rfl).close ⟨cloE, cloE, trivial⟩⟩

theorem spec_frOf_c (p_ : Int) (s_ : List Int) (s_h : Hd) (y0_0 : List Int) (y0_1 : List Int) (y1 : Bool) (hF : F_spec_frOf p_ s_ = some ((y0_0, y0_1), y1)) :
  ConF Tryd.prog 16 #[(.int .i64 p_), (s_h).v] [Es (List Int) s_ s_h] [] (fun v Γ' => ∃ z0 z1 : Hd, v = (.tuple #[(.agg #[(z0).v, (z1).v]), (.bool y1)]) ∧ Γ' = [E (List Int) y0_0 z0, E (List Int) y0_1 z1]) := by
 intro w0 S0 fp0 hI hS
 have H : Cx w0 fp0 S0 w0 [Es (List Int) s_ s_h] := Cx.start hI hS
 clear hI hS
 refine enterC (args := [_, _]) gok Tryd.func16 rfl _ rfl rfl rfl ?_
 refine alloc_ gok rfl H ?_; clear H; intro b3 w2 hx H
 clear hx
 obtain ⟨r0, f0, f1⟩ := bindS hF; clear hF
 refine cut (fun (q0 : Unit) => [(4, (.pointer (some ⟨b3, 0, none⟩)))]) (fun (q0 : Unit) w' => .inl () = r0 ∧ Cx w0 fp0 S0 w' [Bx b3 [(.slice none 0 0), (.slice none 0 0)]]) ?_ ?_
 ·
  refine loopW _ (fun (s0 : Int) (_ : Unit) => [(0, (.int .i64 p_)), (1, (s_h).v), (4, (.pointer (some ⟨b3, 0, none⟩))), (6, (.int .i64 s0))]) (fun (s0 : Int) (_ : Unit) w' => Cx w0 fp0 S0 w' [Es (List Int) s_ s_h, Bx b3 [(.slice none 0 0), (.slice none 0 0)]]) 0 () f0 ⟨rfl, rfl, rfl, rfl, trivial⟩ (H.sel [1, 0] rfl) ?_
  ·
   clear H
   rintro T0 s0 _ w1 o0 (H : Cx w0 fp0 S0 w1 [Es (List Int) s_ s_h, Bx b3 [(.slice none 0 0), (.slice none 0 0)]]) hrt f2
   refine sq ?_
   obtain ⟨a0, e, f3⟩ := bindS f2; clear f2
   refine arO e ?_; clear e
   refine lenE (H.rs (α := List Int) 0 rfl).len ?_
   obtain ⟨a1, e, f4⟩ := bindS f3; clear f3
   refine boolO e ?_; clear e
   cases a1
   ·
    have f5 := condF f4; clear f4
    have hs := Option.some.inj f5; subst hs; clear f5
    have f6 : some _ = some _ := congrArg some (hrt _ rfl).symm
    exact ⟨(), ⟨rfl, trivial⟩, Option.some.inj f6, H.sel [1] rfl⟩
   ·
    have f7 := condT f4; clear f4
    obtain ⟨r1, f8, f9⟩ := bindS f7; clear f7
    refine cut (fun (q1 : Unit) => [(0, (.int .i64 p_)), (1, (s_h).v), (4, (.pointer (some ⟨b3, 0, none⟩))), (6, (.int .i64 s0))]) (fun (q1 : Unit) w' => .inl () = r1 ∧ Cx w0 fp0 S0 w' [Es (List Int) s_ s_h, Bx b3 [(.slice none 0 0), (.slice none 0 0)]]) ?_ ?_
    ·
     obtain ⟨y0, e, f10⟩ := bindS f8; clear f8
     obtain ⟨y0_0, y0_1⟩ := y0
     have i0 := e; clear e
     refine callS (spec_frRecurrence_c p_ s_ s_h s0 y0_0 y0_1 i0) (Γi := []) H [0] rfl (persC persS persN) ?_; clear H i0
     rintro _ _ w3 ⟨h0, rfl, rfl⟩ H
     refine sq ?_
     obtain ⟨a2, e, f11⟩ := bindS f10; clear f10
     refine boolO e ?_; clear e
     cases a2
     ·
      have f12 := condF f11; clear f11
      refine lit1S (α := Int) gok rfl rfl rfl rfl H ?_; clear H; intro h1 w4 hx H
      clear hx
      obtain ⟨a3, e, f13⟩ := bindS f12; clear f12
      refine appendS (α := Int) gok rfl rfl rfl rfl H (Vw.sh 0 rfl) e ?_; clear e H; intro h2 w5 H
      obtain ⟨a4, e, f14⟩ := bindS f13; clear f13
      refine make_ (α := Int) gok rfl rfl rfl rfl (makeCO_of e) H ?_; clear e H; intro h3 w6 hx H
      clear hx
      refine sq ?_
      refine lenE (H.ro (α := List Int) 0 rfl).len ?_
      have x0 := (H.ro (α := List Int) 0 rfl).max
      obtain ⟨r2, e, f15⟩ := bindS f14; clear f14
      refine loopS _ a4.length (fun (k0 : Nat) (s1 : List Int) (_ : Unit) => [(0, (.int .i64 p_)), (1, (s_h).v), (4, (.pointer (some ⟨b3, 0, none⟩))), (9, (h2).v), (10, (h3).v), (35, (.int .i64 ((a4.length : Nat) : Int))), (36, (.int .i64 ((k0 : Nat) : Int)))]) (fun _ (s1 : List Int) (_ : Unit) w' => Cx w0 fp0 S0 w' [Es (List Int) s_ s_h, Bx b3 [(.slice none 0 0), (.slice none 0 0)], E (List Int) a3 h2, E (List Int) s1 h3]) a4 () e ⟨rfl, rfl, rfl, rfl, rfl, rfl, rfl, trivial⟩ (H.sel [3, 4, 1, 0] rfl) ?_ ?_
      ·
       clear H e
       rintro T1 k0 s1 _ w7 o1 hk (H : Cx w0 fp0 S0 w7 [Es (List Int) s_ s_h, Bx b3 [(.slice none 0 0), (.slice none 0 0)], E (List Int) a3 h2, E (List Int) s1 h3]) f16
       refine boolE (z := true) (ltLen hk) ?_
       refine sq ?_
       obtain ⟨r3, f17, f18⟩ := bindS f16; clear f16
       refine cut (fun (q2 : List Int) => [(0, (.int .i64 p_)), (1, (s_h).v), (4, (.pointer (some ⟨b3, 0, none⟩))), (9, (h2).v), (10, (h3).v), (35, (.int .i64 ((a4.length : Nat) : Int))), (36, (.int .i64 ((k0 : Nat) : Int)))]) (fun (q2 : List Int) w' => q2 = r3 ∧ Cx w0 fp0 S0 w' [Es (List Int) s_ s_h, Bx b3 [(.slice none 0 0), (.slice none 0 0)], E (List Int) a3 h2, E (List Int) q2 h3]) ?_ ?_
       ·
        refine loopW _ (fun (s2 : List Int × Int) (_ : Unit) => [(0, (.int .i64 p_)), (1, (s_h).v), (4, (.pointer (some ⟨b3, 0, none⟩))), (9, (h2).v), (10, (h3).v), (11, (.int .i64 ((k0 : Nat) : Int))), (12, (.int .i64 s2.2)), (35, (.int .i64 ((a4.length : Nat) : Int))), (36, (.int .i64 ((k0 : Nat) : Int)))]) (fun (s2 : List Int × Int) (_ : Unit) w' => Cx w0 fp0 S0 w' [Es (List Int) s_ s_h, Bx b3 [(.slice none 0 0), (.slice none 0 0)], E (List Int) a3 h2, E (List Int) s2.1 h3]) (s1, 0) () f17 ⟨rfl, rfl, rfl, rfl, rfl, rfl, rfl, rfl, rfl, trivial⟩ (H.sel [0, 1, 2, 3] rfl) ?_
        ·
         clear H
         rintro T2 ⟨s2_0, s2_1⟩ _ w8 o2 (H : Cx w0 fp0 S0 w8 [Es (List Int) s_ s_h, Bx b3 [(.slice none 0 0), (.slice none 0 0)], E (List Int) a3 h2, E (List Int) s2_0 h3]) hrt f19
         refine sq ?_
         obtain ⟨a5, e, f20⟩ := bindS f19; clear f19
         refine boolO e ?_; clear e
         cases a5
         ·
          have f21 := condF f20; clear f20
          have hs := Option.some.inj f21; subst hs; clear f21
          have f22 : some _ = some _ := congrArg some (hrt _ rfl).symm
          exact ⟨s2_0, ⟨rfl, rfl, rfl, rfl, rfl, rfl, rfl, trivial⟩, Option.some.inj f22, H.sel [0, 1, 2, 3] rfl⟩
         ·
          have f23 := condT f20; clear f20
          refine sq ?_
          refine heldX H [21] (.fst 0 (.fst 1 (.fst 2 (.fst 3 (.fst 4 (.fst 6 (.fst 7 (.fst 8 (.fst 10 (.fst 11 (.fst 12 (.fst 13 (.fst 14 (.fst 18 (.fst 5 (.fst 9 (.fst 15 (.fst 16 (.fst 17 (.fst 19 (.fst 20 (.act 21 .done)))))))))))))))))))))) mixed [] trivial (by kernel_rfl) ?_
          clear H; intro w9 H
          have hX : Ext w9 w9 := Upd.refl _ _
          have H0 := H
          obtain ⟨a6, e, f24⟩ := bindS f23; clear f23
          obtain ⟨p0, m0, c0, c1, c2, c3⟩ := (H.ro (α := List Int) 3 rfl).at1 e; clear e
          refine idxE c0 c1 c2 ?_; clear c0 c1 c2
          obtain ⟨a7, e, f25⟩ := bindS f24; clear f24
          obtain ⟨p1, m1, c4, c5, c6, c7⟩ := (H.ro (α := List Int) 2 rfl).at1 e; clear e
          refine idxE c4 c5 c6 ?_; clear c4 c5 c6
          obtain ⟨a8, e, f26⟩ := bindS f25; clear f25
          refine arO e ?_; clear e
          obtain ⟨a9, e, f27⟩ := bindS f26; clear f26
          obtain ⟨p2, m2, c8, c9, c10, c11⟩ := (H.rs (α := List Int) 0 rfl).at1 e; clear e
          refine idxE c8 c9 c10 ?_; clear c8 c9 c10
          refine load1X c3 ?_; clear c3
          refine load1X c7 ?_; clear c7
          refine load1X c11 ?_; clear c11
          obtain ⟨a10, e, f28⟩ := bindS f27; clear f27
          refine arO e ?_; clear e
          obtain ⟨a11, e, f29⟩ := bindS f28; clear f28
          refine arO e ?_; clear e
          obtain ⟨a12, e, f30⟩ := bindS f29; clear f29
          refine remO_ e ?_; clear e
          obtain ⟨a13, e, f31⟩ := bindS f30; clear f30
          have i1 := e; clear e
          obtain ⟨p3, m3, c12, c13, c14⟩ := (H.ro (α := List Int) 3 rfl).setp i1
          refine idxE c12 c13 c14 ?_
          replace H := H.sel [3, 0, 1, 2] rfl
          refine setS (α := Int) H c12 c13 i1 ?_; clear H c12 c13 c14 i1; intro w10 H
          refine hold trivial ?_
          obtain ⟨a14, e, f32⟩ := bindS f31; clear f31
          refine arO e ?_; clear e
          have hs := Option.some.inj f32; subst hs; clear f32
          exact ⟨(a13, a14), (), rfl, ⟨rfl, rfl, rfl, rfl, rfl, rfl, rfl, rfl, rfl, trivial⟩, H.sel [1, 2, 3, 0] rfl⟩
       ·
        clear f17 H
        rintro T3 s3 w11 ⟨hr, (H : Cx w0 fp0 S0 w11 [Es (List Int) s_ s_h, Bx b3 [(.slice none 0 0), (.slice none 0 0)], E (List Int) a3 h2, E (List Int) s3 h3])⟩
        subst hr
        refine arK hk x0 ?_
        have hs := Option.some.inj f18; subst hs; clear f18
        exact ⟨(), ⟨rfl, rfl, rfl, rfl, rfl, rfl, rfl, trivial⟩, H.sel [0, 1, 2, 3] rfl⟩
      ·
       clear H e
       rintro T4 _ w12 (H : Cx w0 fp0 S0 w12 [Es (List Int) s_ s_h, Bx b3 [(.slice none 0 0), (.slice none 0 0)], E (List Int) a3 h2, E (List Int) r2 h3])
       refine boolE (z := false) geLen ?_
       refine sq ?_
       obtain ⟨y2, e, f33⟩ := bindS f15; clear f15
       have i2 := e; clear e
       refine callF (spec_poTrim_c r2 h3 y2 i2) (Γi := []) H ⟨Vw.own 3 rfl, trivial⟩ ?_; clear H i2
       rintro _ _ w13 ⟨h4, rfl, rfl⟩ H
       obtain ⟨y3, e, f34⟩ := bindS f33; clear f33
       have i3 := e; clear e
       refine callF (spec_poTrim_c a3 h2 y3 i3) (Γi := []) H ⟨Vw.own 3 rfl, trivial⟩ ?_; clear H i3
       rintro _ _ w14 ⟨h5, rfl, rfl⟩ H
       obtain ⟨y4, e, f35⟩ := bindS f34; clear f34
       obtain ⟨y4_0, y4_1⟩ := y4
       have i4 := e; clear e
       refine callF (spec_frMake_c p_ y2 h4 y3 h5 y4_0 y4_1 i4) (Γi := []) H ⟨Vw.own 1 rfl, Vw.own 0 rfl, trivial⟩ ?_; clear H i4
       rintro _ _ w15 ⟨h6, h7, rfl, rfl⟩ H
       obtain ⟨y5, e, f36⟩ := bindS f35; clear f35
       obtain ⟨⟨y5_0_0, y5_0_1⟩, y5_1⟩ := y5
       have i5 := e; clear e
       refine callF (spec_frIf_c y4_0 h6 y4_1 h7 y5_0_0 y5_0_1 y5_1 i5) (Γi := [E (List Int) y4_0 h6, E (List Int) y4_1 h7]) H trivial ?_; clear H i5
       rintro _ _ w16 ⟨h8, h9, rfl, rfl⟩ H
       replace H := H.sel [5, 0, 1, 2, 3, 4, 6, 7] rfl
       refine stA gok [(h8).v, (h9).v] rfl H rfl rfl rfl ?_; clear H; intro w17 H
       have hs := Option.some.inj f36; subst hs; clear f36
       have f37 : some _ = some _ := f9; clear f9
       have hs := Option.some.inj f37; subst hs; clear f37
       have f38 : some _ = some _ := congrArg some (hrt _ rfl).symm
       have hs := Option.some.inj f38; subst hs; clear f38
       have f39 : some _ = some _ := f1; clear f1
       refine loadN [(h8).v, (h9).v] rfl (fun j u hj => H.bx 0 rfl hj) ?_
       cases f39
       exact ⟨_, _, rfl, ⟨h8, h9, rfl, rfl⟩, (H.sel [1, 2] rfl).close ⟨cloE, cloE, trivial⟩⟩
     ·
      have f40 := condT f11; clear f11
      exact ⟨(), ⟨rfl, rfl, rfl, rfl, trivial⟩, Option.some.inj f40, H.sel [1, 2] rfl⟩
    ·
     clear f8 H
     rintro T5 _ w18 ⟨hr, (H : Cx w0 fp0 S0 w18 [Es (List Int) s_ s_h, Bx b3 [(.slice none 0 0), (.slice none 0 0)]])⟩
     subst hr
     obtain ⟨a15, e, f41⟩ := bindS f9; clear f9
     refine arO e ?_; clear e
     have hs := Option.some.inj f41; subst hs; clear f41
     exact ⟨a15, (), rfl, ⟨rfl, rfl, rfl, rfl, trivial⟩, H.sel [0, 1] rfl⟩
 ·
  clear f0 H
  rintro T6 _ w19 ⟨hr, (H : Cx w0 fp0 S0 w19 [Bx b3 [(.slice none 0 0), (.slice none 0 0)]])⟩
  subst hr
  refine build_ (cs := #[(.slice none 0 0), (.slice none 0 0)]) gok rfl rfl rfl ?_
  refine stA gok [(.slice none 0 0), (.slice none 0 0)] rfl H rfl rfl rfl ?_; clear H; intro w20 H
  refine loadN [(.slice none 0 0), (.slice none 0 0)] rfl (fun j u hj => H.bx 0 rfl hj) ?_
  replace H := H.nil (α := Int)
  replace H := H.nil (α := Int)
  cases f1
  exact ⟨_, _, rfl, ⟨nilH, nilH, rfl, rfl⟩, (H.sel [1, 0] rfl).close ⟨cloE, cloE, trivial⟩⟩

theorem spec_TransferOf_c (p_ : Int) (s__0 : Int) (s__1 : Int) (s__2 : Int) (s__3 : List (List Int)) (s__3h : Hd) (s__4 : List (List Int)) (s__4h : Hd) (s__5 : List (List Int)) (s__5h : Hd) (s__6 : List (List Int)) (s__6h : Hd) (y0 : List (List (List Int × List Int))) (y1 : Bool) (hF : F_spec_TransferOf p_ (s__0, s__1, s__2, s__3, s__4, s__5, s__6) = some (y0, y1)) :
  ConF Tryd.prog 5 #[(.int .i64 p_), (.agg #[(.int .i64 s__0), (.int .i64 s__1), (.int .i64 s__2), (s__3h).v, (s__4h).v, (s__5h).v, (s__6h).v])] [Es (List (List Int)) s__3 s__3h, Es (List (List Int)) s__4 s__4h, Es (List (List Int)) s__5 s__5h, Es (List (List Int)) s__6 s__6h] [] (fun v Γ' => ∃ z0 : Hd, v = (.tuple #[(z0).v, (.bool y1)]) ∧ Γ' = [E (List (List (List Int × List Int))) y0 z0]) := by
 intro w0 S0 fp0 hI hS
 have H : Cx w0 fp0 S0 w0 [Es (List (List Int)) s__3 s__3h, Es (List (List Int)) s__4 s__4h, Es (List (List Int)) s__5 s__5h, Es (List (List Int)) s__6 s__6h] := Cx.start hI hS
 clear hI hS
 refine enterC (args := [_, _]) gok Tryd.func5 rfl _ rfl rfl rfl ?_
 refine box_ H ?_; clear H; intro b6 w5 hx H
 clear hx
 refine sq ?_
 refine loadN [(.int .i64 s__0), (.int .i64 s__1), (.int .i64 s__2), (s__3h).v, (s__4h).v, (s__5h).v, (s__6h).v] rfl (fun j u hj => H.bx 0 rfl hj) ?_
 obtain ⟨y8, e, hF9⟩ := bindS hF; clear hF
 have ey8 := e; clear e
 refine callF (spec_ssGood_c p_ s__0 s__1 s__2 s__3 s__3h s__4 s__4h s__5 s__5h s__6 s__6h y8 ey8) (Γi := []) H ⟨Vw.sh 1 rfl, Vw.sh 2 rfl, Vw.sh 3 rfl, Vw.sh 4 rfl, trivial⟩ ?_; clear H ey8
 rintro _ _ w1 ⟨rfl, rfl⟩ H
 obtain ⟨a0, e, f0⟩ := bindS hF9; clear hF9
 refine boolO e ?_; clear e
 cases a0
 ·
  have f1 := condF f0; clear f0
  refine loadN [(.int .i64 s__0), (.int .i64 s__1), (.int .i64 s__2), (s__3h).v, (s__4h).v, (s__5h).v, (s__6h).v] rfl (fun j u hj => H.bx 0 rfl hj) ?_
  refine fld gok rfl rfl rfl rfl ?_
  refine load1 (H.bx 0 rfl (j := 0) rfl) ?_
  obtain ⟨a1, e, f2⟩ := bindS f1; clear f1
  refine arO e ?_; clear e
  obtain ⟨a2, e, f3⟩ := bindS f2; clear f2
  refine arO e ?_; clear e
  obtain ⟨y2, e, f4⟩ := bindS f3; clear f3
  have i0 := e; clear e
  refine callF (spec_ssMarkov_c p_ s__0 s__1 s__2 s__3 s__3h s__4 s__4h s__5 s__5h s__6 s__6h a2 y2 i0) (Γi := []) H ⟨Vw.sh 1 rfl, Vw.sh 2 rfl, Vw.sh 3 rfl, Vw.sh 4 rfl, trivial⟩ ?_; clear H i0
  rintro _ _ w2 ⟨h0, rfl, rfl⟩ H
  replace H := H.frz
  obtain ⟨r0, f5, f6⟩ := bindS f4; clear f4
  refine cut (fun (q0 : (List (List (List Int × List Int))) × Hd) => [(7, (q0.2).v)]) (fun (q0 : (List (List (List Int × List Int))) × Hd) w' => .inl q0.1 = r0 ∧ Cx w0 fp0 S0 w' [E (List (List (List Int × List Int))) q0.1 q0.2]) ?_ ?_
  ·
   replace H := H.nil (α := List (List Int × List Int))
   refine loopW _ (fun (s0 : (List (List (List Int × List Int))) × Int) (g0 : Hd) => [(0, (.int .i64 p_)), (3, (.pointer (some ⟨b6, 0, none⟩))), (6, (h0).v), (7, (g0).v), (8, (.int .i64 s0.2))]) (fun (s0 : (List (List (List Int × List Int))) × Int) (g0 : Hd) w' => Cx w0 fp0 S0 w' [Bx b6 [(.int .i64 s__0), (.int .i64 s__1), (.int .i64 s__2), (s__3h).v, (s__4h).v, (s__5h).v, (s__6h).v], Es (List (List Int)) s__3 s__3h, Es (List (List Int)) s__4 s__4h, Es (List (List Int)) s__5 s__5h, Es (List (List Int)) s__6 s__6h, Es (List (Int × List (List Int))) y2 h0, E (List (List (List Int × List Int))) s0.1 g0]) ([], 0) nilH f5 ⟨rfl, rfl, rfl, rfl, rfl, trivial⟩ (H.sel [2, 3, 4, 5, 6, 1, 0] rfl) ?_
   ·
    clear H
    rintro T0 ⟨s0_0, s0_1⟩ g0 w3 o0 (H : Cx w0 fp0 S0 w3 [Bx b6 [(.int .i64 s__0), (.int .i64 s__1), (.int .i64 s__2), (s__3h).v, (s__4h).v, (s__5h).v, (s__6h).v], Es (List (List Int)) s__3 s__3h, Es (List (List Int)) s__4 s__4h, Es (List (List Int)) s__5 s__5h, Es (List (List Int)) s__6 s__6h, Es (List (Int × List (List Int))) y2 h0, E (List (List (List Int × List Int))) s0_0 g0]) hrt f7
    refine sq ?_
    refine fld gok rfl rfl rfl rfl ?_
    refine load1 (H.bx 0 rfl (j := 1) rfl) ?_
    obtain ⟨a3, e, f8⟩ := bindS f7; clear f7
    refine boolO e ?_; clear e
    cases a3
    ·
     have f9 := condF f8; clear f8
     have hs := Option.some.inj f9; subst hs; clear f9
     have f10 : some _ = some _ := congrArg some (hrt _ rfl).symm
     exact ⟨(s0_0, g0), ⟨rfl, trivial⟩, Option.some.inj f10, H.sel [6] rfl⟩
    ·
     have f11 := condT f8; clear f8
     refine sq ?_
     obtain ⟨r1, f12, f13⟩ := bindS f11; clear f11
     refine cut (fun (q1 : (List (List Int × List Int)) × Hd) => [(0, (.int .i64 p_)), (3, (.pointer (some ⟨b6, 0, none⟩))), (6, (h0).v), (7, (g0).v), (8, (.int .i64 s0_1)), (9, (q1.2).v)]) (fun (q1 : (List (List Int × List Int)) × Hd) w' => .inl q1.1 = r1 ∧ Cx w0 fp0 S0 w' [Bx b6 [(.int .i64 s__0), (.int .i64 s__1), (.int .i64 s__2), (s__3h).v, (s__4h).v, (s__5h).v, (s__6h).v], Es (List (List Int)) s__3 s__3h, Es (List (List Int)) s__4 s__4h, Es (List (List Int)) s__5 s__5h, Es (List (List Int)) s__6 s__6h, Es (List (Int × List (List Int))) y2 h0, E (List (List (List Int × List Int))) s0_0 g0, E (List (List Int × List Int)) q1.1 q1.2]) ?_ ?_
     ·
      replace H := H.nil (α := List Int × List Int)
      refine loopW _ (fun (s1 : Int × (List (List Int × List Int))) (g1 : Hd) => [(0, (.int .i64 p_)), (3, (.pointer (some ⟨b6, 0, none⟩))), (6, (h0).v), (7, (g0).v), (8, (.int .i64 s0_1)), (9, (g1).v), (10, (.int .i64 s1.1))]) (fun (s1 : Int × (List (List Int × List Int))) (g1 : Hd) w' => Cx w0 fp0 S0 w' [Bx b6 [(.int .i64 s__0), (.int .i64 s__1), (.int .i64 s__2), (s__3h).v, (s__4h).v, (s__5h).v, (s__6h).v], Es (List (List Int)) s__3 s__3h, Es (List (List Int)) s__4 s__4h, Es (List (List Int)) s__5 s__5h, Es (List (List Int)) s__6 s__6h, Es (List (Int × List (List Int))) y2 h0, E (List (List (List Int × List Int))) s0_0 g0, E (List (List Int × List Int)) s1.2 g1]) (0, []) nilH f12 ⟨rfl, rfl, rfl, rfl, rfl, rfl, rfl, trivial⟩ (H.sel [1, 2, 3, 4, 5, 6, 7, 0] rfl) ?_
      ·
       clear H
       rintro T1 ⟨s1_0, s1_1⟩ g1 w4 o1 (H : Cx w0 fp0 S0 w4 [Bx b6 [(.int .i64 s__0), (.int .i64 s__1), (.int .i64 s__2), (s__3h).v, (s__4h).v, (s__5h).v, (s__6h).v], Es (List (List Int)) s__3 s__3h, Es (List (List Int)) s__4 s__4h, Es (List (List Int)) s__5 s__5h, Es (List (List Int)) s__6 s__6h, Es (List (Int × List (List Int))) y2 h0, E (List (List (List Int × List Int))) s0_0 g0, E (List (List Int × List Int)) s1_1 g1]) hrt f14
       refine sq ?_
       refine fld gok rfl rfl rfl rfl ?_
       refine load1 (H.bx 0 rfl (j := 2) rfl) ?_
       obtain ⟨a4, e, f15⟩ := bindS f14; clear f14
       refine boolO e ?_; clear e
       cases a4
       ·
        have f16 := condF f15; clear f15
        have hs := Option.some.inj f16; subst hs; clear f16
        have f17 : some _ = some _ := congrArg some (hrt _ rfl).symm
        exact ⟨(s1_1, g1), ⟨rfl, rfl, rfl, rfl, rfl, rfl, trivial⟩, Option.some.inj f17, H.sel [0, 1, 2, 3, 4, 5, 6, 7] rfl⟩
       ·
        have f18 := condT f15; clear f15
        refine sq ?_
        refine sq ?_
        refine lenE (H.rs (α := List (Int × List (List Int))) 5 rfl).len ?_
        have x0 := (H.rs (α := List (Int × List (List Int))) 5 rfl).max
        obtain ⟨r2, e, f19⟩ := bindS f18; clear f18
        replace H := H.nil (α := Int)
        refine loopS _ y2.length (fun (k0 : Nat) (s2 : List Int) (g2 : Hd) => [(0, (.int .i64 p_)), (3, (.pointer (some ⟨b6, 0, none⟩))), (6, (h0).v), (7, (g0).v), (8, (.int .i64 s0_1)), (9, (g1).v), (10, (.int .i64 s1_0)), (11, (g2).v), (39, (h0).v), (40, (.int .i64 ((y2.length : Nat) : Int))), (41, (.int .i64 ((k0 : Nat) : Int)))]) (fun _ (s2 : List Int) (g2 : Hd) w' => Cx w0 fp0 S0 w' [Bx b6 [(.int .i64 s__0), (.int .i64 s__1), (.int .i64 s__2), (s__3h).v, (s__4h).v, (s__5h).v, (s__6h).v], Es (List (List Int)) s__3 s__3h, Es (List (List Int)) s__4 s__4h, Es (List (List Int)) s__5 s__5h, Es (List (List Int)) s__6 s__6h, Es (List (Int × List (List Int))) y2 h0, E (List (List (List Int × List Int))) s0_0 g0, E (List (List Int × List Int)) s1_1 g1, E (List Int) s2 g2]) [] nilH e ⟨rfl, rfl, rfl, rfl, rfl, rfl, rfl, rfl, rfl, rfl, rfl, trivial⟩ (H.sel [1, 2, 3, 4, 5, 6, 7, 8, 0] rfl) ?_ ?_
        ·
         clear H e
         rintro T2 k0 s2 g2 w6 o2 hk (H : Cx w0 fp0 S0 w6 [Bx b6 [(.int .i64 s__0), (.int .i64 s__1), (.int .i64 s__2), (s__3h).v, (s__4h).v, (s__5h).v, (s__6h).v], Es (List (List Int)) s__3 s__3h, Es (List (List Int)) s__4 s__4h, Es (List (List Int)) s__5 s__5h, Es (List (List Int)) s__6 s__6h, Es (List (Int × List (List Int))) y2 h0, E (List (List (List Int × List Int))) s0_0 g0, E (List (List Int × List Int)) s1_1 g1, E (List Int) s2 g2]) f20
         refine boolE (z := true) (ltLen hk) ?_
         refine sq ?_
         refine sq ?_
         obtain ⟨a5, e, f21⟩ := bindS f20; clear f20
         have HH := H; clear H; obtain ⟨p0, m0, g3, c0, c1, c2, c3, H⟩ := HH.el (α := Int × List (List Int)) 5 rfl e; clear HH
         clear e
         obtain ⟨a5_0, a5_1⟩ := a5
         obtain ⟨_, h1⟩ := g3
         replace H := H.part (β := List (List Int)) a5_1 (h1 : Hd) 0 rfl (fun S h => (And.right h))
         replace H := H.sel [0, 2, 3, 4, 5, 6, 7, 8, 9, 10] rfl
         refine idxE c0 c1 c2 ?_; clear c0 c1 c2
         refine loadN [(.int .i64 a5_0), (h1).v] rfl c3 ?_; clear c3
         refine alloc_ gok rfl H ?_; clear H; intro b0 w7 hx H
         clear hx
         refine stA gok [(.int .i64 a5_0), (h1).v] rfl H rfl rfl rfl ?_; clear H; intro w8 H
         refine fld gok rfl rfl rfl rfl ?_
         refine load1 (H.bx 0 rfl (j := 1) rfl) ?_
         obtain ⟨a6, e, f22⟩ := bindS f21; clear f21
         have HH := H; clear H; obtain ⟨p1, m1, h2, c4, c5, c6, c7, H⟩ := HH.elL 1 rfl e; clear HH
         clear e
         refine idxE c4 c5 c6 ?_; clear c4 c5 c6
         refine load1 c7 ?_; clear c7
         obtain ⟨a7, e, f23⟩ := bindS f22; clear f22
         obtain ⟨p2, m2, c8, c9, c10, c11⟩ := (H.rs (α := List Int) 0 rfl).at1 e; clear e
         refine idxE c8 c9 c10 ?_; clear c8 c9 c10
         refine load1 c11 ?_; clear c11
         refine lit1S (α := Int) gok rfl rfl rfl rfl H ?_; clear H; intro h3 w9 hx H
         clear hx
         obtain ⟨a8, e, f24⟩ := bindS f23; clear f23
         replace H := H.sel [12, 0, 1, 2, 3, 4, 5, 6, 7, 8, 9, 10, 11] rfl
         refine append_ (α := Int) gok rfl rfl rfl rfl H e ?_; clear e H; intro h4 w11 H
         refine arK hk x0 ?_
         have hs := Option.some.inj f24; subst hs; clear f24
         exact ⟨h4, ⟨rfl, rfl, rfl, rfl, rfl, rfl, rfl, rfl, rfl, rfl, rfl, trivial⟩, H.sel [4, 5, 6, 7, 8, 9, 10, 11, 0] rfl⟩
        ·
         clear H e
         rintro T3 g4 w12 (H : Cx w0 fp0 S0 w12 [Bx b6 [(.int .i64 s__0), (.int .i64 s__1), (.int .i64 s__2), (s__3h).v, (s__4h).v, (s__5h).v, (s__6h).v], Es (List (List Int)) s__3 s__3h, Es (List (List Int)) s__4 s__4h, Es (List (List Int)) s__5 s__5h, Es (List (List Int)) s__6 s__6h, Es (List (Int × List (List Int))) y2 h0, E (List (List (List Int × List Int))) s0_0 g0, E (List (List Int × List Int)) s1_1 g1, E (List Int) r2 g4])
         refine boolE (z := false) geLen ?_
         refine sq ?_
         obtain ⟨y3, e, f25⟩ := bindS f19; clear f19
         obtain ⟨⟨y3_0_0, y3_0_1⟩, y3_1⟩ := y3
         have i1 := e; clear e
         refine callF (spec_frOf_c p_ r2 g4 y3_0_0 y3_0_1 y3_1 i1) (Γi := []) H ⟨Vw.own 8 rfl, trivial⟩ ?_; clear H i1
         rintro _ _ w13 ⟨h5, h6, rfl, rfl⟩ H
         refine alloc_ gok rfl H ?_; clear H; intro b1 w14 hx H
         clear hx
         refine stA gok [(h5).v, (h6).v] rfl H rfl rfl rfl ?_; clear H; intro w15 H
         refine sq ?_
         obtain ⟨a9, e, f26⟩ := bindS f25; clear f25
         refine boolO e ?_; clear e
         cases a9
         ·
          have f27 := condF f26; clear f26
          refine loadN [(h5).v, (h6).v] rfl (fun j u hj => H.bx 0 rfl hj) ?_
          replace H := H.sel [1, 2, 0, 3, 4, 5, 6, 7, 8, 9, 10, 11] rfl
          replace H := H.join (α := List Int) (β := List Int)
          refine lit1 (α := List Int × List Int) (g := (h5, h6)) gok rfl rfl rfl rfl rfl H ?_; clear H; intro h7 w16 hx H
          clear hx
          obtain ⟨a10, e, f28⟩ := bindS f27; clear f27
          replace H := H.sel [9, 0, 1, 2, 3, 4, 5, 6, 7, 8, 10] rfl
          refine append_ (α := List Int × List Int) gok rfl rfl rfl rfl H e ?_; clear e H; intro h8 w17 H
          obtain ⟨a12, e, f29⟩ := bindS f28; clear f28
          refine arO e ?_; clear e
          have hs := Option.some.inj f29; subst hs; clear f29
          exact ⟨(a12, a10), h8, rfl, ⟨rfl, rfl, rfl, rfl, rfl, rfl, rfl, trivial⟩, H.sel [2, 3, 4, 5, 6, 7, 8, 0] rfl⟩
         ·
          have f30 := condT f26; clear f26
          have hs := Option.some.inj f30; subst hs; clear f30
          have f31 : some _ = some _ := congrArg some (hrt _ rfl).symm
          have hs := Option.some.inj f31; subst hs; clear f31
          have f32 : some _ = some _ := f13; clear f13
          have hs := Option.some.inj f32; subst hs; clear f32
          have f33 : some _ = some _ := congrArg some (hrt _ rfl).symm
          have hs := Option.some.inj f33; subst hs; clear f33
          have f34 : some _ = some _ := f6; clear f6
          replace H := H.nil (α := List (List Int × List Int))
          cases f34
          exact ⟨_, _, rfl, ⟨nilH, rfl, rfl⟩, (H.sel [0] rfl).close ⟨cloE, trivial⟩⟩
     ·
      clear f12 H
      rintro T4 ⟨s3, g5⟩ w18 ⟨hr, (H : Cx w0 fp0 S0 w18 [Bx b6 [(.int .i64 s__0), (.int .i64 s__1), (.int .i64 s__2), (s__3h).v, (s__4h).v, (s__5h).v, (s__6h).v], Es (List (List Int)) s__3 s__3h, Es (List (List Int)) s__4 s__4h, Es (List (List Int)) s__5 s__5h, Es (List (List Int)) s__6 s__6h, Es (List (Int × List (List Int))) y2 h0, E (List (List (List Int × List Int))) s0_0 g0, E (List (List Int × List Int)) s3 g5])⟩
      subst hr
      replace H := H.sel [7, 0, 1, 2, 3, 4, 5, 6] rfl
      refine lit1 (α := List (List Int × List Int)) (g := g5) gok rfl rfl rfl rfl rfl H ?_; clear H; intro h9 w19 hx H
      clear hx
      obtain ⟨a13, e, f35⟩ := bindS f13; clear f13
      replace H := H.sel [7, 0, 1, 2, 3, 4, 5, 6] rfl
      refine append_ (α := List (List Int × List Int)) gok rfl rfl rfl rfl H e ?_; clear e H; intro h10 w21 H
      obtain ⟨a15, e, f36⟩ := bindS f35; clear f35
      refine arO e ?_; clear e
      have hs := Option.some.inj f36; subst hs; clear f36
      exact ⟨(a13, a15), h10, rfl, ⟨rfl, rfl, rfl, rfl, rfl, trivial⟩, H.sel [1, 2, 3, 4, 5, 6, 0] rfl⟩
  ·
   clear f5 H
   rintro T5 ⟨s4, g6⟩ w22 ⟨hr, (H : Cx w0 fp0 S0 w22 [E (List (List (List Int × List Int))) s4 g6])⟩
   subst hr
   cases f6
   exact ⟨_, _, rfl, ⟨g6, rfl, rfl⟩, (H.sel [0] rfl).close ⟨cloE, trivial⟩⟩
 ·
  have f37 := condT f0; clear f0
  replace H := H.nil (α := List (List Int × List Int))
  cases f37
  exact ⟨_, _, rfl, ⟨nilH, rfl, rfl⟩, (H.sel [0] rfl).close ⟨cloE, trivial⟩⟩

theorem impl_isField_c (p_ : Int) (y : Bool) (hF : F_impl_isField p_ = some y) :
  ConF Tryd.prog 36 #[(.int .i64 p_)] [Gl 0 [.int .i64 2, .int .i64 3, .int .i64 5, .int .i64 7]] [] (fun v Γ' => v = (.bool y) ∧ Γ' = []) := by
 intro w0 S0 fp0 hI hS
 have H : Cx w0 fp0 S0 w0 [Gl 0 [.int .i64 2, .int .i64 3, .int .i64 5, .int .i64 7]] := Cx.start hI hS
 clear hI hS
 refine enterC (args := [_]) gok Tryd.func36 rfl _ rfl rfl rfl ?_
 refine sq ?_
 obtain ⟨r0, f0, f1⟩ := bindS hF; clear hF
 refine cut (fun (q0 : Bool) => [(0, (.int .i64 p_)), (10, (.bool q0))]) (fun (q0 : Bool) w' => q0 = r0 ∧ Cx w0 fp0 S0 w' [Gl 0 [.int .i64 2, .int .i64 3, .int .i64 5, .int .i64 7]]) ?_ ?_
 ·
  obtain ⟨a0, e, f2⟩ := bindS f0; clear f0
  refine boolO e ?_; clear e
  cases a0
  ·
   have f3 := condF f2; clear f2
   obtain ⟨a1, e, f4⟩ := bindS f3; clear f3
   refine boolO e ?_; clear e
   exact ⟨a1, ⟨rfl, rfl, trivial⟩, Option.some.inj f4, H.sel [0] rfl⟩
  ·
   have f5 := condT f2; clear f2
   exact ⟨true, ⟨rfl, rfl, trivial⟩, Option.some.inj f5, H.sel [0] rfl⟩
 ·
  clear f0 H
  rintro T0 s8 w1 ⟨hr, (H : Cx w0 fp0 S0 w1 [Gl 0 [.int .i64 2, .int .i64 3, .int .i64 5, .int .i64 7]])⟩
  subst hr
  cases s8
  ·
   have f6 := condF f1; clear f1
   refine sq ?_
   refine loadN [.int .i64 2, .int .i64 3, .int .i64 5, .int .i64 7] rfl (H.gl 0 rfl) ?_
   obtain ⟨a2, hn56, f7⟩ := bindS f6; clear f6
   obtain ⟨r1, e, f8⟩ := bindS f7; clear f7
   refine loopO _ ((4 : Int).toNat) (fun (k0 : Nat) (_ : Unit) (_ : Unit) => [(0, (.int .i64 p_)), (11, (.agg #[.int .i64 2, .int .i64 3, .int .i64 5, .int .i64 7])), (12, (.int .i64 ((k0 : Nat) : Int)))]) (fun _ (_ : Unit) (_ : Unit) w' => Cx w0 fp0 S0 w' [Gl 0 [.int .i64 2, .int .i64 3, .int .i64 5, .int .i64 7]]) () () e ⟨rfl, rfl, rfl, trivial⟩ (H.sel [0] rfl) ?_ ?_
   ·
    clear H e
    rintro T1 k0 _ _ w2 o0 hk (H : Cx w0 fp0 S0 w2 [Gl 0 [.int .i64 2, .int .i64 3, .int .i64 5, .int .i64 7]]) hrt f9
    refine boolE (z := true) (ltNat hk) ?_
    refine sq ?_
    refine sq ?_
    obtain ⟨a3, e, f10⟩ := bindS f9; clear f9
    refine indexI gok rfl rfl rfl rfl rfl e ?_; clear e
    obtain ⟨r2, f11, f12⟩ := bindS f10; clear f10
    refine cut (fun (q1 : Bool) => [(0, (.int .i64 p_)), (11, (.agg #[.int .i64 2, .int .i64 3, .int .i64 5, .int .i64 7])), (12, (.int .i64 ((k0 : Nat) : Int))), (23, (.bool q1))]) (fun (q1 : Bool) w' => q1 = r2 ∧ Cx w0 fp0 S0 w' [Gl 0 [.int .i64 2, .int .i64 3, .int .i64 5, .int .i64 7]]) ?_ ?_
    ·
     obtain ⟨a4, e, f13⟩ := bindS f11; clear f11
     refine remO_ e ?_; clear e
     obtain ⟨a5, e, f14⟩ := bindS f13; clear f13
     refine boolO e ?_; clear e
     cases a5
     ·
      have f15 := condF f14; clear f14
      exact ⟨false, ⟨rfl, rfl, rfl, rfl, trivial⟩, Option.some.inj f15, H.sel [0] rfl⟩
     ·
      have f16 := condT f14; clear f14
      obtain ⟨a6, e, f17⟩ := bindS f16; clear f16
      refine boolO e ?_; clear e
      exact ⟨a6, ⟨rfl, rfl, rfl, rfl, trivial⟩, Option.some.inj f17, H.sel [0] rfl⟩
    ·
     clear f11 H
     rintro T2 s0 w3 ⟨hr, (H : Cx w0 fp0 S0 w3 [Gl 0 [.int .i64 2, .int .i64 3, .int .i64 5, .int .i64 7]])⟩
     subst hr
     cases s0
     ·
      have f18 := condF f12; clear f12
      refine arK hk (maxI hn56) ?_
      have hs := Option.some.inj f18; subst hs; clear f18
      exact ⟨(), (), rfl, ⟨rfl, rfl, rfl, trivial⟩, H.sel [0] rfl⟩
     ·
      have f19 := condT f12; clear f12
      have hs := Option.some.inj f19; subst hs; clear f19
      have hr := hrt _ rfl; subst hr
      have f20 : some _ = some _ := f8
      cases f20
      exact ⟨_, _, rfl, ⟨rfl, rfl⟩, (H.sel [] rfl).close trivial⟩
   ·
    clear H e
    rintro T3 _ _ w4 hr (H : Cx w0 fp0 S0 w4 [Gl 0 [.int .i64 2, .int .i64 3, .int .i64 5, .int .i64 7]])
    subst hr
    refine boolE (z := false) geNat ?_
    refine sq ?_
    cases f8
    exact ⟨_, _, rfl, ⟨rfl, rfl⟩, (H.sel [] rfl).close trivial⟩
  ·
   have f21 := condT f1; clear f1
   cases f21
   exact ⟨_, _, rfl, ⟨rfl, rfl⟩, (H.sel [] rfl).close trivial⟩

theorem impl_within_c (n_ : Int) (low_ : Int) (high_ : Int) (y : Bool) (hF : F_impl_within n_ low_ high_ = some y) :
  ConF Tryd.prog 37 #[(.int .i64 n_), (.int .i64 low_), (.int .i64 high_)] [] [] (fun v Γ' => v = (.bool y) ∧ Γ' = []) := by
 intro w0 S0 fp0 hI hS
 have H : Cx w0 fp0 S0 w0 [] := Cx.start hI hS
 clear hI hS
 refine enterC (args := [_, _, _]) gok Tryd.func37 rfl _ rfl rfl rfl ?_
 obtain ⟨r9, f0, f1⟩ := bindS hF; clear hF
 refine cut (fun (q0 : Bool) => [(6, (.bool q0))]) (fun (q0 : Bool) w' => q0 = r9 ∧ Cx w0 fp0 S0 w' []) ?_ ?_
 ·
  obtain ⟨a0, e, f2⟩ := bindS f0; clear f0
  refine boolO e ?_; clear e
  cases a0
  ·
   have f3 := condF f2; clear f2
   exact ⟨false, ⟨rfl, trivial⟩, Option.some.inj f3, H.sel [] rfl⟩
  ·
   have f4 := condT f2; clear f2
   obtain ⟨a1, e, f5⟩ := bindS f4; clear f4
   refine boolO e ?_; clear e
   exact ⟨a1, ⟨rfl, trivial⟩, Option.some.inj f5, H.sel [] rfl⟩
 ·
  clear f0 H
  rintro T0 s7 w1 ⟨hr, (H : Cx w0 fp0 S0 w1 [])⟩
  subst hr
  cases f1
  exact ⟨_, _, rfl, ⟨rfl, rfl⟩, (H.sel [] rfl).close trivial⟩

theorem impl_table_int_hasShape_c (t_ : List (List Int)) (t_h : Hd) (rows_ : Int) (cols_ : Int) (y : Bool) (hF : F_impl_table_int_hasShape t_ rows_ cols_ = some y) :
  ConF Tryd.prog 38 #[(t_h).v, (.int .i64 rows_), (.int .i64 cols_)] [Es (List (List Int)) t_ t_h] [] (fun v Γ' => v = (.bool y) ∧ Γ' = []) := by
 intro w0 S0 fp0 hI hS
 have H : Cx w0 fp0 S0 w0 [Es (List (List Int)) t_ t_h] := Cx.start hI hS
 clear hI hS
 refine enterC (args := [_, _, _]) gok Tryd.func38 rfl _ rfl rfl rfl ?_
 refine sq ?_
 refine lenE (H.rs (α := List (List Int)) 0 rfl).len ?_
 obtain ⟨a2, e, hF3⟩ := bindS hF; clear hF
 refine boolO e ?_; clear e
 cases a2
 ·
  have hF4 := condF hF3; clear hF3
  refine sq ?_
  obtain ⟨a0, hn24, f0⟩ := bindS hF4; clear hF4
  obtain ⟨r0, e, f1⟩ := bindS f0; clear f0
  refine loopO _ rows_.toNat (fun (k5 : Nat) (_ : Unit) (_ : Unit) => [(0, (t_h).v), (2, (.int .i64 cols_)), (12, (.int .i64 rows_)), (13, (.int .i64 ((k5 : Nat) : Int)))]) (fun _ (_ : Unit) (_ : Unit) w' => Cx w0 fp0 S0 w' [Es (List (List Int)) t_ t_h]) () () e ⟨rfl, rfl, rfl, rfl, trivial⟩ (H.sel [0] rfl) ?_ ?_
  ·
   clear H e
   rintro T0 k5 _ _ w1 o0 hk (H : Cx w0 fp0 S0 w1 [Es (List (List Int)) t_ t_h]) hrt f2
   refine boolE (z := true) (ltNat hk) ?_
   refine sq ?_
   refine sq ?_
   obtain ⟨a1, e, f3⟩ := bindS f2; clear f2
   have HH := H; clear H; obtain ⟨p0, m0, h0, c0, c1, c2, c3, H⟩ := HH.elL 0 rfl e; clear HH
   clear e
   refine idxE c0 c1 c2 ?_; clear c0 c1 c2
   refine load1 c3 ?_; clear c3
   refine lenE (H.rs (α := List Int) 0 rfl).len ?_
   obtain ⟨a3, e, f4⟩ := bindS f3; clear f3
   refine boolO e ?_; clear e
   cases a3
   ·
    have f5 := condF f4; clear f4
    refine arK hk (maxI hn24) ?_
    have hs := Option.some.inj f5; subst hs; clear f5
    exact ⟨(), (), rfl, ⟨rfl, rfl, rfl, rfl, trivial⟩, H.sel [1] rfl⟩
   ·
    have f6 := condT f4; clear f4
    have hs := Option.some.inj f6; subst hs; clear f6
    have hr := hrt _ rfl; subst hr
    have f7 : some _ = some _ := f1
    cases f7
    exact ⟨_, _, rfl, ⟨rfl, rfl⟩, (H.sel [] rfl).close trivial⟩
  ·
   clear H e
   rintro T1 _ _ w2 hr (H : Cx w0 fp0 S0 w2 [Es (List (List Int)) t_ t_h])
   subst hr
   refine boolE (z := false) geNat ?_
   refine sq ?_
   cases f1
   exact ⟨_, _, rfl, ⟨rfl, rfl⟩, (H.sel [] rfl).close trivial⟩
 ·
  have f8 := condT hF3; clear hF3
  cases f8
  exact ⟨_, _, rfl, ⟨rfl, rfl⟩, (H.sel [] rfl).close trivial⟩

theorem impl_isElement_c (p_ : Int) (a_ : Int) (y : Bool) (hF : F_impl_isElement p_ a_ = some y) :
  ConF Tryd.prog 71 #[(.int .i64 p_), (.int .i64 a_)] [] [] (fun v Γ' => v = (.bool y) ∧ Γ' = []) := by
 intro w0 S0 fp0 hI hS
 have H : Cx w0 fp0 S0 w0 [] := Cx.start hI hS
 clear hI hS
 refine enterC (args := [_, _]) gok Tryd.func71 rfl _ rfl rfl rfl ?_
 obtain ⟨r9, f0, f1⟩ := bindS hF; clear hF
 refine cut (fun (q0 : Bool) => [(4, (.bool q0))]) (fun (q0 : Bool) w' => q0 = r9 ∧ Cx w0 fp0 S0 w' []) ?_ ?_
 ·
  obtain ⟨a0, e, f2⟩ := bindS f0; clear f0
  refine boolO e ?_; clear e
  cases a0
  ·
   have f3 := condF f2; clear f2
   exact ⟨false, ⟨rfl, trivial⟩, Option.some.inj f3, H.sel [] rfl⟩
  ·
   have f4 := condT f2; clear f2
   obtain ⟨a1, e, f5⟩ := bindS f4; clear f4
   refine boolO e ?_; clear e
   exact ⟨a1, ⟨rfl, trivial⟩, Option.some.inj f5, H.sel [] rfl⟩
 ·
  clear f0 H
  rintro T0 s7 w1 ⟨hr, (H : Cx w0 fp0 S0 w1 [])⟩
  subst hr
  cases f1
  exact ⟨_, _, rfl, ⟨rfl, rfl⟩, (H.sel [] rfl).close trivial⟩

theorem impl_isVector_c (p_ : Int) (v_ : List Int) (v_h : Hd) (n_ : Int) (y : Bool) (hF : F_impl_isVector p_ v_ n_ = some y) :
  ConF Tryd.prog 55 #[(.int .i64 p_), (v_h).v, (.int .i64 n_)] [Es (List Int) v_ v_h] [] (fun v Γ' => v = (.bool y) ∧ Γ' = []) := by
 intro w0 S0 fp0 hI hS
 have H : Cx w0 fp0 S0 w0 [Es (List Int) v_ v_h] := Cx.start hI hS
 clear hI hS
 refine enterC (args := [_, _, _]) gok Tryd.func55 rfl _ rfl rfl rfl ?_
 refine sq ?_
 refine lenE (H.rs (α := List Int) 0 rfl).len ?_
 obtain ⟨a2, e, hF3⟩ := bindS hF; clear hF
 refine boolO e ?_; clear e
 cases a2
 ·
  have hF4 := condF hF3; clear hF3
  refine sq ?_
  refine lenE (H.rs (α := List Int) 0 rfl).len ?_
  have x0 := (H.rs (α := List Int) 0 rfl).max
  obtain ⟨r0, e, f0⟩ := bindS hF4; clear hF4
  refine loopO _ v_.length (fun (k5 : Nat) (_ : Unit) (_ : Unit) => [(0, (.int .i64 p_)), (13, (v_h).v), (14, (.int .i64 ((v_.length : Nat) : Int))), (15, (.int .i64 ((k5 : Nat) : Int)))]) (fun _ (_ : Unit) (_ : Unit) w' => Cx w0 fp0 S0 w' [Es (List Int) v_ v_h]) () () e ⟨rfl, rfl, rfl, rfl, trivial⟩ (H.sel [0] rfl) ?_ ?_
  ·
   clear H e
   rintro T0 k5 _ _ w1 o0 hk (H : Cx w0 fp0 S0 w1 [Es (List Int) v_ v_h]) hrt f1
   refine boolE (z := true) (ltLen hk) ?_
   refine sq ?_
   refine sq ?_
   obtain ⟨a0, e, f2⟩ := bindS f1; clear f1
   obtain ⟨p0, m0, c0, c1, c2, c3⟩ := (H.rs (α := List Int) 0 rfl).at1 e; clear e
   refine idxE c0 c1 c2 ?_; clear c0 c1 c2
   refine load1 c3 ?_; clear c3
   obtain ⟨y0, e, f3⟩ := bindS f2; clear f2
   have i0 := e; clear e
   refine callF (impl_isElement_c p_ a0 y0 i0) (Γi := []) H trivial ?_; clear H i0
   rintro _ _ w2 ⟨rfl, rfl⟩ H
   obtain ⟨a1, e, f4⟩ := bindS f3; clear f3
   refine boolO e ?_; clear e
   cases a1
   ·
    have f5 := condF f4; clear f4
    refine arK hk x0 ?_
    have hs := Option.some.inj f5; subst hs; clear f5
    exact ⟨(), (), rfl, ⟨rfl, rfl, rfl, rfl, trivial⟩, H.sel [0] rfl⟩
   ·
    have f6 := condT f4; clear f4
    have hs := Option.some.inj f6; subst hs; clear f6
    have hr := hrt _ rfl; subst hr
    have f7 : some _ = some _ := f0
    cases f7
    exact ⟨_, _, rfl, ⟨rfl, rfl⟩, (H.sel [] rfl).close trivial⟩
  ·
   clear H e
   rintro T1 _ _ w3 hr (H : Cx w0 fp0 S0 w3 [Es (List Int) v_ v_h])
   subst hr
   refine boolE (z := false) geLen ?_
   refine sq ?_
   cases f0
   exact ⟨_, _, rfl, ⟨rfl, rfl⟩, (H.sel [] rfl).close trivial⟩
 ·
  have f8 := condT hF3; clear hF3
  cases f8
  exact ⟨_, _, rfl, ⟨rfl, rfl⟩, (H.sel [] rfl).close trivial⟩

theorem impl_areVectors_c (p_ : Int) (rows_ : List (List Int)) (rows_h : Hd) (n_ : Int) (y : Bool) (hF : F_impl_areVectors p_ rows_ n_ = some y) :
  ConF Tryd.prog 39 #[(.int .i64 p_), (rows_h).v, (.int .i64 n_)] [Es (List (List Int)) rows_ rows_h] [] (fun v Γ' => v = (.bool y) ∧ Γ' = []) := by
 intro w0 S0 fp0 hI hS
 have H : Cx w0 fp0 S0 w0 [Es (List (List Int)) rows_ rows_h] := Cx.start hI hS
 clear hI hS
 refine enterC (args := [_, _, _]) gok Tryd.func39 rfl _ rfl rfl rfl ?_
 refine sq ?_
 refine lenE (H.rs (α := List (List Int)) 0 rfl).len ?_
 have x0 := (H.rs (α := List (List Int)) 0 rfl).max
 obtain ⟨r0, e, f0⟩ := bindS hF; clear hF
 refine loopO _ rows_.length (fun (k2 : Nat) (_ : Unit) (_ : Unit) => [(0, (.int .i64 p_)), (2, (.int .i64 n_)), (9, (rows_h).v), (10, (.int .i64 ((rows_.length : Nat) : Int))), (11, (.int .i64 ((k2 : Nat) : Int)))]) (fun _ (_ : Unit) (_ : Unit) w' => Cx w0 fp0 S0 w' [Es (List (List Int)) rows_ rows_h]) () () e ⟨rfl, rfl, rfl, rfl, rfl, trivial⟩ (H.sel [0] rfl) ?_ ?_
 ·
  clear H e
  rintro T0 k2 _ _ w1 o0 hk (H : Cx w0 fp0 S0 w1 [Es (List (List Int)) rows_ rows_h]) hrt f1
  refine boolE (z := true) (ltLen hk) ?_
  refine sq ?_
  refine sq ?_
  obtain ⟨a0, e, f2⟩ := bindS f1; clear f1
  have HH := H; clear H; obtain ⟨p0, m0, h0, c0, c1, c2, c3, H⟩ := HH.elL 0 rfl e; clear HH
  clear e
  refine idxE c0 c1 c2 ?_; clear c0 c1 c2
  refine load1 c3 ?_; clear c3
  obtain ⟨y0, e, f3⟩ := bindS f2; clear f2
  have i0 := e; clear e
  refine callF (impl_isVector_c p_ a0 h0 n_ y0 i0) (Γi := []) H ⟨Vw.sh 0 rfl, trivial⟩ ?_; clear H i0
  rintro _ _ w2 ⟨rfl, rfl⟩ H
  obtain ⟨a1, e, f4⟩ := bindS f3; clear f3
  refine boolO e ?_; clear e
  cases a1
  ·
   have f5 := condF f4; clear f4
   refine arK hk x0 ?_
   have hs := Option.some.inj f5; subst hs; clear f5
   exact ⟨(), (), rfl, ⟨rfl, rfl, rfl, rfl, rfl, trivial⟩, H.sel [1] rfl⟩
  ·
   have f6 := condT f4; clear f4
   have hs := Option.some.inj f6; subst hs; clear f6
   have hr := hrt _ rfl; subst hr
   have f7 : some _ = some _ := f0
   cases f7
   exact ⟨_, _, rfl, ⟨rfl, rfl⟩, (H.sel [] rfl).close trivial⟩
 ·
  clear H e
  rintro T1 _ _ w3 hr (H : Cx w0 fp0 S0 w3 [Es (List (List Int)) rows_ rows_h])
  subst hr
  refine boolE (z := false) geLen ?_
  refine sq ?_
  cases f0
  exact ⟨_, _, rfl, ⟨rfl, rfl⟩, (H.sel [] rfl).close trivial⟩

theorem impl_isStateSpace_c (p_ : Int) (s__0 : Int) (s__1 : Int) (s__2 : Int) (s__3 : List (List Int)) (s__3h : Hd) (s__4 : List (List Int)) (s__4h : Hd) (s__5 : List (List Int)) (s__5h : Hd) (s__6 : List (List Int)) (s__6h : Hd) (y : Bool) (hF : F_impl_isStateSpace p_ (s__0, s__1, s__2, s__3, s__4, s__5, s__6) = some y) :
  ConF Tryd.prog 18 #[(.int .i64 p_), (.agg #[(.int .i64 s__0), (.int .i64 s__1), (.int .i64 s__2), (s__3h).v, (s__4h).v, (s__5h).v, (s__6h).v])] [Es (List (List Int)) s__3 s__3h, Es (List (List Int)) s__4 s__4h, Es (List (List Int)) s__5 s__5h, Es (List (List Int)) s__6 s__6h, Gl 0 [.int .i64 2, .int .i64 3, .int .i64 5, .int .i64 7]] [] (fun v Γ' => v = (.bool y) ∧ Γ' = []) := by
 intro w0 S0 fp0 hI hS
 have H : Cx w0 fp0 S0 w0 [Es (List (List Int)) s__3 s__3h, Es (List (List Int)) s__4 s__4h, Es (List (List Int)) s__5 s__5h, Es (List (List Int)) s__6 s__6h, Gl 0 [.int .i64 2, .int .i64 3, .int .i64 5, .int .i64 7]] := Cx.start hI hS
 clear hI hS
 refine enterC (args := [_, _]) gok Tryd.func18 rfl _ rfl rfl rfl ?_
 refine box_ H ?_; clear H; intro b7 w6 hx H
 clear hx
 refine sq ?_
 obtain ⟨r0, f0, f1⟩ := bindS hF; clear hF
 refine cut (fun (q0 : Bool) => [(0, (.int .i64 p_)), (3, (.pointer (some ⟨b7, 0, none⟩))), (25, (.bool q0))]) (fun (q0 : Bool) w' => q0 = r0 ∧ Cx w0 fp0 S0 w' [Bx b7 [(.int .i64 s__0), (.int .i64 s__1), (.int .i64 s__2), (s__3h).v, (s__4h).v, (s__5h).v, (s__6h).v], Es (List (List Int)) s__3 s__3h, Es (List (List Int)) s__4 s__4h, Es (List (List Int)) s__5 s__5h, Es (List (List Int)) s__6 s__6h, Gl 0 [.int .i64 2, .int .i64 3, .int .i64 5, .int .i64 7]]) ?_ ?_
 ·
  obtain ⟨y0, e, f2⟩ := bindS f0; clear f0
  have i0 := e; clear e
  refine callF (impl_isField_c p_ y0 i0) (Γi := []) H ⟨Vw.gl 5 rfl, trivial⟩ ?_; clear H i0
  rintro _ _ w1 ⟨rfl, rfl⟩ H
  obtain ⟨a0, e, f3⟩ := bindS f2; clear f2
  refine boolO e ?_; clear e
  cases a0
  ·
   have f4 := condF f3; clear f3
   refine fld gok rfl rfl rfl rfl ?_
   refine load1 (H.bx 0 rfl (j := 0) rfl) ?_
   obtain ⟨y1, e, f5⟩ := bindS f4; clear f4
   have i1 := e; clear e
   refine callF (impl_within_c s__0 0 24 y1 i1) (Γi := []) H trivial ?_; clear H i1
   rintro _ _ w2 ⟨rfl, rfl⟩ H
   obtain ⟨a1, e, f6⟩ := bindS f5; clear f5
   refine boolO e ?_; clear e
   cases a1
   ·
    have f7 := condF f6; clear f6
    refine fld gok rfl rfl rfl rfl ?_
    refine load1 (H.bx 0 rfl (j := 1) rfl) ?_
    obtain ⟨y2, e, f8⟩ := bindS f7; clear f7
    have i2 := e; clear e
    refine callF (impl_within_c s__1 0 8 y2 i2) (Γi := []) H trivial ?_; clear H i2
    rintro _ _ w3 ⟨rfl, rfl⟩ H
    obtain ⟨a2, e, f9⟩ := bindS f8; clear f8
    refine boolO e ?_; clear e
    cases a2
    ·
     have f10 := condF f9; clear f9
     refine fld gok rfl rfl rfl rfl ?_
     refine load1 (H.bx 0 rfl (j := 2) rfl) ?_
     obtain ⟨y3, e, f11⟩ := bindS f10; clear f10
     have i3 := e; clear e
     refine callF (impl_within_c s__2 0 8 y3 i3) (Γi := []) H trivial ?_; clear H i3
     rintro _ _ w4 ⟨rfl, rfl⟩ H
     obtain ⟨a3, e, f12⟩ := bindS f11; clear f11
     refine boolO e ?_; clear e
     exact ⟨a3, ⟨rfl, rfl, rfl, trivial⟩, Option.some.inj f12, H.sel [0, 1, 2, 3, 4, 5] rfl⟩
    ·
     have f13 := condT f9; clear f9
     exact ⟨true, ⟨rfl, rfl, rfl, trivial⟩, Option.some.inj f13, H.sel [0, 1, 2, 3, 4, 5] rfl⟩
   ·
    have f14 := condT f6; clear f6
    exact ⟨true, ⟨rfl, rfl, rfl, trivial⟩, Option.some.inj f14, H.sel [0, 1, 2, 3, 4, 5] rfl⟩
  ·
   have f15 := condT f3; clear f3
   exact ⟨true, ⟨rfl, rfl, rfl, trivial⟩, Option.some.inj f15, H.sel [0, 1, 2, 3, 4, 5] rfl⟩
 ·
  clear f0 H
  rintro T0 s0 w5 ⟨hr, (H : Cx w0 fp0 S0 w5 [Bx b7 [(.int .i64 s__0), (.int .i64 s__1), (.int .i64 s__2), (s__3h).v, (s__4h).v, (s__5h).v, (s__6h).v], Es (List (List Int)) s__3 s__3h, Es (List (List Int)) s__4 s__4h, Es (List (List Int)) s__5 s__5h, Es (List (List Int)) s__6 s__6h, Gl 0 [.int .i64 2, .int .i64 3, .int .i64 5, .int .i64 7]])⟩
  subst hr
  cases s0
  ·
   have f16 := condF f1; clear f1
   refine sq ?_
   obtain ⟨r1, f17, f18⟩ := bindS f16; clear f16
   refine cut (fun (q1 : Bool) => [(0, (.int .i64 p_)), (3, (.pointer (some ⟨b7, 0, none⟩))), (63, (.bool q1))]) (fun (q1 : Bool) w' => q1 = r1 ∧ Cx w0 fp0 S0 w' [Bx b7 [(.int .i64 s__0), (.int .i64 s__1), (.int .i64 s__2), (s__3h).v, (s__4h).v, (s__5h).v, (s__6h).v], Es (List (List Int)) s__3 s__3h, Es (List (List Int)) s__4 s__4h, Es (List (List Int)) s__5 s__5h, Es (List (List Int)) s__6 s__6h, Gl 0 [.int .i64 2, .int .i64 3, .int .i64 5, .int .i64 7]]) ?_ ?_
   ·
    refine fld gok rfl rfl rfl rfl ?_
    refine load1 (H.bx 0 rfl (j := 3) rfl) ?_
    refine fld gok rfl rfl rfl rfl ?_
    refine load1 (H.bx 0 rfl (j := 0) rfl) ?_
    refine fld gok rfl rfl rfl rfl ?_
    refine load1 (H.bx 0 rfl (j := 0) rfl) ?_
    obtain ⟨y4, e, f19⟩ := bindS f17; clear f17
    have i4 := e; clear e
    refine callF (impl_table_int_hasShape_c s__3 s__3h s__0 s__0 y4 i4) (Γi := []) H ⟨Vw.sh 1 rfl, trivial⟩ ?_; clear H i4
    rintro _ _ w7 ⟨rfl, rfl⟩ H
    obtain ⟨a4, e, f20⟩ := bindS f19; clear f19
    refine boolO e ?_; clear e
    cases a4
    ·
     have f21 := condF f20; clear f20
     refine fld gok rfl rfl rfl rfl ?_
     refine load1 (H.bx 0 rfl (j := 4) rfl) ?_
     refine fld gok rfl rfl rfl rfl ?_
     refine load1 (H.bx 0 rfl (j := 1) rfl) ?_
     refine fld gok rfl rfl rfl rfl ?_
     refine load1 (H.bx 0 rfl (j := 0) rfl) ?_
     obtain ⟨y5, e, f22⟩ := bindS f21; clear f21
     have i5 := e; clear e
     refine callF (impl_table_int_hasShape_c s__4 s__4h s__1 s__0 y5 i5) (Γi := []) H ⟨Vw.sh 2 rfl, trivial⟩ ?_; clear H i5
     rintro _ _ w8 ⟨rfl, rfl⟩ H
     obtain ⟨a5, e, f23⟩ := bindS f22; clear f22
     refine boolO e ?_; clear e
     cases a5
     ·
      have f24 := condF f23; clear f23
      refine fld gok rfl rfl rfl rfl ?_
      refine load1 (H.bx 0 rfl (j := 5) rfl) ?_
      refine fld gok rfl rfl rfl rfl ?_
      refine load1 (H.bx 0 rfl (j := 0) rfl) ?_
      refine fld gok rfl rfl rfl rfl ?_
      refine load1 (H.bx 0 rfl (j := 2) rfl) ?_
      obtain ⟨y6, e, f25⟩ := bindS f24; clear f24
      have i6 := e; clear e
      refine callF (impl_table_int_hasShape_c s__5 s__5h s__0 s__2 y6 i6) (Γi := []) H ⟨Vw.sh 3 rfl, trivial⟩ ?_; clear H i6
      rintro _ _ w9 ⟨rfl, rfl⟩ H
      obtain ⟨a6, e, f26⟩ := bindS f25; clear f25
      refine boolO e ?_; clear e
      cases a6
      ·
       have f27 := condF f26; clear f26
       refine fld gok rfl rfl rfl rfl ?_
       refine load1 (H.bx 0 rfl (j := 6) rfl) ?_
       refine fld gok rfl rfl rfl rfl ?_
       refine load1 (H.bx 0 rfl (j := 1) rfl) ?_
       refine fld gok rfl rfl rfl rfl ?_
       refine load1 (H.bx 0 rfl (j := 2) rfl) ?_
       obtain ⟨y7, e, f28⟩ := bindS f27; clear f27
       have i7 := e; clear e
       refine callF (impl_table_int_hasShape_c s__6 s__6h s__1 s__2 y7 i7) (Γi := []) H ⟨Vw.sh 4 rfl, trivial⟩ ?_; clear H i7
       rintro _ _ w10 ⟨rfl, rfl⟩ H
       obtain ⟨a7, e, f29⟩ := bindS f28; clear f28
       refine boolO e ?_; clear e
       exact ⟨a7, ⟨rfl, rfl, rfl, trivial⟩, Option.some.inj f29, H.sel [0, 1, 2, 3, 4, 5] rfl⟩
      ·
       have f30 := condT f26; clear f26
       exact ⟨true, ⟨rfl, rfl, rfl, trivial⟩, Option.some.inj f30, H.sel [0, 1, 2, 3, 4, 5] rfl⟩
     ·
      have f31 := condT f23; clear f23
      exact ⟨true, ⟨rfl, rfl, rfl, trivial⟩, Option.some.inj f31, H.sel [0, 1, 2, 3, 4, 5] rfl⟩
    ·
     have f32 := condT f20; clear f20
     exact ⟨true, ⟨rfl, rfl, rfl, trivial⟩, Option.some.inj f32, H.sel [0, 1, 2, 3, 4, 5] rfl⟩
   ·
    clear f17 H
    rintro T1 s1 w11 ⟨hr, (H : Cx w0 fp0 S0 w11 [Bx b7 [(.int .i64 s__0), (.int .i64 s__1), (.int .i64 s__2), (s__3h).v, (s__4h).v, (s__5h).v, (s__6h).v], Es (List (List Int)) s__3 s__3h, Es (List (List Int)) s__4 s__4h, Es (List (List Int)) s__5 s__5h, Es (List (List Int)) s__6 s__6h, Gl 0 [.int .i64 2, .int .i64 3, .int .i64 5, .int .i64 7]])⟩
    subst hr
    cases s1
    ·
     have f33 := condF f18; clear f18
     obtain ⟨r2, f34, f35⟩ := bindS f33; clear f33
     refine cut (fun (q2 : Bool) => [(4, (.bool q2))]) (fun (q2 : Bool) w' => q2 = r2 ∧ Cx w0 fp0 S0 w' [Gl 0 [.int .i64 2, .int .i64 3, .int .i64 5, .int .i64 7]]) ?_ ?_
     ·
      refine fld gok rfl rfl rfl rfl ?_
      refine load1 (H.bx 0 rfl (j := 3) rfl) ?_
      refine fld gok rfl rfl rfl rfl ?_
      refine load1 (H.bx 0 rfl (j := 0) rfl) ?_
      obtain ⟨y8, e, f36⟩ := bindS f34; clear f34
      have i8 := e; clear e
      refine callF (impl_areVectors_c p_ s__3 s__3h s__0 y8 i8) (Γi := []) H ⟨Vw.sh 1 rfl, trivial⟩ ?_; clear H i8
      rintro _ _ w12 ⟨rfl, rfl⟩ H
      cases y8
      ·
       have f37 := condF f36; clear f36
       exact ⟨false, ⟨rfl, trivial⟩, Option.some.inj f37, H.sel [5] rfl⟩
      ·
       have f38 := condT f36; clear f36
       refine fld gok rfl rfl rfl rfl ?_
       refine load1 (H.bx 0 rfl (j := 4) rfl) ?_
       refine fld gok rfl rfl rfl rfl ?_
       refine load1 (H.bx 0 rfl (j := 0) rfl) ?_
       obtain ⟨y9, e, f39⟩ := bindS f38; clear f38
       have i9 := e; clear e
       refine callF (impl_areVectors_c p_ s__4 s__4h s__0 y9 i9) (Γi := []) H ⟨Vw.sh 2 rfl, trivial⟩ ?_; clear H i9
       rintro _ _ w13 ⟨rfl, rfl⟩ H
       cases y9
       ·
        have f40 := condF f39; clear f39
        exact ⟨false, ⟨rfl, trivial⟩, Option.some.inj f40, H.sel [5] rfl⟩
       ·
        have f41 := condT f39; clear f39
        refine fld gok rfl rfl rfl rfl ?_
        refine load1 (H.bx 0 rfl (j := 5) rfl) ?_
        refine fld gok rfl rfl rfl rfl ?_
        refine load1 (H.bx 0 rfl (j := 2) rfl) ?_
        obtain ⟨y10, e, f42⟩ := bindS f41; clear f41
        have i10 := e; clear e
        refine callF (impl_areVectors_c p_ s__5 s__5h s__2 y10 i10) (Γi := []) H ⟨Vw.sh 3 rfl, trivial⟩ ?_; clear H i10
        rintro _ _ w14 ⟨rfl, rfl⟩ H
        cases y10
        ·
         have f43 := condF f42; clear f42
         exact ⟨false, ⟨rfl, trivial⟩, Option.some.inj f43, H.sel [5] rfl⟩
        ·
         have f44 := condT f42; clear f42
         refine fld gok rfl rfl rfl rfl ?_
         refine load1 (H.bx 0 rfl (j := 6) rfl) ?_
         refine fld gok rfl rfl rfl rfl ?_
         refine load1 (H.bx 0 rfl (j := 2) rfl) ?_
         obtain ⟨y11, e, f45⟩ := bindS f44; clear f44
         have i11 := e; clear e
         refine callF (impl_areVectors_c p_ s__6 s__6h s__2 y11 i11) (Γi := []) H ⟨Vw.sh 4 rfl, trivial⟩ ?_; clear H i11
         rintro _ _ w15 ⟨rfl, rfl⟩ H
         exact ⟨y11, ⟨rfl, trivial⟩, Option.some.inj f45, H.sel [5] rfl⟩
     ·
      clear f34 H
      rintro T2 s2 w16 ⟨hr, (H : Cx w0 fp0 S0 w16 [Gl 0 [.int .i64 2, .int .i64 3, .int .i64 5, .int .i64 7]])⟩
      subst hr
      cases f35
      exact ⟨_, _, rfl, ⟨rfl, rfl⟩, (H.sel [] rfl).close trivial⟩
    ·
     have f46 := condT f18; clear f18
     cases f46
     exact ⟨_, _, rfl, ⟨rfl, rfl⟩, (H.sel [] rfl).close trivial⟩
  ·
   have f47 := condT f1; clear f1
   cases f47
   exact ⟨_, _, rfl, ⟨rfl, rfl⟩, (H.sel [] rfl).close trivial⟩

theorem impl_clone_c (list_ : List Int) (list_h : Hd) (y : List Int) (hF : F_impl_clone list_ = some y) :
  ConF Tryd.prog 72 #[(list_h).v] [Es (List Int) list_ list_h] [] (fun v Γ' => ∃ z0 : Hd, v = (z0).v ∧ Γ' = [E (List Int) y z0]) := by
 intro w0 S0 fp0 hI hS
 have H : Cx w0 fp0 S0 w0 [Es (List Int) list_ list_h] := Cx.start hI hS
 clear hI hS
 refine enterC (args := [_]) gok Tryd.func72 rfl _ rfl rfl rfl ?_
 refine lit0 (α := Int) gok rfl rfl H ?_; clear H; intro h3 w2 hx H
 clear hx
 obtain ⟨a5, e, hF6⟩ := bindS hF; clear hF
 refine appendS (α := Int) gok rfl rfl rfl rfl H (Vw.sh 0 rfl) e ?_; clear e H; intro h8 w7 H
 cases hF6
 exact ⟨_, _, rfl, ⟨h8, rfl, rfl⟩, (H.sel [0] rfl).close ⟨cloE, trivial⟩⟩

theorem impl_clones_c (list_ : List (List Int)) (list_h : Hd) (y : List (List Int)) (hF : F_impl_clones list_ = some y) :
  ConF Tryd.prog 56 #[(list_h).v] [Es (List (List Int)) list_ list_h] [] (fun v Γ' => ∃ z0 : Hd, v = (z0).v ∧ Γ' = [E (List (List Int)) y z0]) := by
 intro w0 S0 fp0 hI hS
 have H : Cx w0 fp0 S0 w0 [Es (List (List Int)) list_ list_h] := Cx.start hI hS
 clear hI hS
 refine enterC (args := [_]) gok Tryd.func56 rfl _ rfl rfl rfl ?_
 refine lenE (H.rs (α := List (List Int)) 0 rfl).len ?_
 obtain ⟨a2, e, hF3⟩ := bindS hF; clear hF
 refine make_ (α := List Int) gok rfl rfl rfl rfl e H ?_; clear e H; intro h5 w4 hx H
 clear hx
 refine sq ?_
 refine lenE (H.rs (α := List (List Int)) 1 rfl).len ?_
 have x0 := (H.rs (α := List (List Int)) 1 rfl).max
 obtain ⟨r0, e, f0⟩ := bindS hF3; clear hF3
 refine loopS _ list_.length (fun (k7 : Nat) (s0 : List (List Int)) (g0 : Hd) => [(3, (g0).v), (9, (list_h).v), (10, (.int .i64 ((list_.length : Nat) : Int))), (11, (.int .i64 ((k7 : Nat) : Int)))]) (fun _ (s0 : List (List Int)) (g0 : Hd) w' => Cx w0 fp0 S0 w' [E (List (List Int)) s0 g0, Es (List (List Int)) list_ list_h]) a2 h5 e ⟨rfl, rfl, rfl, rfl, trivial⟩ (H.sel [0, 1] rfl) ?_ ?_
 ·
  clear H e
  rintro T0 k7 s0 g0 w1 o0 hk (H : Cx w0 fp0 S0 w1 [E (List (List Int)) s0 g0, Es (List (List Int)) list_ list_h]) f1
  refine boolE (z := true) (ltLen hk) ?_
  refine sq ?_
  refine sq ?_
  obtain ⟨a0, e, f2⟩ := bindS f1; clear f1
  have HH := H; clear H; obtain ⟨p0, m0, h0, c0, c1, c2, c3, H⟩ := HH.elL 1 rfl e; clear HH
  clear e
  refine idxE c0 c1 c2 ?_; clear c0 c1 c2
  refine load1 c3 ?_; clear c3
  obtain ⟨y0, e, f3⟩ := bindS f2; clear f2
  have i0 := e; clear e
  refine callF (impl_clone_c a0 h0 y0 i0) (Γi := []) H ⟨Vw.sh 0 rfl, trivial⟩ ?_; clear H i0
  rintro _ _ w2 ⟨h1, rfl, rfl⟩ H
  refine lit1 (α := List Int) (g := h1) gok rfl rfl rfl rfl rfl H ?_; clear H; intro h2 w3 hx H
  clear hx
  obtain ⟨a1, e, f4⟩ := bindS f3; clear f3
  replace H := H.sel [2, 0, 1, 3] rfl
  refine append_ (α := List Int) gok rfl rfl rfl rfl H e ?_; clear e H; intro h3 w5 H
  refine arK hk x0 ?_
  have hs := Option.some.inj f4; subst hs; clear f4
  exact ⟨h3, ⟨rfl, rfl, rfl, rfl, trivial⟩, H.sel [0, 2] rfl⟩
 ·
  clear H e
  rintro T1 g1 w6 (H : Cx w0 fp0 S0 w6 [E (List (List Int)) r0 g1, Es (List (List Int)) list_ list_h])
  refine boolE (z := false) geLen ?_
  refine sq ?_
  cases f0
  exact ⟨_, _, rfl, ⟨g1, rfl, rfl⟩, (H.sel [0] rfl).close ⟨cloE, trivial⟩⟩

theorem impl_zeros_c (n_ : Int) (y : List Int) (hF : F_impl_zeros n_ = some y) :
  ConF Tryd.prog 76 #[(.int .i64 n_)] [] [] (fun v Γ' => ∃ z0 : Hd, v = (z0).v ∧ Γ' = [E (List Int) y z0]) := by
 intro w0 S0 fp0 hI hS
 have H : Cx w0 fp0 S0 w0 [] := Cx.start hI hS
 clear hI hS
 refine enterC (args := [_]) gok Tryd.func76 rfl _ rfl rfl rfl ?_
 obtain ⟨a1, e, hF2⟩ := bindS hF; clear hF
 refine make_ (α := Int) gok rfl rfl rfl rfl (makeCO_of e) H ?_; clear e H; intro h4 w3 hx H
 clear hx
 cases hF2
 exact ⟨_, _, rfl, ⟨h4, rfl, rfl⟩, (H.sel [0] rfl).close ⟨cloE, trivial⟩⟩

theorem impl_mod_c (p_ : Int) (a_ : Int) (y : Int) (hF : F_impl_mod p_ a_ = some y) :
  ConF Tryd.prog 75 #[(.int .i64 p_), (.int .i64 a_)] [] [] (fun v Γ' => v = (.int .i64 y) ∧ Γ' = []) := by
 intro w0 S0 fp0 hI hS
 have H : Cx w0 fp0 S0 w0 [] := Cx.start hI hS
 clear hI hS
 refine enterC (args := [_, _]) gok Tryd.func75 rfl _ rfl rfl rfl ?_
 obtain ⟨a1, e, hF2⟩ := bindS hF; clear hF
 refine remO_ e ?_; clear e
 refine sq ?_
 obtain ⟨a3, e, hF4⟩ := bindS hF2; clear hF2
 refine boolO e ?_; clear e
 cases a3
 ·
  have hF5 := condF hF4; clear hF4
  cases hF5
  exact ⟨_, _, rfl, ⟨rfl, rfl⟩, (H.sel [] rfl).close trivial⟩
 ·
  have hF6 := condT hF4; clear hF4
  obtain ⟨a7, e, hF8⟩ := bindS hF6; clear hF6
  refine arO e ?_; clear e
  cases hF8
  exact ⟨_, _, rfl, ⟨rfl, rfl⟩, (H.sel [] rfl).close trivial⟩

theorem impl_addTimes_c (p_ : Int) (v_ : List Int) (v_h : Hd) (by_ : Int) (w_ : List Int) (w_h : Hd) (y : List Int) (hF : F_impl_addTimes p_ v_ by_ w_ = some y) :
  ConF Tryd.prog 84 #[(.int .i64 p_), (v_h).v, (.int .i64 by_), (w_h).v] [Es (List Int) w_ w_h] [E (List Int) v_ v_h] (fun v Γ' => v = (.tuple #[]) ∧ Γ' = [E (List Int) y v_h]) := by
 intro w0 S0 fp0 hI hS
 have H : Cx w0 fp0 S0 w0 [Es (List Int) w_ w_h, E (List Int) v_ v_h] := Cx.start hI hS
 clear hI hS
 refine enterC (args := [_, _, _, _]) gok Tryd.func84 rfl _ rfl rfl rfl ?_
 refine lenE (H.rs (α := List Int) 0 rfl).len ?_
 have x0 := (H.rs (α := List Int) 0 rfl).max
 obtain ⟨r0, e, f0⟩ := bindS hF; clear hF
 refine loopS _ w_.length (fun (k3 : Nat) (s0 : List Int) (_ : Unit) => [(0, (.int .i64 p_)), (1, (v_h).v), (2, (.int .i64 by_)), (10, (w_h).v), (11, (.int .i64 ((w_.length : Nat) : Int))), (12, (.int .i64 ((k3 : Nat) : Int)))]) (fun _ (s0 : List Int) (_ : Unit) w' => Cx w0 fp0 S0 w' [E (List Int) s0 v_h, Es (List Int) w_ w_h]) v_ () e ⟨rfl, rfl, rfl, rfl, rfl, rfl, trivial⟩ (H.sel [1, 0] rfl) ?_ ?_
 ·
  clear H e
  rintro T0 k3 s0 _ w1 o0 hk (H : Cx w0 fp0 S0 w1 [E (List Int) s0 v_h, Es (List Int) w_ w_h]) f1
  refine boolE (z := true) (ltLen hk) ?_
  refine sq ?_
  refine sq ?_
  obtain ⟨a0, e, f2⟩ := bindS f1; clear f1
  obtain ⟨p0, m0, c0, c1, c2, c3⟩ := (H.rs (α := List Int) 1 rfl).at1 e; clear e
  refine idxE c0 c1 c2 ?_; clear c0 c1 c2
  refine load1 c3 ?_; clear c3
  obtain ⟨a1, e, f3⟩ := bindS f2; clear f2
  obtain ⟨p1, m1, c4, c5, c6, c7⟩ := (H.ro (α := List Int) 0 rfl).at1 e; clear e
  refine idxE c4 c5 c6 ?_; clear c4 c5 c6
  refine load1 c7 ?_; clear c7
  obtain ⟨a2, e, f4⟩ := bindS f3; clear f3
  refine arO e ?_; clear e
  obtain ⟨a3, e, f5⟩ := bindS f4; clear f4
  refine arO e ?_; clear e
  obtain ⟨y0, e, f6⟩ := bindS f5; clear f5
  have i0 := e; clear e
  refine callF (impl_mod_c p_ a3 y0 i0) (Γi := []) H trivial ?_; clear H i0
  rintro _ _ w2 ⟨rfl, rfl⟩ H
  obtain ⟨a4, e, f7⟩ := bindS f6; clear f6
  have i1 := e; clear e
  obtain ⟨p2, m2, c8, c9, c10⟩ := (H.ro (α := List Int) 0 rfl).setp i1
  refine idxE c8 c9 c10 ?_
  refine setS (α := Int) H c8 c9 i1 ?_; clear H c8 c9 c10 i1; intro w3 H
  refine arK hk x0 ?_
  have hs := Option.some.inj f7; subst hs; clear f7
  exact ⟨(), ⟨rfl, rfl, rfl, rfl, rfl, rfl, trivial⟩, H.sel [0, 1] rfl⟩
 ·
  clear H e
  rintro T1 _ w4 (H : Cx w0 fp0 S0 w4 [E (List Int) r0 v_h, Es (List Int) w_ w_h])
  refine boolE (z := false) geLen ?_
  refine sq ?_
  cases f0
  exact ⟨_, _, rfl, ⟨rfl, rfl⟩, (H.sel [0] rfl).close ⟨cloE, trivial⟩⟩

theorem impl_combine_c (p_ : Int) (x_ : List Int) (x_h : Hd) (rows_ : List (List Int)) (rows_h : Hd) (n_ : Int) (y : List Int) (hF : F_impl_combine p_ x_ rows_ n_ = some y) :
  ConF Tryd.prog 73 #[(.int .i64 p_), (x_h).v, (rows_h).v, (.int .i64 n_)] [Es (List Int) x_ x_h, Es (List (List Int)) rows_ rows_h] [] (fun v Γ' => ∃ z0 : Hd, v = (z0).v ∧ Γ' = [E (List Int) y z0]) := by
 intro w0 S0 fp0 hI hS
 have H : Cx w0 fp0 S0 w0 [Es (List Int) x_ x_h, Es (List (List Int)) rows_ rows_h] := Cx.start hI hS
 clear hI hS
 refine enterC (args := [_, _, _, _]) gok Tryd.func73 rfl _ rfl rfl rfl ?_
 obtain ⟨y3, e, hF4⟩ := bindS hF; clear hF
 have ey3 := e; clear e
 refine callF (impl_zeros_c n_ y3 ey3) (Γi := []) H trivial ?_; clear H ey3
 rintro _ _ w5 ⟨h6, rfl, rfl⟩ H
 refine sq ?_
 refine lenE (H.rs (α := List (List Int)) 2 rfl).len ?_
 have x0 := (H.rs (α := List (List Int)) 2 rfl).max
 obtain ⟨r0, e, f0⟩ := bindS hF4; clear hF4
 refine loopS _ rows_.length (fun (k8 : Nat) (s0 : List Int) (_ : Unit) => [(0, (.int .i64 p_)), (1, (x_h).v), (9, (h6).v), (14, (rows_h).v), (15, (.int .i64 ((rows_.length : Nat) : Int))), (16, (.int .i64 ((k8 : Nat) : Int)))]) (fun _ (s0 : List Int) (_ : Unit) w' => Cx w0 fp0 S0 w' [Es (List Int) x_ x_h, E (List Int) s0 h6, Es (List (List Int)) rows_ rows_h]) y3 () e ⟨rfl, rfl, rfl, rfl, rfl, rfl, trivial⟩ (H.sel [1, 0, 2] rfl) ?_ ?_
 ·
  clear H e
  rintro T0 k8 s0 _ w1 o0 hk (H : Cx w0 fp0 S0 w1 [Es (List Int) x_ x_h, E (List Int) s0 h6, Es (List (List Int)) rows_ rows_h]) f1
  refine boolE (z := true) (ltLen hk) ?_
  refine sq ?_
  refine sq ?_
  obtain ⟨a0, e, f2⟩ := bindS f1; clear f1
  have HH := H; clear H; obtain ⟨p0, m0, h0, c0, c1, c2, c3, H⟩ := HH.elL 2 rfl e; clear HH
  clear e
  refine idxE c0 c1 c2 ?_; clear c0 c1 c2
  refine load1 c3 ?_; clear c3
  obtain ⟨a1, e, f3⟩ := bindS f2; clear f2
  obtain ⟨p1, m1, c4, c5, c6, c7⟩ := (H.rs (α := List Int) 1 rfl).at1 e; clear e
  refine idxE c4 c5 c6 ?_; clear c4 c5 c6
  refine load1 c7 ?_; clear c7
  obtain ⟨y0, e, f4⟩ := bindS f3; clear f3
  have i0 := e; clear e
  replace H := H.sel [2, 0, 1, 3] rfl
  refine callF (impl_addTimes_c p_ s0 h6 a1 a0 h0 y0 i0) (Γi := [E (List Int) s0 h6]) H ⟨Vw.sh 0 rfl, trivial⟩ ?_; clear H i0
  rintro _ _ w2 ⟨rfl, rfl⟩ H
  refine arK hk x0 ?_
  have hs := Option.some.inj f4; subst hs; clear f4
  exact ⟨(), ⟨rfl, rfl, rfl, rfl, rfl, rfl, trivial⟩, H.sel [2, 0, 3] rfl⟩
 ·
  clear H e
  rintro T1 _ w3 (H : Cx w0 fp0 S0 w3 [Es (List Int) x_ x_h, E (List Int) r0 h6, Es (List (List Int)) rows_ rows_h])
  refine boolE (z := false) geLen ?_
  refine sq ?_
  cases f0
  exact ⟨_, _, rfl, ⟨h6, rfl, rfl⟩, (H.sel [1] rfl).close ⟨cloE, trivial⟩⟩

theorem impl_product_c (p_ : Int) (rows_ : List (List Int)) (rows_h : Hd) (m_ : List (List Int)) (m_h : Hd) (n_ : Int) (y : List (List Int)) (hF : F_impl_product p_ rows_ m_ n_ = some y) :
  ConF Tryd.prog 57 #[(.int .i64 p_), (rows_h).v, (m_h).v, (.int .i64 n_)] [Es (List (List Int)) rows_ rows_h, Es (List (List Int)) m_ m_h] [] (fun v Γ' => ∃ z0 : Hd, v = (z0).v ∧ Γ' = [E (List (List Int)) y z0]) := by
 intro w0 S0 fp0 hI hS
 have H : Cx w0 fp0 S0 w0 [Es (List (List Int)) rows_ rows_h, Es (List (List Int)) m_ m_h] := Cx.start hI hS
 clear hI hS
 refine enterC (args := [_, _, _, _]) gok Tryd.func57 rfl _ rfl rfl rfl ?_
 refine lit0 (α := List Int) gok rfl rfl H ?_; clear H; intro h4 w3 hx H
 clear hx
 refine sq ?_
 refine lenE (H.rs (α := List (List Int)) 1 rfl).len ?_
 have x0 := (H.rs (α := List (List Int)) 1 rfl).max
 obtain ⟨r0, e, f0⟩ := bindS hF; clear hF
 refine loopS _ rows_.length (fun (k6 : Nat) (s0 : List (List Int)) (g0 : Hd) => [(0, (.int .i64 p_)), (2, (m_h).v), (3, (.int .i64 n_)), (9, (g0).v), (13, (rows_h).v), (14, (.int .i64 ((rows_.length : Nat) : Int))), (15, (.int .i64 ((k6 : Nat) : Int)))]) (fun _ (s0 : List (List Int)) (g0 : Hd) w' => Cx w0 fp0 S0 w' [Es (List (List Int)) m_ m_h, E (List (List Int)) s0 g0, Es (List (List Int)) rows_ rows_h]) ([] : List (List Int)) h4 e ⟨rfl, rfl, rfl, rfl, rfl, rfl, rfl, trivial⟩ (H.sel [2, 0, 1] rfl) ?_ ?_
 ·
  clear H e
  rintro T0 k6 s0 g0 w1 o0 hk (H : Cx w0 fp0 S0 w1 [Es (List (List Int)) m_ m_h, E (List (List Int)) s0 g0, Es (List (List Int)) rows_ rows_h]) f1
  refine boolE (z := true) (ltLen hk) ?_
  refine sq ?_
  refine sq ?_
  obtain ⟨a0, e, f2⟩ := bindS f1; clear f1
  have HH := H; clear H; obtain ⟨p0, m0, h0, c0, c1, c2, c3, H⟩ := HH.elL 2 rfl e; clear HH
  clear e
  refine idxE c0 c1 c2 ?_; clear c0 c1 c2
  refine load1 c3 ?_; clear c3
  obtain ⟨y0, e, f3⟩ := bindS f2; clear f2
  have i0 := e; clear e
  refine callF (impl_combine_c p_ a0 h0 m_ m_h n_ y0 i0) (Γi := []) H ⟨Vw.sh 0 rfl, Vw.sh 1 rfl, trivial⟩ ?_; clear H i0
  rintro _ _ w2 ⟨h1, rfl, rfl⟩ H
  refine lit1 (α := List Int) (g := h1) gok rfl rfl rfl rfl rfl H ?_; clear H; intro h2 w4 hx H
  clear hx
  obtain ⟨a1, e, f4⟩ := bindS f3; clear f3
  replace H := H.sel [3, 0, 1, 2, 4] rfl
  refine append_ (α := List Int) gok rfl rfl rfl rfl H e ?_; clear e H; intro h3 w5 H
  refine arK hk x0 ?_
  have hs := Option.some.inj f4; subst hs; clear f4
  exact ⟨h3, ⟨rfl, rfl, rfl, rfl, rfl, rfl, rfl, trivial⟩, H.sel [2, 0, 3] rfl⟩
 ·
  clear H e
  rintro T1 g1 w6 (H : Cx w0 fp0 S0 w6 [Es (List (List Int)) m_ m_h, E (List (List Int)) r0 g1, Es (List (List Int)) rows_ rows_h])
  refine boolE (z := false) geLen ?_
  refine sq ?_
  cases f0
  exact ⟨_, _, rfl, ⟨g1, rfl, rfl⟩, (H.sel [1] rfl).close ⟨cloE, trivial⟩⟩
end Go.Proofs.YtgkomaglodpefaaDoor
