/-
 Contracts, printed by a program (wip/y/gen.py): each function of Go computes its partial function. Condition of each: its partial function yields a value.
-/
import Derived.Test.YtocpeclcoikdpaaDoorZEng
import Derived.Test.YtocpeclcoikdpaaDoorZFn
namespace Go.Proofs.YtocpeclcoikdpaaDoor
open Go Go.Proofs.YtocpeclcoikdpaaDoor.RW
set_option maxRecDepth 100000
set_option linter.unusedVariables false

theorem laws_szIntS_c (a_ : List Int) (a_h : Hd) (left_ : Int) (y : Int) (hF : F_laws_szIntS a_ left_ = some y) :
  ConF Tryd.prog 53 #[(a_h).v, (.int .i64 left_)] [Es (List Int) a_ a_h] [] (fun v Γ' => v = (.int .i64 y) ∧ Γ' = []) := by
 intro w0 S0 fp0 hI hS
 have H : Cx w0 fp0 S0 w0 [Es (List Int) a_ a_h] := Cx.start hI hS
 clear hI hS
 refine enterC (args := [_, _]) gok Tryd.func53 rfl _ rfl rfl rfl ?_
 refine lenE (H.rs (α := List Int) 0 rfl).len ?_
 obtain ⟨a2, e, hF3⟩ := bindS hF; clear hF
 refine arO e ?_; clear e
 refine sq ?_
 obtain ⟨a4, e, hF5⟩ := bindS hF3; clear hF3
 refine boolO e ?_; clear e
 cases a4
 ·
  have hF6 := condF hF5; clear hF5
  cases hF6
  exact ⟨_, _, rfl, ⟨rfl, rfl⟩, (H.sel [] rfl).close trivial⟩
 ·
  have hF7 := condT hF5; clear hF5
  cases hF7
  exact ⟨_, _, rfl, ⟨rfl, rfl⟩, (H.sel [] rfl).close trivial⟩

theorem laws_szIntSS_c (a_ : List (List Int)) (a_h : Hd) (left_ : Int) (y : Int) (hF : F_laws_szIntSS a_ left_ = some y) :
  ConF Tryd.prog 27 #[(a_h).v, (.int .i64 left_)] [Es (List (List Int)) a_ a_h] [] (fun v Γ' => v = (.int .i64 y) ∧ Γ' = []) := by
 intro w0 S0 fp0 hI hS
 have H : Cx w0 fp0 S0 w0 [Es (List (List Int)) a_ a_h] := Cx.start hI hS
 clear hI hS
 refine enterC (args := [_, _]) gok Tryd.func27 rfl _ rfl rfl rfl ?_
 refine lenE (H.rs (α := List (List Int)) 0 rfl).len ?_
 obtain ⟨a2, e, hF3⟩ := bindS hF; clear hF
 refine arO e ?_; clear e
 refine sq ?_
 obtain ⟨a4, e, hF5⟩ := bindS hF3; clear hF3
 refine boolO e ?_; clear e
 cases a4
 ·
  have hF6 := condF hF5; clear hF5
  obtain ⟨r0, f0, f1⟩ := bindS hF6; clear hF6
  refine cut (fun (q0 : Int) => [(1, (.int .i64 q0))]) (fun (q0 : Int) w' => .inl q0 = r0 ∧ Cx w0 fp0 S0 w' []) ?_ ?_
  ·
   refine loopW _ (fun (s0 : Int × Int) (_ : Unit) => [(0, (a_h).v), (1, (.int .i64 s0.1)), (5, (.int .i64 s0.2))]) (fun (s0 : Int × Int) (_ : Unit) w' => Cx w0 fp0 S0 w' [Es (List (List Int)) a_ a_h]) (a2, 0) () f0 ⟨rfl, rfl, rfl, trivial⟩ (H.sel [0] rfl) ?_
   ·
    clear H
    rintro T0 ⟨s0_0, s0_1⟩ _ w1 o0 (H : Cx w0 fp0 S0 w1 [Es (List (List Int)) a_ a_h]) hrt f2
    refine sq ?_
    refine lenE (H.rs (α := List (List Int)) 0 rfl).len ?_
    obtain ⟨a0, e, f3⟩ := bindS f2; clear f2
    refine boolO e ?_; clear e
    cases a0
    ·
     have f4 := condF f3; clear f3
     have hs := Option.some.inj f4; subst hs; clear f4
     have f5 : some _ = some _ := congrArg some (hrt _ rfl).symm
     exact ⟨s0_0, ⟨rfl, trivial⟩, Option.some.inj f5, H.sel [] rfl⟩
    ·
     have f6 := condT f3; clear f3
     refine sq ?_
     obtain ⟨a1, e, f7⟩ := bindS f6; clear f6
     have HH := H; clear H; obtain ⟨p0, m0, h0, c0, c1, c2, c3, H⟩ := HH.elL 0 rfl e; clear HH
     clear e
     refine idxE c0 c1 c2 ?_; clear c0 c1 c2
     refine load1 c3 ?_; clear c3
     obtain ⟨y0, e, f8⟩ := bindS f7; clear f7
     have ey171 := e; clear e
     refine callF (laws_szIntS_c a1 h0 s0_0 y0 ey171) (Γi := []) H ⟨Vw.sh 0 rfl, trivial⟩ ?_; clear H ey171
     rintro _ _ w2 ⟨rfl, rfl⟩ H
     obtain ⟨a3, e, f9⟩ := bindS f8; clear f8
     refine boolO e ?_; clear e
     cases a3
     ·
      have f10 := condF f9; clear f9
      obtain ⟨a5, e, f11⟩ := bindS f10; clear f10
      refine arO e ?_; clear e
      have hs := Option.some.inj f11; subst hs; clear f11
      exact ⟨(y0, a5), (), rfl, ⟨rfl, rfl, rfl, trivial⟩, H.sel [1] rfl⟩
     ·
      have f12 := condT f9; clear f9
      have hs := Option.some.inj f12; subst hs; clear f12
      have f13 : some _ = some _ := congrArg some (hrt _ rfl).symm
      have hs := Option.some.inj f13; subst hs; clear f13
      have f14 : some _ = some _ := f1; clear f1
      cases f14
      exact ⟨_, _, rfl, ⟨rfl, rfl⟩, (H.sel [] rfl).close trivial⟩
  ·
   clear f0 H
   rintro T1 s1 w3 ⟨hr, (H : Cx w0 fp0 S0 w3 [])⟩
   subst hr
   cases f1
   exact ⟨_, _, rfl, ⟨rfl, rfl⟩, (H.sel [] rfl).close trivial⟩
 ·
  have f15 := condT hF5; clear hF5
  cases f15
  exact ⟨_, _, rfl, ⟨rfl, rfl⟩, (H.sel [] rfl).close trivial⟩

theorem laws_szStateSpace_c (a__0 : Int) (a__1 : Int) (a__2 : Int) (a__3 : List (List Int)) (a__3h : Hd) (a__4 : List (List Int)) (a__4h : Hd) (a__5 : List (List Int)) (a__5h : Hd) (a__6 : List (List Int)) (a__6h : Hd) (left_ : Int) (y : Int) (hF : F_laws_szStateSpace (a__0, a__1, a__2, a__3, a__4, a__5, a__6) left_ = some y) :
  ConF Tryd.prog 6 #[(.agg #[(.int .i64 a__0), (.int .i64 a__1), (.int .i64 a__2), (a__3h).v, (a__4h).v, (a__5h).v, (a__6h).v]), (.int .i64 left_)] [Es (List (List Int)) a__3 a__3h, Es (List (List Int)) a__4 a__4h, Es (List (List Int)) a__5 a__5h, Es (List (List Int)) a__6 a__6h] [] (fun v Γ' => v = (.int .i64 y) ∧ Γ' = []) := by
 intro w0 S0 fp0 hI hS
 have H : Cx w0 fp0 S0 w0 [Es (List (List Int)) a__3 a__3h, Es (List (List Int)) a__4 a__4h, Es (List (List Int)) a__5 a__5h, Es (List (List Int)) a__6 a__6h] := Cx.start hI hS
 clear hI hS
 refine enterC (args := [_, _]) gok Tryd.func6 rfl _ rfl rfl rfl ?_
 refine box_ H ?_; clear H; intro b6 w5 hx H
 clear hx
 refine fld gok rfl rfl rfl rfl ?_
 refine load1 (H.bx 0 rfl (j := 3) rfl) ?_
 obtain ⟨y8, e, hF9⟩ := bindS hF; clear hF
 have ey8 := e; clear e
 refine callF (laws_szIntSS_c a__3 a__3h left_ y8 ey8) (Γi := []) H ⟨Vw.sh 1 rfl, trivial⟩ ?_; clear H ey8
 rintro _ _ w1 ⟨rfl, rfl⟩ H
 refine sq ?_
 obtain ⟨a0, e, f0⟩ := bindS hF9; clear hF9
 refine boolO e ?_; clear e
 cases a0
 ·
  have f1 := condF f0; clear f0
  refine fld gok rfl rfl rfl rfl ?_
  refine load1 (H.bx 0 rfl (j := 4) rfl) ?_
  obtain ⟨y0, e, f2⟩ := bindS f1; clear f1
  have ey14 := e; clear e
  refine callF (laws_szIntSS_c a__4 a__4h y8 y0 ey14) (Γi := []) H ⟨Vw.sh 2 rfl, trivial⟩ ?_; clear H ey14
  rintro _ _ w2 ⟨rfl, rfl⟩ H
  refine sq ?_
  obtain ⟨a1, e, f3⟩ := bindS f2; clear f2
  refine boolO e ?_; clear e
  cases a1
  ·
   have f4 := condF f3; clear f3
   refine fld gok rfl rfl rfl rfl ?_
   refine load1 (H.bx 0 rfl (j := 5) rfl) ?_
   obtain ⟨y1, e, f5⟩ := bindS f4; clear f4
   have ey20 := e; clear e
   refine callF (laws_szIntSS_c a__5 a__5h y0 y1 ey20) (Γi := []) H ⟨Vw.sh 3 rfl, trivial⟩ ?_; clear H ey20
   rintro _ _ w3 ⟨rfl, rfl⟩ H
   refine sq ?_
   obtain ⟨a2, e, f6⟩ := bindS f5; clear f5
   refine boolO e ?_; clear e
   cases a2
   ·
    have f7 := condF f6; clear f6
    refine fld gok rfl rfl rfl rfl ?_
    refine load1 (H.bx 0 rfl (j := 6) rfl) ?_
    obtain ⟨y2, e, f8⟩ := bindS f7; clear f7
    have ey26 := e; clear e
    refine callF (laws_szIntSS_c a__6 a__6h y1 y2 ey26) (Γi := []) H ⟨Vw.sh 4 rfl, trivial⟩ ?_; clear H ey26
    rintro _ _ w4 ⟨rfl, rfl⟩ H
    refine sq ?_
    obtain ⟨a3, e, f9⟩ := bindS f8; clear f8
    refine boolO e ?_; clear e
    cases a3
    ·
     have f10 := condF f9; clear f9
     cases f10
     exact ⟨_, _, rfl, ⟨rfl, rfl⟩, (H.sel [] rfl).close trivial⟩
    ·
     have f11 := condT f9; clear f9
     cases f11
     exact ⟨_, _, rfl, ⟨rfl, rfl⟩, (H.sel [] rfl).close trivial⟩
   ·
    have f12 := condT f6; clear f6
    cases f12
    exact ⟨_, _, rfl, ⟨rfl, rfl⟩, (H.sel [] rfl).close trivial⟩
  ·
   have f13 := condT f3; clear f3
   cases f13
   exact ⟨_, _, rfl, ⟨rfl, rfl⟩, (H.sel [] rfl).close trivial⟩
 ·
  have f14 := condT f0; clear f0
  cases f14
  exact ⟨_, _, rfl, ⟨rfl, rfl⟩, (H.sel [] rfl).close trivial⟩

theorem laws_toIntS_c (a_ : List Int) (a_h : Hd) (y : List Int) (hF : F_laws_toIntS a_ = some y) :
  ConF Tryd.prog 16 #[(a_h).v] [Es (List Int) a_ a_h] [] (fun v Γ' => ∃ z0 : Hd, v = (z0).v ∧ Γ' = [E (List Int) y z0]) := by
 intro w0 S0 fp0 hI hS
 have H : Cx w0 fp0 S0 w0 [Es (List Int) a_ a_h] := Cx.start hI hS
 clear hI hS
 refine enterC (args := [_]) gok Tryd.func16 rfl _ rfl rfl rfl ?_
 refine lenE (H.rs (α := List Int) 0 rfl).len ?_
 obtain ⟨a2, e, hF3⟩ := bindS hF; clear hF
 refine make_ (α := Int) gok rfl rfl rfl rfl (makeCO_of e) H ?_; clear e H; intro h5 w4 hx H
 clear hx
 obtain ⟨r0, f0, f1⟩ := bindS hF3; clear hF3
 refine cut (fun (q0 : List Int) => [(3, (h5).v)]) (fun (q0 : List Int) w' => q0 = r0 ∧ Cx w0 fp0 S0 w' [E (List Int) q0 h5]) ?_ ?_
 ·
  refine loopW _ (fun (s0 : List Int × Int) (_ : Unit) => [(0, (a_h).v), (3, (h5).v), (4, (.int .i64 s0.2))]) (fun (s0 : List Int × Int) (_ : Unit) w' => Cx w0 fp0 S0 w' [Es (List Int) a_ a_h, E (List Int) s0.1 h5]) (a2, 0) () f0 ⟨rfl, rfl, rfl, trivial⟩ (H.sel [1, 0] rfl) ?_
  ·
   clear H
   rintro T0 ⟨s0_0, s0_1⟩ _ w1 o0 (H : Cx w0 fp0 S0 w1 [Es (List Int) a_ a_h, E (List Int) s0_0 h5]) hrt f2
   refine sq ?_
   refine lenE (H.rs (α := List Int) 0 rfl).len ?_
   obtain ⟨a0, e, f3⟩ := bindS f2; clear f2
   refine boolO e ?_; clear e
   cases a0
   ·
    have f4 := condF f3; clear f3
    have hs := Option.some.inj f4; subst hs; clear f4
    have f5 : some _ = some _ := congrArg some (hrt _ rfl).symm
    exact ⟨s0_0, ⟨rfl, trivial⟩, Option.some.inj f5, H.sel [1] rfl⟩
   ·
    have f6 := condT f3; clear f3
    refine sq ?_
    obtain ⟨a1, e, f7⟩ := bindS f6; clear f6
    obtain ⟨p0, m0, c0, c1, c2, c3⟩ := (H.rs (α := List Int) 0 rfl).at1 e; clear e
    refine idxE c0 c1 c2 ?_; clear c0 c1 c2
    refine load1 c3 ?_; clear c3
    obtain ⟨a3, e, f8⟩ := bindS f7; clear f7
    have ea174 := e; clear e
    obtain ⟨p1, m1, c4, c5, c6⟩ := (H.ro (α := List Int) 1 rfl).setp ea174
    refine idxE c4 c5 c6 ?_
    replace H := H.sel [1, 0] rfl
    refine setS (α := Int) H c4 c5 ea174 ?_; clear H c4 c5 c6 ea174; intro w2 H
    obtain ⟨a4, e, f9⟩ := bindS f8; clear f8
    refine arO e ?_; clear e
    have hs := Option.some.inj f9; subst hs; clear f9
    exact ⟨(a3, a4), (), rfl, ⟨rfl, rfl, rfl, trivial⟩, H.sel [1, 0] rfl⟩
 ·
  clear f0 H
  rintro T1 s1 w3 ⟨hr, (H : Cx w0 fp0 S0 w3 [E (List Int) s1 h5])⟩
  subst hr
  cases f1
  exact ⟨_, _, rfl, ⟨h5, rfl, rfl⟩, (H.sel [0] rfl).close ⟨cloE, trivial⟩⟩

theorem laws_toIntSS_c (a_ : List (List Int)) (a_h : Hd) (y : List (List Int)) (hF : F_laws_toIntSS a_ = some y) :
  ConF Tryd.prog 35 #[(a_h).v] [Es (List (List Int)) a_ a_h] [] (fun v Γ' => ∃ z0 : Hd, v = (z0).v ∧ Γ' = [E (List (List Int)) y z0]) := by
 intro w0 S0 fp0 hI hS
 have H : Cx w0 fp0 S0 w0 [Es (List (List Int)) a_ a_h] := Cx.start hI hS
 clear hI hS
 refine enterC (args := [_]) gok Tryd.func35 rfl _ rfl rfl rfl ?_
 refine lenE (H.rs (α := List (List Int)) 0 rfl).len ?_
 obtain ⟨a2, e, hF3⟩ := bindS hF; clear hF
 refine make_ (α := List Int) gok rfl rfl rfl rfl (makeCO_of e) H ?_; clear e H; intro h5 w4 hx H
 clear hx
 obtain ⟨r0, f0, f1⟩ := bindS hF3; clear hF3
 refine cut (fun (q0 : List (List Int)) => [(3, (h5).v)]) (fun (q0 : List (List Int)) w' => q0 = r0 ∧ Cx w0 fp0 S0 w' [E (List (List Int)) q0 h5]) ?_ ?_
 ·
  refine loopW _ (fun (s0 : List (List Int) × Int) (_ : Unit) => [(0, (a_h).v), (3, (h5).v), (4, (.int .i64 s0.2))]) (fun (s0 : List (List Int) × Int) (_ : Unit) w' => Cx w0 fp0 S0 w' [Es (List (List Int)) a_ a_h, E (List (List Int)) s0.1 h5]) (a2, 0) () f0 ⟨rfl, rfl, rfl, trivial⟩ (H.sel [1, 0] rfl) ?_
  ·
   clear H
   rintro T0 ⟨s0_0, s0_1⟩ _ w1 o0 (H : Cx w0 fp0 S0 w1 [Es (List (List Int)) a_ a_h, E (List (List Int)) s0_0 h5]) hrt f2
   refine sq ?_
   refine lenE (H.rs (α := List (List Int)) 0 rfl).len ?_
   obtain ⟨a0, e, f3⟩ := bindS f2; clear f2
   refine boolO e ?_; clear e
   cases a0
   ·
    have f4 := condF f3; clear f3
    have hs := Option.some.inj f4; subst hs; clear f4
    have f5 : some _ = some _ := congrArg some (hrt _ rfl).symm
    exact ⟨s0_0, ⟨rfl, trivial⟩, Option.some.inj f5, H.sel [1] rfl⟩
   ·
    have f6 := condT f3; clear f3
    refine sq ?_
    obtain ⟨a1, e, f7⟩ := bindS f6; clear f6
    have HH := H; clear H; obtain ⟨p0, m0, h0, c0, c1, c2, c3, H⟩ := HH.elL 0 rfl e; clear HH
    clear e
    refine idxE c0 c1 c2 ?_; clear c0 c1 c2
    refine load1 c3 ?_; clear c3
    obtain ⟨y0, e, f8⟩ := bindS f7; clear f7
    have ey205 := e; clear e
    refine callF (laws_toIntS_c a1 h0 y0 ey205) (Γi := []) H ⟨Vw.sh 0 rfl, trivial⟩ ?_; clear H ey205
    rintro _ _ w2 ⟨h1, rfl, rfl⟩ H
    obtain ⟨a3, e, f9⟩ := bindS f8; clear f8
    have ea216 := e; clear e
    obtain ⟨p1, m1, c4, c5, c6⟩ := (H.ro (α := List (List Int)) 3 rfl).setp ea216
    refine idxE c4 c5 c6 ?_
    replace H := H.sel [3, 0, 1, 2] rfl
    refine setL H c4 c5 ea216 ?_; clear H c4 c5 c6 ea216; intro w3 H
    obtain ⟨a4, e, f10⟩ := bindS f9; clear f9
    refine arO e ?_; clear e
    have hs := Option.some.inj f10; subst hs; clear f10
    exact ⟨(a3, a4), (), rfl, ⟨rfl, rfl, rfl, trivial⟩, H.sel [2, 0] rfl⟩
 ·
  clear f0 H
  rintro T1 s1 w5 ⟨hr, (H : Cx w0 fp0 S0 w5 [E (List (List Int)) s1 h5])⟩
  subst hr
  cases f1
  exact ⟨_, _, rfl, ⟨h5, rfl, rfl⟩, (H.sel [0] rfl).close ⟨cloE, trivial⟩⟩

theorem laws_toStateSpace_c (a__0 : Int) (a__1 : Int) (a__2 : Int) (a__3 : List (List Int)) (a__3h : Hd) (a__4 : List (List Int)) (a__4h : Hd) (a__5 : List (List Int)) (a__5h : Hd) (a__6 : List (List Int)) (a__6h : Hd) (y_0 : Int) (y_1 : Int) (y_2 : Int) (y_3 : List (List Int)) (y_4 : List (List Int)) (y_5 : List (List Int)) (y_6 : List (List Int)) (hF : F_laws_toStateSpace (a__0, a__1, a__2, a__3, a__4, a__5, a__6) = some (y_0, y_1, y_2, y_3, y_4, y_5, y_6)) :
  ConF Tryd.prog 8 #[(.agg #[(.int .i64 a__0), (.int .i64 a__1), (.int .i64 a__2), (a__3h).v, (a__4h).v, (a__5h).v, (a__6h).v])] [Es (List (List Int)) a__3 a__3h, Es (List (List Int)) a__4 a__4h, Es (List (List Int)) a__5 a__5h, Es (List (List Int)) a__6 a__6h] [] (fun v Γ' => ∃ z0 z1 z2 z3 : Hd, v = (.agg #[(.int .i64 y_0), (.int .i64 y_1), (.int .i64 y_2), (z0).v, (z1).v, (z2).v, (z3).v]) ∧ Γ' = [E (List (List Int)) y_3 z0, E (List (List Int)) y_4 z1, E (List (List Int)) y_5 z2, E (List (List Int)) y_6 z3]) := by
 intro w0 S0 fp0 hI hS
 have H : Cx w0 fp0 S0 w0 [Es (List (List Int)) a__3 a__3h, Es (List (List Int)) a__4 a__4h, Es (List (List Int)) a__5 a__5h, Es (List (List Int)) a__6 a__6h] := Cx.start hI hS
 clear hI hS
 refine enterC (args := [_]) gok Tryd.func8 rfl _ rfl rfl rfl ?_
 refine box_ H ?_; clear H; intro b6 w5 hx H
 clear hx
 refine alloc_ gok rfl H ?_; clear H; intro b9 w8 hx H
 clear hx
 refine alloc_ gok rfl H ?_; clear H; intro b0 w1 hx H
 clear hx
 refine fld gok rfl rfl rfl rfl ?_
 refine load1 (H.bx 2 rfl (j := 0) rfl) ?_
 refine fld gok rfl rfl rfl rfl ?_
 refine stB (j := 0) H rfl rfl ?_; clear H; intro w2 H
 refine fld gok rfl rfl rfl rfl ?_
 refine load1 (H.bx 2 rfl (j := 1) rfl) ?_
 refine fld gok rfl rfl rfl rfl ?_
 refine stB (j := 1) H rfl rfl ?_; clear H; intro w3 H
 refine fld gok rfl rfl rfl rfl ?_
 refine load1 (H.bx 2 rfl (j := 2) rfl) ?_
 refine fld gok rfl rfl rfl rfl ?_
 refine stB (j := 2) H rfl rfl ?_; clear H; intro w4 H
 refine fld gok rfl rfl rfl rfl ?_
 refine load1 (H.bx 2 rfl (j := 3) rfl) ?_
 obtain ⟨y0, e, f0⟩ := bindS hF; clear hF
 have ey17 := e; clear e
 refine callF (laws_toIntSS_c a__3 a__3h y0 ey17) (Γi := []) H ⟨Vw.sh 3 rfl, trivial⟩ ?_; clear H ey17
 rintro _ _ w6 ⟨h0, rfl, rfl⟩ H
 refine fld gok rfl rfl rfl rfl ?_
 replace H := H.sel [1, 0, 2, 3, 4, 5, 6, 7] rfl
 refine stB (j := 3) H rfl rfl ?_; clear H; intro w7 H
 refine fld gok rfl rfl rfl rfl ?_
 refine load1 (H.bx 3 rfl (j := 4) rfl) ?_
 obtain ⟨y1, e, f1⟩ := bindS f0; clear f0
 have ey23 := e; clear e
 refine callF (laws_toIntSS_c a__4 a__4h y1 ey23) (Γi := []) H ⟨Vw.sh 5 rfl, trivial⟩ ?_; clear H ey23
 rintro _ _ w9 ⟨h1, rfl, rfl⟩ H
 refine fld gok rfl rfl rfl rfl ?_
 replace H := H.sel [1, 0, 2, 3, 4, 5, 6, 7, 8] rfl
 refine stB (j := 4) H rfl rfl ?_; clear H; intro w10 H
 refine fld gok rfl rfl rfl rfl ?_
 refine load1 (H.bx 4 rfl (j := 5) rfl) ?_
 obtain ⟨y2, e, f2⟩ := bindS f1; clear f1
 have ey29 := e; clear e
 refine callF (laws_toIntSS_c a__5 a__5h y2 ey29) (Γi := []) H ⟨Vw.sh 7 rfl, trivial⟩ ?_; clear H ey29
 rintro _ _ w12 ⟨h2, rfl, rfl⟩ H
 refine fld gok rfl rfl rfl rfl ?_
 replace H := H.sel [1, 0, 2, 3, 4, 5, 6, 7, 8, 9] rfl
 refine stB (j := 5) H rfl rfl ?_; clear H; intro w13 H
 refine fld gok rfl rfl rfl rfl ?_
 refine load1 (H.bx 5 rfl (j := 6) rfl) ?_
 obtain ⟨y3, e, f3⟩ := bindS f2; clear f2
 have ey35 := e; clear e
 refine callF (laws_toIntSS_c a__6 a__6h y3 ey35) (Γi := []) H ⟨Vw.sh 9 rfl, trivial⟩ ?_; clear H ey35
 rintro _ _ w17 ⟨h3, rfl, rfl⟩ H
 refine fld gok rfl rfl rfl rfl ?_
 replace H := H.sel [1, 0, 2, 3, 4, 5, 6, 7, 8, 9, 10] rfl
 refine stB (j := 6) H rfl rfl ?_; clear H; intro w18 H
 refine loadN [(.int .i64 a__0), (.int .i64 a__1), (.int .i64 a__2), (h0).v, (h1).v, (h2).v, (h3).v] rfl (fun j u hj => H.bx 0 rfl hj) ?_
 replace H := H.sel [5, 0, 1, 2, 3, 4, 6, 7, 8, 9, 10] rfl
 refine stA gok [(.int .i64 a__0), (.int .i64 a__1), (.int .i64 a__2), (h0).v, (h1).v, (h2).v, (h3).v] rfl H rfl rfl rfl ?_; clear H; intro w20 H
 refine loadN [(.int .i64 a__0), (.int .i64 a__1), (.int .i64 a__2), (h0).v, (h1).v, (h2).v, (h3).v] rfl (fun j u hj => H.bx 0 rfl hj) ?_
 cases f3
 exact ⟨_, _, rfl, ⟨h0, h1, h2, h3, rfl, rfl⟩, (H.sel [5, 4, 3, 2] rfl).close ⟨cloE, cloE, cloE, cloE, trivial⟩⟩

theorem spec_l1In_c (n_ : Int) (lo_ : Int) (hi_ : Int) (y : Bool) (hF : F_spec_l1In n_ lo_ hi_ = some y) :
  ConF Tryd.prog 78 #[(.int .i64 n_), (.int .i64 lo_), (.int .i64 hi_)] [] [] (fun v Γ' => v = (.bool y) ∧ Γ' = []) := by
 intro w0 S0 fp0 hI hS
 have H : Cx w0 fp0 S0 w0 [] := Cx.start hI hS
 clear hI hS
 refine enterC (args := [_, _, _]) gok Tryd.func78 rfl _ rfl rfl rfl ?_
 obtain ⟨r9, f0, f1⟩ := bindS hF; clear hF
 refine cut (fun (q0 : Bool) => [(6, (.bool q0))]) (fun (q0 : Bool) w' => q0 = r9 ∧ Cx w0 fp0 S0 w' []) ?_ ?_
 ·
  obtain ⟨a0, e, f2⟩ := bindS f0; clear f0
  refine boolO e ?_; clear e
  cases a0
  ·
   have f3 := condF f2; clear f2
   exact ⟨false, ⟨rfl, trivial⟩, Option.some.inj f3, H.sel [] rfl⟩
  ·
   have f4 := condT f2; clear f2
   obtain ⟨a1, e, f5⟩ := bindS f4; clear f4
   refine boolO e ?_; clear e
   exact ⟨a1, ⟨rfl, trivial⟩, Option.some.inj f5, H.sel [] rfl⟩
 ·
  clear f0 H
  rintro T0 s7 w1 ⟨hr, (H : Cx w0 fp0 S0 w1 [])⟩
  subst hr
  cases f1
  exact ⟨_, _, rfl, ⟨rfl, rfl⟩, (H.sel [] rfl).close trivial⟩

theorem spec_fdGood_c (p_ : Int) (y : Bool) (hF : F_spec_fdGood p_ = some y) :
  ConF Tryd.prog 76 #[(.int .i64 p_)] [] [] (fun v Γ' => v = (.bool y) ∧ Γ' = []) := by
 intro w0 S0 fp0 hI hS
 have H : Cx w0 fp0 S0 w0 [] := Cx.start hI hS
 clear hI hS
 refine enterC (args := [_]) gok Tryd.func76 rfl _ rfl rfl rfl ?_
 refine sq ?_
 obtain ⟨y1, e, hF2⟩ := bindS hF; clear hF
 have ey1 := e; clear e
 refine callF (spec_l1In_c p_ 2 97 y1 ey1) (Γi := []) H trivial ?_; clear H ey1
 rintro _ _ w3 ⟨rfl, rfl⟩ H
 obtain ⟨a4, e, hF5⟩ := bindS hF2; clear hF2
 refine boolO e ?_; clear e
 cases a4
 ·
  have hF6 := condF hF5; clear hF5
  obtain ⟨r0, f0, f1⟩ := bindS hF6; clear hF6
  refine cut (fun (q0 : Unit) => []) (fun (q0 : Unit) w' => .inl () = r0 ∧ Cx w0 fp0 S0 w' []) ?_ ?_
  ·
   refine loopW _ (fun (s0 : Int) (_ : Unit) => [(0, (.int .i64 p_)), (3, (.int .i64 s0))]) (fun (s0 : Int) (_ : Unit) w' => Cx w0 fp0 S0 w' []) 2 () f0 ⟨rfl, rfl, trivial⟩ (H.sel [] rfl) ?_
   ·
    clear H
    rintro T0 s0 _ w1 o0 (H : Cx w0 fp0 S0 w1 []) hrt f2
    refine sq ?_
    obtain ⟨a0, e, f3⟩ := bindS f2; clear f2
    refine arO e ?_; clear e
    obtain ⟨a1, e, f4⟩ := bindS f3; clear f3
    refine boolO e ?_; clear e
    cases a1
    ·
     have f5 := condF f4; clear f4
     have hs := Option.some.inj f5; subst hs; clear f5
     have f6 : some _ = some _ := congrArg some (hrt _ rfl).symm
     exact ⟨(), trivial, Option.some.inj f6, H.sel [] rfl⟩
    ·
     have f7 := condT f4; clear f4
     refine sq ?_
     obtain ⟨a2, e, f8⟩ := bindS f7; clear f7
     refine remO_ e ?_; clear e
     obtain ⟨a3, e, f9⟩ := bindS f8; clear f8
     refine boolO e ?_; clear e
     cases a3
     ·
      have f10 := condF f9; clear f9
      obtain ⟨a5, e, f11⟩ := bindS f10; clear f10
      refine arO e ?_; clear e
      have hs := Option.some.inj f11; subst hs; clear f11
      exact ⟨a5, (), rfl, ⟨rfl, rfl, trivial⟩, H.sel [] rfl⟩
     ·
      have f12 := condT f9; clear f9
      have hs := Option.some.inj f12; subst hs; clear f12
      have f13 : some _ = some _ := congrArg some (hrt _ rfl).symm
      have hs := Option.some.inj f13; subst hs; clear f13
      have f14 : some _ = some _ := f1; clear f1
      cases f14
      exact ⟨_, _, rfl, ⟨rfl, rfl⟩, (H.sel [] rfl).close trivial⟩
  ·
   clear f0 H
   rintro T1 _ w2 ⟨hr, (H : Cx w0 fp0 S0 w2 [])⟩
   subst hr
   cases f1
   exact ⟨_, _, rfl, ⟨rfl, rfl⟩, (H.sel [] rfl).close trivial⟩
 ·
  have f15 := condT hF5; clear hF5
  cases f15
  exact ⟨_, _, rfl, ⟨rfl, rfl⟩, (H.sel [] rfl).close trivial⟩

theorem spec_l1All_c (l_ : List Int) (l_h : Hd) (lo_ : Int) (hi_ : Int) (y : Bool) (hF : F_spec_l1All l_ lo_ hi_ = some y) :
  ConF Tryd.prog 105 #[(l_h).v, (.int .i64 lo_), (.int .i64 hi_)] [Es (List Int) l_ l_h] [] (fun v Γ' => v = (.bool y) ∧ Γ' = []) := by
 intro w0 S0 fp0 hI hS
 have H : Cx w0 fp0 S0 w0 [Es (List Int) l_ l_h] := Cx.start hI hS
 clear hI hS
 refine enterC (args := [_, _, _]) gok Tryd.func105 rfl _ rfl rfl rfl ?_
 refine sq ?_
 refine lenE (H.rs (α := List Int) 0 rfl).len ?_
 have x0 := (H.rs (α := List Int) 0 rfl).max
 obtain ⟨r0, e, f0⟩ := bindS hF; clear hF
 refine loopO _ l_.length (fun (k2 : Nat) (_ : Unit) (_ : Unit) => [(1, (.int .i64 lo_)), (2, (.int .i64 hi_)), (9, (l_h).v), (10, (.int .i64 ((l_.length : Nat) : Int))), (11, (.int .i64 ((k2 : Nat) : Int)))]) (fun _ (_ : Unit) (_ : Unit) w' => Cx w0 fp0 S0 w' [Es (List Int) l_ l_h]) () () e ⟨rfl, rfl, rfl, rfl, rfl, trivial⟩ (H.sel [0] rfl) ?_ ?_
 ·
  clear H e
  rintro T0 k2 _ _ w1 o0 hk (H : Cx w0 fp0 S0 w1 [Es (List Int) l_ l_h]) hrt f1
  refine boolE (z := true) (ltLen hk) ?_
  refine sq ?_
  refine sq ?_
  obtain ⟨a0, e, f2⟩ := bindS f1; clear f1
  obtain ⟨p0, m0, c0, c1, c2, c3⟩ := (H.rs (α := List Int) 0 rfl).at1 e; clear e
  refine idxE c0 c1 c2 ?_; clear c0 c1 c2
  refine load1 c3 ?_; clear c3
  obtain ⟨y0, e, f3⟩ := bindS f2; clear f2
  have ey37 := e; clear e
  refine callF (spec_l1In_c a0 lo_ hi_ y0 ey37) (Γi := []) H trivial ?_; clear H ey37
  rintro _ _ w2 ⟨rfl, rfl⟩ H
  obtain ⟨a1, e, f4⟩ := bindS f3; clear f3
  refine boolO e ?_; clear e
  cases a1
  ·
   have f5 := condF f4; clear f4
   refine arK hk x0 ?_
   have hs := Option.some.inj f5; subst hs; clear f5
   exact ⟨(), (), rfl, ⟨rfl, rfl, rfl, rfl, rfl, trivial⟩, H.sel [0] rfl⟩
  ·
   have f6 := condT f4; clear f4
   have hs := Option.some.inj f6; subst hs; clear f6
   have hr := hrt _ rfl; subst hr
   have f7 : some _ = some _ := f0
   cases f7
   exact ⟨_, _, rfl, ⟨rfl, rfl⟩, (H.sel [] rfl).close trivial⟩
 ·
  clear H e
  rintro T1 _ _ w3 hr (H : Cx w0 fp0 S0 w3 [Es (List Int) l_ l_h])
  subst hr
  refine boolE (z := false) geLen ?_
  refine sq ?_
  cases f0
  exact ⟨_, _, rfl, ⟨rfl, rfl⟩, (H.sel [] rfl).close trivial⟩

theorem spec_fdIn_c (p_ : Int) (l_ : List Int) (l_h : Hd) (y : Bool) (hF : F_spec_fdIn p_ l_ = some y) :
  ConF Tryd.prog 77 #[(.int .i64 p_), (l_h).v] [Es (List Int) l_ l_h] [] (fun v Γ' => v = (.bool y) ∧ Γ' = []) := by
 intro w0 S0 fp0 hI hS
 have H : Cx w0 fp0 S0 w0 [Es (List Int) l_ l_h] := Cx.start hI hS
 clear hI hS
 refine enterC (args := [_, _]) gok Tryd.func77 rfl _ rfl rfl rfl ?_
 obtain ⟨a2, e, hF3⟩ := bindS hF; clear hF
 refine arO e ?_; clear e
 obtain ⟨y4, e, hF5⟩ := bindS hF3; clear hF3
 have ey4 := e; clear e
 refine callF (spec_l1All_c l_ l_h 0 a2 y4 ey4) (Γi := []) H ⟨Vw.sh 0 rfl, trivial⟩ ?_; clear H ey4
 rintro _ _ w6 ⟨rfl, rfl⟩ H
 cases hF5
 exact ⟨_, _, rfl, ⟨rfl, rfl⟩, (H.sel [] rfl).close trivial⟩

theorem spec_spRows_c (p_ : Int) (size_ : Int) (rows_ : List (List Int)) (rows_h : Hd) (y : Bool) (hF : F_spec_spRows p_ size_ rows_ = some y) :
  ConF Tryd.prog 109 #[(.int .i64 p_), (.int .i64 size_), (rows_h).v] [Es (List (List Int)) rows_ rows_h] [] (fun v Γ' => v = (.bool y) ∧ Γ' = []) := by
 intro w0 S0 fp0 hI hS
 have H : Cx w0 fp0 S0 w0 [Es (List (List Int)) rows_ rows_h] := Cx.start hI hS
 clear hI hS
 refine enterC (args := [_, _, _]) gok Tryd.func109 rfl _ rfl rfl rfl ?_
 refine sq ?_
 refine lenE (H.rs (α := List (List Int)) 0 rfl).len ?_
 have x0 := (H.rs (α := List (List Int)) 0 rfl).max
 obtain ⟨r0, e, f0⟩ := bindS hF; clear hF
 refine loopO _ rows_.length (fun (k2 : Nat) (_ : Unit) (_ : Unit) => [(0, (.int .i64 p_)), (1, (.int .i64 size_)), (9, (rows_h).v), (10, (.int .i64 ((rows_.length : Nat) : Int))), (11, (.int .i64 ((k2 : Nat) : Int)))]) (fun _ (_ : Unit) (_ : Unit) w' => Cx w0 fp0 S0 w' [Es (List (List Int)) rows_ rows_h]) () () e ⟨rfl, rfl, rfl, rfl, rfl, trivial⟩ (H.sel [0] rfl) ?_ ?_
 ·
  clear H e
  rintro T0 k2 _ _ w1 o0 hk (H : Cx w0 fp0 S0 w1 [Es (List (List Int)) rows_ rows_h]) hrt f1
  refine boolE (z := true) (ltLen hk) ?_
  refine sq ?_
  refine sq ?_
  obtain ⟨a0, e, f2⟩ := bindS f1; clear f1
  have HH := H; clear H; obtain ⟨p0, m0, h0, c0, c1, c2, c3, H⟩ := HH.elL 0 rfl e; clear HH
  clear e
  refine idxE c0 c1 c2 ?_; clear c0 c1 c2
  refine load1 c3 ?_; clear c3
  obtain ⟨r1, f3, f4⟩ := bindS f2; clear f2
  refine cut (fun (q0 : Bool) => [(0, (.int .i64 p_)), (1, (.int .i64 size_)), (9, (rows_h).v), (10, (.int .i64 ((rows_.length : Nat) : Int))), (11, (.int .i64 ((k2 : Nat) : Int))), (24, (.bool q0))]) (fun (q0 : Bool) w' => q0 = r1 ∧ Cx w0 fp0 S0 w' [Es (List (List Int)) rows_ rows_h]) ?_ ?_
  ·
   refine lenE (H.rs (α := List Int) 0 rfl).len ?_
   obtain ⟨a1, e, f5⟩ := bindS f3; clear f3
   refine boolO e ?_; clear e
   cases a1
   ·
    have f6 := condF f5; clear f5
    obtain ⟨y0, e, f7⟩ := bindS f6; clear f6
    have ey80 := e; clear e
    refine callF (spec_fdIn_c p_ a0 h0 y0 ey80) (Γi := []) H ⟨Vw.sh 0 rfl, trivial⟩ ?_; clear H ey80
    rintro _ _ w2 ⟨rfl, rfl⟩ H
    obtain ⟨a2, e, f8⟩ := bindS f7; clear f7
    refine boolO e ?_; clear e
    exact ⟨a2, ⟨rfl, rfl, rfl, rfl, rfl, rfl, trivial⟩, Option.some.inj f8, H.sel [1] rfl⟩
   ·
    have f9 := condT f5; clear f5
    exact ⟨true, ⟨rfl, rfl, rfl, rfl, rfl, rfl, trivial⟩, Option.some.inj f9, H.sel [1] rfl⟩
  ·
   clear f3 H
   rintro T1 s0 w3 ⟨hr, (H : Cx w0 fp0 S0 w3 [Es (List (List Int)) rows_ rows_h])⟩
   subst hr
   cases s0
   ·
    have f10 := condF f4; clear f4
    refine arK hk x0 ?_
    have hs := Option.some.inj f10; subst hs; clear f10
    exact ⟨(), (), rfl, ⟨rfl, rfl, rfl, rfl, rfl, trivial⟩, H.sel [0] rfl⟩
   ·
    have f11 := condT f4; clear f4
    have hs := Option.some.inj f11; subst hs; clear f11
    have hr := hrt _ rfl; subst hr
    have f12 : some _ = some _ := f0
    cases f12
    exact ⟨_, _, rfl, ⟨rfl, rfl⟩, (H.sel [] rfl).close trivial⟩
 ·
  clear H e
  rintro T2 _ _ w4 hr (H : Cx w0 fp0 S0 w4 [Es (List (List Int)) rows_ rows_h])
  subst hr
  refine boolE (z := false) geLen ?_
  refine sq ?_
  cases f0
  exact ⟨_, _, rfl, ⟨rfl, rfl⟩, (H.sel [] rfl).close trivial⟩

theorem spec_ssTable_c (p_ : Int) (rows_ : Int) (cols_ : Int) (m_ : List (List Int)) (m_h : Hd) (y : Bool) (hF : F_spec_ssTable p_ rows_ cols_ m_ = some y) :
  ConF Tryd.prog 84 #[(.int .i64 p_), (.int .i64 rows_), (.int .i64 cols_), (m_h).v] [Es (List (List Int)) m_ m_h] [] (fun v Γ' => v = (.bool y) ∧ Γ' = []) := by
 intro w0 S0 fp0 hI hS
 have H : Cx w0 fp0 S0 w0 [Es (List (List Int)) m_ m_h] := Cx.start hI hS
 clear hI hS
 refine enterC (args := [_, _, _, _]) gok Tryd.func84 rfl _ rfl rfl rfl ?_
 obtain ⟨r0, f0, f1⟩ := bindS hF; clear hF
 refine cut (fun (q0 : Bool) => [(8, (.bool q0))]) (fun (q0 : Bool) w' => q0 = r0 ∧ Cx w0 fp0 S0 w' []) ?_ ?_
 ·
  refine lenE (H.rs (α := List (List Int)) 0 rfl).len ?_
  obtain ⟨a0, e, f2⟩ := bindS f0; clear f0
  refine boolO e ?_; clear e
  cases a0
  ·
   have f3 := condF f2; clear f2
   exact ⟨false, ⟨rfl, trivial⟩, Option.some.inj f3, H.sel [] rfl⟩
  ·
   have f4 := condT f2; clear f2
   obtain ⟨y0, e, f5⟩ := bindS f4; clear f4
   have ey19 := e; clear e
   refine callF (spec_spRows_c p_ cols_ m_ m_h y0 ey19) (Γi := []) H ⟨Vw.sh 0 rfl, trivial⟩ ?_; clear H ey19
   rintro _ _ w1 ⟨rfl, rfl⟩ H
   exact ⟨y0, ⟨rfl, trivial⟩, Option.some.inj f5, H.sel [] rfl⟩
 ·
  clear f0 H
  rintro T0 s9 w2 ⟨hr, (H : Cx w0 fp0 S0 w2 [])⟩
  subst hr
  cases f1
  exact ⟨_, _, rfl, ⟨rfl, rfl⟩, (H.sel [] rfl).close trivial⟩

theorem spec_ssGood_c (p_ : Int) (s__0 : Int) (s__1 : Int) (s__2 : Int) (s__3 : List (List Int)) (s__3h : Hd) (s__4 : List (List Int)) (s__4h : Hd) (s__5 : List (List Int)) (s__5h : Hd) (s__6 : List (List Int)) (s__6h : Hd) (y : Bool) (hF : F_spec_ssGood p_ (s__0, s__1, s__2, s__3, s__4, s__5, s__6) = some y) :
  ConF Tryd.prog 48 #[(.int .i64 p_), (.agg #[(.int .i64 s__0), (.int .i64 s__1), (.int .i64 s__2), (s__3h).v, (s__4h).v, (s__5h).v, (s__6h).v])] [Es (List (List Int)) s__3 s__3h, Es (List (List Int)) s__4 s__4h, Es (List (List Int)) s__5 s__5h, Es (List (List Int)) s__6 s__6h] [] (fun v Γ' => v = (.bool y) ∧ Γ' = []) := by
 intro w0 S0 fp0 hI hS
 have H : Cx w0 fp0 S0 w0 [Es (List (List Int)) s__3 s__3h, Es (List (List Int)) s__4 s__4h, Es (List (List Int)) s__5 s__5h, Es (List (List Int)) s__6 s__6h] := Cx.start hI hS
 clear hI hS
 refine enterC (args := [_, _]) gok Tryd.func48 rfl _ rfl rfl rfl ?_
 refine box_ H ?_; clear H; intro b6 w5 hx H
 clear hx
 obtain ⟨r0, f0, f1⟩ := bindS hF; clear hF
 refine cut (fun (q0 : Bool) => [(4, (.bool q0))]) (fun (q0 : Bool) w' => q0 = r0 ∧ Cx w0 fp0 S0 w' []) ?_ ?_
 ·
  obtain ⟨y0, e, f2⟩ := bindS f0; clear f0
  have ey52 := e; clear e
  refine callF (spec_fdGood_c p_ y0 ey52) (Γi := []) H trivial ?_; clear H ey52
  rintro _ _ w1 ⟨rfl, rfl⟩ H
  cases y0
  ·
   have f3 := condF f2; clear f2
   exact ⟨false, ⟨rfl, trivial⟩, Option.some.inj f3, H.sel [] rfl⟩
  ·
   have f4 := condT f2; clear f2
   refine fld gok rfl rfl rfl rfl ?_
   refine load1 (H.bx 0 rfl (j := 0) rfl) ?_
   obtain ⟨y1, e, f5⟩ := bindS f4; clear f4
   have ey57 := e; clear e
   refine callF (spec_l1In_c s__0 0 24 y1 ey57) (Γi := []) H trivial ?_; clear H ey57
   rintro _ _ w2 ⟨rfl, rfl⟩ H
   cases y1
   ·
    have f6 := condF f5; clear f5
    exact ⟨false, ⟨rfl, trivial⟩, Option.some.inj f6, H.sel [] rfl⟩
   ·
    have f7 := condT f5; clear f5
    refine fld gok rfl rfl rfl rfl ?_
    refine load1 (H.bx 0 rfl (j := 1) rfl) ?_
    obtain ⟨y2, e, f8⟩ := bindS f7; clear f7
    have ey62 := e; clear e
    refine callF (spec_l1In_c s__1 0 8 y2 ey62) (Γi := []) H trivial ?_; clear H ey62
    rintro _ _ w3 ⟨rfl, rfl⟩ H
    cases y2
    ·
     have f9 := condF f8; clear f8
     exact ⟨false, ⟨rfl, trivial⟩, Option.some.inj f9, H.sel [] rfl⟩
    ·
     have f10 := condT f8; clear f8
     refine fld gok rfl rfl rfl rfl ?_
     refine load1 (H.bx 0 rfl (j := 2) rfl) ?_
     obtain ⟨y3, e, f11⟩ := bindS f10; clear f10
     have ey67 := e; clear e
     refine callF (spec_l1In_c s__2 0 8 y3 ey67) (Γi := []) H trivial ?_; clear H ey67
     rintro _ _ w4 ⟨rfl, rfl⟩ H
     cases y3
     ·
      have f12 := condF f11; clear f11
      exact ⟨false, ⟨rfl, trivial⟩, Option.some.inj f12, H.sel [] rfl⟩
     ·
      have f13 := condT f11; clear f11
      refine fld gok rfl rfl rfl rfl ?_
      refine load1 (H.bx 0 rfl (j := 0) rfl) ?_
      refine fld gok rfl rfl rfl rfl ?_
      refine load1 (H.bx 0 rfl (j := 0) rfl) ?_
      refine fld gok rfl rfl rfl rfl ?_
      refine load1 (H.bx 0 rfl (j := 3) rfl) ?_
      obtain ⟨y4, e, f14⟩ := bindS f13; clear f13
      have ey72 := e; clear e
      refine callF (spec_ssTable_c p_ s__0 s__0 s__3 s__3h y4 ey72) (Γi := []) H ⟨Vw.sh 1 rfl, trivial⟩ ?_; clear H ey72
      rintro _ _ w6 ⟨rfl, rfl⟩ H
      cases y4
      ·
       have f15 := condF f14; clear f14
       exact ⟨false, ⟨rfl, trivial⟩, Option.some.inj f15, H.sel [] rfl⟩
      ·
       have f16 := condT f14; clear f14
       refine fld gok rfl rfl rfl rfl ?_
       refine load1 (H.bx 0 rfl (j := 1) rfl) ?_
       refine fld gok rfl rfl rfl rfl ?_
       refine load1 (H.bx 0 rfl (j := 0) rfl) ?_
       refine fld gok rfl rfl rfl rfl ?_
       refine load1 (H.bx 0 rfl (j := 4) rfl) ?_
       obtain ⟨y5, e, f17⟩ := bindS f16; clear f16
       have ey77 := e; clear e
       refine callF (spec_ssTable_c p_ s__1 s__0 s__4 s__4h y5 ey77) (Γi := []) H ⟨Vw.sh 2 rfl, trivial⟩ ?_; clear H ey77
       rintro _ _ w7 ⟨rfl, rfl⟩ H
       cases y5
       ·
        have f18 := condF f17; clear f17
        exact ⟨false, ⟨rfl, trivial⟩, Option.some.inj f18, H.sel [] rfl⟩
       ·
        have f19 := condT f17; clear f17
        refine fld gok rfl rfl rfl rfl ?_
        refine load1 (H.bx 0 rfl (j := 0) rfl) ?_
        refine fld gok rfl rfl rfl rfl ?_
        refine load1 (H.bx 0 rfl (j := 2) rfl) ?_
        refine fld gok rfl rfl rfl rfl ?_
        refine load1 (H.bx 0 rfl (j := 5) rfl) ?_
        obtain ⟨y6, e, f20⟩ := bindS f19; clear f19
        have ey82 := e; clear e
        refine callF (spec_ssTable_c p_ s__0 s__2 s__5 s__5h y6 ey82) (Γi := []) H ⟨Vw.sh 3 rfl, trivial⟩ ?_; clear H ey82
        rintro _ _ w8 ⟨rfl, rfl⟩ H
        cases y6
        ·
         have f21 := condF f20; clear f20
         exact ⟨false, ⟨rfl, trivial⟩, Option.some.inj f21, H.sel [] rfl⟩
        ·
         have f22 := condT f20; clear f20
         refine fld gok rfl rfl rfl rfl ?_
         refine load1 (H.bx 0 rfl (j := 1) rfl) ?_
         refine fld gok rfl rfl rfl rfl ?_
         refine load1 (H.bx 0 rfl (j := 2) rfl) ?_
         refine fld gok rfl rfl rfl rfl ?_
         refine load1 (H.bx 0 rfl (j := 6) rfl) ?_
         obtain ⟨y7, e, f23⟩ := bindS f22; clear f22
         have ey87 := e; clear e
         refine callF (spec_ssTable_c p_ s__1 s__2 s__6 s__6h y7 ey87) (Γi := []) H ⟨Vw.sh 4 rfl, trivial⟩ ?_; clear H ey87
         rintro _ _ w9 ⟨rfl, rfl⟩ H
         exact ⟨y7, ⟨rfl, trivial⟩, Option.some.inj f23, H.sel [] rfl⟩
 ·
  clear f0 H
  rintro T0 s0 w10 ⟨hr, (H : Cx w0 fp0 S0 w10 [])⟩
  subst hr
  cases f1
  exact ⟨_, _, rfl, ⟨rfl, rfl⟩, (H.sel [] rfl).close trivial⟩

theorem spec_ssTwo_c (p_ : Int) (a__0 : Int) (a__1 : Int) (a__2 : Int) (a__3 : List (List Int)) (a__3h : Hd) (a__4 : List (List Int)) (a__4h : Hd) (a__5 : List (List Int)) (a__5h : Hd) (a__6 : List (List Int)) (a__6h : Hd) (b__0 : Int) (b__1 : Int) (b__2 : Int) (b__3 : List (List Int)) (b__3h : Hd) (b__4 : List (List Int)) (b__4h : Hd) (b__5 : List (List Int)) (b__5h : Hd) (b__6 : List (List Int)) (b__6h : Hd) (y : Bool) (hF : F_spec_ssTwo p_ (a__0, a__1, a__2, a__3, a__4, a__5, a__6) (b__0, b__1, b__2, b__3, b__4, b__5, b__6) = some y) :
  ConF Tryd.prog 28 #[(.int .i64 p_), (.agg #[(.int .i64 a__0), (.int .i64 a__1), (.int .i64 a__2), (a__3h).v, (a__4h).v, (a__5h).v, (a__6h).v]), (.agg #[(.int .i64 b__0), (.int .i64 b__1), (.int .i64 b__2), (b__3h).v, (b__4h).v, (b__5h).v, (b__6h).v])] [Es (List (List Int)) a__3 a__3h, Es (List (List Int)) a__4 a__4h, Es (List (List Int)) a__5 a__5h, Es (List (List Int)) a__6 a__6h, Es (List (List Int)) b__3 b__3h, Es (List (List Int)) b__4 b__4h, Es (List (List Int)) b__5 b__5h, Es (List (List Int)) b__6 b__6h] [] (fun v Γ' => v = (.bool y) ∧ Γ' = []) := by
 intro w0 S0 fp0 hI hS
 have H : Cx w0 fp0 S0 w0 [Es (List (List Int)) a__3 a__3h, Es (List (List Int)) a__4 a__4h, Es (List (List Int)) a__5 a__5h, Es (List (List Int)) a__6 a__6h, Es (List (List Int)) b__3 b__3h, Es (List (List Int)) b__4 b__4h, Es (List (List Int)) b__5 b__5h, Es (List (List Int)) b__6 b__6h] := Cx.start hI hS
 clear hI hS
 refine enterC (args := [_, _, _]) gok Tryd.func28 rfl _ rfl rfl rfl ?_
 refine box_ H ?_; clear H; intro b0 w9 hx H
 clear hx
 refine box_ H ?_; clear H; intro b1 w1 hx H
 clear hx
 obtain ⟨r0, f0, f1⟩ := bindS hF; clear hF
 refine cut (fun (q0 : Bool) => [(6, (.bool q0))]) (fun (q0 : Bool) w' => q0 = r0 ∧ Cx w0 fp0 S0 w' []) ?_ ?_
 ·
  refine loadN [(.int .i64 a__0), (.int .i64 a__1), (.int .i64 a__2), (a__3h).v, (a__4h).v, (a__5h).v, (a__6h).v] rfl (fun j u hj => H.bx 1 rfl hj) ?_
  obtain ⟨y0, e, f2⟩ := bindS f0; clear f0
  have ey37 := e; clear e
  refine callF (spec_ssGood_c p_ a__0 a__1 a__2 a__3 a__3h a__4 a__4h a__5 a__5h a__6 a__6h y0 ey37) (Γi := []) H ⟨Vw.sh 2 rfl, Vw.sh 3 rfl, Vw.sh 4 rfl, Vw.sh 5 rfl, trivial⟩ ?_; clear H ey37
  rintro _ _ w2 ⟨rfl, rfl⟩ H
  cases y0
  ·
   have f3 := condF f2; clear f2
   exact ⟨false, ⟨rfl, trivial⟩, Option.some.inj f3, H.sel [] rfl⟩
  ·
   have f4 := condT f2; clear f2
   refine loadN [(.int .i64 b__0), (.int .i64 b__1), (.int .i64 b__2), (b__3h).v, (b__4h).v, (b__5h).v, (b__6h).v] rfl (fun j u hj => H.bx 0 rfl hj) ?_
   obtain ⟨y1, e, f5⟩ := bindS f4; clear f4
   have ey42 := e; clear e
   refine callF (spec_ssGood_c p_ b__0 b__1 b__2 b__3 b__3h b__4 b__4h b__5 b__5h b__6 b__6h y1 ey42) (Γi := []) H ⟨Vw.sh 6 rfl, Vw.sh 7 rfl, Vw.sh 8 rfl, Vw.sh 9 rfl, trivial⟩ ?_; clear H ey42
   rintro _ _ w3 ⟨rfl, rfl⟩ H
   cases y1
   ·
    have f6 := condF f5; clear f5
    exact ⟨false, ⟨rfl, trivial⟩, Option.some.inj f6, H.sel [] rfl⟩
   ·
    have f7 := condT f5; clear f5
    refine fld gok rfl rfl rfl rfl ?_
    refine load1 (H.bx 1 rfl (j := 1) rfl) ?_
    refine fld gok rfl rfl rfl rfl ?_
    refine load1 (H.bx 0 rfl (j := 1) rfl) ?_
    obtain ⟨a0, e, f8⟩ := bindS f7; clear f7
    refine boolO e ?_; clear e
    cases a0
    ·
     have f9 := condF f8; clear f8
     exact ⟨false, ⟨rfl, trivial⟩, Option.some.inj f9, H.sel [] rfl⟩
    ·
     have f10 := condT f8; clear f8
     refine fld gok rfl rfl rfl rfl ?_
     refine load1 (H.bx 1 rfl (j := 2) rfl) ?_
     refine fld gok rfl rfl rfl rfl ?_
     refine load1 (H.bx 0 rfl (j := 2) rfl) ?_
     obtain ⟨a1, e, f11⟩ := bindS f10; clear f10
     refine boolO e ?_; clear e
     exact ⟨a1, ⟨rfl, trivial⟩, Option.some.inj f11, H.sel [] rfl⟩
 ·
  clear f0 H
  rintro T0 s0 w4 ⟨hr, (H : Cx w0 fp0 S0 w4 [])⟩
  subst hr
  cases f1
  exact ⟨_, _, rfl, ⟨rfl, rfl⟩, (H.sel [] rfl).close trivial⟩

theorem spec_l1Own_c (l_ : List Int) (l_h : Hd) (y : List Int) (hF : F_spec_l1Own l_ = some y) :
  ConF Tryd.prog 58 #[(l_h).v] [Es (List Int) l_ l_h] [] (fun v Γ' => ∃ z0 : Hd, v = (z0).v ∧ Γ' = [E (List Int) y z0]) := by
 intro w0 S0 fp0 hI hS
 have H : Cx w0 fp0 S0 w0 [Es (List Int) l_ l_h] := Cx.start hI hS
 clear hI hS
 refine enterC (args := [_]) gok Tryd.func58 rfl _ rfl rfl rfl ?_
 refine lit0 (α := Int) gok rfl rfl H ?_; clear H; intro h3 w2 hx H
 clear hx
 obtain ⟨a5, e, hF6⟩ := bindS hF; clear hF
 refine appendS (α := Int) gok rfl rfl rfl rfl H (Vw.sh 0 rfl) e ?_; clear e H; intro h8 w7 H
 cases hF6
 exact ⟨_, _, rfl, ⟨h8, rfl, rfl⟩, (H.sel [0] rfl).close ⟨cloE, trivial⟩⟩

theorem spec_fdInv_c (p_ : Int) (a_ : Int) (y : Int) (hF : F_spec_fdInv p_ a_ = some y) :
  ConF Tryd.prog 59 #[(.int .i64 p_), (.int .i64 a_)] [] [] (fun v Γ' => v = (.int .i64 y) ∧ Γ' = []) := by
 intro w0 S0 fp0 hI hS
 have H : Cx w0 fp0 S0 w0 [] := Cx.start hI hS
 clear hI hS
 refine enterC (args := [_, _]) gok Tryd.func59 rfl _ rfl rfl rfl ?_
 obtain ⟨r0, f0, f1⟩ := bindS hF; clear hF
 refine cut (fun (q0 : Unit) => []) (fun (q0 : Unit) w' => .inl () = r0 ∧ Cx w0 fp0 S0 w' []) ?_ ?_
 ·
  refine loopW _ (fun (s0 : Int) (_ : Unit) => [(0, (.int .i64 p_)), (1, (.int .i64 a_)), (5, (.int .i64 s0))]) (fun (s0 : Int) (_ : Unit) w' => Cx w0 fp0 S0 w' []) 1 () f0 ⟨rfl, rfl, rfl, trivial⟩ (H.sel [] rfl) ?_
  ·
   clear H
   rintro T0 s0 _ w1 o0 (H : Cx w0 fp0 S0 w1 []) hrt f2
   refine sq ?_
   obtain ⟨a0, e, f3⟩ := bindS f2; clear f2
   refine boolO e ?_; clear e
   cases a0
   ·
    have f4 := condF f3; clear f3
    have hs := Option.some.inj f4; subst hs; clear f4
    have f5 : some _ = some _ := congrArg some (hrt _ rfl).symm
    exact ⟨(), trivial, Option.some.inj f5, H.sel [] rfl⟩
   ·
    have f6 := condT f3; clear f3
    refine sq ?_
    obtain ⟨a1, e, f7⟩ := bindS f6; clear f6
    refine arO e ?_; clear e
    obtain ⟨a2, e, f8⟩ := bindS f7; clear f7
    refine remO_ e ?_; clear e
    obtain ⟨a3, e, f9⟩ := bindS f8; clear f8
    refine boolO e ?_; clear e
    cases a3
    ·
     have f10 := condF f9; clear f9
     obtain ⟨a4, e, f11⟩ := bindS f10; clear f10
     refine arO e ?_; clear e
     have hs := Option.some.inj f11; subst hs; clear f11
     exact ⟨a4, (), rfl, ⟨rfl, rfl, rfl, trivial⟩, H.sel [] rfl⟩
    ·
     have f12 := condT f9; clear f9
     have hs := Option.some.inj f12; subst hs; clear f12
     have f13 : some _ = some _ := congrArg some (hrt _ rfl).symm
     have hs := Option.some.inj f13; subst hs; clear f13
     have f14 : some _ = some _ := f1; clear f1
     cases f14
     exact ⟨_, _, rfl, ⟨rfl, rfl⟩, (H.sel [] rfl).close trivial⟩
 ·
  clear f0 H
  rintro T1 _ w2 ⟨hr, (H : Cx w0 fp0 S0 w2 [])⟩
  subst hr
  cases f1
  exact ⟨_, _, rfl, ⟨rfl, rfl⟩, (H.sel [] rfl).close trivial⟩

theorem spec_fdMul_c (p_ : Int) (a_ : Int) (b_ : Int) (y : Int) (hF : F_spec_fdMul p_ a_ b_ = some y) :
  ConF Tryd.prog 60 #[(.int .i64 p_), (.int .i64 a_), (.int .i64 b_)] [] [] (fun v Γ' => v = (.int .i64 y) ∧ Γ' = []) := by
 intro w0 S0 fp0 hI hS
 have H : Cx w0 fp0 S0 w0 [] := Cx.start hI hS
 clear hI hS
 refine enterC (args := [_, _, _]) gok Tryd.func60 rfl _ rfl rfl rfl ?_
 obtain ⟨a1, e, hF2⟩ := bindS hF; clear hF
 refine arO e ?_; clear e
 obtain ⟨a3, e, hF4⟩ := bindS hF2; clear hF2
 refine remO_ e ?_; clear e
 cases hF4
 exact ⟨_, _, rfl, ⟨rfl, rfl⟩, (H.sel [] rfl).close trivial⟩

theorem spec_fdSub_c (p_ : Int) (a_ : Int) (b_ : Int) (y : Int) (hF : F_spec_fdSub p_ a_ b_ = some y) :
  ConF Tryd.prog 61 #[(.int .i64 p_), (.int .i64 a_), (.int .i64 b_)] [] [] (fun v Γ' => v = (.int .i64 y) ∧ Γ' = []) := by
 intro w0 S0 fp0 hI hS
 have H : Cx w0 fp0 S0 w0 [] := Cx.start hI hS
 clear hI hS
 refine enterC (args := [_, _, _]) gok Tryd.func61 rfl _ rfl rfl rfl ?_
 obtain ⟨a1, e, hF2⟩ := bindS hF; clear hF
 refine arO e ?_; clear e
 obtain ⟨a3, e, hF4⟩ := bindS hF2; clear hF2
 refine arO e ?_; clear e
 obtain ⟨a5, e, hF6⟩ := bindS hF4; clear hF4
 refine remO_ e ?_; clear e
 cases hF6
 exact ⟨_, _, rfl, ⟨rfl, rfl⟩, (H.sel [] rfl).close trivial⟩

theorem spec_spReduce_c (p_ : Int) (size_ : Int) (rows_ : List (List Int)) (rows_h : Hd) (y : List (List Int)) (hF : F_spec_spReduce p_ size_ rows_ = some y) :
  ConF Tryd.prog 32 #[(.int .i64 p_), (.int .i64 size_), (rows_h).v] [Es (List (List Int)) rows_ rows_h] [] (fun v Γ' => ∃ z0 : Hd, v = (z0).v ∧ Γ' = [E (List (List Int)) y z0]) := by
 intro w0 S0 fp0 hI hS
 have H : Cx w0 fp0 S0 w0 [Es (List (List Int)) rows_ rows_h] := Cx.start hI hS
 clear hI hS
 refine enterC (args := [_, _, _]) gok Tryd.func32 rfl _ rfl rfl rfl ?_
 refine sq ?_
 refine lenE (H.rs (α := List (List Int)) 0 rfl).len ?_
 have x0 := (H.rs (α := List (List Int)) 0 rfl).max
 obtain ⟨r0, e, f0⟩ := bindS hF; clear hF
 replace H := H.nil (α := List Int)
 refine loopS _ rows_.length (fun (k2 : Nat) (s0 : List (List Int)) (g0 : Hd) => [(0, (.int .i64 p_)), (1, (.int .i64 size_)), (7, (g0).v), (19, (rows_h).v), (20, (.int .i64 ((rows_.length : Nat) : Int))), (21, (.int .i64 ((k2 : Nat) : Int)))]) (fun _ (s0 : List (List Int)) (g0 : Hd) w' => Cx w0 fp0 S0 w' [E (List (List Int)) s0 g0, Es (List (List Int)) rows_ rows_h]) [] nilH e ⟨rfl, rfl, rfl, rfl, rfl, rfl, trivial⟩ (H.sel [0, 1] rfl) ?_ ?_
 ·
  clear H e
  rintro T0 k2 s0 g0 w1 o0 hk (H : Cx w0 fp0 S0 w1 [E (List (List Int)) s0 g0, Es (List (List Int)) rows_ rows_h]) f1
  refine boolE (z := true) (ltLen hk) ?_
  refine sq ?_
  refine sq ?_
  obtain ⟨a0, e, f2⟩ := bindS f1; clear f1
  have HH := H; clear H; obtain ⟨p0, m0, h0, c0, c1, c2, c3, H⟩ := HH.elL 1 rfl e; clear HH
  clear e
  refine idxE c0 c1 c2 ?_; clear c0 c1 c2
  refine load1 c3 ?_; clear c3
  obtain ⟨y0, e, f3⟩ := bindS f2; clear f2
  have ey76 := e; clear e
  refine callF (spec_l1Own_c a0 h0 y0 ey76) (Γi := []) H ⟨Vw.sh 0 rfl, trivial⟩ ?_; clear H ey76
  rintro _ _ w2 ⟨h1, rfl, rfl⟩ H
  refine lit1 (α := List Int) (g := h1) gok rfl rfl rfl rfl rfl H ?_; clear H; intro h2 w3 hx H
  clear hx
  obtain ⟨a1, e, f4⟩ := bindS f3; clear f3
  replace H := H.sel [2, 0, 1, 3] rfl
  refine append_ (α := List Int) gok rfl rfl rfl rfl H e ?_; clear e H; intro h3 w4 H
  refine arK hk x0 ?_
  have hs := Option.some.inj f4; subst hs; clear f4
  exact ⟨h3, ⟨rfl, rfl, rfl, rfl, rfl, rfl, trivial⟩, H.sel [0, 2] rfl⟩
 ·
  clear H e
  rintro T1 g1 w5 (H : Cx w0 fp0 S0 w5 [E (List (List Int)) r0 g1, Es (List (List Int)) rows_ rows_h])
  refine boolE (z := false) geLen ?_
  refine sq ?_
  obtain ⟨r1, f5, f6⟩ := bindS f0; clear f0
  refine cut (fun (q0 : List (List Int) × Int) => [(7, (g1).v), (10, (.int .i64 q0.2))]) (fun (q0 : List (List Int) × Int) w' => (q0.1, q0.2) = r1 ∧ Cx w0 fp0 S0 w' [E (List (List Int)) q0.1 g1]) ?_ ?_
  ·
   refine loopW _ (fun (s1 : List (List Int) × Int × Int) (_ : Unit) => [(0, (.int .i64 p_)), (1, (.int .i64 size_)), (7, (g1).v), (10, (.int .i64 s1.2.1)), (11, (.int .i64 s1.2.2))]) (fun (s1 : List (List Int) × Int × Int) (_ : Unit) w' => Cx w0 fp0 S0 w' [E (List (List Int)) s1.1 g1]) (r0, 0, 0) () f5 ⟨rfl, rfl, rfl, rfl, rfl, trivial⟩ (H.sel [0] rfl) ?_
   ·
    clear H
    rintro T2 ⟨s1_0, s1_1, s1_2⟩ _ w6 o1 (H : Cx w0 fp0 S0 w6 [E (List (List Int)) s1_0 g1]) hrt f7
    refine sq ?_
    obtain ⟨r2, f8, f9⟩ := bindS f7; clear f7
    refine cut (fun (q1 : Bool) => [(0, (.int .i64 p_)), (1, (.int .i64 size_)), (7, (g1).v), (10, (.int .i64 s1_1)), (11, (.int .i64 s1_2)), (39, (.bool q1))]) (fun (q1 : Bool) w' => q1 = r2 ∧ Cx w0 fp0 S0 w' [E (List (List Int)) s1_0 g1]) ?_ ?_
    ·
     obtain ⟨a2, e, f10⟩ := bindS f8; clear f8
     refine boolO e ?_; clear e
     cases a2
     ·
      have f11 := condF f10; clear f10
      exact ⟨false, ⟨rfl, rfl, rfl, rfl, rfl, rfl, trivial⟩, Option.some.inj f11, H.sel [0] rfl⟩
     ·
      have f12 := condT f10; clear f10
      refine lenE (H.ro (α := List (List Int)) 0 rfl).len ?_
      obtain ⟨a3, e, f13⟩ := bindS f12; clear f12
      refine boolO e ?_; clear e
      exact ⟨a3, ⟨rfl, rfl, rfl, rfl, rfl, rfl, trivial⟩, Option.some.inj f13, H.sel [0] rfl⟩
    ·
     clear f8 H
     rintro T3 s2 w7 ⟨hr, (H : Cx w0 fp0 S0 w7 [E (List (List Int)) s1_0 g1])⟩
     subst hr
     cases s2
     ·
      have f14 := condF f9; clear f9
      have hs := Option.some.inj f14; subst hs; clear f14
      have f15 : some _ = some _ := congrArg some (hrt _ rfl).symm
      exact ⟨(s1_0, s1_1), ⟨rfl, rfl, trivial⟩, Option.some.inj f15, H.sel [0] rfl⟩
     ·
      have f16 := condT f9; clear f9
      obtain ⟨r3, f17, f18⟩ := bindS f16; clear f16
      refine cut (fun (q2 : List (List Int) × Int) => [(0, (.int .i64 p_)), (1, (.int .i64 size_)), (7, (g1).v), (10, (.int .i64 q2.2)), (11, (.int .i64 s1_2))]) (fun (q2 : List (List Int) × Int) w' => (q2.1, q2.2) = r3 ∧ Cx w0 fp0 S0 w' [E (List (List Int)) q2.1 g1]) ?_ ?_
      ·
       obtain ⟨r4, f19, f20⟩ := bindS f17; clear f17
       refine cut (fun (q3 : Int) => [(0, (.int .i64 p_)), (1, (.int .i64 size_)), (7, (g1).v), (10, (.int .i64 s1_1)), (11, (.int .i64 s1_2)), (12, (.int .i64 q3))]) (fun (q3 : Int) w' => q3 = r4 ∧ Cx w0 fp0 S0 w' [E (List (List Int)) s1_0 g1]) ?_ ?_
       ·
        refine loopW _ (fun (s3 : Int) (_ : Unit) => [(0, (.int .i64 p_)), (1, (.int .i64 size_)), (7, (g1).v), (10, (.int .i64 s1_1)), (11, (.int .i64 s1_2)), (12, (.int .i64 s3))]) (fun (s3 : Int) (_ : Unit) w' => Cx w0 fp0 S0 w' [E (List (List Int)) s1_0 g1]) s1_1 () f19 ⟨rfl, rfl, rfl, rfl, rfl, rfl, trivial⟩ (H.sel [0] rfl) ?_
        ·
         clear H
         rintro T4 s3 _ w8 o2 (H : Cx w0 fp0 S0 w8 [E (List (List Int)) s1_0 g1]) hrt f21
         refine sq ?_
         obtain ⟨r5, f22, f23⟩ := bindS f21; clear f21
         refine cut (fun (q4 : Bool) => [(0, (.int .i64 p_)), (1, (.int .i64 size_)), (7, (g1).v), (10, (.int .i64 s1_1)), (11, (.int .i64 s1_2)), (12, (.int .i64 s3)), (56, (.bool q4))]) (fun (q4 : Bool) w' => q4 = r5 ∧ Cx w0 fp0 S0 w' [E (List (List Int)) s1_0 g1]) ?_ ?_
         ·
          refine lenE (H.ro (α := List (List Int)) 0 rfl).len ?_
          obtain ⟨a4, e, f24⟩ := bindS f22; clear f22
          refine boolO e ?_; clear e
          cases a4
          ·
           have f25 := condF f24; clear f24
           exact ⟨false, ⟨rfl, rfl, rfl, rfl, rfl, rfl, rfl, trivial⟩, Option.some.inj f25, H.sel [0] rfl⟩
          ·
           have f26 := condT f24; clear f24
           obtain ⟨a5, e, f27⟩ := bindS f26; clear f26
           replace H := H.toEH (α := List Int)
           have HH := H; clear H; obtain ⟨p1, m1, h4, c4, c5, c6, c7, H⟩ := HH.peekL e; clear HH
           clear e
           refine idxE c4 c5 c6 ?_
           refine load1 c7 ?_; clear c7
           obtain ⟨a6, e, f28⟩ := bindS f27; clear f27
           obtain ⟨p2, m2, c8, c9, c10, c11⟩ := (H.rh (α := List Int) 0 rfl 0 rfl).at1 e; clear e
           refine idxE c8 c9 c10 ?_; clear c8 c9 c10
           refine load1 c11 ?_; clear c11
           obtain ⟨a7, e, f29⟩ := bindS f28; clear f28
           refine boolO e ?_; clear e
           replace H := H.ofEH
           exact ⟨a7, ⟨rfl, rfl, rfl, rfl, rfl, rfl, rfl, trivial⟩, Option.some.inj f29, H.sel [0] rfl⟩
         ·
          clear f22 H
          rintro T5 s4 w9 ⟨hr, (H : Cx w0 fp0 S0 w9 [E (List (List Int)) s1_0 g1])⟩
          subst hr
          cases s4
          ·
           have f30 := condF f23; clear f23
           have hs := Option.some.inj f30; subst hs; clear f30
           have f31 : some _ = some _ := congrArg some (hrt _ rfl).symm
           exact ⟨s3, ⟨rfl, rfl, rfl, rfl, rfl, rfl, trivial⟩, Option.some.inj f31, H.sel [0] rfl⟩
          ·
           have f32 := condT f23; clear f23
           obtain ⟨a8, e, f33⟩ := bindS f32; clear f32
           refine arO e ?_; clear e
           have hs := Option.some.inj f33; subst hs; clear f33
           exact ⟨a8, (), rfl, ⟨rfl, rfl, rfl, rfl, rfl, rfl, trivial⟩, H.sel [0] rfl⟩
       ·
        clear f19 H
        rintro T6 s5 w10 ⟨hr, (H : Cx w0 fp0 S0 w10 [E (List (List Int)) s1_0 g1])⟩
        subst hr
        refine sq ?_
        refine lenE (H.ro (α := List (List Int)) 0 rfl).len ?_
        obtain ⟨a9, e, f34⟩ := bindS f20; clear f20
        refine boolO e ?_; clear e
        cases a9
        ·
         have f35 := condF f34; clear f34
         obtain ⟨a10, e, f36⟩ := bindS f35; clear f35
         replace H := H.toEH (α := List Int)
         have HH := H; clear H; obtain ⟨p3, m3, h5, c12, c13, c14, c15, H⟩ := HH.peekL e; clear HH
         clear e
         refine idxE c12 c13 c14 ?_
         refine load1 c15 ?_; clear c15
         obtain ⟨a11, e, f37⟩ := bindS f36; clear f36
         have HH := H; clear H; obtain ⟨p4, m4, h6, c16, c17, c18, c19, H⟩ := HH.peekL e; clear HH
         clear e
         refine idxE c16 c17 c18 ?_
         refine load1 c19 ?_; clear c19
         refine idxE c12 c13 c14 ?_
         refine stZ1 (ki := 1) (kj := 0) H rfl rfl c12 ?_; clear H; intro w11 H
         refine idxE c16 c17 c18 ?_
         obtain ⟨a12, e, f38⟩ := bindS f37; clear f37
         refine stZ2 H c13 c17 c16 e ?_; clear H e; intro w12 H
         obtain ⟨a13, e, f39⟩ := bindS f38; clear f38
         replace H := H.toEH (α := List Int)
         have HH := H; clear H; obtain ⟨p5, m5, h7, c20, c21, c22, c23, H⟩ := HH.peekL e; clear HH
         clear e
         refine idxE c20 c21 c22 ?_
         refine load1 c23 ?_; clear c23
         obtain ⟨a14, e, f40⟩ := bindS f39; clear f39
         obtain ⟨p6, m6, c24, c25, c26, c27⟩ := (H.rh (α := List Int) 0 rfl 0 rfl).at1 e; clear e
         refine idxE c24 c25 c26 ?_; clear c24 c25 c26
         refine load1 c27 ?_; clear c27
         obtain ⟨y1, e, f41⟩ := bindS f40; clear f40
         have ey26736 := e; clear e
         refine callF (spec_fdInv_c p_ a14 y1 ey26736) (Γi := []) H trivial ?_; clear H ey26736
         rintro _ _ w13 ⟨rfl, rfl⟩ H
         refine sq ?_
         obtain ⟨a15, e, f42⟩ := bindS f41; clear f41
         have HH := H; clear H; obtain ⟨p7, m7, h8, c28, c29, c30, c31, H⟩ := HH.peekL e; clear HH
         clear e
         refine idxE c28 c29 c30 ?_
         refine load1 c31 ?_; clear c31
         have x1 := (H.rh (α := List Int) 0 rfl 0 rfl).max
         refine lenE (H.rh (α := List Int) 0 rfl 0 rfl).len ?_
         replace H := H.ofEH
         obtain ⟨r6, e, f43⟩ := bindS f42; clear f42
         refine loopS _ a15.length (fun (k0 : Nat) (s6 : List (List Int)) (_ : Unit) => [(0, (.int .i64 p_)), (1, (.int .i64 size_)), (7, (g1).v), (10, (.int .i64 s1_1)), (11, (.int .i64 s1_2)), (14, (.int .i64 y1)), (91, (.int .i64 ((a15.length : Nat) : Int))), (92, (.int .i64 ((k0 : Nat) : Int)))]) (fun _ (s6 : List (List Int)) (_ : Unit) w' => Cx w0 fp0 S0 w' [E (List (List Int)) s6 g1]) a12 () e ⟨rfl, rfl, rfl, rfl, rfl, rfl, rfl, rfl, trivial⟩ (H.sel [0] rfl) ?_ ?_
         ·
          clear H e
          rintro T7 k0 s6 _ w14 o3 hk (H : Cx w0 fp0 S0 w14 [E (List (List Int)) s6 g1]) f44
          refine boolE (z := true) (ltLen hk) ?_
          refine sq ?_
          refine sq ?_
          refine heldX H [16] (.fst 0 (.fst 1 (.fst 2 (.fst 4 (.fst 5 (.fst 6 (.fst 7 (.fst 8 (.fst 10 (.fst 13 (.fst 3 (.fst 9 (.fst 11 (.fst 12 (.act 14 (.fst 15 (.act 16 .done))))))))))))))))) mixed [] trivial (by kernel_rfl) ?_
          clear H; intro w15 H
          have hX : Ext w15 w15 := Upd.refl _ _
          have H0 := H
          obtain ⟨a16, e, f45⟩ := bindS f44; clear f44
          replace H := H.toEH (α := List Int)
          have HH := H; clear H; obtain ⟨p8, m8, h9, c32, c33, c34, c35, H⟩ := HH.peekL e; clear HH
          clear e
          refine idxE c32 c33 c34 ?_
          obtain ⟨a17, e, f46⟩ := bindS f45; clear f45
          have HH := H; clear H; obtain ⟨p9, m9, h10, c36, c37, c38, c39, H⟩ := HH.peekL e; clear HH
          clear e
          refine idxE c36 c37 c38 ?_
          refine load1X c35 ?_; clear c35
          refine load1X c39 ?_; clear c39
          obtain ⟨a18, e, f47⟩ := bindS f46; clear f46
          obtain ⟨p10, m10, c40, c41, c42, c43⟩ := (H.rh (α := List Int) 0 rfl 0 rfl).at1 e; clear e
          refine idxE c40 c41 c42 ?_; clear c40 c41 c42
          refine load1X c43 ?_; clear c43
          obtain ⟨y2, e, f48⟩ := bindS f47; clear f47
          have ey26874 := e; clear e
          refine callFx (spec_fdMul_c p_ a18 y1 y2 ey26874) H trivial ?_; clear H ey26874
          rintro _ _ w16 ⟨rfl, rfl⟩ hx H
          replace hX := hX.trans0 hx; clear hx
          refine hold hX ?_
          replace H := H.takeK 1 rfl
          obtain ⟨a19, e, f49⟩ := bindS f48; clear f48
          have ea26884 := e; clear e
          obtain ⟨p11, m11, c44, c45, c46⟩ := (H.ro (α := List Int) 0 rfl).setp ea26884
          refine idxE c44 c45 c46 ?_
          refine setS (α := Int) H c44 c45 ea26884 ?_; clear H c44 c45 c46 ea26884; intro w17 H
          obtain ⟨a20, e, f50⟩ := bindS f49; clear f49
          replace H := H.put c33 e; clear e
          refine hold trivial ?_
          refine arK hk x1 ?_
          have hs := Option.some.inj f50; subst hs; clear f50
          exact ⟨(), ⟨rfl, rfl, rfl, rfl, rfl, rfl, rfl, rfl, trivial⟩, H.sel [0] rfl⟩
         ·
          clear H e
          rintro T8 _ w18 (H : Cx w0 fp0 S0 w18 [E (List (List Int)) r6 g1])
          refine boolE (z := false) geLen ?_
          refine sq ?_
          refine sq ?_
          refine lenE (H.ro (α := List (List Int)) 0 rfl).len ?_
          have x2 := (H.ro (α := List (List Int)) 0 rfl).max
          obtain ⟨r7, e, f51⟩ := bindS f43; clear f43
          refine loopS _ r6.length (fun (k1 : Nat) (s7 : List (List Int)) (_ : Unit) => [(0, (.int .i64 p_)), (1, (.int .i64 size_)), (7, (g1).v), (10, (.int .i64 s1_1)), (11, (.int .i64 s1_2)), (113, (.int .i64 ((r6.length : Nat) : Int))), (114, (.int .i64 ((k1 : Nat) : Int)))]) (fun _ (s7 : List (List Int)) (_ : Unit) w' => Cx w0 fp0 S0 w' [E (List (List Int)) s7 g1]) r6 () e ⟨rfl, rfl, rfl, rfl, rfl, rfl, rfl, trivial⟩ (H.sel [0] rfl) ?_ ?_
          ·
           clear H e
           rintro T9 k1 s7 _ w19 o4 hk (H : Cx w0 fp0 S0 w19 [E (List (List Int)) s7 g1]) f52
           refine boolE (z := true) (ltLen hk) ?_
           refine sq ?_
           obtain ⟨r8, f53, f54⟩ := bindS f52; clear f52
           refine cut (fun (q5 : List (List Int)) => [(0, (.int .i64 p_)), (1, (.int .i64 size_)), (7, (g1).v), (10, (.int .i64 s1_1)), (11, (.int .i64 s1_2)), (113, (.int .i64 ((r6.length : Nat) : Int))), (114, (.int .i64 ((k1 : Nat) : Int)))]) (fun (q5 : List (List Int)) w' => q5 = r8 ∧ Cx w0 fp0 S0 w' [E (List (List Int)) q5 g1]) ?_ ?_
           ·
            refine sq ?_
            obtain ⟨r9, f55, f56⟩ := bindS f53; clear f53
            refine cut (fun (q6 : Bool) => [(0, (.int .i64 p_)), (1, (.int .i64 size_)), (7, (g1).v), (10, (.int .i64 s1_1)), (11, (.int .i64 s1_2)), (16, (.int .i64 ((k1 : Nat) : Int))), (113, (.int .i64 ((r6.length : Nat) : Int))), (114, (.int .i64 ((k1 : Nat) : Int))), (129, (.bool q6))]) (fun (q6 : Bool) w' => q6 = r9 ∧ Cx w0 fp0 S0 w' [E (List (List Int)) s7 g1]) ?_ ?_
            ·
             obtain ⟨a21, e, f57⟩ := bindS f55; clear f55
             refine boolO e ?_; clear e
             cases a21
             ·
              have f58 := condF f57; clear f57
              obtain ⟨a22, e, f59⟩ := bindS f58; clear f58
              replace H := H.toEH (α := List Int)
              have HH := H; clear H; obtain ⟨p12, m12, h11, c47, c48, c49, c50, H⟩ := HH.peekL e; clear HH
              clear e
              refine idxE c47 c48 c49 ?_
              refine load1 c50 ?_; clear c50
              obtain ⟨a23, e, f60⟩ := bindS f59; clear f59
              obtain ⟨p13, m13, c51, c52, c53, c54⟩ := (H.rh (α := List Int) 0 rfl 0 rfl).at1 e; clear e
              refine idxE c51 c52 c53 ?_; clear c51 c52 c53
              refine load1 c54 ?_; clear c54
              obtain ⟨a24, e, f61⟩ := bindS f60; clear f60
              refine boolO e ?_; clear e
              replace H := H.ofEH
              exact ⟨a24, ⟨rfl, rfl, rfl, rfl, rfl, rfl, rfl, rfl, rfl, trivial⟩, Option.some.inj f61, H.sel [0] rfl⟩
             ·
              have f62 := condT f57; clear f57
              exact ⟨true, ⟨rfl, rfl, rfl, rfl, rfl, rfl, rfl, rfl, rfl, trivial⟩, Option.some.inj f62, H.sel [0] rfl⟩
            ·
             clear f55 H
             rintro T10 s8 w20 ⟨hr, (H : Cx w0 fp0 S0 w20 [E (List (List Int)) s7 g1])⟩
             subst hr
             cases s8
             ·
              have f63 := condF f56; clear f56
              obtain ⟨a25, e, f64⟩ := bindS f63; clear f63
              replace H := H.toEH (α := List Int)
              have HH := H; clear H; obtain ⟨p14, m14, h12, c55, c56, c57, c58, H⟩ := HH.peekL e; clear HH
              clear e
              refine idxE c55 c56 c57 ?_
              refine load1 c58 ?_; clear c58
              obtain ⟨a26, e, f65⟩ := bindS f64; clear f64
              obtain ⟨p15, m15, c59, c60, c61, c62⟩ := (H.rh (α := List Int) 0 rfl 0 rfl).at1 e; clear e
              refine idxE c59 c60 c61 ?_; clear c59 c60 c61
              refine load1 c62 ?_; clear c62
              replace H := H.ofEH
              obtain ⟨a27, e, f66⟩ := bindS f65; clear f65
              replace H := H.toEH (α := List Int)
              have HH := H; clear H; obtain ⟨p16, m16, h13, c63, c64, c65, c70, H⟩ := HH.peekL e; clear HH
              clear e
              refine idxE c63 c64 c65 ?_
              refine load1 c70 ?_; clear c70
              have x3 := (H.rh (α := List Int) 0 rfl 0 rfl).max
              refine lenE (H.rh (α := List Int) 0 rfl 0 rfl).len ?_
              replace H := H.ofEH
              obtain ⟨r10, e, f67⟩ := bindS f66; clear f66
              refine loopS _ a27.length (fun (k3 : Nat) (s9 : List (List Int)) (_ : Unit) => [(0, (.int .i64 p_)), (1, (.int .i64 size_)), (7, (g1).v), (10, (.int .i64 s1_1)), (11, (.int .i64 s1_2)), (16, (.int .i64 ((k1 : Nat) : Int))), (17, (.int .i64 a26)), (113, (.int .i64 ((r6.length : Nat) : Int))), (114, (.int .i64 ((k1 : Nat) : Int))), (141, (.int .i64 ((a27.length : Nat) : Int))), (142, (.int .i64 ((k3 : Nat) : Int)))]) (fun _ (s9 : List (List Int)) (_ : Unit) w' => Cx w0 fp0 S0 w' [E (List (List Int)) s9 g1]) s7 () e ⟨rfl, rfl, rfl, rfl, rfl, rfl, rfl, rfl, rfl, rfl, rfl, trivial⟩ (H.sel [0] rfl) ?_ ?_
              ·
               clear H e
               rintro T11 k3 s9 _ w21 o5 hk (H : Cx w0 fp0 S0 w21 [E (List (List Int)) s9 g1]) f68
               refine boolE (z := true) (ltLen hk) ?_
               refine sq ?_
               refine sq ?_
               refine heldX H [25] (.fst 0 (.fst 1 (.fst 2 (.fst 4 (.fst 5 (.fst 6 (.fst 7 (.fst 8 (.fst 10 (.fst 13 (.fst 14 (.fst 15 (.fst 16 (.fst 17 (.fst 19 (.fst 3 (.fst 9 (.fst 11 (.fst 12 (.fst 18 (.fst 20 (.fst 21 (.act 22 (.act 23 (.fst 24 (.act 25 .done)))))))))))))))))))))))))) mixed [] trivial (by kernel_rfl) ?_
               clear H; intro w22 H
               have hX : Ext w22 w22 := Upd.refl _ _
               have H0 := H
               obtain ⟨a28, e, f69⟩ := bindS f68; clear f68
               replace H := H.toEH (α := List Int)
               have HH := H; clear H; obtain ⟨p17, m17, h14, c71, c72, c73, c74, H⟩ := HH.peekL e; clear HH
               clear e
               refine idxE c71 c72 c73 ?_
               obtain ⟨a29, e, f70⟩ := bindS f69; clear f69
               have HH := H; clear H; obtain ⟨p18, m18, h15, c75, c76, c77, c78, H⟩ := HH.peekL e; clear HH
               clear e
               refine idxE c75 c76 c77 ?_
               obtain ⟨a30, e, f71⟩ := bindS f70; clear f70
               have HH := H; clear H; obtain ⟨p19, m19, h16, c79, c80, c81, c82, H⟩ := HH.peekL e; clear HH
               clear e
               refine idxE c79 c80 c81 ?_
               refine load1X c74 ?_; clear c74
               refine load1X c78 ?_; clear c78
               obtain ⟨a31, e, f72⟩ := bindS f71; clear f71
               obtain ⟨p20, m20, c83, c84, c85, c86⟩ := (H.rh (α := List Int) 0 rfl 1 rfl).at1 e; clear e
               refine idxE c83 c84 c85 ?_; clear c83 c84 c85
               refine load1X c86 ?_; clear c86
               refine load1X c82 ?_; clear c82
               obtain ⟨a32, e, f73⟩ := bindS f72; clear f72
               obtain ⟨p21, m21, c87, c88, c89, c90⟩ := (H.rh (α := List Int) 0 rfl 0 rfl).at1 e; clear e
               refine idxE c87 c88 c89 ?_; clear c87 c88 c89
               refine load1X c90 ?_; clear c90
               obtain ⟨y3, e, f74⟩ := bindS f73; clear f73
               have ey28628 := e; clear e
               refine callFx (spec_fdMul_c p_ a26 a32 y3 ey28628) H trivial ?_; clear H ey28628
               rintro _ _ w23 ⟨rfl, rfl⟩ hx H
               replace hX := hX.trans0 hx; clear hx
               refine hold hX ?_
               obtain ⟨y4, e, f75⟩ := bindS f74; clear f74
               have ey28631 := e; clear e
               refine callFx (spec_fdSub_c p_ a31 y3 y4 ey28631) H trivial ?_; clear H ey28631
               rintro _ _ w24 ⟨rfl, rfl⟩ hx H
               replace hX := hX.trans0 hx; clear hx
               refine hold hX ?_
               replace H := H.takeK 2 rfl
               obtain ⟨a33, e, f76⟩ := bindS f75; clear f75
               have ea28641 := e; clear e
               obtain ⟨p22, m22, c91, c92, c93⟩ := (H.ro (α := List Int) 0 rfl).setp ea28641
               refine idxE c91 c92 c93 ?_
               refine setS (α := Int) H c91 c92 ea28641 ?_; clear H c91 c92 c93 ea28641; intro w25 H
               obtain ⟨a34, e, f77⟩ := bindS f76; clear f76
               replace H := H.put c72 e; clear e
               refine hold trivial ?_
               refine arK hk x3 ?_
               have hs := Option.some.inj f77; subst hs; clear f77
               exact ⟨(), ⟨rfl, rfl, rfl, rfl, rfl, rfl, rfl, rfl, rfl, rfl, rfl, trivial⟩, H.sel [0] rfl⟩
              ·
               clear H e
               rintro T12 _ w26 (H : Cx w0 fp0 S0 w26 [E (List (List Int)) r10 g1])
               refine boolE (z := false) geLen ?_
               refine sq ?_
               exact ⟨r10, ⟨rfl, rfl, rfl, rfl, rfl, rfl, rfl, trivial⟩, Option.some.inj f67, H.sel [0] rfl⟩
             ·
              have f78 := condT f56; clear f56
              exact ⟨s7, ⟨rfl, rfl, rfl, rfl, rfl, rfl, rfl, trivial⟩, Option.some.inj f78, H.sel [0] rfl⟩
           ·
            clear f53 H
            rintro T13 s10 w27 ⟨hr, (H : Cx w0 fp0 S0 w27 [E (List (List Int)) s10 g1])⟩
            subst hr
            refine arK hk x2 ?_
            have hs := Option.some.inj f54; subst hs; clear f54
            exact ⟨(), ⟨rfl, rfl, rfl, rfl, rfl, rfl, rfl, trivial⟩, H.sel [0] rfl⟩
          ·
           clear H e
           rintro T14 _ w28 (H : Cx w0 fp0 S0 w28 [E (List (List Int)) r7 g1])
           refine boolE (z := false) geLen ?_
           refine sq ?_
           obtain ⟨a35, e, f79⟩ := bindS f51; clear f51
           refine arO e ?_; clear e
           exact ⟨(r7, a35), ⟨rfl, rfl, rfl, rfl, rfl, trivial⟩, Option.some.inj f79, H.sel [0] rfl⟩
        ·
         have f80 := condT f34; clear f34
         exact ⟨(s1_0, s1_1), ⟨rfl, rfl, rfl, rfl, rfl, trivial⟩, Option.some.inj f80, H.sel [0] rfl⟩
      ·
       clear f17 H
       rintro T15 ⟨s11_0, s11_1⟩ w29 ⟨hr, (H : Cx w0 fp0 S0 w29 [E (List (List Int)) s11_0 g1])⟩
       subst hr
       obtain ⟨a36, e, f81⟩ := bindS f18; clear f18
       refine arO e ?_; clear e
       have hs := Option.some.inj f81; subst hs; clear f81
       exact ⟨(s11_0, s11_1, a36), (), rfl, ⟨rfl, rfl, rfl, rfl, rfl, trivial⟩, H.sel [0] rfl⟩
  ·
   clear f5 H
   rintro T16 ⟨s12_0, s12_1⟩ w30 ⟨hr, (H : Cx w0 fp0 S0 w30 [E (List (List Int)) s12_0 g1])⟩
   subst hr
   obtain ⟨a37, e, f82⟩ := bindS f6; clear f6
   refine slO (α := List Int) gok rfl rfl H e rfl rfl ?_; clear e H; intro h17 H
   cases f82
   exact ⟨_, _, rfl, ⟨h17, rfl, rfl⟩, (H.sel [0] rfl).close ⟨cloE, trivial⟩⟩

theorem spec_spSum_c (p_ : Int) (size_ : Int) (rows_ : List (List Int)) (rows_h : Hd) (coefs_ : List Int) (coefs_h : Hd) (y : List Int) (hF : F_spec_spSum p_ size_ rows_ coefs_ = some y) :
  ConF Tryd.prog 62 #[(.int .i64 p_), (.int .i64 size_), (rows_h).v, (coefs_h).v] [Es (List (List Int)) rows_ rows_h, Es (List Int) coefs_ coefs_h] [] (fun v Γ' => ∃ z0 : Hd, v = (z0).v ∧ Γ' = [E (List Int) y z0]) := by
 intro w0 S0 fp0 hI hS
 have H : Cx w0 fp0 S0 w0 [Es (List (List Int)) rows_ rows_h, Es (List Int) coefs_ coefs_h] := Cx.start hI hS
 clear hI hS
 refine enterC (args := [_, _, _, _]) gok Tryd.func62 rfl _ rfl rfl rfl ?_
 obtain ⟨a3, e, hF4⟩ := bindS hF; clear hF
 refine make_ (α := Int) gok rfl rfl rfl rfl (makeCO_of e) H ?_; clear e H; intro h6 w5 hx H
 clear hx
 refine sq ?_
 refine lenE (H.rs (α := List (List Int)) 1 rfl).len ?_
 have x0 := (H.rs (α := List (List Int)) 1 rfl).max
 obtain ⟨r0, e, f0⟩ := bindS hF4; clear hF4
 refine loopS _ rows_.length (fun (k8 : Nat) (s0 : List Int) (_ : Unit) => [(0, (.int .i64 p_)), (3, (coefs_h).v), (9, (h6).v), (16, (rows_h).v), (17, (.int .i64 ((rows_.length : Nat) : Int))), (18, (.int .i64 ((k8 : Nat) : Int)))]) (fun _ (s0 : List Int) (_ : Unit) w' => Cx w0 fp0 S0 w' [Es (List Int) coefs_ coefs_h, E (List Int) s0 h6, Es (List (List Int)) rows_ rows_h]) a3 () e ⟨rfl, rfl, rfl, rfl, rfl, rfl, trivial⟩ (H.sel [2, 0, 1] rfl) ?_ ?_
 ·
  clear H e
  rintro T0 k8 s0 _ w1 o0 hk (H : Cx w0 fp0 S0 w1 [Es (List Int) coefs_ coefs_h, E (List Int) s0 h6, Es (List (List Int)) rows_ rows_h]) f1
  refine boolE (z := true) (ltLen hk) ?_
  refine sq ?_
  refine sq ?_
  obtain ⟨a0, e, f2⟩ := bindS f1; clear f1
  have HH := H; clear H; obtain ⟨p0, m0, h0, c0, c1, c2, c3, H⟩ := HH.elL 2 rfl e; clear HH
  clear e
  refine idxE c0 c1 c2 ?_; clear c0 c1 c2
  refine load1 c3 ?_; clear c3
  refine lenE (H.rs (α := List Int) 0 rfl).len ?_
  have x1 := (H.rs (α := List Int) 0 rfl).max
  obtain ⟨r1, e, f3⟩ := bindS f2; clear f2
  refine loopS _ a0.length (fun (k0 : Nat) (s1 : List Int) (_ : Unit) => [(0, (.int .i64 p_)), (3, (coefs_h).v), (9, (h6).v), (10, (.int .i64 ((k8 : Nat) : Int))), (16, (rows_h).v), (17, (.int .i64 ((rows_.length : Nat) : Int))), (18, (.int .i64 ((k8 : Nat) : Int))), (23, (h0).v), (24, (.int .i64 ((a0.length : Nat) : Int))), (25, (.int .i64 ((k0 : Nat) : Int)))]) (fun _ (s1 : List Int) (_ : Unit) w' => Cx w0 fp0 S0 w' [Es (List Int) coefs_ coefs_h, E (List Int) s1 h6, Es (List (List Int)) rows_ rows_h, Es (List Int) a0 h0]) s0 () e ⟨rfl, rfl, rfl, rfl, rfl, rfl, rfl, rfl, rfl, rfl, trivial⟩ (H.sel [1, 2, 3, 0] rfl) ?_ ?_
  ·
   clear H e
   rintro T1 k0 s1 _ w2 o1 hk (H : Cx w0 fp0 S0 w2 [Es (List Int) coefs_ coefs_h, E (List Int) s1 h6, Es (List (List Int)) rows_ rows_h, Es (List Int) a0 h0]) f4
   refine boolE (z := true) (ltLen hk) ?_
   refine sq ?_
   refine sq ?_
   obtain ⟨a1, e, f5⟩ := bindS f4; clear f4
   obtain ⟨p1, m1, c4, c5, c6, c7⟩ := (H.rs (α := List Int) 3 rfl).at1 e; clear e
   refine idxE c4 c5 c6 ?_; clear c4 c5 c6
   refine load1 c7 ?_; clear c7
   refine heldX H [16] (.fst 0 (.fst 1 (.fst 2 (.fst 3 (.fst 4 (.fst 6 (.fst 7 (.fst 8 (.fst 10 (.fst 13 (.fst 5 (.fst 9 (.fst 11 (.fst 12 (.fst 14 (.fst 15 (.act 16 .done))))))))))))))))) mixed [] trivial (by kernel_rfl) ?_
   clear H; intro w3 H
   have hX : Ext w3 w3 := Upd.refl _ _
   have H0 := H
   obtain ⟨a2, e, f6⟩ := bindS f5; clear f5
   obtain ⟨p2, m2, c8, c9, c10, c11⟩ := (H.ro (α := List Int) 1 rfl).at1 e; clear e
   refine idxE c8 c9 c10 ?_; clear c8 c9 c10
   obtain ⟨a4, e, f7⟩ := bindS f6; clear f6
   obtain ⟨p3, m3, c12, c13, c14, c15⟩ := (H.rs (α := List Int) 0 rfl).at1 e; clear e
   refine idxE c12 c13 c14 ?_; clear c12 c13 c14
   refine load1X c11 ?_; clear c11
   refine load1X c15 ?_; clear c15
   obtain ⟨a5, e, f8⟩ := bindS f7; clear f7
   refine arO e ?_; clear e
   obtain ⟨a6, e, f9⟩ := bindS f8; clear f8
   refine arO e ?_; clear e
   obtain ⟨a7, e, f10⟩ := bindS f9; clear f9
   refine remO_ e ?_; clear e
   obtain ⟨a8, e, f11⟩ := bindS f10; clear f10
   have ea459 := e; clear e
   obtain ⟨p4, m4, c16, c17, c18⟩ := (H.ro (α := List Int) 1 rfl).setp ea459
   refine idxE c16 c17 c18 ?_
   replace H := H.sel [1, 0, 2, 3] rfl
   refine setS (α := Int) H c16 c17 ea459 ?_; clear H c16 c17 c18 ea459; intro w4 H
   refine hold trivial ?_
   refine arK hk x1 ?_
   have hs := Option.some.inj f11; subst hs; clear f11
   exact ⟨(), ⟨rfl, rfl, rfl, rfl, rfl, rfl, rfl, rfl, rfl, rfl, trivial⟩, H.sel [1, 0, 2, 3] rfl⟩
  ·
   clear H e
   rintro T2 _ w6 (H : Cx w0 fp0 S0 w6 [Es (List Int) coefs_ coefs_h, E (List Int) r1 h6, Es (List (List Int)) rows_ rows_h, Es (List Int) a0 h0])
   refine boolE (z := false) geLen ?_
   refine sq ?_
   refine arK hk x0 ?_
   have hs := Option.some.inj f3; subst hs; clear f3
   exact ⟨(), ⟨rfl, rfl, rfl, rfl, rfl, rfl, trivial⟩, H.sel [0, 1, 2] rfl⟩
 ·
  clear H e
  rintro T3 _ w7 (H : Cx w0 fp0 S0 w7 [Es (List Int) coefs_ coefs_h, E (List Int) r0 h6, Es (List (List Int)) rows_ rows_h])
  refine boolE (z := false) geLen ?_
  refine sq ?_
  cases f0
  exact ⟨_, _, rfl, ⟨h6, rfl, rfl⟩, (H.sel [1] rfl).close ⟨cloE, trivial⟩⟩

theorem spec_ssTimes_c (p_ : Int) (cols_ : Int) (rows_ : List (List Int)) (rows_h : Hd) (m_ : List (List Int)) (m_h : Hd) (y : List (List Int)) (hF : F_spec_ssTimes p_ cols_ rows_ m_ = some y) :
  ConF Tryd.prog 33 #[(.int .i64 p_), (.int .i64 cols_), (rows_h).v, (m_h).v] [Es (List (List Int)) rows_ rows_h, Es (List (List Int)) m_ m_h] [] (fun v Γ' => ∃ z0 : Hd, v = (z0).v ∧ Γ' = [E (List (List Int)) y z0]) := by
 intro w0 S0 fp0 hI hS
 have H : Cx w0 fp0 S0 w0 [Es (List (List Int)) rows_ rows_h, Es (List (List Int)) m_ m_h] := Cx.start hI hS
 clear hI hS
 refine enterC (args := [_, _, _, _]) gok Tryd.func33 rfl _ rfl rfl rfl ?_
 refine sq ?_
 refine lenE (H.rs (α := List (List Int)) 0 rfl).len ?_
 have x0 := (H.rs (α := List (List Int)) 0 rfl).max
 obtain ⟨r0, e, f0⟩ := bindS hF; clear hF
 replace H := H.nil (α := List Int)
 refine loopS _ rows_.length (fun (k3 : Nat) (s0 : List (List Int)) (g0 : Hd) => [(0, (.int .i64 p_)), (1, (.int .i64 cols_)), (3, (m_h).v), (9, (g0).v), (12, (rows_h).v), (13, (.int .i64 ((rows_.length : Nat) : Int))), (14, (.int .i64 ((k3 : Nat) : Int)))]) (fun _ (s0 : List (List Int)) (g0 : Hd) w' => Cx w0 fp0 S0 w' [Es (List (List Int)) m_ m_h, E (List (List Int)) s0 g0, Es (List (List Int)) rows_ rows_h]) [] nilH e ⟨rfl, rfl, rfl, rfl, rfl, rfl, rfl, trivial⟩ (H.sel [2, 0, 1] rfl) ?_ ?_
 ·
  clear H e
  rintro T0 k3 s0 g0 w1 o0 hk (H : Cx w0 fp0 S0 w1 [Es (List (List Int)) m_ m_h, E (List (List Int)) s0 g0, Es (List (List Int)) rows_ rows_h]) f1
  refine boolE (z := true) (ltLen hk) ?_
  refine sq ?_
  refine sq ?_
  obtain ⟨a0, e, f2⟩ := bindS f1; clear f1
  have HH := H; clear H; obtain ⟨p0, m0, h0, c0, c1, c2, c3, H⟩ := HH.elL 2 rfl e; clear HH
  clear e
  refine idxE c0 c1 c2 ?_; clear c0 c1 c2
  refine load1 c3 ?_; clear c3
  obtain ⟨y0, e, f3⟩ := bindS f2; clear f2
  have ey77 := e; clear e
  refine callF (spec_spSum_c p_ cols_ m_ m_h a0 h0 y0 ey77) (Γi := []) H ⟨Vw.sh 1 rfl, Vw.sh 0 rfl, trivial⟩ ?_; clear H ey77
  rintro _ _ w2 ⟨h1, rfl, rfl⟩ H
  refine lit1 (α := List Int) (g := h1) gok rfl rfl rfl rfl rfl H ?_; clear H; intro h2 w3 hx H
  clear hx
  obtain ⟨a1, e, f4⟩ := bindS f3; clear f3
  replace H := H.sel [3, 0, 1, 2, 4] rfl
  refine append_ (α := List Int) gok rfl rfl rfl rfl H e ?_; clear e H; intro h3 w4 H
  refine arK hk x0 ?_
  have hs := Option.some.inj f4; subst hs; clear f4
  exact ⟨h3, ⟨rfl, rfl, rfl, rfl, rfl, rfl, rfl, trivial⟩, H.sel [2, 0, 3] rfl⟩
 ·
  clear H e
  rintro T1 g1 w5 (H : Cx w0 fp0 S0 w5 [Es (List (List Int)) m_ m_h, E (List (List Int)) r0 g1, Es (List (List Int)) rows_ rows_h])
  refine boolE (z := false) geLen ?_
  refine sq ?_
  cases f0
  exact ⟨_, _, rfl, ⟨g1, rfl, rfl⟩, (H.sel [1] rfl).close ⟨cloE, trivial⟩⟩

theorem spec_spJoin_c (a_ : List (List Int)) (a_h : Hd) (b_ : List (List Int)) (b_h : Hd) (y : List (List Int)) (hF : F_spec_spJoin a_ b_ = some y) :
  ConS Tryd.prog 93 #[(a_h).v, (b_h).v] [Es (List (List Int)) a_ a_h, Es (List (List Int)) b_ b_h] [] (fun v Γ' => ∃ z0 : Hd, v = (z0).v ∧ Γ' = [Es (List (List Int)) y z0]) := by
 intro w0 S0 fp0 hI hS
 have H : Cx w0 fp0 S0 w0 [Es (List (List Int)) a_ a_h, Es (List (List Int)) b_ b_h] := Cx.start hI hS
 clear hI hS
 refine enterC (args := [_, _]) gok Tryd.func93 rfl _ rfl rfl rfl ?_
 refine lit0 (α := List Int) gok rfl rfl H ?_; clear H; intro h4 w3 hx H
 clear hx
 obtain ⟨a6, e, hF7⟩ := bindS hF; clear hF
 replace H := H.frzE (α := List Int)
 refine appendSh (α := List Int) gok rfl rfl rfl rfl rfl H 0 rfl e ?_; clear e H; intro h9 w8 H
 obtain ⟨a0, e, f0⟩ := bindS hF7; clear hF7
 refine appendSh (α := List Int) gok rfl rfl rfl rfl rfl H 1 rfl e ?_; clear e H; intro h0 w1 H
 replace H := Cx.reS (e' := Es (List (List Int)) a0 h0) rfl H.frz
 cases f0
 exact ⟨_, _, rfl, ⟨h0, rfl, rfl⟩, (H.sel [0] rfl)⟩

theorem spec_ssReach_c (p_ : Int) (s__0 : Int) (s__1 : Int) (s__2 : Int) (s__3 : List (List Int)) (s__3h : Hd) (s__4 : List (List Int)) (s__4h : Hd) (s__5 : List (List Int)) (s__5h : Hd) (s__6 : List (List Int)) (s__6h : Hd) (y : List (List Int)) (hF : F_spec_ssReach p_ (s__0, s__1, s__2, s__3, s__4, s__5, s__6) = some y) :
  ConF Tryd.prog 54 #[(.int .i64 p_), (.agg #[(.int .i64 s__0), (.int .i64 s__1), (.int .i64 s__2), (s__3h).v, (s__4h).v, (s__5h).v, (s__6h).v])] [Es (List (List Int)) s__3 s__3h, Es (List (List Int)) s__4 s__4h, Es (List (List Int)) s__5 s__5h, Es (List (List Int)) s__6 s__6h] [] (fun v Γ' => ∃ z0 : Hd, v = (z0).v ∧ Γ' = [E (List (List Int)) y z0]) := by
 intro w0 S0 fp0 hI hS
 have H : Cx w0 fp0 S0 w0 [Es (List (List Int)) s__3 s__3h, Es (List (List Int)) s__4 s__4h, Es (List (List Int)) s__5 s__5h, Es (List (List Int)) s__6 s__6h] := Cx.start hI hS
 clear hI hS
 refine enterC (args := [_, _]) gok Tryd.func54 rfl _ rfl rfl rfl ?_
 refine box_ H ?_; clear H; intro b6 w5 hx H
 clear hx
 refine fld gok rfl rfl rfl rfl ?_
 refine load1 (H.bx 0 rfl (j := 0) rfl) ?_
 refine fld gok rfl rfl rfl rfl ?_
 refine load1 (H.bx 0 rfl (j := 4) rfl) ?_
 obtain ⟨y8, e, hF9⟩ := bindS hF; clear hF
 have ey8 := e; clear e
 refine callF (spec_spReduce_c p_ s__0 s__4 s__4h y8 ey8) (Γi := []) H ⟨Vw.sh 2 rfl, trivial⟩ ?_; clear H ey8
 rintro _ _ w1 ⟨h0, rfl, rfl⟩ H
 refine loopW _ (fun (s0 : List (List Int)) (g0 : Hd) => [(0, (.int .i64 p_)), (3, (.pointer (some ⟨b6, 0, none⟩))), (5, (g0).v)]) (fun (s0 : List (List Int)) (g0 : Hd) w' => Cx w0 fp0 S0 w' [Bx b6 [(.int .i64 s__0), (.int .i64 s__1), (.int .i64 s__2), (s__3h).v, (s__4h).v, (s__5h).v, (s__6h).v], Es (List (List Int)) s__3 s__3h, Es (List (List Int)) s__4 s__4h, Es (List (List Int)) s__5 s__5h, Es (List (List Int)) s__6 s__6h, E (List (List Int)) s0 g0]) y8 h0 hF9 ⟨rfl, rfl, rfl, trivial⟩ (H.sel [1, 2, 3, 4, 5, 0] rfl) ?_
 ·
  clear H
  rintro T0 s0 g0 w2 o0 (H : Cx w0 fp0 S0 w2 [Bx b6 [(.int .i64 s__0), (.int .i64 s__1), (.int .i64 s__2), (s__3h).v, (s__4h).v, (s__5h).v, (s__6h).v], Es (List (List Int)) s__3 s__3h, Es (List (List Int)) s__4 s__4h, Es (List (List Int)) s__5 s__5h, Es (List (List Int)) s__6 s__6h, E (List (List Int)) s0 g0]) hrt f0
  refine heldX H [] (.fst 0 (.fst 1 (.fst 3 (.fst 4 (.fst 5 (.fst 7 (.fst 8 (.fst 2 (.fst 6 (.fst 9 (.act 10 (.act 11 (.act 12 (.fst 13 .done)))))))))))))) mixed [] trivial (by kernel_rfl) ?_
  clear H; intro w3 H
  have hX : Ext w3 w3 := Upd.refl _ _
  have H0 := H
  refine anyH (fun _ => fld gok rfl rfl rfl rfl ⟨rfl, rfl⟩) ?_
  refine anyH (fun _ => fld gok rfl rfl rfl rfl ⟨rfl, rfl⟩) ?_
  refine anyH (fun _ => fld gok rfl rfl rfl rfl ⟨rfl, rfl⟩) ?_
  refine load1X (H.bx 0 rfl (j := 0) rfl) ?_
  refine load1X (H.bx 0 rfl (j := 0) rfl) ?_
  refine load1X (H.bx 0 rfl (j := 3) rfl) ?_
  obtain ⟨y0, e, f1⟩ := bindS f0; clear f0
  have ey87 := e; clear e
  refine callFx (spec_ssTimes_c p_ s__0 s0 g0 s__3 s__3h y0 ey87) H ⟨Vw.own 5 rfl, Vw.sh 1 rfl, trivial⟩ ?_; clear H ey87
  rintro _ _ w4 ⟨h1, rfl, rfl⟩ hx H
  replace hX := hX.trans0 hx; clear hx
  refine hold hX ?_
  obtain ⟨y1, e, f2⟩ := bindS f1; clear f1
  have ey92 := e; clear e
  obtain ⟨S1, hl101, hc102⟩ := H.lend (Γs := [Es (List (List Int)) y0 h1, Es (List (List Int)) s__3 s__3h, Es (List (List Int)) s__4 s__4h, Es (List (List Int)) s__5 s__5h, Es (List (List Int)) s__6 s__6h, Es (List (List Int)) s0 g0]) ⟨Vw.own 0 rfl, Vw.sh 2 rfl, Vw.sh 3 rfl, Vw.sh 4 rfl, Vw.sh 5 rfl, Vw.own 6 rfl, trivial⟩; clear H; have H := hl101; clear hl101
  refine callSx (spec_spJoin_c s0 g0 y0 h1 y1 ey92) H [5, 0] rfl (persC persS (persC persS persN)) ?_; clear H ey92
  rintro _ _ w6 ⟨h2, rfl, rfl⟩ hx H
  replace hX := hX.trans0 hx; clear hx
  refine hold hX ?_
  obtain ⟨y2, e, f3⟩ := bindS f2; clear f2
  have ey106 := e; clear e
  refine callFx (spec_spReduce_c p_ s__0 y1 h2 y2 ey106) H ⟨Vw.sh 0 rfl, trivial⟩ ?_; clear H ey106
  rintro _ _ w7 ⟨h3, rfl, rfl⟩ hx H
  replace hX := hX.trans0 hx; clear hx
  replace H : Cx w0 fp0 S0 w7 [E (List (List Int)) y2 h3, E (List (List Int)) y0 h1, Bx b6 [(.int .i64 s__0), (.int .i64 s__1), (.int .i64 s__2), (s__3h).v, (s__4h).v, (s__5h).v, (s__6h).v], Es (List (List Int)) s__3 s__3h, Es (List (List Int)) s__4 s__4h, Es (List (List Int)) s__5 s__5h, Es (List (List Int)) s__6 s__6h, E (List (List Int)) s0 g0] := hc102 _ _ ((H.sel [0] rfl).close ⟨cloE, trivial⟩); clear hc102
  refine hold hX ?_
  refine sq ?_
  refine lenE (H.ro (α := List (List Int)) 0 rfl).len ?_
  refine lenE (H.ro (α := List (List Int)) 7 rfl).len ?_
  obtain ⟨a0, e, f4⟩ := bindS f3; clear f3
  refine boolO e ?_; clear e
  cases a0
  ·
   have f5 := condF f4; clear f4
   have hs := Option.some.inj f5; subst hs; clear f5
   exact ⟨y2, h3, rfl, ⟨rfl, rfl, rfl, trivial⟩, H.sel [2, 3, 4, 5, 6, 0] rfl⟩
  ·
   have f6 := condT f4; clear f4
   have hs := Option.some.inj f6; subst hs; clear f6
   have f7 : some _ = some _ := congrArg some (hrt _ rfl).symm
   cases f7
   exact ⟨_, _, rfl, ⟨g0, rfl, rfl⟩, (H.sel [7] rfl).close ⟨cloE, trivial⟩⟩

theorem spec_ssTurn_c (m_ : List (List Int)) (m_h : Hd) (cols_ : Int) (y : List (List Int)) (hF : F_spec_ssTurn m_ cols_ = some y) :
  ConF Tryd.prog 94 #[(m_h).v, (.int .i64 cols_)] [Es (List (List Int)) m_ m_h] [] (fun v Γ' => ∃ z0 : Hd, v = (z0).v ∧ Γ' = [E (List (List Int)) y z0]) := by
 intro w0 S0 fp0 hI hS
 have H : Cx w0 fp0 S0 w0 [Es (List (List Int)) m_ m_h] := Cx.start hI hS
 clear hI hS
 refine enterC (args := [_, _]) gok Tryd.func94 rfl _ rfl rfl rfl ?_
 obtain ⟨a2, e, hF3⟩ := bindS hF; clear hF
 refine make_ (α := List Int) gok rfl rfl rfl rfl (makeCO_of e) H ?_; clear e H; intro h5 w4 hx H
 clear hx
 refine sq ?_
 refine lenE (H.ro (α := List (List Int)) 0 rfl).len ?_
 have x0 := (H.ro (α := List (List Int)) 0 rfl).max
 obtain ⟨r0, e, f0⟩ := bindS hF3; clear hF3
 refine loopS _ a2.length (fun (k7 : Nat) (s0 : List (List Int)) (_ : Unit) => [(0, (m_h).v), (5, (h5).v), (12, (.int .i64 ((a2.length : Nat) : Int))), (13, (.int .i64 ((k7 : Nat) : Int)))]) (fun _ (s0 : List (List Int)) (_ : Unit) w' => Cx w0 fp0 S0 w' [Es (List (List Int)) m_ m_h, E (List (List Int)) s0 h5]) a2 () e ⟨rfl, rfl, rfl, rfl, trivial⟩ (H.sel [1, 0] rfl) ?_ ?_
 ·
  clear H e
  rintro T0 k7 s0 _ w1 o0 hk (H : Cx w0 fp0 S0 w1 [Es (List (List Int)) m_ m_h, E (List (List Int)) s0 h5]) f1
  refine boolE (z := true) (ltLen hk) ?_
  refine sq ?_
  refine sq ?_
  refine lenE (H.rs (α := List (List Int)) 0 rfl).len ?_
  have x1 := (H.rs (α := List (List Int)) 0 rfl).max
  obtain ⟨r1, e, f2⟩ := bindS f1; clear f1
  refine loopS _ m_.length (fun (k0 : Nat) (s1 : List (List Int)) (_ : Unit) => [(0, (m_h).v), (5, (h5).v), (6, (.int .i64 ((k7 : Nat) : Int))), (12, (.int .i64 ((a2.length : Nat) : Int))), (13, (.int .i64 ((k7 : Nat) : Int))), (16, (m_h).v), (17, (.int .i64 ((m_.length : Nat) : Int))), (18, (.int .i64 ((k0 : Nat) : Int)))]) (fun _ (s1 : List (List Int)) (_ : Unit) w' => Cx w0 fp0 S0 w' [Es (List (List Int)) m_ m_h, E (List (List Int)) s1 h5]) s0 () e ⟨rfl, rfl, rfl, rfl, rfl, rfl, rfl, rfl, trivial⟩ (H.sel [0, 1] rfl) ?_ ?_
  ·
   clear H e
   rintro T1 k0 s1 _ w2 o1 hk (H : Cx w0 fp0 S0 w2 [Es (List (List Int)) m_ m_h, E (List (List Int)) s1 h5]) f3
   refine boolE (z := true) (ltLen hk) ?_
   refine sq ?_
   refine sq ?_
   obtain ⟨a0, e, f4⟩ := bindS f3; clear f3
   have HH := H; clear H; obtain ⟨p0, m0, h0, c0, c1, c2, c3, H⟩ := HH.elL 0 rfl e; clear HH
   clear e
   refine idxE c0 c1 c2 ?_; clear c0 c1 c2
   refine load1 c3 ?_; clear c3
   refine heldX H [11, 13, 12, 0, 1] (.pure 0 (.pure 1 (.fst 2 (.fst 3 (.fst 4 (.fst 6 (.fst 7 (.fst 8 (.fst 5 (.fst 9 (.act 10 (.act 11 (.act 12 (.act 13 .done)))))))))))))) mixed [] trivial (by kernel_rfl) ?_
   clear H; intro w3 H
   have hX : Ext w3 w3 := Upd.refl _ _
   have H0 := H
   obtain ⟨a1, e, f5⟩ := bindS f4; clear f4
   replace H := H.sel [2, 0, 1] rfl
   replace H := H.toEH (α := List Int)
   have HH := H; clear H; obtain ⟨p1, m1, h1, c4, c5, c6, c7, H⟩ := HH.peekL e; clear HH
   clear e
   refine idxE c4 c5 c6 ?_
   obtain ⟨a3, e, f6⟩ := bindS f5; clear f5
   obtain ⟨p2, m2, c8, c9, c10, c11⟩ := (H.rs (α := List Int) 1 rfl).at1 e; clear e
   refine idxE c8 c9 c10 ?_; clear c8 c9 c10
   refine load1X c7 ?_; clear c7
   refine load1X c11 ?_; clear c11
   refine lit1S (α := Int) gok rfl rfl rfl rfl H ?_; clear H; intro h2 w5 hx H
   replace hX := hX.trans0 hx; clear hx
   refine hold hX ?_
   replace H := H.sel [1, 0, 2, 3] rfl
   replace H := H.takeK 0 rfl
   obtain ⟨a4, e, f7⟩ := bindS f6; clear f6
   replace H := H.sel [0, 2, 1, 3, 4] rfl
   refine append_ (α := Int) gok rfl rfl rfl rfl H e ?_; clear e H; intro h3 w6 H
   refine hold trivial ?_
   refine idxE c4 c5 c6 ?_
   refine hold trivial ?_
   replace H := H.sel [1, 0, 2, 3] rfl
   refine stX0 H c4 rfl rfl ?_; clear H; intro w7 H
   obtain ⟨a5, e, f8⟩ := bindS f7; clear f7
   replace H := H.sel [1, 0, 2, 3] rfl
   replace H := H.put c5 e; clear e
   refine hold trivial ?_
   refine arK hk x1 ?_
   have hs := Option.some.inj f8; subst hs; clear f8
   exact ⟨(), ⟨rfl, rfl, rfl, rfl, rfl, rfl, rfl, rfl, trivial⟩, H.sel [2, 0] rfl⟩
  ·
   clear H e
   rintro T2 _ w8 (H : Cx w0 fp0 S0 w8 [Es (List (List Int)) m_ m_h, E (List (List Int)) r1 h5])
   refine boolE (z := false) geLen ?_
   refine sq ?_
   refine arK hk x0 ?_
   have hs := Option.some.inj f2; subst hs; clear f2
   exact ⟨(), ⟨rfl, rfl, rfl, rfl, trivial⟩, H.sel [0, 1] rfl⟩
 ·
  clear H e
  rintro T3 _ w9 (H : Cx w0 fp0 S0 w9 [Es (List (List Int)) m_ m_h, E (List (List Int)) r0 h5])
  refine boolE (z := false) geLen ?_
  refine sq ?_
  cases f0
  exact ⟨_, _, rfl, ⟨h5, rfl, rfl⟩, (H.sel [1] rfl).close ⟨cloE, trivial⟩⟩

theorem spec_spLead_c (v_ : List Int) (v_h : Hd) (y : Int) (hF : F_spec_spLead v_ = some y) :
  ConF Tryd.prog 64 #[(v_h).v] [Es (List Int) v_ v_h] [] (fun v Γ' => v = (.int .i64 y) ∧ Γ' = []) := by
 intro w0 S0 fp0 hI hS
 have H : Cx w0 fp0 S0 w0 [Es (List Int) v_ v_h] := Cx.start hI hS
 clear hI hS
 refine enterC (args := [_]) gok Tryd.func64 rfl _ rfl rfl rfl ?_
 obtain ⟨r0, f0, f1⟩ := bindS hF; clear hF
 refine cut (fun (q0 : Int) => [(3, (.int .i64 q0))]) (fun (q0 : Int) w' => q0 = r0 ∧ Cx w0 fp0 S0 w' []) ?_ ?_
 ·
  refine loopW _ (fun (s0 : Int) (_ : Unit) => [(0, (v_h).v), (3, (.int .i64 s0))]) (fun (s0 : Int) (_ : Unit) w' => Cx w0 fp0 S0 w' [Es (List Int) v_ v_h]) 0 () f0 ⟨rfl, rfl, trivial⟩ (H.sel [0] rfl) ?_
  ·
   clear H
   rintro T0 s0 _ w1 o0 (H : Cx w0 fp0 S0 w1 [Es (List Int) v_ v_h]) hrt f2
   refine sq ?_
   obtain ⟨r1, f3, f4⟩ := bindS f2; clear f2
   refine cut (fun (q1 : Bool) => [(0, (v_h).v), (3, (.int .i64 s0)), (14, (.bool q1))]) (fun (q1 : Bool) w' => q1 = r1 ∧ Cx w0 fp0 S0 w' [Es (List Int) v_ v_h]) ?_ ?_
   ·
    refine lenE (H.rs (α := List Int) 0 rfl).len ?_
    obtain ⟨a0, e, f5⟩ := bindS f3; clear f3
    refine boolO e ?_; clear e
    cases a0
    ·
     have f6 := condF f5; clear f5
     exact ⟨false, ⟨rfl, rfl, rfl, trivial⟩, Option.some.inj f6, H.sel [0] rfl⟩
    ·
     have f7 := condT f5; clear f5
     obtain ⟨a1, e, f8⟩ := bindS f7; clear f7
     obtain ⟨p0, m0, c0, c1, c2, c3⟩ := (H.rs (α := List Int) 0 rfl).at1 e; clear e
     refine idxE c0 c1 c2 ?_; clear c0 c1 c2
     refine load1 c3 ?_; clear c3
     obtain ⟨a2, e, f9⟩ := bindS f8; clear f8
     refine boolO e ?_; clear e
     exact ⟨a2, ⟨rfl, rfl, rfl, trivial⟩, Option.some.inj f9, H.sel [0] rfl⟩
   ·
    clear f3 H
    rintro T1 s1 w2 ⟨hr, (H : Cx w0 fp0 S0 w2 [Es (List Int) v_ v_h])⟩
    subst hr
    cases s1
    ·
     have f10 := condF f4; clear f4
     have hs := Option.some.inj f10; subst hs; clear f10
     have f11 : some _ = some _ := congrArg some (hrt _ rfl).symm
     exact ⟨s0, ⟨rfl, trivial⟩, Option.some.inj f11, H.sel [] rfl⟩
    ·
     have f12 := condT f4; clear f4
     obtain ⟨a3, e, f13⟩ := bindS f12; clear f12
     refine arO e ?_; clear e
     have hs := Option.some.inj f13; subst hs; clear f13
     exact ⟨a3, (), rfl, ⟨rfl, rfl, trivial⟩, H.sel [0] rfl⟩
 ·
  clear f0 H
  rintro T2 s2 w3 ⟨hr, (H : Cx w0 fp0 S0 w3 [])⟩
  subst hr
  cases f1
  exact ⟨_, _, rfl, ⟨rfl, rfl⟩, (H.sel [] rfl).close trivial⟩

theorem spec_fdNeg_c (p_ : Int) (a_ : Int) (y : Int) (hF : F_spec_fdNeg p_ a_ = some y) :
  ConF Tryd.prog 108 #[(.int .i64 p_), (.int .i64 a_)] [] [] (fun v Γ' => v = (.int .i64 y) ∧ Γ' = []) := by
 intro w0 S0 fp0 hI hS
 have H : Cx w0 fp0 S0 w0 [] := Cx.start hI hS
 clear hI hS
 refine enterC (args := [_, _]) gok Tryd.func108 rfl _ rfl rfl rfl ?_
 obtain ⟨a1, e, hF2⟩ := bindS hF; clear hF
 refine arO e ?_; clear e
 obtain ⟨a3, e, hF4⟩ := bindS hF2; clear hF2
 refine remO_ e ?_; clear e
 cases hF4
 exact ⟨_, _, rfl, ⟨rfl, rfl⟩, (H.sel [] rfl).close trivial⟩

theorem spec_spNull_c (p_ : Int) (size_ : Int) (rows_ : List (List Int)) (rows_h : Hd) (y : List (List Int)) (hF : F_spec_spNull p_ size_ rows_ = some y) :
  ConF Tryd.prog 95 #[(.int .i64 p_), (.int .i64 size_), (rows_h).v] [Es (List (List Int)) rows_ rows_h] [] (fun v Γ' => ∃ z0 : Hd, v = (z0).v ∧ Γ' = [E (List (List Int)) y z0]) := by
 intro w0 S0 fp0 hI hS
 have H : Cx w0 fp0 S0 w0 [Es (List (List Int)) rows_ rows_h] := Cx.start hI hS
 clear hI hS
 refine enterC (args := [_, _, _]) gok Tryd.func95 rfl _ rfl rfl rfl ?_
 obtain ⟨y2, e, hF3⟩ := bindS hF; clear hF
 have ey2 := e; clear e
 refine callF (spec_spReduce_c p_ size_ rows_ rows_h y2 ey2) (Γi := []) H ⟨Vw.sh 0 rfl, trivial⟩ ?_; clear H ey2
 rintro _ _ w4 ⟨h5, rfl, rfl⟩ H
 obtain ⟨a7, e, hF8⟩ := bindS hF3; clear hF3
 refine make_ (α := Int) gok rfl rfl rfl rfl (makeCO_of e) H ?_; clear e H; intro h0 w9 hx H
 clear hx
 refine sq ?_
 refine lenE (H.ro (α := List Int) 0 rfl).len ?_
 have x0 := (H.ro (α := List Int) 0 rfl).max
 obtain ⟨r0, e, f0⟩ := bindS hF8; clear hF8
 refine loopS _ a7.length (fun (k0 : Nat) (s0 : List Int) (_ : Unit) => [(0, (.int .i64 p_)), (1, (.int .i64 size_)), (7, (h5).v), (8, (h0).v), (24, (.int .i64 ((a7.length : Nat) : Int))), (25, (.int .i64 ((k0 : Nat) : Int)))]) (fun _ (s0 : List Int) (_ : Unit) w' => Cx w0 fp0 S0 w' [E (List (List Int)) y2 h5, E (List Int) s0 h0]) a7 () e ⟨rfl, rfl, rfl, rfl, rfl, rfl, trivial⟩ (H.sel [1, 0] rfl) ?_ ?_
 ·
  clear H e
  rintro T0 k0 s0 _ w1 o0 hk (H : Cx w0 fp0 S0 w1 [E (List (List Int)) y2 h5, E (List Int) s0 h0]) f1
  refine boolE (z := true) (ltLen hk) ?_
  refine sq ?_
  refine sq ?_
  obtain ⟨a0, e, f2⟩ := bindS f1; clear f1
  have ea50 := e; clear e
  obtain ⟨p0, m0, c0, c1, c2⟩ := (H.ro (α := List Int) 1 rfl).setp ea50
  refine idxE c0 c1 c2 ?_
  replace H := H.sel [1, 0] rfl
  refine setS (α := Int) H c0 c1 ea50 ?_; clear H c0 c1 c2 ea50; intro w2 H
  refine arK hk x0 ?_
  have hs := Option.some.inj f2; subst hs; clear f2
  exact ⟨(), ⟨rfl, rfl, rfl, rfl, rfl, rfl, trivial⟩, H.sel [1, 0] rfl⟩
 ·
  clear H e
  rintro T1 _ w3 (H : Cx w0 fp0 S0 w3 [E (List (List Int)) y2 h5, E (List Int) r0 h0])
  refine boolE (z := false) geLen ?_
  refine sq ?_
  refine sq ?_
  refine lenE (H.ro (α := List (List Int)) 0 rfl).len ?_
  replace H := H.frz
  have x1 := (H.rs (α := List (List Int)) 0 rfl).max
  obtain ⟨r1, e, f3⟩ := bindS f0; clear f0
  refine loopS _ y2.length (fun (k1 : Nat) (s1 : List Int) (_ : Unit) => [(0, (.int .i64 p_)), (1, (.int .i64 size_)), (7, (h5).v), (8, (h0).v), (32, (h5).v), (33, (.int .i64 ((y2.length : Nat) : Int))), (34, (.int .i64 ((k1 : Nat) : Int)))]) (fun _ (s1 : List Int) (_ : Unit) w' => Cx w0 fp0 S0 w' [Es (List (List Int)) y2 h5, E (List Int) s1 h0]) r0 () e ⟨rfl, rfl, rfl, rfl, rfl, rfl, rfl, trivial⟩ (H.sel [0, 1] rfl) ?_ ?_
  ·
   clear H e
   rintro T2 k1 s1 _ w5 o1 hk (H : Cx w0 fp0 S0 w5 [Es (List (List Int)) y2 h5, E (List Int) s1 h0]) f4
   refine boolE (z := true) (ltLen hk) ?_
   refine sq ?_
   refine sq ?_
   obtain ⟨a1, e, f5⟩ := bindS f4; clear f4
   have HH := H; clear H; obtain ⟨p1, m1, h1, c3, c4, c5, c6, H⟩ := HH.elL 0 rfl e; clear HH
   clear e
   refine idxE c3 c4 c5 ?_; clear c3 c4 c5
   refine load1 c6 ?_; clear c6
   obtain ⟨y0, e, f6⟩ := bindS f5; clear f5
   have ey149 := e; clear e
   refine callF (spec_spLead_c a1 h1 y0 ey149) (Γi := []) H ⟨Vw.sh 0 rfl, trivial⟩ ?_; clear H ey149
   rintro _ _ w6 ⟨rfl, rfl⟩ H
   obtain ⟨a2, e, f7⟩ := bindS f6; clear f6
   have ea158 := e; clear e
   obtain ⟨p2, m2, c7, c8, c9⟩ := (H.ro (α := List Int) 2 rfl).setp ea158
   refine idxE c7 c8 c9 ?_
   replace H := H.sel [2, 0, 1] rfl
   refine setS (α := Int) H c7 c8 ea158 ?_; clear H c7 c8 c9 ea158; intro w7 H
   refine arK hk x1 ?_
   have hs := Option.some.inj f7; subst hs; clear f7
   exact ⟨(), ⟨rfl, rfl, rfl, rfl, rfl, rfl, rfl, trivial⟩, H.sel [2, 0] rfl⟩
  ·
   clear H e
   rintro T3 _ w8 (H : Cx w0 fp0 S0 w8 [Es (List (List Int)) y2 h5, E (List Int) r1 h0])
   refine boolE (z := false) geLen ?_
   refine sq ?_
   obtain ⟨r2, f8, f9⟩ := bindS f3; clear f3
   refine cut (fun (q0 : List (List Int) × Hd) => [(0, (.int .i64 p_)), (1, (.int .i64 size_)), (12, (q0.2).v)]) (fun (q0 : List (List Int) × Hd) w' => q0.1 = r2 ∧ Cx w0 fp0 S0 w' [E (List (List Int)) q0.1 q0.2]) ?_ ?_
   ·
    replace H := H.nil (α := List Int)
    refine loopW _ (fun (s2 : List (List Int) × Int) (g0 : Hd) => [(0, (.int .i64 p_)), (1, (.int .i64 size_)), (7, (h5).v), (8, (h0).v), (12, (g0).v), (13, (.int .i64 s2.2))]) (fun (s2 : List (List Int) × Int) (g0 : Hd) w' => Cx w0 fp0 S0 w' [Es (List (List Int)) y2 h5, E (List Int) r1 h0, E (List (List Int)) s2.1 g0]) ([], 0) nilH f8 ⟨rfl, rfl, rfl, rfl, rfl, rfl, trivial⟩ (H.sel [1, 2, 0] rfl) ?_
    ·
     clear H
     rintro T4 ⟨s2_0, s2_1⟩ g0 w10 o2 (H : Cx w0 fp0 S0 w10 [Es (List (List Int)) y2 h5, E (List Int) r1 h0, E (List (List Int)) s2_0 g0]) hrt f10
     refine sq ?_
     obtain ⟨a3, e, f11⟩ := bindS f10; clear f10
     refine boolO e ?_; clear e
     cases a3
     ·
      have f12 := condF f11; clear f11
      have hs := Option.some.inj f12; subst hs; clear f12
      have f13 : some _ = some _ := congrArg some (hrt _ rfl).symm
      exact ⟨(s2_0, g0), ⟨rfl, rfl, rfl, trivial⟩, Option.some.inj f13, H.sel [2] rfl⟩
     ·
      have f14 := condT f11; clear f11
      obtain ⟨r3, f15, f16⟩ := bindS f14; clear f14
      refine cut (fun (q1 : List (List Int) × Hd) => [(0, (.int .i64 p_)), (1, (.int .i64 size_)), (7, (h5).v), (8, (h0).v), (12, (q1.2).v), (13, (.int .i64 s2_1))]) (fun (q1 : List (List Int) × Hd) w' => q1.1 = r3 ∧ Cx w0 fp0 S0 w' [Es (List (List Int)) y2 h5, E (List Int) r1 h0, E (List (List Int)) q1.1 q1.2]) ?_ ?_
      ·
       refine sq ?_
       obtain ⟨a4, e, f17⟩ := bindS f15; clear f15
       obtain ⟨p3, m3, c10, c11, c12, c13⟩ := (H.ro (α := List Int) 1 rfl).at1 e; clear e
       refine idxE c10 c11 c12 ?_; clear c10 c11 c12
       refine load1 c13 ?_; clear c13
       obtain ⟨a5, e, f18⟩ := bindS f17; clear f17
       refine boolO e ?_; clear e
       cases a5
       ·
        have f19 := condF f18; clear f18
        obtain ⟨a6, e, f20⟩ := bindS f19; clear f19
        refine make_ (α := Int) gok rfl rfl rfl rfl (makeCO_of e) H ?_; clear e H; intro h2 w11 hx H
        clear hx
        obtain ⟨a8, e, f21⟩ := bindS f20; clear f20
        have ea2346 := e; clear e
        obtain ⟨p4, m4, c14, c15, c16⟩ := (H.ro (α := List Int) 0 rfl).setp ea2346
        refine idxE c14 c15 c16 ?_
        refine setS (α := Int) H c14 c15 ea2346 ?_; clear H c14 c15 c16 ea2346; intro w12 H
        refine sq ?_
        refine lenE (H.rs (α := List (List Int)) 1 rfl).len ?_
        have x2 := (H.rs (α := List (List Int)) 1 rfl).max
        obtain ⟨r4, e, f22⟩ := bindS f21; clear f21
        refine loopS _ y2.length (fun (k2 : Nat) (s3 : List Int) (_ : Unit) => [(0, (.int .i64 p_)), (1, (.int .i64 size_)), (7, (h5).v), (8, (h0).v), (12, (g0).v), (13, (.int .i64 s2_1)), (14, (h2).v), (60, (h5).v), (61, (.int .i64 ((y2.length : Nat) : Int))), (62, (.int .i64 ((k2 : Nat) : Int)))]) (fun _ (s3 : List Int) (_ : Unit) w' => Cx w0 fp0 S0 w' [Es (List (List Int)) y2 h5, E (List Int) r1 h0, E (List (List Int)) s2_0 g0, E (List Int) s3 h2]) a8 () e ⟨rfl, rfl, rfl, rfl, rfl, rfl, rfl, rfl, rfl, rfl, trivial⟩ (H.sel [1, 2, 3, 0] rfl) ?_ ?_
        ·
         clear H e
         rintro T5 k2 s3 _ w13 o3 hk (H : Cx w0 fp0 S0 w13 [Es (List (List Int)) y2 h5, E (List Int) r1 h0, E (List (List Int)) s2_0 g0, E (List Int) s3 h2]) f23
         refine boolE (z := true) (ltLen hk) ?_
         refine sq ?_
         refine sq ?_
         obtain ⟨a9, e, f24⟩ := bindS f23; clear f23
         have HH := H; clear H; obtain ⟨p5, m5, h3, c17, c18, c19, c20, H⟩ := HH.elL 0 rfl e; clear HH
         clear e
         refine idxE c17 c18 c19 ?_; clear c17 c18 c19
         refine load1 c20 ?_; clear c20
         refine heldX H [13] (.fst 0 (.fst 1 (.fst 2 (.fst 3 (.fst 6 (.fst 7 (.fst 8 (.fst 9 (.fst 4 (.fst 10 (.act 5 (.act 11 (.fst 12 (.act 13 .done)))))))))))))) mixed [] trivial (by kernel_rfl) ?_
         clear H; intro w14 H
         have hX : Ext w14 w14 := Upd.refl _ _
         have H0 := H
         obtain ⟨a10, e, f25⟩ := bindS f24; clear f24
         have HH := H; clear H; obtain ⟨p6, m6, h4, c21, c22, c23, c24, H⟩ := HH.elL 1 rfl e; clear HH
         clear e
         refine idxE c21 c22 c23 ?_; clear c21 c22 c23
         obtain ⟨a11, e, f26⟩ := bindS f25; clear f25
         obtain ⟨p7, m7, c25, c26, c27, c28⟩ := (H.rs (α := List Int) 1 rfl).at1 e; clear e
         refine idxE c25 c26 c27 ?_; clear c25 c26 c27
         refine load1X c24 ?_; clear c24
         refine load1X c28 ?_; clear c28
         obtain ⟨y1, e, f27⟩ := bindS f26; clear f26
         have ey2480 := e; clear e
         refine callFx (spec_spLead_c a10 h4 y1 ey2480) H ⟨Vw.sh 0 rfl, trivial⟩ ?_; clear H ey2480
         rintro _ _ w15 ⟨rfl, rfl⟩ hx H
         replace hX := hX.trans0 hx; clear hx
         refine hold hX ?_
         obtain ⟨y3, e, f28⟩ := bindS f27; clear f27
         have ey2483 := e; clear e
         refine callFx (spec_fdNeg_c p_ a11 y3 ey2483) H trivial ?_; clear H ey2483
         rintro _ _ w16 ⟨rfl, rfl⟩ hx H
         replace hX := hX.trans0 hx; clear hx
         refine hold hX ?_
         obtain ⟨a12, e, f29⟩ := bindS f28; clear f28
         have ea2492 := e; clear e
         obtain ⟨p8, m8, c29, c30, c31⟩ := (H.ro (α := List Int) 5 rfl).setp ea2492
         refine idxE c29 c30 c31 ?_
         replace H := H.sel [5, 0, 1, 2, 3, 4] rfl
         refine setS (α := Int) H c29 c30 ea2492 ?_; clear H c29 c30 c31 ea2492; intro w17 H
         refine hold trivial ?_
         refine arK hk x2 ?_
         have hs := Option.some.inj f29; subst hs; clear f29
         exact ⟨(), ⟨rfl, rfl, rfl, rfl, rfl, rfl, rfl, rfl, rfl, rfl, trivial⟩, H.sel [3, 4, 5, 0] rfl⟩
        ·
         clear H e
         rintro T6 _ w18 (H : Cx w0 fp0 S0 w18 [Es (List (List Int)) y2 h5, E (List Int) r1 h0, E (List (List Int)) s2_0 g0, E (List Int) r4 h2])
         refine boolE (z := false) geLen ?_
         refine sq ?_
         replace H := H.sel [3, 0, 1, 2] rfl
         refine lit1 (α := List Int) (g := h2) gok rfl rfl rfl rfl rfl H ?_; clear H; intro h6 w19 hx H
         clear hx
         obtain ⟨a13, e, f30⟩ := bindS f22; clear f22
         replace H := H.sel [3, 0, 1, 2] rfl
         refine append_ (α := List Int) gok rfl rfl rfl rfl H e ?_; clear e H; intro h7 w20 H
         exact ⟨(a13, h7), ⟨rfl, rfl, rfl, rfl, rfl, rfl, trivial⟩, Option.some.inj f30, H.sel [1, 2, 0] rfl⟩
       ·
        have f31 := condT f18; clear f18
        exact ⟨(s2_0, g0), ⟨rfl, rfl, rfl, rfl, rfl, rfl, trivial⟩, Option.some.inj f31, H.sel [0, 1, 2] rfl⟩
      ·
       clear f15 H
       rintro T7 ⟨s4, g1⟩ w21 ⟨hr, (H : Cx w0 fp0 S0 w21 [Es (List (List Int)) y2 h5, E (List Int) r1 h0, E (List (List Int)) s4 g1])⟩
       subst hr
       obtain ⟨a14, e, f32⟩ := bindS f16; clear f16
       refine arO e ?_; clear e
       have hs := Option.some.inj f32; subst hs; clear f32
       exact ⟨(s4, a14), g1, rfl, ⟨rfl, rfl, rfl, rfl, rfl, rfl, trivial⟩, H.sel [0, 1, 2] rfl⟩
   ·
    clear f8 H
    rintro T8 ⟨s5, g2⟩ w22 ⟨hr, (H : Cx w0 fp0 S0 w22 [E (List (List Int)) s5 g2])⟩
    subst hr
    obtain ⟨y4, e, f33⟩ := bindS f9; clear f9
    have ey2514 := e; clear e
    refine callF (spec_spReduce_c p_ size_ s5 g2 y4 ey2514) (Γi := []) H ⟨Vw.own 0 rfl, trivial⟩ ?_; clear H ey2514
    rintro _ _ w23 ⟨h8, rfl, rfl⟩ H
    cases f33
    exact ⟨_, _, rfl, ⟨h8, rfl, rfl⟩, (H.sel [0] rfl).close ⟨cloE, trivial⟩⟩

theorem spec_ssHidden_c (p_ : Int) (s__0 : Int) (s__1 : Int) (s__2 : Int) (s__3 : List (List Int)) (s__3h : Hd) (s__4 : List (List Int)) (s__4h : Hd) (s__5 : List (List Int)) (s__5h : Hd) (s__6 : List (List Int)) (s__6h : Hd) (y : List (List Int)) (hF : F_spec_ssHidden p_ (s__0, s__1, s__2, s__3, s__4, s__5, s__6) = some y) :
  ConF Tryd.prog 55 #[(.int .i64 p_), (.agg #[(.int .i64 s__0), (.int .i64 s__1), (.int .i64 s__2), (s__3h).v, (s__4h).v, (s__5h).v, (s__6h).v])] [Es (List (List Int)) s__3 s__3h, Es (List (List Int)) s__4 s__4h, Es (List (List Int)) s__5 s__5h, Es (List (List Int)) s__6 s__6h] [] (fun v Γ' => ∃ z0 : Hd, v = (z0).v ∧ Γ' = [E (List (List Int)) y z0]) := by
 intro w0 S0 fp0 hI hS
 have H : Cx w0 fp0 S0 w0 [Es (List (List Int)) s__3 s__3h, Es (List (List Int)) s__4 s__4h, Es (List (List Int)) s__5 s__5h, Es (List (List Int)) s__6 s__6h] := Cx.start hI hS
 clear hI hS
 refine enterC (args := [_, _]) gok Tryd.func55 rfl _ rfl rfl rfl ?_
 refine box_ H ?_; clear H; intro b6 w5 hx H
 clear hx
 obtain ⟨r0, f0, f1⟩ := bindS hF; clear hF
 refine heldJ H [] (.fst 0 (.fst 2 (.fst 4 (.fst 6 (.fst 9 (.fst 11 (.fst 1 (.fst 3 (.fst 5 (.fst 7 (.fst 10 (.fst 12 (.alts (.alt 8 (.alts (.alt 13 (.fst 14 (.act 15 (.act 16 .done))) (.alt 15 (.act 13 (.fst 14 (.act 16 .done))) .no))) (.alt 15 (.act 8 (.act 13 (.fst 14 (.act 16 .done)))) .no))))))))))))))) mixed [] trivial (by kernel_rfl) (fun (q0 : (Int × Int × List (List Int) × List (List Int)) × (Hd × Hd × Nat)) => [(0, (.int .i64 p_)), (3, (.pointer (some ⟨b6, 0, none⟩))), (5, (.pointer (some ⟨q0.2.2.2, 0, none⟩)))]) (fun (q0 : (Int × Int × List (List Int) × List (List Int)) × (Hd × Hd × Nat)) w' => (q0.1.1, q0.1.2.1, q0.1.2.2.1, q0.1.2.2.2) = r0 ∧ Cx w0 fp0 S0 w' [Bx b6 [(.int .i64 s__0), (.int .i64 s__1), (.int .i64 s__2), (s__3h).v, (s__4h).v, (s__5h).v, (s__6h).v], Es (List (List Int)) s__3 s__3h, Es (List (List Int)) s__4 s__4h, Es (List (List Int)) s__5 s__5h, Es (List (List Int)) s__6 s__6h, Bx q0.2.2.2 [(.int .i64 q0.1.1), (.int .i64 q0.1.2.1), (.int .i64 0), (q0.2.1).v, (q0.2.2.1).v, (.slice none 0 0), (.slice none 0 0)], E (List (List Int)) q0.1.2.2.1 q0.2.1, E (List (List Int)) q0.1.2.2.2 q0.2.2.1]) ?_ ?_
 ·
  clear H; intro w1 H
  have hX : Ext w1 w1 := Upd.refl _ _
  have H0 := H
  refine anyH (fun _ => fld gok rfl rfl rfl rfl ⟨rfl, rfl⟩) ?_
  refine anyH (fun _ => fld gok rfl rfl rfl rfl ⟨rfl, rfl⟩) ?_
  refine anyH (fun _ => fld gok rfl rfl rfl rfl ⟨rfl, rfl⟩) ?_
  refine anyH (fun _ => fld gok rfl rfl rfl rfl ⟨rfl, rfl⟩) ?_
  refine anyH (fun _ => fld gok rfl rfl rfl rfl ⟨rfl, rfl⟩) ?_
  refine anyH (fun _ => fld gok rfl rfl rfl rfl ⟨rfl, rfl⟩) ?_
  refine load1X (H.bx 0 rfl (j := 0) rfl) ?_
  refine load1X (H.bx 0 rfl (j := 2) rfl) ?_
  refine load1X (H.bx 0 rfl (j := 3) rfl) ?_
  refine load1X (H.bx 0 rfl (j := 0) rfl) ?_
  refine load1X (H.bx 0 rfl (j := 5) rfl) ?_
  refine load1X (H.bx 0 rfl (j := 2) rfl) ?_
  refine both ?_ ?_
  ·
   obtain ⟨y0, e, f2⟩ := bindS f0; clear f0
   have ey102 := e; clear e
   refine callFx (spec_ssTurn_c s__3 s__3h s__0 y0 ey102) H ⟨Vw.sh 1 rfl, trivial⟩ ?_; clear H ey102
   rintro _ _ w2 ⟨h0, rfl, rfl⟩ hx H
   replace hX := hX.trans0 hx; clear hx
   refine hold hX ?_
   refine both ?_ ?_
   ·
    obtain ⟨y1, e, f3⟩ := bindS f2; clear f2
    have ey117 := e; clear e
    refine callFx (spec_ssTurn_c s__5 s__5h s__2 y1 ey117) H ⟨Vw.sh 4 rfl, trivial⟩ ?_; clear H ey117
    rintro _ _ w3 ⟨h1, rfl, rfl⟩ hx H
    replace hX := hX.trans0 hx; clear hx
    refine hold hX ?_
    refine anyH (fun _ => build_ (cs := #[(.int .i64 s__0), (.int .i64 s__2), (.int .i64 0), (h0).v, (h1).v, (.slice none 0 0), (.slice none 0 0)]) gok rfl rfl rfl ⟨rfl, rfl⟩) ?_
    refine allocX gok rfl H ?_; clear H; intro b0 w4 hx v0 H; replace v0 := Nat.le_trans hX.size v0
    replace hX := hX.trans0 hx; clear hx
    refine hold hX ?_
    refine stAX gok [(.int .i64 s__0), (.int .i64 s__2), (.int .i64 0), (h0).v, (h1).v, (.slice none 0 0), (.slice none 0 0)] rfl H rfl rfl rfl ?_; clear H; intro w6 hu H
    replace hX := hX.fresh hu v0; clear hu
    refine hold hX ?_
    exact ⟨((s__0, s__2, y0, y1), (h0, h1, b0)), ⟨rfl, rfl, rfl, trivial⟩, Option.some.inj f3, H.sel [3, 4, 5, 6, 7, 0, 2, 1] rfl⟩
   ·
    refine both ?_ ?_
    ·
     obtain ⟨a0, o0, f4⟩ := bindS f2; clear f2
     refine allocX gok rfl H ?_; clear H; intro b1 w7 hx v1 H; replace v1 := Nat.le_trans hX.size v1
     replace hX := hX.trans0 hx; clear hx
     refine hold hX ?_
     have e := o0; clear o0
     have ea127 := e; clear e
     refine callFx (spec_ssTurn_c s__5 s__5h s__2 a0 ea127) H ⟨Vw.sh 5 rfl, trivial⟩ ?_; clear H ea127
     rintro _ _ w8 ⟨h2, rfl, rfl⟩ hx H
     replace hX := hX.trans0 hx; clear hx
     refine hold hX ?_
     refine anyH (fun _ => build_ (cs := #[(.int .i64 s__0), (.int .i64 s__2), (.int .i64 0), (h0).v, (h2).v, (.slice none 0 0), (.slice none 0 0)]) gok rfl rfl rfl ⟨rfl, rfl⟩) ?_
     replace H := H.sel [1, 0, 2, 3, 4, 5, 6, 7] rfl
     refine stAX gok [(.int .i64 s__0), (.int .i64 s__2), (.int .i64 0), (h0).v, (h2).v, (.slice none 0 0), (.slice none 0 0)] rfl H rfl rfl rfl ?_; clear H; intro w9 hu H
     replace hX := hX.fresh hu v1; clear hu
     refine hold hX ?_
     exact ⟨((s__0, s__2, y0, a0), (h0, h2, b1)), ⟨rfl, rfl, rfl, trivial⟩, Option.some.inj f4, H.sel [3, 4, 5, 6, 7, 0, 2, 1] rfl⟩
    ·
     exact trivial
  ·
   refine both ?_ ?_
   ·
    obtain ⟨a1, o1, f5⟩ := bindS f0; clear f0
    obtain ⟨a2, o2, f6⟩ := bindS f5; clear f5
    refine allocX gok rfl H ?_; clear H; intro b2 w10 hx v2 H; replace v2 := Nat.le_trans hX.size v2
    replace hX := hX.trans0 hx; clear hx
    refine hold hX ?_
    have e := o1; clear o1
    have ea138 := e; clear e
    refine callFx (spec_ssTurn_c s__3 s__3h s__0 a1 ea138) H ⟨Vw.sh 2 rfl, trivial⟩ ?_; clear H ea138
    rintro _ _ w11 ⟨h3, rfl, rfl⟩ hx H
    replace hX := hX.trans0 hx; clear hx
    refine hold hX ?_
    have e := o2; clear o2
    have ea141 := e; clear e
    refine callFx (spec_ssTurn_c s__5 s__5h s__2 a2 ea141) H ⟨Vw.sh 5 rfl, trivial⟩ ?_; clear H ea141
    rintro _ _ w12 ⟨h4, rfl, rfl⟩ hx H
    replace hX := hX.trans0 hx; clear hx
    refine hold hX ?_
    refine anyH (fun _ => build_ (cs := #[(.int .i64 s__0), (.int .i64 s__2), (.int .i64 0), (h3).v, (h4).v, (.slice none 0 0), (.slice none 0 0)]) gok rfl rfl rfl ⟨rfl, rfl⟩) ?_
    replace H := H.sel [2, 0, 1, 3, 4, 5, 6, 7] rfl
    refine stAX gok [(.int .i64 s__0), (.int .i64 s__2), (.int .i64 0), (h3).v, (h4).v, (.slice none 0 0), (.slice none 0 0)] rfl H rfl rfl rfl ?_; clear H; intro w13 hu H
    replace hX := hX.fresh hu v2; clear hu
    refine hold hX ?_
    exact ⟨((s__0, s__2, a1, a2), (h3, h4, b2)), ⟨rfl, rfl, rfl, trivial⟩, Option.some.inj f6, H.sel [3, 4, 5, 6, 7, 0, 2, 1] rfl⟩
   ·
    exact trivial
 ·
  clear f0 H
  rintro T0 ⟨⟨s0_0, s0_1, s0_2, s0_3⟩, ⟨g0_0, g0_1, g0_2⟩⟩ w14 ⟨hr, (H : Cx w0 fp0 S0 w14 [Bx b6 [(.int .i64 s__0), (.int .i64 s__1), (.int .i64 s__2), (s__3h).v, (s__4h).v, (s__5h).v, (s__6h).v], Es (List (List Int)) s__3 s__3h, Es (List (List Int)) s__4 s__4h, Es (List (List Int)) s__5 s__5h, Es (List (List Int)) s__6 s__6h, Bx g0_2 [(.int .i64 s0_0), (.int .i64 s0_1), (.int .i64 0), (g0_0).v, (g0_1).v, (.slice none 0 0), (.slice none 0 0)], E (List (List Int)) s0_2 g0_0, E (List (List Int)) s0_3 g0_1])⟩
  subst hr
  refine sq ?_
  refine fld gok rfl rfl rfl rfl ?_
  refine load1 (H.bx 5 rfl (j := 4) rfl) ?_
  refine lenE (H.ro (α := List (List Int)) 7 rfl).len ?_
  have x0 := (H.ro (α := List (List Int)) 7 rfl).max
  obtain ⟨r1, e, f7⟩ := bindS f1; clear f1
  refine loopS _ s0_3.length (fun (k0 : Nat) (s1 : List (List Int)) (_ : Unit) => [(0, (.int .i64 p_)), (3, (.pointer (some ⟨b6, 0, none⟩))), (5, (.pointer (some ⟨g0_2, 0, none⟩))), (24, (.int .i64 ((s0_3.length : Nat) : Int))), (25, (.int .i64 ((k0 : Nat) : Int)))]) (fun _ (s1 : List (List Int)) (_ : Unit) w' => Cx w0 fp0 S0 w' [Bx b6 [(.int .i64 s__0), (.int .i64 s__1), (.int .i64 s__2), (s__3h).v, (s__4h).v, (s__5h).v, (s__6h).v], Es (List (List Int)) s__3 s__3h, Es (List (List Int)) s__4 s__4h, Es (List (List Int)) s__5 s__5h, Es (List (List Int)) s__6 s__6h, Bx g0_2 [(.int .i64 s0_0), (.int .i64 s0_1), (.int .i64 0), (g0_0).v, (g0_1).v, (.slice none 0 0), (.slice none 0 0)], E (List (List Int)) s0_2 g0_0, E (List (List Int)) s1 g0_1]) s0_3 () e ⟨rfl, rfl, rfl, rfl, rfl, trivial⟩ (H.sel [0, 1, 2, 3, 4, 5, 6, 7] rfl) ?_ ?_
  ·
   clear H e
   rintro T1 k0 s1 _ w15 o3 hk (H : Cx w0 fp0 S0 w15 [Bx b6 [(.int .i64 s__0), (.int .i64 s__1), (.int .i64 s__2), (s__3h).v, (s__4h).v, (s__5h).v, (s__6h).v], Es (List (List Int)) s__3 s__3h, Es (List (List Int)) s__4 s__4h, Es (List (List Int)) s__5 s__5h, Es (List (List Int)) s__6 s__6h, Bx g0_2 [(.int .i64 s0_0), (.int .i64 s0_1), (.int .i64 0), (g0_0).v, (g0_1).v, (.slice none 0 0), (.slice none 0 0)], E (List (List Int)) s0_2 g0_0, E (List (List Int)) s1 g0_1]) f8
   refine boolE (z := true) (ltLen hk) ?_
   refine sq ?_
   refine sq ?_
   refine fld gok rfl rfl rfl rfl ?_
   refine load1 (H.bx 5 rfl (j := 4) rfl) ?_
   obtain ⟨a3, e, f9⟩ := bindS f8; clear f8
   replace H := H.sel [7, 0, 1, 2, 3, 4, 5, 6] rfl
   replace H := H.toEH (α := List Int)
   have HH := H; clear H; obtain ⟨p0, m0, h5, c0, c1, c2, c3, H⟩ := HH.peekL e; clear HH
   clear e
   refine idxE c0 c1 c2 ?_
   refine load1 c3 ?_; clear c3
   have x1 := (H.rh (α := List Int) 0 rfl 0 rfl).max
   refine lenE (H.rh (α := List Int) 0 rfl 0 rfl).len ?_
   obtain ⟨a4, e, f10⟩ := bindS f9; clear f9
   refine boolO e ?_; clear e
   replace H := H.ofEH
   cases a4
   ·
    have f11 := condF f10; clear f10
    refine arK hk x0 ?_
    have hs := Option.some.inj f11; subst hs; clear f11
    exact ⟨(), ⟨rfl, rfl, rfl, rfl, rfl, trivial⟩, H.sel [1, 2, 3, 4, 5, 6, 7, 0] rfl⟩
   ·
    have f12 := condT f10; clear f10
    refine heldX H [7] (.fst 0 (.fst 2 (.fst 3 (.fst 1 (.fst 4 (.act 5 (.fst 6 (.act 7 .done)))))))) mixed [] trivial (by kernel_rfl) ?_
    clear H; intro w16 H
    have hX : Ext w16 w16 := Upd.refl _ _
    have H0 := H
    refine anyH (fun _ => fld gok rfl rfl rfl rfl ⟨rfl, rfl⟩) ?_
    refine anyH (fun _ => fld gok rfl rfl rfl rfl ⟨rfl, rfl⟩) ?_
    refine load1X (H.bx 6 rfl (j := 4) rfl) ?_
    refine load1X (H.bx 1 rfl (j := 0) rfl) ?_
    obtain ⟨a5, e, f13⟩ := bindS f12; clear f12
    refine make_ (α := Int) gok rfl rfl rfl rfl (makeCO_of e) H ?_; clear e H; intro h6 w17 hx H
    replace hX := hX.trans0 hx; clear hx
    refine hold hX ?_
    obtain ⟨a6, e, f14⟩ := bindS f13; clear f13
    have ea255 := e; clear e
    obtain ⟨p1, m1, c4, c5, c6⟩ := (H.ro (α := List (List Int)) 1 rfl).setp ea255
    refine idxE c4 c5 c6 ?_
    replace H := H.sel [1, 0, 2, 3, 4, 5, 6, 7, 8] rfl
    refine setL H c4 c5 ea255 ?_; clear H c4 c5 c6 ea255; intro w18 H
    refine hold trivial ?_
    refine arK hk x0 ?_
    have hs := Option.some.inj f14; subst hs; clear f14
    exact ⟨(), ⟨rfl, rfl, rfl, rfl, rfl, trivial⟩, H.sel [1, 2, 3, 4, 5, 6, 7, 0] rfl⟩
  ·
   clear H e
   rintro T2 _ w19 (H : Cx w0 fp0 S0 w19 [Bx b6 [(.int .i64 s__0), (.int .i64 s__1), (.int .i64 s__2), (s__3h).v, (s__4h).v, (s__5h).v, (s__6h).v], Es (List (List Int)) s__3 s__3h, Es (List (List Int)) s__4 s__4h, Es (List (List Int)) s__5 s__5h, Es (List (List Int)) s__6 s__6h, Bx g0_2 [(.int .i64 s0_0), (.int .i64 s0_1), (.int .i64 0), (g0_0).v, (g0_1).v, (.slice none 0 0), (.slice none 0 0)], E (List (List Int)) s0_2 g0_0, E (List (List Int)) r1 g0_1])
   refine boolE (z := false) geLen ?_
   refine sq ?_
   refine heldX H [] (.fst 0 (.fst 1 (.fst 3 (.fst 2 (.fst 4 (.act 5 (.act 6 (.fst 7 .done)))))))) mixed [] trivial (by kernel_rfl) ?_
   clear H; intro w20 H
   have hX : Ext w20 w20 := Upd.refl _ _
   have H0 := H
   refine anyH (fun _ => fld gok rfl rfl rfl rfl ⟨rfl, rfl⟩) ?_
   refine load1X (H.bx 0 rfl (j := 0) rfl) ?_
   refine loadNX [(.int .i64 s0_0), (.int .i64 s0_1), (.int .i64 0), (g0_0).v, (g0_1).v, (.slice none 0 0), (.slice none 0 0)] rfl (fun j u hj => H.bx 5 rfl hj) ?_
   replace H := H.nil (α := List Int)
   replace H := H.nil (α := List Int)
   obtain ⟨y2, e, f15⟩ := bindS f7; clear f7
   have ey265 := e; clear e
   refine callFx (spec_ssReach_c p_ s0_0 s0_1 0 s0_2 g0_0 r1 g0_1 [] nilH [] nilH y2 ey265) H ⟨Vw.own 8 rfl, Vw.own 9 rfl, Vw.own 1 rfl, Vw.own 0 rfl, trivial⟩ ?_; clear H ey265
   rintro _ _ w21 ⟨h7, rfl, rfl⟩ hx H
   replace hX := hX.trans0 hx; clear hx
   refine hold hX ?_
   obtain ⟨y3, e, f16⟩ := bindS f15; clear f15
   have ey270 := e; clear e
   refine callFx (spec_spNull_c p_ s__0 y2 h7 y3 ey270) H ⟨Vw.own 0 rfl, trivial⟩ ?_; clear H ey270
   rintro _ _ w22 ⟨h8, rfl, rfl⟩ hx H
   replace hX := hX.trans0 hx; clear hx
   refine hold hX ?_
   cases f16
   exact ⟨_, _, rfl, ⟨h8, rfl, rfl⟩, (H.sel [0] rfl).close ⟨cloE, trivial⟩⟩

theorem spec_ssMinimal_c (p_ : Int) (s__0 : Int) (s__1 : Int) (s__2 : Int) (s__3 : List (List Int)) (s__3h : Hd) (s__4 : List (List Int)) (s__4h : Hd) (s__5 : List (List Int)) (s__5h : Hd) (s__6 : List (List Int)) (s__6h : Hd) (y : Bool) (hF : F_spec_ssMinimal p_ (s__0, s__1, s__2, s__3, s__4, s__5, s__6) = some y) :
  ConF Tryd.prog 29 #[(.int .i64 p_), (.agg #[(.int .i64 s__0), (.int .i64 s__1), (.int .i64 s__2), (s__3h).v, (s__4h).v, (s__5h).v, (s__6h).v])] [Es (List (List Int)) s__3 s__3h, Es (List (List Int)) s__4 s__4h, Es (List (List Int)) s__5 s__5h, Es (List (List Int)) s__6 s__6h] [] (fun v Γ' => v = (.bool y) ∧ Γ' = []) := by
 intro w0 S0 fp0 hI hS
 have H : Cx w0 fp0 S0 w0 [Es (List (List Int)) s__3 s__3h, Es (List (List Int)) s__4 s__4h, Es (List (List Int)) s__5 s__5h, Es (List (List Int)) s__6 s__6h] := Cx.start hI hS
 clear hI hS
 refine enterC (args := [_, _]) gok Tryd.func29 rfl _ rfl rfl rfl ?_
 refine box_ H ?_; clear H; intro b6 w5 hx H
 clear hx
 obtain ⟨r0, f0, f1⟩ := bindS hF; clear hF
 refine cut (fun (q0 : Bool) => [(4, (.bool q0))]) (fun (q0 : Bool) w' => q0 = r0 ∧ Cx w0 fp0 S0 w' []) ?_ ?_
 ·
  refine heldX H [] (.fst 0 (.fst 4 (.fst 1 (.fst 5 (.act 2 (.fst 3 (.fst 6 (.fst 7 (.fst 8 (.fst 9 (.act 10 (.fst 11 (.fst 12 (.fst 13 (.fst 14 .done))))))))))))))) mixed [] trivial (by kernel_rfl) ?_
  clear H; intro w1 H
  have hX : Ext w1 w1 := Upd.refl _ _
  have H0 := H
  refine anyH (fun _ => fld gok rfl rfl rfl rfl ⟨rfl, rfl⟩) ?_
  refine loadNX [(.int .i64 s__0), (.int .i64 s__1), (.int .i64 s__2), (s__3h).v, (s__4h).v, (s__5h).v, (s__6h).v] rfl (fun j u hj => H.bx 0 rfl hj) ?_
  refine load1X (H.bx 0 rfl (j := 0) rfl) ?_
  obtain ⟨y0, e, f2⟩ := bindS f0; clear f0
  have ey32 := e; clear e
  refine callFx (spec_ssReach_c p_ s__0 s__1 s__2 s__3 s__3h s__4 s__4h s__5 s__5h s__6 s__6h y0 ey32) H ⟨Vw.sh 1 rfl, Vw.sh 2 rfl, Vw.sh 3 rfl, Vw.sh 4 rfl, trivial⟩ ?_; clear H ey32
  rintro _ _ w2 ⟨h0, rfl, rfl⟩ hx H
  replace hX := hX.trans0 hx; clear hx
  refine hold hX ?_
  refine lenE (H.ro (α := List (List Int)) 0 rfl).len ?_
  obtain ⟨a0, e, f3⟩ := bindS f2; clear f2
  refine boolO e ?_; clear e
  cases a0
  ·
   have f4 := condF f3; clear f3
   exact ⟨false, ⟨rfl, trivial⟩, Option.some.inj f4, H.sel [] rfl⟩
  ·
   have f5 := condT f3; clear f3
   refine loadNX [(.int .i64 s__0), (.int .i64 s__1), (.int .i64 s__2), (s__3h).v, (s__4h).v, (s__5h).v, (s__6h).v] rfl (fun j u hj => H0.bx 0 rfl hj) ?_
   obtain ⟨y1, e, f6⟩ := bindS f5; clear f5
   have ey41 := e; clear e
   refine callFx (spec_ssHidden_c p_ s__0 s__1 s__2 s__3 s__3h s__4 s__4h s__5 s__5h s__6 s__6h y1 ey41) H ⟨Vw.sh 2 rfl, Vw.sh 3 rfl, Vw.sh 4 rfl, Vw.sh 5 rfl, trivial⟩ ?_; clear H ey41
   rintro _ _ w3 ⟨h1, rfl, rfl⟩ hx H
   replace hX := hX.trans0 hx; clear hx
   refine hold hX ?_
   refine lenE (H.ro (α := List (List Int)) 0 rfl).len ?_
   obtain ⟨a1, e, f7⟩ := bindS f6; clear f6
   refine boolO e ?_; clear e
   exact ⟨a1, ⟨rfl, trivial⟩, Option.some.inj f7, H.sel [] rfl⟩
 ·
  clear f0 H
  rintro T0 s0 w4 ⟨hr, (H : Cx w0 fp0 S0 w4 [])⟩
  subst hr
  cases f1
  exact ⟨_, _, rfl, ⟨rfl, rfl⟩, (H.sel [] rfl).close trivial⟩

theorem spec_ssCopy_c (m_ : List (List Int)) (m_h : Hd) (y : List (List Int)) (hF : F_spec_ssCopy m_ = some y) :
  ConF Tryd.prog 31 #[(m_h).v] [Es (List (List Int)) m_ m_h] [] (fun v Γ' => ∃ z0 : Hd, v = (z0).v ∧ Γ' = [E (List (List Int)) y z0]) := by
 intro w0 S0 fp0 hI hS
 have H : Cx w0 fp0 S0 w0 [Es (List (List Int)) m_ m_h] := Cx.start hI hS
 clear hI hS
 refine enterC (args := [_]) gok Tryd.func31 rfl _ rfl rfl rfl ?_
 refine sq ?_
 refine lenE (H.rs (α := List (List Int)) 0 rfl).len ?_
 have x0 := (H.rs (α := List (List Int)) 0 rfl).max
 obtain ⟨r0, e, f0⟩ := bindS hF; clear hF
 replace H := H.nil (α := List Int)
 refine loopS _ m_.length (fun (k2 : Nat) (s0 : List (List Int)) (g0 : Hd) => [(3, (g0).v), (6, (m_h).v), (7, (.int .i64 ((m_.length : Nat) : Int))), (8, (.int .i64 ((k2 : Nat) : Int)))]) (fun _ (s0 : List (List Int)) (g0 : Hd) w' => Cx w0 fp0 S0 w' [E (List (List Int)) s0 g0, Es (List (List Int)) m_ m_h]) [] nilH e ⟨rfl, rfl, rfl, rfl, trivial⟩ (H.sel [0, 1] rfl) ?_ ?_
 ·
  clear H e
  rintro T0 k2 s0 g0 w1 o0 hk (H : Cx w0 fp0 S0 w1 [E (List (List Int)) s0 g0, Es (List (List Int)) m_ m_h]) f1
  refine boolE (z := true) (ltLen hk) ?_
  refine sq ?_
  refine sq ?_
  obtain ⟨a0, e, f2⟩ := bindS f1; clear f1
  have HH := H; clear H; obtain ⟨p0, m0, h0, c0, c1, c2, c3, H⟩ := HH.elL 1 rfl e; clear HH
  clear e
  refine idxE c0 c1 c2 ?_; clear c0 c1 c2
  refine load1 c3 ?_; clear c3
  obtain ⟨y0, e, f3⟩ := bindS f2; clear f2
  have ey76 := e; clear e
  refine callF (spec_l1Own_c a0 h0 y0 ey76) (Γi := []) H ⟨Vw.sh 0 rfl, trivial⟩ ?_; clear H ey76
  rintro _ _ w2 ⟨h1, rfl, rfl⟩ H
  refine lit1 (α := List Int) (g := h1) gok rfl rfl rfl rfl rfl H ?_; clear H; intro h2 w3 hx H
  clear hx
  obtain ⟨a1, e, f4⟩ := bindS f3; clear f3
  replace H := H.sel [2, 0, 1, 3] rfl
  refine append_ (α := List Int) gok rfl rfl rfl rfl H e ?_; clear e H; intro h3 w4 H
  refine arK hk x0 ?_
  have hs := Option.some.inj f4; subst hs; clear f4
  exact ⟨h3, ⟨rfl, rfl, rfl, rfl, trivial⟩, H.sel [0, 2] rfl⟩
 ·
  clear H e
  rintro T1 g1 w5 (H : Cx w0 fp0 S0 w5 [E (List (List Int)) r0 g1, Es (List (List Int)) m_ m_h])
  refine boolE (z := false) geLen ?_
  refine sq ?_
  cases f0
  exact ⟨_, _, rfl, ⟨g1, rfl, rfl⟩, (H.sel [0] rfl).close ⟨cloE, trivial⟩⟩

theorem spec_ssMarkov_c (p_ : Int) (s__0 : Int) (s__1 : Int) (s__2 : Int) (s__3 : List (List Int)) (s__3h : Hd) (s__4 : List (List Int)) (s__4h : Hd) (s__5 : List (List Int)) (s__5h : Hd) (s__6 : List (List Int)) (s__6h : Hd) (n_ : Int) (y : List (Int × List (List Int))) (hF : F_spec_ssMarkov p_ (s__0, s__1, s__2, s__3, s__4, s__5, s__6) n_ = some y) :
  ConF Tryd.prog 56 #[(.int .i64 p_), (.agg #[(.int .i64 s__0), (.int .i64 s__1), (.int .i64 s__2), (s__3h).v, (s__4h).v, (s__5h).v, (s__6h).v]), (.int .i64 n_)] [Es (List (List Int)) s__3 s__3h, Es (List (List Int)) s__4 s__4h, Es (List (List Int)) s__5 s__5h, Es (List (List Int)) s__6 s__6h] [] (fun v Γ' => ∃ z0 : Hd, v = (z0).v ∧ Γ' = [E (List (Int × List (List Int))) y z0]) := by
 intro w0 S0 fp0 hI hS
 have H : Cx w0 fp0 S0 w0 [Es (List (List Int)) s__3 s__3h, Es (List (List Int)) s__4 s__4h, Es (List (List Int)) s__5 s__5h, Es (List (List Int)) s__6 s__6h] := Cx.start hI hS
 clear hI hS
 refine enterC (args := [_, _, _]) gok Tryd.func56 rfl _ rfl rfl rfl ?_
 refine box_ H ?_; clear H; intro b6 w5 hx H
 clear hx
 refine fld gok rfl rfl rfl rfl ?_
 refine load1 (H.bx 0 rfl (j := 4) rfl) ?_
 obtain ⟨y8, e, hF9⟩ := bindS hF; clear hF
 have ey8 := e; clear e
 refine callF (spec_ssCopy_c s__4 s__4h y8 ey8) (Γi := []) H ⟨Vw.sh 2 rfl, trivial⟩ ?_; clear H ey8
 rintro _ _ w1 ⟨h0, rfl, rfl⟩ H
 obtain ⟨r0, f0, f1⟩ := bindS hF9; clear hF9
 refine cut (fun (q0 : (List (Int × List (List Int))) × Hd) => [(7, (q0.2).v)]) (fun (q0 : (List (Int × List (List Int))) × Hd) w' => q0.1 = r0 ∧ Cx w0 fp0 S0 w' [E (List (Int × List (List Int))) q0.1 q0.2]) ?_ ?_
 ·
  replace H := H.nil (α := Int × List (List Int))
  refine loopW _ (fun (s0 : (List (Int × List (List Int))) × List (List Int) × Int) (g0 : Hd × Hd) => [(0, (.int .i64 p_)), (2, (.int .i64 n_)), (4, (.pointer (some ⟨b6, 0, none⟩))), (7, (g0.1).v), (8, (g0.2).v), (9, (.int .i64 s0.2.2))]) (fun (s0 : (List (Int × List (List Int))) × List (List Int) × Int) (g0 : Hd × Hd) w' => Cx w0 fp0 S0 w' [Bx b6 [(.int .i64 s__0), (.int .i64 s__1), (.int .i64 s__2), (s__3h).v, (s__4h).v, (s__5h).v, (s__6h).v], Es (List (List Int)) s__3 s__3h, Es (List (List Int)) s__4 s__4h, Es (List (List Int)) s__5 s__5h, Es (List (List Int)) s__6 s__6h, E (List (Int × List (List Int))) s0.1 g0.1, E (List (List Int)) s0.2.1 g0.2]) ([], y8, 0) (nilH, h0) f0 ⟨rfl, rfl, rfl, rfl, rfl, rfl, trivial⟩ (H.sel [2, 3, 4, 5, 6, 0, 1] rfl) ?_
  ·
   clear H
   rintro T0 ⟨s0_0, s0_1, s0_2⟩ ⟨g0_0, g0_1⟩ w2 o0 (H : Cx w0 fp0 S0 w2 [Bx b6 [(.int .i64 s__0), (.int .i64 s__1), (.int .i64 s__2), (s__3h).v, (s__4h).v, (s__5h).v, (s__6h).v], Es (List (List Int)) s__3 s__3h, Es (List (List Int)) s__4 s__4h, Es (List (List Int)) s__5 s__5h, Es (List (List Int)) s__6 s__6h, E (List (Int × List (List Int))) s0_0 g0_0, E (List (List Int)) s0_1 g0_1]) hrt f2
   refine sq ?_
   obtain ⟨a0, e, f3⟩ := bindS f2; clear f2
   refine boolO e ?_; clear e
   cases a0
   ·
    have f4 := condF f3; clear f3
    have hs := Option.some.inj f4; subst hs; clear f4
    have f5 : some _ = some _ := congrArg some (hrt _ rfl).symm
    exact ⟨(s0_0, g0_0), ⟨rfl, trivial⟩, Option.some.inj f5, H.sel [5] rfl⟩
   ·
    have f6 := condT f3; clear f3
    obtain ⟨r1, f7, f8⟩ := bindS f6; clear f6
    refine cut (fun (q1 : ((List (Int × List (List Int))) × List (List Int)) × (Hd × Hd)) => [(0, (.int .i64 p_)), (2, (.int .i64 n_)), (4, (.pointer (some ⟨b6, 0, none⟩))), (7, (q1.2.1).v), (8, (q1.2.2).v), (9, (.int .i64 s0_2))]) (fun (q1 : ((List (Int × List (List Int))) × List (List Int)) × (Hd × Hd)) w' => (q1.1.1, q1.1.2) = r1 ∧ Cx w0 fp0 S0 w' [Bx b6 [(.int .i64 s__0), (.int .i64 s__1), (.int .i64 s__2), (s__3h).v, (s__4h).v, (s__5h).v, (s__6h).v], Es (List (List Int)) s__3 s__3h, Es (List (List Int)) s__4 s__4h, Es (List (List Int)) s__5 s__5h, Es (List (List Int)) s__6 s__6h, E (List (Int × List (List Int))) q1.1.1 q1.2.1, E (List (List Int)) q1.1.2 q1.2.2]) ?_ ?_
    ·
     refine sq ?_
     obtain ⟨a1, e, f9⟩ := bindS f7; clear f7
     refine boolO e ?_; clear e
     cases a1
     ·
      have f10 := condF f9; clear f9
      refine heldX H [12, 13] (.fst 0 (.fst 1 (.fst 3 (.fst 4 (.fst 6 (.fst 7 (.fst 2 (.fst 5 (.fst 8 (.act 9 (.fst 10 (.act 11 (.act 12 (.act 13 .done)))))))))))))) mixed [] trivial (by kernel_rfl) ?_
      clear H; intro w3 H
      have hX : Ext w3 w3 := Upd.refl _ _
      have H0 := H
      refine anyH (fun _ => fld gok rfl rfl rfl rfl ⟨rfl, rfl⟩) ?_
      refine anyH (fun _ => fld gok rfl rfl rfl rfl ⟨rfl, rfl⟩) ?_
      refine anyH (fun _ => fld gok rfl rfl rfl rfl ⟨rfl, rfl⟩) ?_
      refine load1X (H.bx 0 rfl (j := 2) rfl) ?_
      refine load1X (H.bx 0 rfl (j := 2) rfl) ?_
      refine load1X (H.bx 0 rfl (j := 5) rfl) ?_
      obtain ⟨y0, e, f11⟩ := bindS f10; clear f10
      have ey613 := e; clear e
      refine callFx (spec_ssTimes_c p_ s__2 s0_1 g0_1 s__5 s__5h y0 ey613) H ⟨Vw.own 6 rfl, Vw.sh 3 rfl, trivial⟩ ?_; clear H ey613
      rintro _ _ w4 ⟨h1, rfl, rfl⟩ hx H
      replace hX := hX.trans0 hx; clear hx
      refine hold hX ?_
      refine anyH (fun _ => build_ (cs := #[(.int .i64 s__2), (h1).v]) gok rfl rfl rfl ⟨rfl, rfl⟩) ?_
      replace H := H.sc (α := Int) s__2
      replace H := H.join (α := Int) (β := List (List Int))
      refine lit1 (α := Int × List (List Int)) (g := ((), h1)) gok rfl rfl rfl rfl rfl H ?_; clear H; intro h2 w6 hx H
      replace hX := hX.trans0 hx; clear hx
      refine hold hX ?_
      obtain ⟨a2, e, f12⟩ := bindS f11; clear f11
      replace H := H.sel [6, 0, 1, 2, 3, 4, 5, 7] rfl
      refine append_ (α := Int × List (List Int)) gok rfl rfl rfl rfl H e ?_; clear e H; intro h3 w7 H
      refine hold trivial ?_
      refine hold trivial ?_
      refine fld gok rfl rfl rfl rfl ?_
      refine load1 (H.bx 1 rfl (j := 0) rfl) ?_
      refine fld gok rfl rfl rfl rfl ?_
      refine load1 (H.bx 1 rfl (j := 3) rfl) ?_
      obtain ⟨y1, e, f13⟩ := bindS f12; clear f12
      have ey628 := e; clear e
      refine callF (spec_ssTimes_c p_ s__0 s0_1 g0_1 s__3 s__3h y1 ey628) (Γi := []) H ⟨Vw.own 6 rfl, Vw.sh 2 rfl, trivial⟩ ?_; clear H ey628
      rintro _ _ w8 ⟨h4, rfl, rfl⟩ H
      exact ⟨((a2, y1), (h3, h4)), ⟨rfl, rfl, rfl, rfl, rfl, rfl, trivial⟩, Option.some.inj f13, H.sel [2, 3, 4, 5, 6, 1, 0] rfl⟩
     ·
      have f14 := condT f9; clear f9
      refine heldX H [8, 9] (.fst 0 (.fst 1 (.fst 3 (.fst 2 (.fst 4 (.act 5 (.fst 6 (.act 7 (.act 8 (.act 9 .done)))))))))) mixed [] trivial (by kernel_rfl) ?_
      clear H; intro w9 H
      have hX : Ext w9 w9 := Upd.refl _ _
      have H0 := H
      refine anyH (fun _ => fld gok rfl rfl rfl rfl ⟨rfl, rfl⟩) ?_
      refine anyH (fun _ => fld gok rfl rfl rfl rfl ⟨rfl, rfl⟩) ?_
      refine load1X (H.bx 0 rfl (j := 2) rfl) ?_
      refine load1X (H.bx 0 rfl (j := 6) rfl) ?_
      obtain ⟨y2, e, f15⟩ := bindS f14; clear f14
      have ey635 := e; clear e
      refine callFx (spec_ssCopy_c s__6 s__6h y2 ey635) H ⟨Vw.sh 4 rfl, trivial⟩ ?_; clear H ey635
      rintro _ _ w11 ⟨h5, rfl, rfl⟩ hx H
      replace hX := hX.trans0 hx; clear hx
      refine hold hX ?_
      refine anyH (fun _ => build_ (cs := #[(.int .i64 s__2), (h5).v]) gok rfl rfl rfl ⟨rfl, rfl⟩) ?_
      replace H := H.sc (α := Int) s__2
      replace H := H.join (α := Int) (β := List (List Int))
      refine lit1 (α := Int × List (List Int)) (g := ((), h5)) gok rfl rfl rfl rfl rfl H ?_; clear H; intro h6 w12 hx H
      replace hX := hX.trans0 hx; clear hx
      refine hold hX ?_
      obtain ⟨a3, e, f16⟩ := bindS f15; clear f15
      replace H := H.sel [6, 0, 1, 2, 3, 4, 5, 7] rfl
      refine append_ (α := Int × List (List Int)) gok rfl rfl rfl rfl H e ?_; clear e H; intro h7 w13 H
      refine hold trivial ?_
      refine hold trivial ?_
      exact ⟨((a3, s0_1), (h7, g0_1)), ⟨rfl, rfl, rfl, rfl, rfl, rfl, trivial⟩, Option.some.inj f16, H.sel [1, 2, 3, 4, 5, 0, 6] rfl⟩
    ·
     clear f7 H
     rintro T1 ⟨⟨s1_0, s1_1⟩, ⟨g1_0, g1_1⟩⟩ w14 ⟨hr, (H : Cx w0 fp0 S0 w14 [Bx b6 [(.int .i64 s__0), (.int .i64 s__1), (.int .i64 s__2), (s__3h).v, (s__4h).v, (s__5h).v, (s__6h).v], Es (List (List Int)) s__3 s__3h, Es (List (List Int)) s__4 s__4h, Es (List (List Int)) s__5 s__5h, Es (List (List Int)) s__6 s__6h, E (List (Int × List (List Int))) s1_0 g1_0, E (List (List Int)) s1_1 g1_1])⟩
     subst hr
     obtain ⟨a4, e, f17⟩ := bindS f8; clear f8
     refine arO e ?_; clear e
     have hs := Option.some.inj f17; subst hs; clear f17
     exact ⟨(s1_0, s1_1, a4), (g1_0, g1_1), rfl, ⟨rfl, rfl, rfl, rfl, rfl, rfl, trivial⟩, H.sel [0, 1, 2, 3, 4, 5, 6] rfl⟩
 ·
  clear f0 H
  rintro T2 ⟨s2, g2⟩ w15 ⟨hr, (H : Cx w0 fp0 S0 w15 [E (List (Int × List (List Int))) s2 g2])⟩
  subst hr
  cases f1
  exact ⟨_, _, rfl, ⟨g2, rfl, rfl⟩, (H.sel [0] rfl).close ⟨cloE, trivial⟩⟩

theorem spec_l1Same_c (a_ : List Int) (a_h : Hd) (b_ : List Int) (b_h : Hd) (y : Bool) (hF : F_spec_l1Same a_ b_ = some y) :
  ConF Tryd.prog 96 #[(a_h).v, (b_h).v] [Es (List Int) a_ a_h, Es (List Int) b_ b_h] [] (fun v Γ' => v = (.bool y) ∧ Γ' = []) := by
 intro w0 S0 fp0 hI hS
 have H : Cx w0 fp0 S0 w0 [Es (List Int) a_ a_h, Es (List Int) b_ b_h] := Cx.start hI hS
 clear hI hS
 refine enterC (args := [_, _]) gok Tryd.func96 rfl _ rfl rfl rfl ?_
 refine sq ?_
 refine lenE (H.rs (α := List Int) 0 rfl).len ?_
 refine lenE (H.rs (α := List Int) 1 rfl).len ?_
 obtain ⟨a3, e, hF4⟩ := bindS hF; clear hF
 refine boolO e ?_; clear e
 cases a3
 ·
  have hF5 := condF hF4; clear hF4
  refine sq ?_
  refine lenE (H.rs (α := List Int) 0 rfl).len ?_
  have x0 := (H.rs (α := List Int) 0 rfl).max
  obtain ⟨r0, e, f0⟩ := bindS hF5; clear hF5
  refine loopO _ a_.length (fun (k6 : Nat) (_ : Unit) (_ : Unit) => [(0, (a_h).v), (1, (b_h).v), (12, (.int .i64 ((a_.length : Nat) : Int))), (13, (.int .i64 ((k6 : Nat) : Int)))]) (fun _ (_ : Unit) (_ : Unit) w' => Cx w0 fp0 S0 w' [Es (List Int) a_ a_h, Es (List Int) b_ b_h]) () () e ⟨rfl, rfl, rfl, rfl, trivial⟩ (H.sel [0, 1] rfl) ?_ ?_
  ·
   clear H e
   rintro T0 k6 _ _ w1 o0 hk (H : Cx w0 fp0 S0 w1 [Es (List Int) a_ a_h, Es (List Int) b_ b_h]) hrt f1
   refine boolE (z := true) (ltLen hk) ?_
   refine sq ?_
   refine sq ?_
   refine heldX H [] (.fst 0 (.fst 1 (.fst 2 (.fst 4 (.fst 5 (.fst 6 (.fst 3 (.fst 7 (.fst 8 .done))))))))) mixed [] trivial (by kernel_rfl) ?_
   clear H; intro w2 H
   have hX : Ext w2 w2 := Upd.refl _ _
   have H0 := H
   obtain ⟨a0, e, f2⟩ := bindS f1; clear f1
   obtain ⟨p0, m0, c0, c1, c2, c3⟩ := (H.rs (α := List Int) 0 rfl).at1 e; clear e
   refine idxE c0 c1 c2 ?_; clear c0 c1 c2
   obtain ⟨a1, e, f3⟩ := bindS f2; clear f2
   obtain ⟨p1, m1, c4, c5, c6, c7⟩ := (H.rs (α := List Int) 1 rfl).at1 e; clear e
   refine idxE c4 c5 c6 ?_; clear c4 c5 c6
   refine load1X c3 ?_; clear c3
   refine load1X c7 ?_; clear c7
   obtain ⟨a2, e, f4⟩ := bindS f3; clear f3
   refine boolO e ?_; clear e
   cases a2
   ·
    have f5 := condF f4; clear f4
    refine arK hk x0 ?_
    have hs := Option.some.inj f5; subst hs; clear f5
    exact ⟨(), (), rfl, ⟨rfl, rfl, rfl, rfl, trivial⟩, H.sel [0, 1] rfl⟩
   ·
    have f6 := condT f4; clear f4
    have hs := Option.some.inj f6; subst hs; clear f6
    have hr := hrt _ rfl; subst hr
    have f7 : some _ = some _ := f0
    cases f7
    exact ⟨_, _, rfl, ⟨rfl, rfl⟩, (H.sel [] rfl).close trivial⟩
  ·
   clear H e
   rintro T1 _ _ w3 hr (H : Cx w0 fp0 S0 w3 [Es (List Int) a_ a_h, Es (List Int) b_ b_h])
   subst hr
   refine boolE (z := false) geLen ?_
   refine sq ?_
   cases f0
   exact ⟨_, _, rfl, ⟨rfl, rfl⟩, (H.sel [] rfl).close trivial⟩
 ·
  have f8 := condT hF4; clear hF4
  cases f8
  exact ⟨_, _, rfl, ⟨rfl, rfl⟩, (H.sel [] rfl).close trivial⟩

theorem spec_spSame_c (a_ : List (List Int)) (a_h : Hd) (b_ : List (List Int)) (b_h : Hd) (y : Bool) (hF : F_spec_spSame a_ b_ = some y) :
  ConF Tryd.prog 57 #[(a_h).v, (b_h).v] [Es (List (List Int)) a_ a_h, Es (List (List Int)) b_ b_h] [] (fun v Γ' => v = (.bool y) ∧ Γ' = []) := by
 intro w0 S0 fp0 hI hS
 have H : Cx w0 fp0 S0 w0 [Es (List (List Int)) a_ a_h, Es (List (List Int)) b_ b_h] := Cx.start hI hS
 clear hI hS
 refine enterC (args := [_, _]) gok Tryd.func57 rfl _ rfl rfl rfl ?_
 refine sq ?_
 refine lenE (H.rs (α := List (List Int)) 0 rfl).len ?_
 refine lenE (H.rs (α := List (List Int)) 1 rfl).len ?_
 obtain ⟨a3, e, hF4⟩ := bindS hF; clear hF
 refine boolO e ?_; clear e
 cases a3
 ·
  have hF5 := condF hF4; clear hF4
  refine sq ?_
  refine lenE (H.rs (α := List (List Int)) 0 rfl).len ?_
  have x0 := (H.rs (α := List (List Int)) 0 rfl).max
  obtain ⟨r0, e, f0⟩ := bindS hF5; clear hF5
  refine loopO _ a_.length (fun (k6 : Nat) (_ : Unit) (_ : Unit) => [(0, (a_h).v), (1, (b_h).v), (12, (.int .i64 ((a_.length : Nat) : Int))), (13, (.int .i64 ((k6 : Nat) : Int)))]) (fun _ (_ : Unit) (_ : Unit) w' => Cx w0 fp0 S0 w' [Es (List (List Int)) a_ a_h, Es (List (List Int)) b_ b_h]) () () e ⟨rfl, rfl, rfl, rfl, trivial⟩ (H.sel [0, 1] rfl) ?_ ?_
  ·
   clear H e
   rintro T0 k6 _ _ w1 o0 hk (H : Cx w0 fp0 S0 w1 [Es (List (List Int)) a_ a_h, Es (List (List Int)) b_ b_h]) hrt f1
   refine boolE (z := true) (ltLen hk) ?_
   refine sq ?_
   refine sq ?_
   refine heldX H [] (.fst 0 (.fst 1 (.fst 2 (.fst 4 (.fst 5 (.fst 6 (.fst 3 (.fst 7 (.act 8 (.fst 9 .done)))))))))) mixed [] trivial (by kernel_rfl) ?_
   clear H; intro w2 H
   have hX : Ext w2 w2 := Upd.refl _ _
   have H0 := H
   obtain ⟨a0, e, f2⟩ := bindS f1; clear f1
   have HH := H; clear H; obtain ⟨p0, m0, h0, c0, c1, c2, c3, H⟩ := HH.elL 0 rfl e; clear HH
   clear e
   refine idxE c0 c1 c2 ?_; clear c0 c1 c2
   obtain ⟨a1, e, f3⟩ := bindS f2; clear f2
   have HH := H; clear H; obtain ⟨p1, m1, h1, c4, c5, c6, c7, H⟩ := HH.elL 2 rfl e; clear HH
   clear e
   refine idxE c4 c5 c6 ?_; clear c4 c5 c6
   refine load1X c3 ?_; clear c3
   refine load1X c7 ?_; clear c7
   obtain ⟨y0, e, f4⟩ := bindS f3; clear f3
   have ey67 := e; clear e
   refine callFx (spec_l1Same_c a0 h0 a1 h1 y0 ey67) H ⟨Vw.sh 1 rfl, Vw.sh 0 rfl, trivial⟩ ?_; clear H ey67
   rintro _ _ w3 ⟨rfl, rfl⟩ hx H
   replace hX := hX.trans0 hx; clear hx
   refine hold hX ?_
   obtain ⟨a2, e, f5⟩ := bindS f4; clear f4
   refine boolO e ?_; clear e
   cases a2
   ·
    have f6 := condF f5; clear f5
    refine arK hk x0 ?_
    have hs := Option.some.inj f6; subst hs; clear f6
    exact ⟨(), (), rfl, ⟨rfl, rfl, rfl, rfl, trivial⟩, H.sel [2, 3] rfl⟩
   ·
    have f7 := condT f5; clear f5
    have hs := Option.some.inj f7; subst hs; clear f7
    have hr := hrt _ rfl; subst hr
    have f8 : some _ = some _ := f0
    cases f8
    exact ⟨_, _, rfl, ⟨rfl, rfl⟩, (H.sel [] rfl).close trivial⟩
  ·
   clear H e
   rintro T1 _ _ w4 hr (H : Cx w0 fp0 S0 w4 [Es (List (List Int)) a_ a_h, Es (List (List Int)) b_ b_h])
   subst hr
   refine boolE (z := false) geLen ?_
   refine sq ?_
   cases f0
   exact ⟨_, _, rfl, ⟨rfl, rfl⟩, (H.sel [] rfl).close trivial⟩
 ·
  have f9 := condT hF4; clear hF4
  cases f9
  exact ⟨_, _, rfl, ⟨rfl, rfl⟩, (H.sel [] rfl).close trivial⟩

theorem spec_ssSame_c (p_ : Int) (a__0 : Int) (a__1 : Int) (a__2 : Int) (a__3 : List (List Int)) (a__3h : Hd) (a__4 : List (List Int)) (a__4h : Hd) (a__5 : List (List Int)) (a__5h : Hd) (a__6 : List (List Int)) (a__6h : Hd) (b__0 : Int) (b__1 : Int) (b__2 : Int) (b__3 : List (List Int)) (b__3h : Hd) (b__4 : List (List Int)) (b__4h : Hd) (b__5 : List (List Int)) (b__5h : Hd) (b__6 : List (List Int)) (b__6h : Hd) (y : Bool) (hF : F_spec_ssSame p_ (a__0, a__1, a__2, a__3, a__4, a__5, a__6) (b__0, b__1, b__2, b__3, b__4, b__5, b__6) = some y) :
  ConF Tryd.prog 30 #[(.int .i64 p_), (.agg #[(.int .i64 a__0), (.int .i64 a__1), (.int .i64 a__2), (a__3h).v, (a__4h).v, (a__5h).v, (a__6h).v]), (.agg #[(.int .i64 b__0), (.int .i64 b__1), (.int .i64 b__2), (b__3h).v, (b__4h).v, (b__5h).v, (b__6h).v])] [Es (List (List Int)) a__3 a__3h, Es (List (List Int)) a__4 a__4h, Es (List (List Int)) a__5 a__5h, Es (List (List Int)) a__6 a__6h, Es (List (List Int)) b__3 b__3h, Es (List (List Int)) b__4 b__4h, Es (List (List Int)) b__5 b__5h, Es (List (List Int)) b__6 b__6h] [] (fun v Γ' => v = (.bool y) ∧ Γ' = []) := by
 intro w0 S0 fp0 hI hS
 have H : Cx w0 fp0 S0 w0 [Es (List (List Int)) a__3 a__3h, Es (List (List Int)) a__4 a__4h, Es (List (List Int)) a__5 a__5h, Es (List (List Int)) a__6 a__6h, Es (List (List Int)) b__3 b__3h, Es (List (List Int)) b__4 b__4h, Es (List (List Int)) b__5 b__5h, Es (List (List Int)) b__6 b__6h] := Cx.start hI hS
 clear hI hS
 refine enterC (args := [_, _, _]) gok Tryd.func30 rfl _ rfl rfl rfl ?_
 refine box_ H ?_; clear H; intro b0 w9 hx H
 clear hx
 refine box_ H ?_; clear H; intro b1 w1 hx H
 clear hx
 refine fld gok rfl rfl rfl rfl ?_
 refine load1 (H.bx 1 rfl (j := 0) rfl) ?_
 refine fld gok rfl rfl rfl rfl ?_
 refine load1 (H.bx 0 rfl (j := 0) rfl) ?_
 obtain ⟨a0, e, f0⟩ := bindS hF; clear hF
 refine arO e ?_; clear e
 obtain ⟨a1, e, f1⟩ := bindS f0; clear f0
 refine arO e ?_; clear e
 refine heldX H [] (.fst 0 (.fst 2 (.fst 4 (.fst 6 (.fst 1 (.fst 5 (.act 3 (.act 7 (.fst 8 (.fst 9 .done)))))))))) mixed [] trivial (by kernel_rfl) ?_
 clear H; intro w2 H
 have hX : Ext w2 w2 := Upd.refl _ _
 have H0 := H
 refine loadNX [(.int .i64 a__0), (.int .i64 a__1), (.int .i64 a__2), (a__3h).v, (a__4h).v, (a__5h).v, (a__6h).v] rfl (fun j u hj => H.bx 1 rfl hj) ?_
 refine loadNX [(.int .i64 b__0), (.int .i64 b__1), (.int .i64 b__2), (b__3h).v, (b__4h).v, (b__5h).v, (b__6h).v] rfl (fun j u hj => H.bx 0 rfl hj) ?_
 obtain ⟨y0, e, f2⟩ := bindS f1; clear f1
 have ey20 := e; clear e
 refine callFx (spec_ssMarkov_c p_ a__0 a__1 a__2 a__3 a__3h a__4 a__4h a__5 a__5h a__6 a__6h a1 y0 ey20) H ⟨Vw.sh 2 rfl, Vw.sh 3 rfl, Vw.sh 4 rfl, Vw.sh 5 rfl, trivial⟩ ?_; clear H ey20
 rintro _ _ w3 ⟨h0, rfl, rfl⟩ hx H
 replace hX := hX.trans0 hx; clear hx
 refine hold hX ?_
 obtain ⟨y1, e, f3⟩ := bindS f2; clear f2
 have ey25 := e; clear e
 refine callFx (spec_ssMarkov_c p_ b__0 b__1 b__2 b__3 b__3h b__4 b__4h b__5 b__5h b__6 b__6h a1 y1 ey25) H ⟨Vw.sh 7 rfl, Vw.sh 8 rfl, Vw.sh 9 rfl, Vw.sh 10 rfl, trivial⟩ ?_; clear H ey25
 rintro _ _ w4 ⟨h1, rfl, rfl⟩ hx H
 replace hX := hX.trans0 hx; clear hx
 refine hold hX ?_
 refine sq ?_
 refine lenE (H.ro (α := List (Int × List (List Int))) 1 rfl).len ?_
 have x0 := (H.ro (α := List (Int × List (List Int))) 1 rfl).max
 obtain ⟨r0, e, f4⟩ := bindS f3; clear f3
 refine loopO _ y0.length (fun (k0 : Nat) (_ : Unit) (_ : Unit) => [(8, (h0).v), (9, (h1).v), (26, (.int .i64 ((y0.length : Nat) : Int))), (27, (.int .i64 ((k0 : Nat) : Int)))]) (fun _ (_ : Unit) (_ : Unit) w' => Cx w0 fp0 S0 w' [E (List (Int × List (List Int))) y0 h0, E (List (Int × List (List Int))) y1 h1]) () () e ⟨rfl, rfl, rfl, rfl, trivial⟩ (H.sel [1, 0] rfl) ?_ ?_
 ·
  clear H e
  rintro T0 k0 _ _ w5 o0 hk (H : Cx w0 fp0 S0 w5 [E (List (Int × List (List Int))) y0 h0, E (List (Int × List (List Int))) y1 h1]) hrt f5
  refine boolE (z := true) (ltLen hk) ?_
  refine sq ?_
  refine sq ?_
  refine heldX H [] (.fst 0 (.fst 1 (.fst 2 (.fst 3 (.fst 5 (.fst 6 (.fst 7 (.fst 8 (.fst 4 (.fst 9 (.act 10 (.fst 11 .done)))))))))))) mixed [] trivial (by kernel_rfl) ?_
  clear H; intro w6 H
  have hX : Ext w6 w6 := Upd.refl _ _
  have H0 := H
  obtain ⟨a2, e, f6⟩ := bindS f5; clear f5
  replace H := H.toEH (α := Int × List (List Int))
  have HH := H; clear H; obtain ⟨p0, m0, g0, c0, c1, c2, c3, H⟩ := HH.peek e; clear HH
  clear e
  obtain ⟨a2_0, a2_1⟩ := a2
  obtain ⟨_, h2⟩ := g0
  refine idxE c0 c1 c2 ?_
  refine anyH (fun _ => fld gok rfl rfl rfl rfl ⟨rfl, rfl⟩) ?_
  obtain ⟨a3, e, f7⟩ := bindS f6; clear f6
  replace H := H.sel [1, 0] rfl
  replace H := H.toEH (α := Int × List (List Int))
  have HH := H; clear H; obtain ⟨p1, m1, g1, c4, c5, c6, c7, H⟩ := HH.peek e; clear HH
  clear e
  obtain ⟨a3_0, a3_1⟩ := a3
  obtain ⟨_, h3⟩ := g1
  refine idxE c4 c5 c6 ?_
  refine anyH (fun _ => fld gok rfl rfl rfl rfl ⟨rfl, rfl⟩) ?_
  refine load1X (c3 1 _ rfl) ?_
  refine load1X (c7 1 _ rfl) ?_
  obtain ⟨y2, e, f8⟩ := bindS f7; clear f7
  have ey91 := e; clear e
  refine callFx (spec_spSame_c a2_1 h2 a3_1 h3 y2 ey91) H ⟨Vw.part (β := List (List Int)) (Vw.eh (α := Int × List (List Int)) (k := ⟨m0, (a2_0, a2_1), ((), h2)⟩) 1 rfl 0 rfl) a2_1 (h2 : Hd) (fun S h => (And.right h)), Vw.part (β := List (List Int)) (Vw.eh (α := Int × List (List Int)) (k := ⟨m1, (a3_0, a3_1), ((), h3)⟩) 0 rfl 0 rfl) a3_1 (h3 : Hd) (fun S h => (And.right h)), trivial⟩ ?_; clear H ey91
  rintro _ _ w7 ⟨rfl, rfl⟩ hx H
  replace hX := hX.trans0 hx; clear hx
  refine hold hX ?_
  obtain ⟨a4, e, f9⟩ := bindS f8; clear f8
  refine boolO e ?_; clear e
  replace H := H.ofEH
  replace H := H.sel [1, 0] rfl
  replace H := H.ofEH
  cases a4
  ·
   have f10 := condF f9; clear f9
   refine arK hk x0 ?_
   have hs := Option.some.inj f10; subst hs; clear f10
   exact ⟨(), (), rfl, ⟨rfl, rfl, rfl, rfl, trivial⟩, H.sel [0, 1] rfl⟩
  ·
   have f11 := condT f9; clear f9
   have hs := Option.some.inj f11; subst hs; clear f11
   have hr := hrt _ rfl; subst hr
   have f12 : some _ = some _ := f4
   cases f12
   exact ⟨_, _, rfl, ⟨rfl, rfl⟩, (H.sel [] rfl).close trivial⟩
 ·
  clear H e
  rintro T1 _ _ w8 hr (H : Cx w0 fp0 S0 w8 [E (List (Int × List (List Int))) y0 h0, E (List (Int × List (List Int))) y1 h1])
  subst hr
  refine boolE (z := false) geLen ?_
  refine sq ?_
  cases f4
  exact ⟨_, _, rfl, ⟨rfl, rfl⟩, (H.sel [] rfl).close trivial⟩

theorem spec_ssUnit_c (n_ : Int) (i_ : Int) (y : List Int) (hF : F_spec_ssUnit n_ i_ = some y) :
  ConF Tryd.prog 63 #[(.int .i64 n_), (.int .i64 i_)] [] [] (fun v Γ' => ∃ z0 : Hd, v = (z0).v ∧ Γ' = [E (List Int) y z0]) := by
 intro w0 S0 fp0 hI hS
 have H : Cx w0 fp0 S0 w0 [] := Cx.start hI hS
 clear hI hS
 refine enterC (args := [_, _]) gok Tryd.func63 rfl _ rfl rfl rfl ?_
 obtain ⟨a1, e, hF2⟩ := bindS hF; clear hF
 refine make_ (α := Int) gok rfl rfl rfl rfl (makeCO_of e) H ?_; clear e H; intro h4 w3 hx H
 clear hx
 obtain ⟨a0, e, f0⟩ := bindS hF2; clear hF2
 have ea12 := e; clear e
 obtain ⟨p0, m0, c6, c7, c8⟩ := (H.ro (α := List Int) 0 rfl).setp ea12
 refine idxE c6 c7 c8 ?_
 refine setS (α := Int) H c6 c7 ea12 ?_; clear H c6 c7 c8 ea12; intro w1 H
 cases f0
 exact ⟨_, _, rfl, ⟨h4, rfl, rfl⟩, (H.sel [0] rfl).close ⟨cloE, trivial⟩⟩

theorem spec_ssInverse_c (p_ : Int) (m_ : List (List Int)) (m_h : Hd) (y0 : List (List Int)) (y1 : Bool) (hF : F_spec_ssInverse p_ m_ = some (y0, y1)) :
  ConF Tryd.prog 34 #[(.int .i64 p_), (m_h).v] [Es (List (List Int)) m_ m_h] [] (fun v Γ' => ∃ z0 : Hd, v = (.tuple #[(z0).v, (.bool y1)]) ∧ Γ' = [E (List (List Int)) y0 z0]) := by
 intro w0 S0 fp0 hI hS
 have H : Cx w0 fp0 S0 w0 [Es (List (List Int)) m_ m_h] := Cx.start hI hS
 clear hI hS
 refine enterC (args := [_, _]) gok Tryd.func34 rfl _ rfl rfl rfl ?_
 refine lenE (H.rs (α := List (List Int)) 0 rfl).len ?_
 refine sq ?_
 refine lenE (H.rs (α := List (List Int)) 0 rfl).len ?_
 have x0 := (H.rs (α := List (List Int)) 0 rfl).max
 obtain ⟨r0, e, f0⟩ := bindS hF; clear hF
 replace H := H.nil (α := List Int)
 refine loopS _ m_.length (fun (k2 : Nat) (s0 : List (List Int)) (g0 : Hd) => [(0, (.int .i64 p_)), (6, (.int .i64 ((m_.length : Nat) : Int))), (7, (g0).v), (15, (m_h).v), (16, (.int .i64 ((m_.length : Nat) : Int))), (17, (.int .i64 ((k2 : Nat) : Int)))]) (fun _ (s0 : List (List Int)) (g0 : Hd) w' => Cx w0 fp0 S0 w' [E (List (List Int)) s0 g0, Es (List (List Int)) m_ m_h]) [] nilH e ⟨rfl, rfl, rfl, rfl, rfl, rfl, trivial⟩ (H.sel [0, 1] rfl) ?_ ?_
 ·
  clear H e
  rintro T0 k2 s0 g0 w1 o0 hk (H : Cx w0 fp0 S0 w1 [E (List (List Int)) s0 g0, Es (List (List Int)) m_ m_h]) f1
  refine boolE (z := true) (ltLen hk) ?_
  refine sq ?_
  refine sq ?_
  obtain ⟨a0, e, f2⟩ := bindS f1; clear f1
  have HH := H; clear H; obtain ⟨p0, m0, h0, c0, c1, c2, c3, H⟩ := HH.elL 1 rfl e; clear HH
  clear e
  refine idxE c0 c1 c2 ?_; clear c0 c1 c2
  refine load1 c3 ?_; clear c3
  obtain ⟨y2, e, f3⟩ := bindS f2; clear f2
  have ey96 := e; clear e
  refine callF (spec_l1Own_c a0 h0 y2 ey96) (Γi := []) H ⟨Vw.sh 0 rfl, trivial⟩ ?_; clear H ey96
  rintro _ _ w2 ⟨h1, rfl, rfl⟩ H
  obtain ⟨y3, e, f4⟩ := bindS f3; clear f3
  have ey101 := e; clear e
  refine callF (spec_ssUnit_c ((m_.length : Nat) : Int) ((k2 : Nat) : Int) y3 ey101) (Γi := []) H trivial ?_; clear H ey101
  rintro _ _ w3 ⟨h2, rfl, rfl⟩ H
  obtain ⟨a1, e, f5⟩ := bindS f4; clear f4
  replace H := H.sel [1, 0, 2, 3, 4] rfl
  refine appendS (α := Int) gok rfl rfl rfl rfl H (Vw.own 0 rfl) e ?_; clear e H; intro h3 w4 H
  refine lit1 (α := List Int) (g := h3) gok rfl rfl rfl rfl rfl H ?_; clear H; intro h4 w5 hx H
  clear hx
  obtain ⟨a2, e, f6⟩ := bindS f5; clear f5
  replace H := H.sel [3, 0, 1, 2, 4] rfl
  refine append_ (α := List Int) gok rfl rfl rfl rfl H e ?_; clear e H; intro h5 w6 H
  refine arK hk x0 ?_
  have hs := Option.some.inj f6; subst hs; clear f6
  exact ⟨h5, ⟨rfl, rfl, rfl, rfl, rfl, rfl, trivial⟩, H.sel [0, 3] rfl⟩
 ·
  clear H e
  rintro T1 g1 w7 (H : Cx w0 fp0 S0 w7 [E (List (List Int)) r0 g1, Es (List (List Int)) m_ m_h])
  refine boolE (z := false) geLen ?_
  refine sq ?_
  refine sq ?_
  obtain ⟨a3, e, f7⟩ := bindS f0; clear f0
  refine arO e ?_; clear e
  obtain ⟨y4, e, f8⟩ := bindS f7; clear f7
  have ey126 := e; clear e
  refine callF (spec_spReduce_c p_ a3 r0 g1 y4 ey126) (Γi := []) H ⟨Vw.own 0 rfl, trivial⟩ ?_; clear H ey126
  rintro _ _ w8 ⟨h6, rfl, rfl⟩ H
  refine lenE (H.ro (α := List (List Int)) 0 rfl).len ?_
  replace H := H.frz
  have x1 := (H.rs (α := List (List Int)) 0 rfl).max
  obtain ⟨r1, e, f9⟩ := bindS f8; clear f8
  replace H := H.nil (α := List Int)
  refine loopO _ y4.length (fun (k0 : Nat) (s1 : List (List Int)) (g2 : Hd) => [(6, (.int .i64 ((m_.length : Nat) : Int))), (10, (g2).v), (36, (h6).v), (37, (.int .i64 ((y4.length : Nat) : Int))), (38, (.int .i64 ((k0 : Nat) : Int)))]) (fun _ (s1 : List (List Int)) (g2 : Hd) w' => Cx w0 fp0 S0 w' [E (List (List Int)) s1 g2, Es (List (List Int)) y4 h6]) [] nilH e ⟨rfl, rfl, rfl, rfl, rfl, trivial⟩ (H.sel [0, 1] rfl) ?_ ?_
  ·
   clear H e
   rintro T2 k0 s1 g2 w9 o1 hk (H : Cx w0 fp0 S0 w9 [E (List (List Int)) s1 g2, Es (List (List Int)) y4 h6]) hrt f10
   refine boolE (z := true) (ltLen hk) ?_
   refine sq ?_
   refine sq ?_
   obtain ⟨a4, e, f11⟩ := bindS f10; clear f10
   have HH := H; clear H; obtain ⟨p1, m1, h7, c4, c5, c6, c7, H⟩ := HH.elL 1 rfl e; clear HH
   clear e
   refine idxE c4 c5 c6 ?_; clear c4 c5 c6
   refine load1 c7 ?_; clear c7
   refine sq ?_
   obtain ⟨y5, e, f12⟩ := bindS f11; clear f11
   have ey264 := e; clear e
   refine callF (spec_spLead_c a4 h7 y5 ey264) (Γi := []) H ⟨Vw.sh 0 rfl, trivial⟩ ?_; clear H ey264
   rintro _ _ w10 ⟨rfl, rfl⟩ H
   obtain ⟨a5, e, f13⟩ := bindS f12; clear f12
   refine boolO e ?_; clear e
   cases a5
   ·
    have f14 := condF f13; clear f13
    obtain ⟨a6, e, f15⟩ := bindS f14; clear f14
    refine slS (α := Int) (hi := none) gok rfl rfl H 0 rfl e rfl (congrArg (fun n : Nat => some (n : Int)) (H.rs (α := List Int) 0 rfl).len) ?_; clear e H; intro h8 H
    obtain ⟨y6, e, f16⟩ := bindS f15; clear f15
    have ey274 := e; clear e
    refine callF (spec_l1Own_c a6 h8 y6 ey274) (Γi := []) H ⟨Vw.sh 0 rfl, trivial⟩ ?_; clear H ey274
    rintro _ _ w11 ⟨h9, rfl, rfl⟩ H
    refine lit1 (α := List Int) (g := h9) gok rfl rfl rfl rfl rfl H ?_; clear H; intro h10 w12 hx H
    clear hx
    obtain ⟨a7, e, f17⟩ := bindS f16; clear f16
    replace H := H.sel [3, 0, 1, 2, 4] rfl
    refine append_ (α := List Int) gok rfl rfl rfl rfl H e ?_; clear e H; intro h11 w13 H
    refine arK hk x1 ?_
    have hs := Option.some.inj f17; subst hs; clear f17
    exact ⟨a7, h11, rfl, ⟨rfl, rfl, rfl, rfl, rfl, trivial⟩, H.sel [0, 3] rfl⟩
   ·
    have f18 := condT f13; clear f13
    have hs := Option.some.inj f18; subst hs; clear f18
    have hr := hrt _ rfl; subst hr
    have f19 : some _ = some _ := f9
    replace H := H.nil (α := List Int)
    cases f19
    exact ⟨_, _, rfl, ⟨nilH, rfl, rfl⟩, (H.sel [0] rfl).close ⟨cloE, trivial⟩⟩
  ·
   clear H e
   rintro T3 s2 g3 w14 hr (H : Cx w0 fp0 S0 w14 [E (List (List Int)) s2 g3, Es (List (List Int)) y4 h6])
   subst hr
   refine boolE (z := false) geLen ?_
   refine sq ?_
   cases f9
   exact ⟨_, _, rfl, ⟨g3, rfl, rfl⟩, (H.sel [0] rfl).close ⟨cloE, trivial⟩⟩

theorem spec_SimilarityOf_c (p_ : Int) (a__0 : Int) (a__1 : Int) (a__2 : Int) (a__3 : List (List Int)) (a__3h : Hd) (a__4 : List (List Int)) (a__4h : Hd) (a__5 : List (List Int)) (a__5h : Hd) (a__6 : List (List Int)) (a__6h : Hd) (b__0 : Int) (b__1 : Int) (b__2 : Int) (b__3 : List (List Int)) (b__3h : Hd) (b__4 : List (List Int)) (b__4h : Hd) (b__5 : List (List Int)) (b__5h : Hd) (b__6 : List (List Int)) (b__6h : Hd) (y0_0 : Int) (y0_1 : List (List Int)) (y1 : Bool) (hF : F_spec_SimilarityOf p_ (a__0, a__1, a__2, a__3, a__4, a__5, a__6) (b__0, b__1, b__2, b__3, b__4, b__5, b__6) = some ((y0_0, y0_1), y1)) :
  ConF Tryd.prog 7 #[(.int .i64 p_), (.agg #[(.int .i64 a__0), (.int .i64 a__1), (.int .i64 a__2), (a__3h).v, (a__4h).v, (a__5h).v, (a__6h).v]), (.agg #[(.int .i64 b__0), (.int .i64 b__1), (.int .i64 b__2), (b__3h).v, (b__4h).v, (b__5h).v, (b__6h).v])] [Es (List (List Int)) a__3 a__3h, Es (List (List Int)) a__4 a__4h, Es (List (List Int)) a__5 a__5h, Es (List (List Int)) a__6 a__6h, Es (List (List Int)) b__3 b__3h, Es (List (List Int)) b__4 b__4h, Es (List (List Int)) b__5 b__5h, Es (List (List Int)) b__6 b__6h] [] (fun v Γ' => ∃ z0 : Hd, v = (.tuple #[(.agg #[(.int .i64 y0_0), (z0).v]), (.bool y1)]) ∧ Γ' = [E (List (List Int)) y0_1 z0]) := by
 intro w0 S0 fp0 hI hS
 have H : Cx w0 fp0 S0 w0 [Es (List (List Int)) a__3 a__3h, Es (List (List Int)) a__4 a__4h, Es (List (List Int)) a__5 a__5h, Es (List (List Int)) a__6 a__6h, Es (List (List Int)) b__3 b__3h, Es (List (List Int)) b__4 b__4h, Es (List (List Int)) b__5 b__5h, Es (List (List Int)) b__6 b__6h] := Cx.start hI hS
 clear hI hS
 refine enterC (args := [_, _, _]) gok Tryd.func7 rfl _ rfl rfl rfl ?_
 refine box_ H ?_; clear H; intro b0 w9 hx H
 clear hx
 refine box_ H ?_; clear H; intro b1 w1 hx H
 clear hx
 refine alloc_ gok rfl H ?_; clear H; intro b2 w2 hx H
 clear hx
 refine sq ?_
 obtain ⟨r0, f0, f1⟩ := bindS hF; clear hF
 refine cut (fun (q0 : Bool) => [(0, (.int .i64 p_)), (4, (.pointer (some ⟨b0, 0, none⟩))), (5, (.pointer (some ⟨b1, 0, none⟩))), (6, (.pointer (some ⟨b2, 0, none⟩))), (40, (.bool q0))]) (fun (q0 : Bool) w' => q0 = r0 ∧ Cx w0 fp0 S0 w' [Bx b0 [(.int .i64 a__0), (.int .i64 a__1), (.int .i64 a__2), (a__3h).v, (a__4h).v, (a__5h).v, (a__6h).v], Es (List (List Int)) a__3 a__3h, Es (List (List Int)) a__4 a__4h, Es (List (List Int)) a__5 a__5h, Es (List (List Int)) a__6 a__6h, Bx b1 [(.int .i64 b__0), (.int .i64 b__1), (.int .i64 b__2), (b__3h).v, (b__4h).v, (b__5h).v, (b__6h).v], Es (List (List Int)) b__3 b__3h, Es (List (List Int)) b__4 b__4h, Es (List (List Int)) b__5 b__5h, Es (List (List Int)) b__6 b__6h, Bx b2 [(.int .i64 0), (.slice none 0 0)]]) ?_ ?_
 ·
  refine loadN [(.int .i64 a__0), (.int .i64 a__1), (.int .i64 a__2), (a__3h).v, (a__4h).v, (a__5h).v, (a__6h).v] rfl (fun j u hj => H.bx 2 rfl hj) ?_
  refine loadN [(.int .i64 b__0), (.int .i64 b__1), (.int .i64 b__2), (b__3h).v, (b__4h).v, (b__5h).v, (b__6h).v] rfl (fun j u hj => H.bx 1 rfl hj) ?_
  obtain ⟨y0, e, f2⟩ := bindS f0; clear f0
  have ey50 := e; clear e
  refine callF (spec_ssTwo_c p_ a__0 a__1 a__2 a__3 a__3h a__4 a__4h a__5 a__5h a__6 a__6h b__0 b__1 b__2 b__3 b__3h b__4 b__4h b__5 b__5h b__6 b__6h y0 ey50) (Γi := []) H ⟨Vw.sh 3 rfl, Vw.sh 4 rfl, Vw.sh 5 rfl, Vw.sh 6 rfl, Vw.sh 7 rfl, Vw.sh 8 rfl, Vw.sh 9 rfl, Vw.sh 10 rfl, trivial⟩ ?_; clear H ey50
  rintro _ _ w3 ⟨rfl, rfl⟩ H
  obtain ⟨a0, e, f3⟩ := bindS f2; clear f2
  refine boolO e ?_; clear e
  cases a0
  ·
   have f4 := condF f3; clear f3
   refine loadN [(.int .i64 a__0), (.int .i64 a__1), (.int .i64 a__2), (a__3h).v, (a__4h).v, (a__5h).v, (a__6h).v] rfl (fun j u hj => H.bx 2 rfl hj) ?_
   obtain ⟨y2, e, f5⟩ := bindS f4; clear f4
   have ey56 := e; clear e
   refine callF (spec_ssMinimal_c p_ a__0 a__1 a__2 a__3 a__3h a__4 a__4h a__5 a__5h a__6 a__6h y2 ey56) (Γi := []) H ⟨Vw.sh 3 rfl, Vw.sh 4 rfl, Vw.sh 5 rfl, Vw.sh 6 rfl, trivial⟩ ?_; clear H ey56
   rintro _ _ w4 ⟨rfl, rfl⟩ H
   obtain ⟨a1, e, f6⟩ := bindS f5; clear f5
   refine boolO e ?_; clear e
   cases a1
   ·
    have f7 := condF f6; clear f6
    refine loadN [(.int .i64 b__0), (.int .i64 b__1), (.int .i64 b__2), (b__3h).v, (b__4h).v, (b__5h).v, (b__6h).v] rfl (fun j u hj => H.bx 1 rfl hj) ?_
    obtain ⟨y3, e, f8⟩ := bindS f7; clear f7
    have ey62 := e; clear e
    refine callF (spec_ssMinimal_c p_ b__0 b__1 b__2 b__3 b__3h b__4 b__4h b__5 b__5h b__6 b__6h y3 ey62) (Γi := []) H ⟨Vw.sh 7 rfl, Vw.sh 8 rfl, Vw.sh 9 rfl, Vw.sh 10 rfl, trivial⟩ ?_; clear H ey62
    rintro _ _ w5 ⟨rfl, rfl⟩ H
    obtain ⟨a2, e, f9⟩ := bindS f8; clear f8
    refine boolO e ?_; clear e
    cases a2
    ·
     have f10 := condF f9; clear f9
     refine loadN [(.int .i64 a__0), (.int .i64 a__1), (.int .i64 a__2), (a__3h).v, (a__4h).v, (a__5h).v, (a__6h).v] rfl (fun j u hj => H.bx 2 rfl hj) ?_
     refine loadN [(.int .i64 b__0), (.int .i64 b__1), (.int .i64 b__2), (b__3h).v, (b__4h).v, (b__5h).v, (b__6h).v] rfl (fun j u hj => H.bx 1 rfl hj) ?_
     obtain ⟨y4, e, f11⟩ := bindS f10; clear f10
     have ey68 := e; clear e
     refine callF (spec_ssSame_c p_ a__0 a__1 a__2 a__3 a__3h a__4 a__4h a__5 a__5h a__6 a__6h b__0 b__1 b__2 b__3 b__3h b__4 b__4h b__5 b__5h b__6 b__6h y4 ey68) (Γi := []) H ⟨Vw.sh 3 rfl, Vw.sh 4 rfl, Vw.sh 5 rfl, Vw.sh 6 rfl, Vw.sh 7 rfl, Vw.sh 8 rfl, Vw.sh 9 rfl, Vw.sh 10 rfl, trivial⟩ ?_; clear H ey68
     rintro _ _ w6 ⟨rfl, rfl⟩ H
     obtain ⟨a3, e, f12⟩ := bindS f11; clear f11
     refine boolO e ?_; clear e
     exact ⟨a3, ⟨rfl, rfl, rfl, rfl, rfl, trivial⟩, Option.some.inj f12, H.sel [2, 3, 4, 5, 6, 1, 7, 8, 9, 10, 0] rfl⟩
    ·
     have f13 := condT f9; clear f9
     exact ⟨true, ⟨rfl, rfl, rfl, rfl, rfl, trivial⟩, Option.some.inj f13, H.sel [2, 3, 4, 5, 6, 1, 7, 8, 9, 10, 0] rfl⟩
   ·
    have f14 := condT f6; clear f6
    exact ⟨true, ⟨rfl, rfl, rfl, rfl, rfl, trivial⟩, Option.some.inj f14, H.sel [2, 3, 4, 5, 6, 1, 7, 8, 9, 10, 0] rfl⟩
  ·
   have f15 := condT f3; clear f3
   exact ⟨true, ⟨rfl, rfl, rfl, rfl, rfl, trivial⟩, Option.some.inj f15, H.sel [2, 3, 4, 5, 6, 1, 7, 8, 9, 10, 0] rfl⟩
 ·
  clear f0 H
  rintro T0 s0 w7 ⟨hr, (H : Cx w0 fp0 S0 w7 [Bx b0 [(.int .i64 a__0), (.int .i64 a__1), (.int .i64 a__2), (a__3h).v, (a__4h).v, (a__5h).v, (a__6h).v], Es (List (List Int)) a__3 a__3h, Es (List (List Int)) a__4 a__4h, Es (List (List Int)) a__5 a__5h, Es (List (List Int)) a__6 a__6h, Bx b1 [(.int .i64 b__0), (.int .i64 b__1), (.int .i64 b__2), (b__3h).v, (b__4h).v, (b__5h).v, (b__6h).v], Es (List (List Int)) b__3 b__3h, Es (List (List Int)) b__4 b__4h, Es (List (List Int)) b__5 b__5h, Es (List (List Int)) b__6 b__6h, Bx b2 [(.int .i64 0), (.slice none 0 0)]])⟩
  subst hr
  cases s0
  ·
   have f16 := condF f1; clear f1
   refine fld gok rfl rfl rfl rfl ?_
   refine load1 (H.bx 0 rfl (j := 0) rfl) ?_
   refine heldX H [] (.fst 0 (.fst 3 (.fst 1 (.fst 4 (.act 2 (.act 5 (.fst 6 (.fst 7 .done)))))))) mixed [] trivial (by kernel_rfl) ?_
   clear H; intro w8 H
   have hX : Ext w8 w8 := Upd.refl _ _
   have H0 := H
   refine anyH (fun _ => fld gok rfl rfl rfl rfl ⟨rfl, rfl⟩) ?_
   refine anyH (fun _ => fld gok rfl rfl rfl rfl ⟨rfl, rfl⟩) ?_
   refine load1X (H.bx 0 rfl (j := 4) rfl) ?_
   refine load1X (H.bx 5 rfl (j := 4) rfl) ?_
   obtain ⟨y5, e, f17⟩ := bindS f16; clear f16
   have ey80 := e; clear e
   refine callFx (spec_ssCopy_c a__4 a__4h y5 ey80) H ⟨Vw.sh 2 rfl, trivial⟩ ?_; clear H ey80
   rintro _ _ w10 ⟨h0, rfl, rfl⟩ hx H
   replace hX := hX.trans0 hx; clear hx
   refine hold hX ?_
   obtain ⟨y6, e, f18⟩ := bindS f17; clear f17
   have ey85 := e; clear e
   refine callFx (spec_ssCopy_c b__4 b__4h y6 ey85) H ⟨Vw.sh 8 rfl, trivial⟩ ?_; clear H ey85
   rintro _ _ w11 ⟨h1, rfl, rfl⟩ hx H
   replace hX := hX.trans0 hx; clear hx
   refine hold hX ?_
   obtain ⟨r1, f19, f20⟩ := bindS f18; clear f18
   refine cut (fun (q1 : (List (List Int) × List (List Int)) × (Hd × Hd)) => [(0, (.int .i64 p_)), (6, (.pointer (some ⟨b2, 0, none⟩))), (8, (.int .i64 a__0)), (11, (q1.2.1).v), (12, (q1.2.2).v)]) (fun (q1 : (List (List Int) × List (List Int)) × (Hd × Hd)) w' => (q1.1.1, q1.1.2) = r1 ∧ Cx w0 fp0 S0 w' [Bx b2 [(.int .i64 0), (.slice none 0 0)], E (List (Sh (List Int))) q1.1.1 q1.2.1, Es (List (List Int)) q1.1.2 q1.2.2]) ?_ ?_
   ·
    replace H := H.frz
    replace H := H.sel [1, 0, 2, 3, 4, 5, 6, 7, 8, 9, 10, 11, 12] rfl
    replace H := H.frz
    replace H := H.nil (α := Sh (List Int))
    replace H := H.nil (α := List Int)
    replace H := H.frz
    refine loopW _ (fun (s1 : List (List Int) × List (List Int) × List (List Int) × List (List Int)) (g0 : Hd × Hd × Hd × Hd) => [(0, (.int .i64 p_)), (4, (.pointer (some ⟨b0, 0, none⟩))), (5, (.pointer (some ⟨b1, 0, none⟩))), (6, (.pointer (some ⟨b2, 0, none⟩))), (8, (.int .i64 a__0)), (9, (g0.2.2.2).v), (10, (g0.1).v), (11, (g0.2.1).v), (12, (g0.2.2.1).v)]) (fun (s1 : List (List Int) × List (List Int) × List (List Int) × List (List Int)) (g0 : Hd × Hd × Hd × Hd) w' => Cx w0 fp0 S0 w' [Bx b0 [(.int .i64 a__0), (.int .i64 a__1), (.int .i64 a__2), (a__3h).v, (a__4h).v, (a__5h).v, (a__6h).v], Es (List (List Int)) a__3 a__3h, Es (List (List Int)) a__4 a__4h, Es (List (List Int)) a__5 a__5h, Es (List (List Int)) a__6 a__6h, Bx b1 [(.int .i64 b__0), (.int .i64 b__1), (.int .i64 b__2), (b__3h).v, (b__4h).v, (b__5h).v, (b__6h).v], Es (List (List Int)) b__3 b__3h, Es (List (List Int)) b__4 b__4h, Es (List (List Int)) b__5 b__5h, Es (List (List Int)) b__6 b__6h, Bx b2 [(.int .i64 0), (.slice none 0 0)], Es (List (List Int)) s1.2.2.2 g0.2.2.2, Es (List (List Int)) s1.1 g0.1, E (List (Sh (List Int))) s1.2.1 g0.2.1, Es (List (List Int)) s1.2.2.1 g0.2.2.1]) (y6, [], [], y5) (h1, nilH, nilH, h0) f19 ⟨rfl, rfl, rfl, rfl, rfl, rfl, rfl, rfl, rfl, trivial⟩ (H.sel [4, 5, 6, 7, 8, 9, 10, 11, 12, 13, 14, 2, 3, 1, 0] rfl) ?_
    ·
     clear H
     rintro T1 ⟨s1_0, s1_1, s1_2, s1_3⟩ ⟨g0_0, g0_1, g0_2, g0_3⟩ w13 o0 (H : Cx w0 fp0 S0 w13 [Bx b0 [(.int .i64 a__0), (.int .i64 a__1), (.int .i64 a__2), (a__3h).v, (a__4h).v, (a__5h).v, (a__6h).v], Es (List (List Int)) a__3 a__3h, Es (List (List Int)) a__4 a__4h, Es (List (List Int)) a__5 a__5h, Es (List (List Int)) a__6 a__6h, Bx b1 [(.int .i64 b__0), (.int .i64 b__1), (.int .i64 b__2), (b__3h).v, (b__4h).v, (b__5h).v, (b__6h).v], Es (List (List Int)) b__3 b__3h, Es (List (List Int)) b__4 b__4h, Es (List (List Int)) b__5 b__5h, Es (List (List Int)) b__6 b__6h, Bx b2 [(.int .i64 0), (.slice none 0 0)], Es (List (List Int)) s1_3 g0_3, Es (List (List Int)) s1_0 g0_0, E (List (Sh (List Int))) s1_1 g0_1, Es (List (List Int)) s1_2 g0_2]) hrt f21
     refine sq ?_
     refine lenE (H.rs (α := List (List Int)) 14 rfl).len ?_
     obtain ⟨a4, e, f22⟩ := bindS f21; clear f21
     refine boolO e ?_; clear e
     cases a4
     ·
      have f23 := condF f22; clear f22
      have hs := Option.some.inj f23; subst hs; clear f23
      have f24 : some _ = some _ := congrArg some (hrt _ rfl).symm
      exact ⟨((s1_1, s1_2), (g0_1, g0_2)), ⟨rfl, rfl, rfl, rfl, rfl, trivial⟩, Option.some.inj f24, H.sel [10, 13, 14] rfl⟩
     ·
      have f25 := condT f22; clear f22
      refine sq ?_
      refine lenE (H.rs (α := List (List Int)) 12 rfl).len ?_
      have x0 := (H.rs (α := List (List Int)) 12 rfl).max
      obtain ⟨r2, e, f26⟩ := bindS f25; clear f25
      refine loopS _ s1_0.length (fun (k0 : Nat) (s2 : List (List Int) × List (List Int)) (g1 : Hd × Hd) => [(0, (.int .i64 p_)), (4, (.pointer (some ⟨b0, 0, none⟩))), (5, (.pointer (some ⟨b1, 0, none⟩))), (6, (.pointer (some ⟨b2, 0, none⟩))), (8, (.int .i64 a__0)), (9, (g0_3).v), (10, (g0_0).v), (11, (g1.1).v), (12, (g1.2).v), (55, (.int .i64 ((s1_0.length : Nat) : Int))), (56, (.int .i64 ((k0 : Nat) : Int)))]) (fun _ (s2 : List (List Int) × List (List Int)) (g1 : Hd × Hd) w' => Cx w0 fp0 S0 w' [Bx b0 [(.int .i64 a__0), (.int .i64 a__1), (.int .i64 a__2), (a__3h).v, (a__4h).v, (a__5h).v, (a__6h).v], Es (List (List Int)) a__3 a__3h, Es (List (List Int)) a__4 a__4h, Es (List (List Int)) a__5 a__5h, Es (List (List Int)) a__6 a__6h, Bx b1 [(.int .i64 b__0), (.int .i64 b__1), (.int .i64 b__2), (b__3h).v, (b__4h).v, (b__5h).v, (b__6h).v], Es (List (List Int)) b__3 b__3h, Es (List (List Int)) b__4 b__4h, Es (List (List Int)) b__5 b__5h, Es (List (List Int)) b__6 b__6h, Bx b2 [(.int .i64 0), (.slice none 0 0)], Es (List (List Int)) s1_3 g0_3, Es (List (List Int)) s1_0 g0_0, E (List (Sh (List Int))) s2.1 g1.1, Es (List (List Int)) s2.2 g1.2]) (s1_1, s1_2) (g0_1, g0_2) e ⟨rfl, rfl, rfl, rfl, rfl, rfl, rfl, rfl, rfl, rfl, rfl, trivial⟩ (H.sel [0, 1, 2, 3, 4, 5, 6, 7, 8, 9, 10, 11, 12, 13, 14] rfl) ?_ ?_
      ·
       clear H e
       rintro T2 k0 ⟨s2_0, s2_1⟩ ⟨g1_0, g1_1⟩ w14 o1 hk (H : Cx w0 fp0 S0 w14 [Bx b0 [(.int .i64 a__0), (.int .i64 a__1), (.int .i64 a__2), (a__3h).v, (a__4h).v, (a__5h).v, (a__6h).v], Es (List (List Int)) a__3 a__3h, Es (List (List Int)) a__4 a__4h, Es (List (List Int)) a__5 a__5h, Es (List (List Int)) a__6 a__6h, Bx b1 [(.int .i64 b__0), (.int .i64 b__1), (.int .i64 b__2), (b__3h).v, (b__4h).v, (b__5h).v, (b__6h).v], Es (List (List Int)) b__3 b__3h, Es (List (List Int)) b__4 b__4h, Es (List (List Int)) b__5 b__5h, Es (List (List Int)) b__6 b__6h, Bx b2 [(.int .i64 0), (.slice none 0 0)], Es (List (List Int)) s1_3 g0_3, Es (List (List Int)) s1_0 g0_0, E (List (Sh (List Int))) s2_0 g1_0, Es (List (List Int)) s2_1 g1_1]) f27
       refine boolE (z := true) (ltLen hk) ?_
       refine sq ?_
       refine sq ?_
       obtain ⟨r3, f28, f29⟩ := bindS f27; clear f27
       refine heldJ H [2, 8, 5, 6, 7, 9, 0, 1, 3, 4] (.pure 1 (.pure 3 (.pure 4 (.alts (.alt 0 (.alts (.alt 2 (.act 5 (.act 6 (.act 7 (.act 8 (.act 9 .done))))) (.alt 5 (.alts (.alt 2 (.act 6 (.act 7 (.act 8 (.act 9 .done)))) (.alt 6 (.alts (.alt 2 (.act 7 (.act 8 (.act 9 .done))) (.alt 7 (.act 2 (.act 8 (.act 9 .done))) .no))) .no))) .no))) (.alt 5 (.alts (.alt 0 (.alts (.alt 2 (.act 6 (.act 7 (.act 8 (.act 9 .done)))) (.alt 6 (.alts (.alt 2 (.act 7 (.act 8 (.act 9 .done))) (.alt 7 (.act 2 (.act 8 (.act 9 .done))) .no))) .no))) (.alt 6 (.alts (.alt 0 (.alts (.alt 2 (.act 7 (.act 8 (.act 9 .done))) (.alt 7 (.act 2 (.act 8 (.act 9 .done))) .no))) (.alt 7 (.act 0 (.act 2 (.act 8 (.act 9 .done)))) .no))) .no))) .no)))))) mixed [] trivial (by kernel_rfl) (fun (q2 : List (List Int) × Hd) => [(0, (.int .i64 p_)), (4, (.pointer (some ⟨b0, 0, none⟩))), (5, (.pointer (some ⟨b1, 0, none⟩))), (6, (.pointer (some ⟨b2, 0, none⟩))), (8, (.int .i64 a__0)), (9, (g0_3).v), (10, (g0_0).v), (11, (g1_0).v), (12, (g1_1).v), (13, (.int .i64 ((k0 : Nat) : Int))), (14, (q2.2).v), (55, (.int .i64 ((s1_0.length : Nat) : Int))), (56, (.int .i64 ((k0 : Nat) : Int)))]) (fun (q2 : List (List Int) × Hd) w' => q2.1 = r3 ∧ Cx w0 fp0 S0 w' [Bx b0 [(.int .i64 a__0), (.int .i64 a__1), (.int .i64 a__2), (a__3h).v, (a__4h).v, (a__5h).v, (a__6h).v], Es (List (List Int)) a__3 a__3h, Es (List (List Int)) a__4 a__4h, Es (List (List Int)) a__5 a__5h, Es (List (List Int)) a__6 a__6h, Bx b1 [(.int .i64 b__0), (.int .i64 b__1), (.int .i64 b__2), (b__3h).v, (b__4h).v, (b__5h).v, (b__6h).v], Es (List (List Int)) b__3 b__3h, Es (List (List Int)) b__4 b__4h, Es (List (List Int)) b__5 b__5h, Es (List (List Int)) b__6 b__6h, Bx b2 [(.int .i64 0), (.slice none 0 0)], Es (List (List Int)) s1_3 g0_3, Es (List (List Int)) s1_0 g0_0, E (List (Sh (List Int))) s2_0 g1_0, Es (List (List Int)) s2_1 g1_1, E (List (Sh (List Int))) q2.1 q2.2]) ?_ ?_
       ·
        clear H; intro w16 H
        have hX : Ext w16 w16 := Upd.refl _ _
        have H0 := H
        refine both ?_ ?_
        ·
         refine lit0 (α := List Int) gok rfl rfl H ?_; clear H; intro h2 w17 hx H
         clear hx
         refine hold trivial ?_
         refine both ?_ ?_
         ·
          obtain ⟨a5, e, f30⟩ := bindS f28; clear f28
          replace H := H.frzE (α := List Int)
          refine appendSh (α := List Int) gok rfl rfl rfl rfl rfl H 14 rfl e ?_; clear e H; intro h3 w18 H
          refine hold trivial ?_
          obtain ⟨a6, e, f31⟩ := bindS f30; clear f30
          have HH := H; clear H; obtain ⟨p0, m0, h4, c0, c1, c2, c3, H⟩ := HH.elL 13 rfl e; clear HH
          have e0 := e; have e1 := c0; have e2 := c1
          clear e
          refine idxE c0 c1 c2 ?_; clear c0 c1 c2
          refine hold trivial ?_
          refine load1 c3 ?_; clear c3
          refine hold trivial ?_
          replace H := H.dup 0 rfl persS
          refine lit1 (α := Sh (List Int)) (g := h4) gok rfl rfl rfl rfl rfl H ?_; clear H; intro h5 w19 hx H
          clear hx
          refine hold trivial ?_
          obtain ⟨a7, e, f32⟩ := bindS f31; clear f31
          replace H := H.sel [2, 0, 1, 3, 4, 5, 6, 7, 8, 9, 10, 11, 12, 13, 14, 15, 16, 17] rfl
          refine append_ (α := Sh (List Int)) gok rfl rfl rfl rfl H e ?_; clear e H; intro h6 w20 H
          refine hold trivial ?_
          refine hold trivial ?_
          exact ⟨(a7, h6), ⟨rfl, rfl, rfl, rfl, rfl, rfl, rfl, rfl, rfl, rfl, rfl, rfl, rfl, trivial⟩, Option.some.inj f32, H.sel [2, 3, 4, 5, 6, 7, 8, 9, 10, 11, 12, 13, 14, 15, 16, 0] rfl⟩
         ·
          refine both ?_ ?_
          ·
           obtain ⟨a8, o2, f33⟩ := bindS f28; clear f28
           obtain ⟨a9, o3, f34⟩ := bindS f33; clear f33
           obtain ⟨a10, o4, f35⟩ := bindS f34; clear f34
           have e := o3; clear o3
           have HH := H; clear H; obtain ⟨p1, m1, h7, c4, c5, c6, c7, H⟩ := HH.elL 13 rfl e; clear HH
           have e3 := e; have e4 := c4; have e5 := c5
           clear e
           refine idxE c4 c5 c6 ?_; clear c4 c5 c6
           refine hold trivial ?_
           refine both ?_ ?_
           ·
            have e := o2; clear o2
            replace H := H.sel [1, 0, 2, 3, 4, 5, 6, 7, 8, 9, 10, 11, 12, 13, 14, 15, 16] rfl
            replace H := H.frzE (α := List Int)
            refine appendSh (α := List Int) gok rfl rfl rfl rfl rfl H 15 rfl e ?_; clear e H; intro h8 w21 H
            refine hold trivial ?_
            have HH := H; clear H; obtain ⟨h9, c8, H⟩ := HH.elL2 14 rfl e3 e4 e5; clear HH
            refine load1 c8 ?_; clear c8
            refine hold trivial ?_
            replace H := H.dup 0 rfl persS
            refine lit1 (α := Sh (List Int)) (g := h9) gok rfl rfl rfl rfl rfl H ?_; clear H; intro h10 w22 hx H
            clear hx
            refine hold trivial ?_
            have e := o4; clear o4
            replace H := H.sel [2, 0, 1, 3, 4, 5, 6, 7, 8, 9, 10, 11, 12, 13, 14, 15, 16, 17, 18] rfl
            refine append_ (α := Sh (List Int)) gok rfl rfl rfl rfl H e ?_; clear e H; intro h11 w23 H
            refine hold trivial ?_
            refine hold trivial ?_
            exact ⟨(a10, h11), ⟨rfl, rfl, rfl, rfl, rfl, rfl, rfl, rfl, rfl, rfl, rfl, rfl, rfl, trivial⟩, Option.some.inj f35, H.sel [3, 4, 5, 6, 7, 8, 9, 10, 11, 12, 13, 14, 15, 16, 17, 0] rfl⟩
           ·
            refine both ?_ ?_
            ·
             refine load1 c7 ?_; clear c7
             refine hold trivial ?_
             refine both ?_ ?_
             ·
              have e := o2; clear o2
              replace H := H.sel [1, 0, 2, 3, 4, 5, 6, 7, 8, 9, 10, 11, 12, 13, 14, 15, 16] rfl
              replace H := H.frzE (α := List Int)
              refine appendSh (α := List Int) gok rfl rfl rfl rfl rfl H 15 rfl e ?_; clear e H; intro h12 w24 H
              refine hold trivial ?_
              replace H := H.dup 1 rfl persS
              refine lit1 (α := Sh (List Int)) (g := h7) gok rfl rfl rfl rfl rfl H ?_; clear H; intro h13 w25 hx H
              clear hx
              refine hold trivial ?_
              have e := o4; clear o4
              replace H := H.sel [1, 0, 2, 3, 4, 5, 6, 7, 8, 9, 10, 11, 12, 13, 14, 15, 16, 17] rfl
              refine append_ (α := Sh (List Int)) gok rfl rfl rfl rfl H e ?_; clear e H; intro h14 w26 H
              refine hold trivial ?_
              refine hold trivial ?_
              exact ⟨(a10, h14), ⟨rfl, rfl, rfl, rfl, rfl, rfl, rfl, rfl, rfl, rfl, rfl, rfl, rfl, trivial⟩, Option.some.inj f35, H.sel [2, 3, 4, 5, 6, 7, 8, 9, 10, 11, 12, 13, 14, 15, 16, 0] rfl⟩
             ·
              refine both ?_ ?_
              ·
               replace H := H.dup 0 rfl persS
               refine lit1 (α := Sh (List Int)) (g := h7) gok rfl rfl rfl rfl rfl H ?_; clear H; intro h15 w27 hx H
               clear hx
               refine hold trivial ?_
               have e := o2; clear o2
               replace H := H.sel [2, 0, 1, 3, 4, 5, 6, 7, 8, 9, 10, 11, 12, 13, 14, 15, 16, 17] rfl
               replace H := H.frzE (α := List Int)
               refine appendSh (α := List Int) gok rfl rfl rfl rfl rfl H 16 rfl e ?_; clear e H; intro h16 w28 H
               refine hold trivial ?_
               have e := o4; clear o4
               refine append_ (α := Sh (List Int)) gok rfl rfl rfl rfl H e ?_; clear e H; intro h17 w29 H
               refine hold trivial ?_
               refine hold trivial ?_
               exact ⟨(a10, h17), ⟨rfl, rfl, rfl, rfl, rfl, rfl, rfl, rfl, rfl, rfl, rfl, rfl, rfl, trivial⟩, Option.some.inj f35, H.sel [2, 3, 4, 5, 6, 7, 8, 9, 10, 11, 12, 13, 14, 15, 16, 0] rfl⟩
              ·
               exact trivial
            ·
             exact trivial
          ·
           exact trivial
        ·
         refine both ?_ ?_
         ·
          obtain ⟨a11, o5, f36⟩ := bindS f28; clear f28
          obtain ⟨a12, o6, f37⟩ := bindS f36; clear f36
          obtain ⟨a13, o7, f38⟩ := bindS f37; clear f37
          have e := o6; clear o6
          have HH := H; clear H; obtain ⟨p2, m2, h18, c9, c10, c11, c12, H⟩ := HH.elL 12 rfl e; clear HH
          have e6 := e; have e7 := c9; have e8 := c10
          clear e
          refine idxE c9 c10 c11 ?_; clear c9 c10 c11
          refine hold trivial ?_
          refine both ?_ ?_
          ·
           refine lit0 (α := List Int) gok rfl rfl H ?_; clear H; intro h19 w30 hx H
           clear hx
           refine hold trivial ?_
           refine both ?_ ?_
           ·
            have e := o5; clear o5
            replace H := H.frzE (α := List Int)
            refine appendSh (α := List Int) gok rfl rfl rfl rfl rfl H 15 rfl e ?_; clear e H; intro h20 w31 H
            refine hold trivial ?_
            have HH := H; clear H; obtain ⟨h21, c13, H⟩ := HH.elL2 14 rfl e6 e7 e8; clear HH
            refine load1 c13 ?_; clear c13
            refine hold trivial ?_
            replace H := H.dup 0 rfl persS
            refine lit1 (α := Sh (List Int)) (g := h21) gok rfl rfl rfl rfl rfl H ?_; clear H; intro h22 w32 hx H
            clear hx
            refine hold trivial ?_
            have e := o7; clear o7
            replace H := H.sel [2, 0, 1, 3, 4, 5, 6, 7, 8, 9, 10, 11, 12, 13, 14, 15, 16, 17, 18] rfl
            refine append_ (α := Sh (List Int)) gok rfl rfl rfl rfl H e ?_; clear e H; intro h23 w33 H
            refine hold trivial ?_
            refine hold trivial ?_
            exact ⟨(a13, h23), ⟨rfl, rfl, rfl, rfl, rfl, rfl, rfl, rfl, rfl, rfl, rfl, rfl, rfl, trivial⟩, Option.some.inj f38, H.sel [3, 4, 5, 6, 7, 8, 9, 10, 11, 12, 13, 14, 15, 16, 17, 0] rfl⟩
           ·
            refine both ?_ ?_
            ·
             have HH := H; clear H; obtain ⟨h24, c14, H⟩ := HH.elL2 14 rfl e6 e7 e8; clear HH
             refine load1 c14 ?_; clear c14
             refine hold trivial ?_
             refine both ?_ ?_
             ·
              have e := o5; clear o5
              replace H := H.sel [1, 0, 2, 3, 4, 5, 6, 7, 8, 9, 10, 11, 12, 13, 14, 15, 16, 17] rfl
              replace H := H.frzE (α := List Int)
              refine appendSh (α := List Int) gok rfl rfl rfl rfl rfl H 16 rfl e ?_; clear e H; intro h25 w34 H
              refine hold trivial ?_
              replace H := H.dup 1 rfl persS
              refine lit1 (α := Sh (List Int)) (g := h24) gok rfl rfl rfl rfl rfl H ?_; clear H; intro h26 w35 hx H
              clear hx
              refine hold trivial ?_
              have e := o7; clear o7
              replace H := H.sel [1, 0, 2, 3, 4, 5, 6, 7, 8, 9, 10, 11, 12, 13, 14, 15, 16, 17, 18] rfl
              refine append_ (α := Sh (List Int)) gok rfl rfl rfl rfl H e ?_; clear e H; intro h27 w36 H
              refine hold trivial ?_
              refine hold trivial ?_
              exact ⟨(a13, h27), ⟨rfl, rfl, rfl, rfl, rfl, rfl, rfl, rfl, rfl, rfl, rfl, rfl, rfl, trivial⟩, Option.some.inj f38, H.sel [3, 4, 5, 6, 7, 8, 9, 10, 11, 12, 13, 14, 15, 16, 17, 0] rfl⟩
             ·
              refine both ?_ ?_
              ·
               replace H := H.dup 0 rfl persS
               refine lit1 (α := Sh (List Int)) (g := h24) gok rfl rfl rfl rfl rfl H ?_; clear H; intro h28 w37 hx H
               clear hx
               refine hold trivial ?_
               have e := o5; clear o5
               replace H := H.sel [2, 0, 1, 3, 4, 5, 6, 7, 8, 9, 10, 11, 12, 13, 14, 15, 16, 17, 18] rfl
               replace H := H.frzE (α := List Int)
               refine appendSh (α := List Int) gok rfl rfl rfl rfl rfl H 17 rfl e ?_; clear e H; intro h29 w38 H
               refine hold trivial ?_
               have e := o7; clear o7
               refine append_ (α := Sh (List Int)) gok rfl rfl rfl rfl H e ?_; clear e H; intro h30 w39 H
               refine hold trivial ?_
               refine hold trivial ?_
               exact ⟨(a13, h30), ⟨rfl, rfl, rfl, rfl, rfl, rfl, rfl, rfl, rfl, rfl, rfl, rfl, rfl, trivial⟩, Option.some.inj f38, H.sel [3, 4, 5, 6, 7, 8, 9, 10, 11, 12, 13, 14, 15, 16, 17, 0] rfl⟩
              ·
               exact trivial
            ·
             exact trivial
          ·
           refine both ?_ ?_
           ·
            refine load1 c12 ?_; clear c12
            refine hold trivial ?_
            refine both ?_ ?_
            ·
             refine lit0 (α := List Int) gok rfl rfl H ?_; clear H; intro h31 w40 hx H
             clear hx
             refine hold trivial ?_
             refine both ?_ ?_
             ·
              have e := o5; clear o5
              replace H := H.frzE (α := List Int)
              refine appendSh (α := List Int) gok rfl rfl rfl rfl rfl H 15 rfl e ?_; clear e H; intro h32 w41 H
              refine hold trivial ?_
              replace H := H.dup 1 rfl persS
              refine lit1 (α := Sh (List Int)) (g := h18) gok rfl rfl rfl rfl rfl H ?_; clear H; intro h33 w42 hx H
              clear hx
              refine hold trivial ?_
              have e := o7; clear o7
              replace H := H.sel [1, 0, 2, 3, 4, 5, 6, 7, 8, 9, 10, 11, 12, 13, 14, 15, 16, 17] rfl
              refine append_ (α := Sh (List Int)) gok rfl rfl rfl rfl H e ?_; clear e H; intro h34 w43 H
              refine hold trivial ?_
              refine hold trivial ?_
              exact ⟨(a13, h34), ⟨rfl, rfl, rfl, rfl, rfl, rfl, rfl, rfl, rfl, rfl, rfl, rfl, rfl, trivial⟩, Option.some.inj f38, H.sel [2, 3, 4, 5, 6, 7, 8, 9, 10, 11, 12, 13, 14, 15, 16, 0] rfl⟩
             ·
              refine both ?_ ?_
              ·
               replace H := H.dup 1 rfl persS
               refine lit1 (α := Sh (List Int)) (g := h18) gok rfl rfl rfl rfl rfl H ?_; clear H; intro h35 w44 hx H
               clear hx
               refine hold trivial ?_
               have e := o5; clear o5
               replace H := H.sel [1, 0, 2, 3, 4, 5, 6, 7, 8, 9, 10, 11, 12, 13, 14, 15, 16, 17] rfl
               replace H := H.frzE (α := List Int)
               refine appendSh (α := List Int) gok rfl rfl rfl rfl rfl H 16 rfl e ?_; clear e H; intro h36 w45 H
               refine hold trivial ?_
               have e := o7; clear o7
               refine append_ (α := Sh (List Int)) gok rfl rfl rfl rfl H e ?_; clear e H; intro h37 w46 H
               refine hold trivial ?_
               refine hold trivial ?_
               exact ⟨(a13, h37), ⟨rfl, rfl, rfl, rfl, rfl, rfl, rfl, rfl, rfl, rfl, rfl, rfl, rfl, trivial⟩, Option.some.inj f38, H.sel [2, 3, 4, 5, 6, 7, 8, 9, 10, 11, 12, 13, 14, 15, 16, 0] rfl⟩
              ·
               exact trivial
            ·
             refine both ?_ ?_
             ·
              replace H := H.dup 0 rfl persS
              refine lit1 (α := Sh (List Int)) (g := h18) gok rfl rfl rfl rfl rfl H ?_; clear H; intro h38 w47 hx H
              clear hx
              refine hold trivial ?_
              refine lit0 (α := List Int) gok rfl rfl H ?_; clear H; intro h39 w48 hx H
              clear hx
              refine hold trivial ?_
              have e := o5; clear o5
              replace H := H.frzE (α := List Int)
              refine appendSh (α := List Int) gok rfl rfl rfl rfl rfl H 16 rfl e ?_; clear e H; intro h40 w49 H
              refine hold trivial ?_
              have e := o7; clear o7
              refine append_ (α := Sh (List Int)) gok rfl rfl rfl rfl H e ?_; clear e H; intro h41 w50 H
              refine hold trivial ?_
              refine hold trivial ?_
              exact ⟨(a13, h41), ⟨rfl, rfl, rfl, rfl, rfl, rfl, rfl, rfl, rfl, rfl, rfl, rfl, rfl, trivial⟩, Option.some.inj f38, H.sel [2, 3, 4, 5, 6, 7, 8, 9, 10, 11, 12, 13, 14, 15, 16, 0] rfl⟩
             ·
              exact trivial
           ·
            exact trivial
         ·
          exact trivial
       ·
        clear f28 H
        rintro T3 ⟨s3, g2⟩ w51 ⟨hr, (H : Cx w0 fp0 S0 w51 [Bx b0 [(.int .i64 a__0), (.int .i64 a__1), (.int .i64 a__2), (a__3h).v, (a__4h).v, (a__5h).v, (a__6h).v], Es (List (List Int)) a__3 a__3h, Es (List (List Int)) a__4 a__4h, Es (List (List Int)) a__5 a__5h, Es (List (List Int)) a__6 a__6h, Bx b1 [(.int .i64 b__0), (.int .i64 b__1), (.int .i64 b__2), (b__3h).v, (b__4h).v, (b__5h).v, (b__6h).v], Es (List (List Int)) b__3 b__3h, Es (List (List Int)) b__4 b__4h, Es (List (List Int)) b__5 b__5h, Es (List (List Int)) b__6 b__6h, Bx b2 [(.int .i64 0), (.slice none 0 0)], Es (List (List Int)) s1_3 g0_3, Es (List (List Int)) s1_0 g0_0, E (List (Sh (List Int))) s2_0 g1_0, Es (List (List Int)) s2_1 g1_1, E (List (Sh (List Int))) s3 g2])⟩
        subst hr
        obtain ⟨y7, e, f39⟩ := bindS f29; clear f29
        have ey24633 := e; clear e
        refine callF (spec_spReduce_c p_ a__0 s3 g2 y7 ey24633) (Γi := []) H ⟨Vw.part (β := List (List Int)) (Vw.own (α := List (Sh (List Int))) 15 rfl) s3 g2 (fun S h => h), trivial⟩ ?_; clear H ey24633
        rintro _ _ w53 ⟨h42, rfl, rfl⟩ H
        refine lenE (H.ro (α := List (List Int)) 0 rfl).len ?_
        refine lenE (Rdb.len (α := Sh (List Int)) (H.ro (α := List (Sh (List Int))) 16 rfl)) ?_
        obtain ⟨a14, e, f40⟩ := bindS f39; clear f39
        refine boolO e ?_; clear e
        cases a14
        ·
         have f41 := condF f40; clear f40
         refine arK hk x0 ?_
         have hs := Option.some.inj f41; subst hs; clear f41
         exact ⟨(g1_0, g1_1), ⟨rfl, rfl, rfl, rfl, rfl, rfl, rfl, rfl, rfl, rfl, rfl, trivial⟩, H.sel [1, 2, 3, 4, 5, 6, 7, 8, 9, 10, 11, 12, 13, 14, 15] rfl⟩
        ·
         have f42 := condT f40; clear f40
         obtain ⟨a15, e, f43⟩ := bindS f42; clear f42
         have HH := H; clear H; obtain ⟨p3, m3, h43, c15, c16, c17, c18, H⟩ := HH.elL 12 rfl e; clear HH
         clear e
         refine idxE c15 c16 c17 ?_; clear c15 c16 c17
         refine load1 c18 ?_; clear c18
         replace H := H.dup 0 rfl persS
         refine lit1 (α := Sh (List Int)) (g := h43) gok rfl rfl rfl rfl rfl H ?_; clear H; intro h44 w54 hx H
         clear hx
         obtain ⟨a16, e, f44⟩ := bindS f43; clear f43
         replace H := H.sel [16, 0, 1, 2, 3, 4, 5, 6, 7, 8, 9, 10, 11, 12, 13, 14, 15, 17, 18] rfl
         refine append_ (α := Sh (List Int)) gok rfl rfl rfl rfl H e ?_; clear e H; intro h45 w55 H
         refine arK hk x0 ?_
         replace H := H.sel [17, 0, 1, 2, 3, 4, 5, 6, 7, 8, 9, 10, 11, 12, 13, 14, 15, 16] rfl
         replace H := Cx.reS (e' := Es (List (List Int)) s3 g2) rfl H.frz
         have hs := Option.some.inj f44; subst hs; clear f44
         exact ⟨(h45, g2), ⟨rfl, rfl, rfl, rfl, rfl, rfl, rfl, rfl, rfl, rfl, rfl, trivial⟩, H.sel [4, 5, 6, 7, 8, 9, 10, 11, 12, 13, 14, 15, 16, 1, 0] rfl⟩
      ·
       clear H e
       obtain ⟨s4_0, s4_1⟩ := r2
       rintro T4 ⟨g3_0, g3_1⟩ w56 (H : Cx w0 fp0 S0 w56 [Bx b0 [(.int .i64 a__0), (.int .i64 a__1), (.int .i64 a__2), (a__3h).v, (a__4h).v, (a__5h).v, (a__6h).v], Es (List (List Int)) a__3 a__3h, Es (List (List Int)) a__4 a__4h, Es (List (List Int)) a__5 a__5h, Es (List (List Int)) a__6 a__6h, Bx b1 [(.int .i64 b__0), (.int .i64 b__1), (.int .i64 b__2), (b__3h).v, (b__4h).v, (b__5h).v, (b__6h).v], Es (List (List Int)) b__3 b__3h, Es (List (List Int)) b__4 b__4h, Es (List (List Int)) b__5 b__5h, Es (List (List Int)) b__6 b__6h, Bx b2 [(.int .i64 0), (.slice none 0 0)], Es (List (List Int)) s1_3 g0_3, Es (List (List Int)) s1_0 g0_0, E (List (Sh (List Int))) s4_0 g3_0, Es (List (List Int)) s4_1 g3_1])
       refine boolE (z := false) geLen ?_
       refine sq ?_
       refine heldX H [] (.fst 0 (.fst 1 (.fst 2 (.fst 3 (.fst 6 (.fst 7 (.fst 8 (.fst 9 (.fst 4 (.fst 10 (.act 5 (.act 11 (.fst 12 (.fst 13 .done)))))))))))))) mixed [] trivial (by kernel_rfl) ?_
       clear H; intro w57 H
       have hX : Ext w57 w57 := Upd.refl _ _
       have H0 := H
       refine anyH (fun _ => fld gok rfl rfl rfl rfl ⟨rfl, rfl⟩) ?_
       refine anyH (fun _ => fld gok rfl rfl rfl rfl ⟨rfl, rfl⟩) ?_
       refine load1X (H.bx 0 rfl (j := 3) rfl) ?_
       refine load1X (H.bx 5 rfl (j := 3) rfl) ?_
       obtain ⟨y8, e, f45⟩ := bindS f26; clear f26
       have ey24668 := e; clear e
       refine callFx (spec_ssTimes_c p_ a__0 s1_3 g0_3 a__3 a__3h y8 ey24668) H ⟨Vw.sh 11 rfl, Vw.sh 1 rfl, trivial⟩ ?_; clear H ey24668
       rintro _ _ w59 ⟨h46, rfl, rfl⟩ hx H
       replace hX := hX.trans0 hx; clear hx
       refine hold hX ?_
       obtain ⟨y9, e, f46⟩ := bindS f45; clear f45
       have ey24673 := e; clear e
       refine callFx (spec_ssTimes_c p_ a__0 s1_0 g0_0 b__3 b__3h y9 ey24673) H ⟨Vw.sh 13 rfl, Vw.sh 7 rfl, trivial⟩ ?_; clear H ey24673
       rintro _ _ w60 ⟨h47, rfl, rfl⟩ hx H
       replace hX := hX.trans0 hx; clear hx
       refine hold hX ?_
       replace H := H.frz
       replace H := H.sel [1, 0, 2, 3, 4, 5, 6, 7, 8, 9, 10, 11, 12, 13, 14, 15, 16] rfl
       replace H := H.frz
       have hs := Option.some.inj f46; subst hs; clear f46
       exact ⟨(y9, s4_0, s4_1, y8), (h47, g3_0, g3_1, h46), rfl, ⟨rfl, rfl, rfl, rfl, rfl, rfl, rfl, rfl, rfl, trivial⟩, H.sel [2, 3, 4, 5, 6, 7, 8, 9, 10, 11, 12, 0, 1, 15, 16] rfl⟩
   ·
    clear f19 H
    rintro T5 ⟨⟨s5_0, s5_1⟩, ⟨g4_0, g4_1⟩⟩ w61 ⟨hr, (H : Cx w0 fp0 S0 w61 [Bx b2 [(.int .i64 0), (.slice none 0 0)], E (List (Sh (List Int))) s5_0 g4_0, Es (List (List Int)) s5_1 g4_1])⟩
    subst hr
    obtain ⟨y10, e, f47⟩ := bindS f20; clear f20
    obtain ⟨y10_0, y10_1⟩ := y10
    have ey24680 := e; clear e
    refine callF (spec_ssInverse_c p_ s5_1 g4_1 y10_0 y10_1 ey24680) (Γi := []) H ⟨Vw.sh 2 rfl, trivial⟩ ?_; clear H ey24680
    rintro _ _ w62 ⟨h48, rfl, rfl⟩ H
    obtain ⟨y11, e, f48⟩ := bindS f47; clear f47
    have ey24685 := e; clear e
    refine callF (spec_ssTimes_c p_ a__0 y10_0 h48 s5_0 g4_0 y11 ey24685) (Γi := []) H ⟨Vw.own 0 rfl, Vw.part (β := List (List Int)) (Vw.own (α := List (Sh (List Int))) 2 rfl) s5_0 g4_0 (fun S h => h), trivial⟩ ?_; clear H ey24685
    rintro _ _ w63 ⟨h49, rfl, rfl⟩ H
    refine build_ (cs := #[(.int .i64 a__0), (h49).v]) gok rfl rfl rfl ?_
    replace H := H.sel [2, 0, 1, 3, 4] rfl
    refine stA gok [(.int .i64 a__0), (h49).v] rfl H rfl rfl rfl ?_; clear H; intro w65 H
    refine loadN [(.int .i64 a__0), (h49).v] rfl (fun j u hj => H.bx 0 rfl hj) ?_
    cases f48
    exact ⟨_, _, rfl, ⟨h49, rfl, rfl⟩, (H.sel [1] rfl).close ⟨cloE, trivial⟩⟩
  ·
   have f49 := condT f1; clear f1
   refine build_ (cs := #[(.int .i64 0), (.slice none 0 0)]) gok rfl rfl rfl ?_
   replace H := H.sel [10, 0, 1, 2, 3, 4, 5, 6, 7, 8, 9] rfl
   refine stA gok [(.int .i64 0), (.slice none 0 0)] rfl H rfl rfl rfl ?_; clear H; intro w66 H
   refine loadN [(.int .i64 0), (.slice none 0 0)] rfl (fun j u hj => H.bx 0 rfl hj) ?_
   replace H := H.nil (α := List Int)
   cases f49
   exact ⟨_, _, rfl, ⟨nilH, rfl, rfl⟩, (H.sel [0] rfl).close ⟨cloE, trivial⟩⟩

theorem impl_isField_c (p_ : Int) (y : Bool) (hF : F_impl_isField p_ = some y) :
  ConF Tryd.prog 85 #[(.int .i64 p_)] [Gl 0 [.int .i64 2, .int .i64 3, .int .i64 5, .int .i64 7]] [] (fun v Γ' => v = (.bool y) ∧ Γ' = []) := by
 intro w0 S0 fp0 hI hS
 have H : Cx w0 fp0 S0 w0 [Gl 0 [.int .i64 2, .int .i64 3, .int .i64 5, .int .i64 7]] := Cx.start hI hS
 clear hI hS
 refine enterC (args := [_]) gok Tryd.func85 rfl _ rfl rfl rfl ?_
 refine sq ?_
 obtain ⟨r0, f0, f1⟩ := bindS hF; clear hF
 refine cut (fun (q0 : Bool) => [(0, (.int .i64 p_)), (10, (.bool q0))]) (fun (q0 : Bool) w' => q0 = r0 ∧ Cx w0 fp0 S0 w' [Gl 0 [.int .i64 2, .int .i64 3, .int .i64 5, .int .i64 7]]) ?_ ?_
 ·
  obtain ⟨a0, e, f2⟩ := bindS f0; clear f0
  refine boolO e ?_; clear e
  cases a0
  ·
   have f3 := condF f2; clear f2
   obtain ⟨a1, e, f4⟩ := bindS f3; clear f3
   refine boolO e ?_; clear e
   exact ⟨a1, ⟨rfl, rfl, trivial⟩, Option.some.inj f4, H.sel [0] rfl⟩
  ·
   have f5 := condT f2; clear f2
   exact ⟨true, ⟨rfl, rfl, trivial⟩, Option.some.inj f5, H.sel [0] rfl⟩
 ·
  clear f0 H
  rintro T0 s8 w1 ⟨hr, (H : Cx w0 fp0 S0 w1 [Gl 0 [.int .i64 2, .int .i64 3, .int .i64 5, .int .i64 7]])⟩
  subst hr
  cases s8
  ·
   have f6 := condF f1; clear f1
   refine sq ?_
   refine loadN [.int .i64 2, .int .i64 3, .int .i64 5, .int .i64 7] rfl (H.gl 0 rfl) ?_
   obtain ⟨a2, hn, f7⟩ := bindS f6; clear f6
   obtain ⟨r1, e, f8⟩ := bindS f7; clear f7
   refine loopO _ ((4 : Int).toNat) (fun (k0 : Nat) (_ : Unit) (_ : Unit) => [(0, (.int .i64 p_)), (11, (.agg #[.int .i64 2, .int .i64 3, .int .i64 5, .int .i64 7])), (12, (.int .i64 ((k0 : Nat) : Int)))]) (fun _ (_ : Unit) (_ : Unit) w' => Cx w0 fp0 S0 w' [Gl 0 [.int .i64 2, .int .i64 3, .int .i64 5, .int .i64 7]]) () () e ⟨rfl, rfl, rfl, trivial⟩ (H.sel [0] rfl) ?_ ?_
   ·
    clear H e
    rintro T1 k0 _ _ w2 o0 hk (H : Cx w0 fp0 S0 w2 [Gl 0 [.int .i64 2, .int .i64 3, .int .i64 5, .int .i64 7]]) hrt f9
    refine boolE (z := true) (ltNat hk) ?_
    refine sq ?_
    refine sq ?_
    obtain ⟨a3, e, f10⟩ := bindS f9; clear f9
    refine indexI gok rfl rfl rfl rfl rfl e ?_; clear e
    obtain ⟨r2, f11, f12⟩ := bindS f10; clear f10
    refine cut (fun (q1 : Bool) => [(0, (.int .i64 p_)), (11, (.agg #[.int .i64 2, .int .i64 3, .int .i64 5, .int .i64 7])), (12, (.int .i64 ((k0 : Nat) : Int))), (23, (.bool q1))]) (fun (q1 : Bool) w' => q1 = r2 ∧ Cx w0 fp0 S0 w' [Gl 0 [.int .i64 2, .int .i64 3, .int .i64 5, .int .i64 7]]) ?_ ?_
    ·
     obtain ⟨a4, e, f13⟩ := bindS f11; clear f11
     refine remO_ e ?_; clear e
     obtain ⟨a5, e, f14⟩ := bindS f13; clear f13
     refine boolO e ?_; clear e
     cases a5
     ·
      have f15 := condF f14; clear f14
      exact ⟨false, ⟨rfl, rfl, rfl, rfl, trivial⟩, Option.some.inj f15, H.sel [0] rfl⟩
     ·
      have f16 := condT f14; clear f14
      obtain ⟨a6, e, f17⟩ := bindS f16; clear f16
      refine boolO e ?_; clear e
      exact ⟨a6, ⟨rfl, rfl, rfl, rfl, trivial⟩, Option.some.inj f17, H.sel [0] rfl⟩
    ·
     clear f11 H
     rintro T2 s0 w3 ⟨hr, (H : Cx w0 fp0 S0 w3 [Gl 0 [.int .i64 2, .int .i64 3, .int .i64 5, .int .i64 7]])⟩
     subst hr
     cases s0
     ·
      have f18 := condF f12; clear f12
      refine arK hk (maxI hn) ?_
      have hs := Option.some.inj f18; subst hs; clear f18
      exact ⟨(), (), rfl, ⟨rfl, rfl, rfl, trivial⟩, H.sel [0] rfl⟩
     ·
      have f19 := condT f12; clear f12
      have hs := Option.some.inj f19; subst hs; clear f19
      have hr := hrt _ rfl; subst hr
      have f20 : some _ = some _ := f8
      cases f20
      exact ⟨_, _, rfl, ⟨rfl, rfl⟩, (H.sel [] rfl).close trivial⟩
   ·
    clear H e
    rintro T3 _ _ w4 hr (H : Cx w0 fp0 S0 w4 [Gl 0 [.int .i64 2, .int .i64 3, .int .i64 5, .int .i64 7]])
    subst hr
    refine boolE (z := false) geNat ?_
    refine sq ?_
    cases f8
    exact ⟨_, _, rfl, ⟨rfl, rfl⟩, (H.sel [] rfl).close trivial⟩
  ·
   have f21 := condT f1; clear f1
   cases f21
   exact ⟨_, _, rfl, ⟨rfl, rfl⟩, (H.sel [] rfl).close trivial⟩

theorem impl_within_c (n_ : Int) (low_ : Int) (high_ : Int) (y : Bool) (hF : F_impl_within n_ low_ high_ = some y) :
  ConF Tryd.prog 86 #[(.int .i64 n_), (.int .i64 low_), (.int .i64 high_)] [] [] (fun v Γ' => v = (.bool y) ∧ Γ' = []) := by
 intro w0 S0 fp0 hI hS
 have H : Cx w0 fp0 S0 w0 [] := Cx.start hI hS
 clear hI hS
 refine enterC (args := [_, _, _]) gok Tryd.func86 rfl _ rfl rfl rfl ?_
 obtain ⟨r9, f0, f1⟩ := bindS hF; clear hF
 refine cut (fun (q0 : Bool) => [(6, (.bool q0))]) (fun (q0 : Bool) w' => q0 = r9 ∧ Cx w0 fp0 S0 w' []) ?_ ?_
 ·
  obtain ⟨a0, e, f2⟩ := bindS f0; clear f0
  refine boolO e ?_; clear e
  cases a0
  ·
   have f3 := condF f2; clear f2
   exact ⟨false, ⟨rfl, trivial⟩, Option.some.inj f3, H.sel [] rfl⟩
  ·
   have f4 := condT f2; clear f2
   obtain ⟨a1, e, f5⟩ := bindS f4; clear f4
   refine boolO e ?_; clear e
   exact ⟨a1, ⟨rfl, trivial⟩, Option.some.inj f5, H.sel [] rfl⟩
 ·
  clear f0 H
  rintro T0 s7 w1 ⟨hr, (H : Cx w0 fp0 S0 w1 [])⟩
  subst hr
  cases f1
  exact ⟨_, _, rfl, ⟨rfl, rfl⟩, (H.sel [] rfl).close trivial⟩
end Go.Proofs.YtocpeclcoikdpaaDoor
