/-
 Contracts, printed by a program (wip/y/gen.py): each function of Go computes its partial function. Condition of each: its partial function yields a value.
-/
import Derived.Test.YtnlbhdepagkjgaaDoorZMan
namespace Go.Proofs.YtnlbhdepagkjgaaDoor
open Go Go.Proofs.YtnlbhdepagkjgaaDoor.RW
set_option maxRecDepth 100000
set_option maxHeartbeats 1000000
set_option linter.unusedVariables false

theorem laws_szIntS_c (a_ : List Int) (a_h : Hd) (left_ : Int) (y : Int) (hF : F_laws_szIntS a_ left_ = some y) :
  ConF Tryd.prog 113 #[(a_h).v, (.int .i64 left_)] [Es (List Int) a_ a_h] [] (fun v Γ' => v = (.int .i64 y) ∧ Γ' = []) := by
 intro w0 S0 fp0 hI hS
 have H : Cx w0 fp0 S0 w0 [Es (List Int) a_ a_h] := Cx.start hI hS
 clear hI hS
 refine enterC (args := [_, _]) gok Tryd.func113 rfl _ rfl rfl rfl ?_
 refine lenE (H.rs (α := List Int) 0 rfl).len ?_
 obtain ⟨a2, e, hF3⟩ := bindS hF; clear hF
 refine arO e ?_; clear e
 refine sq ?_
 obtain ⟨a4, e, hF5⟩ := bindS hF3; clear hF3
 refine boolO e ?_; clear e
 cases a4
 ·
  have hF6 := condF hF5; clear hF5
  cases hF6
  exact ⟨_, _, rfl, ⟨rfl, rfl⟩, (H.sel [] rfl).close trivial⟩
 ·
  have hF7 := condT hF5; clear hF5
  cases hF7
  exact ⟨_, _, rfl, ⟨rfl, rfl⟩, (H.sel [] rfl).close trivial⟩

theorem laws_szIntSS_c (a_ : List (List Int)) (a_h : Hd) (left_ : Int) (y : Int) (hF : F_laws_szIntSS a_ left_ = some y) :
  ConF Tryd.prog 61 #[(a_h).v, (.int .i64 left_)] [Es (List (List Int)) a_ a_h] [] (fun v Γ' => v = (.int .i64 y) ∧ Γ' = []) := by
 intro w0 S0 fp0 hI hS
 have H : Cx w0 fp0 S0 w0 [Es (List (List Int)) a_ a_h] := Cx.start hI hS
 clear hI hS
 refine enterC (args := [_, _]) gok Tryd.func61 rfl _ rfl rfl rfl ?_
 refine lenE (H.rs (α := List (List Int)) 0 rfl).len ?_
 obtain ⟨a2, e, hF3⟩ := bindS hF; clear hF
 refine arO e ?_; clear e
 refine sq ?_
 obtain ⟨a4, e, hF5⟩ := bindS hF3; clear hF3
 refine boolO e ?_; clear e
 cases a4
 ·
  have hF6 := condF hF5; clear hF5
  obtain ⟨r0, f0, f1⟩ := bindS hF6; clear hF6
  refine cut (fun (q0 : Int) => [(1, (.int .i64 q0))]) (fun (q0 : Int) w' => .inl q0 = r0 ∧ Cx w0 fp0 S0 w' []) ?_ ?_
  ·
   refine loopW _ (fun (s0 : Int × Int) (_ : Unit) => [(0, (a_h).v), (1, (.int .i64 s0.1)), (5, (.int .i64 s0.2))]) (fun (s0 : Int × Int) (_ : Unit) w' => Cx w0 fp0 S0 w' [Es (List (List Int)) a_ a_h]) (a2, 0) () f0 ⟨rfl, rfl, rfl, trivial⟩ (H.sel [0] rfl) ?_
   ·
    clear H
    rintro T0 ⟨s0_0, s0_1⟩ _ w1 o0 (H : Cx w0 fp0 S0 w1 [Es (List (List Int)) a_ a_h]) hrt f2
    refine sq ?_
    refine lenE (H.rs (α := List (List Int)) 0 rfl).len ?_
    obtain ⟨a0, e, f3⟩ := bindS f2; clear f2
    refine boolO e ?_; clear e
    cases a0
    ·
     have f4 := condF f3; clear f3
     have hs := Option.some.inj f4; subst hs; clear f4
     have f5 : some _ = some _ := congrArg some (hrt _ rfl).symm
     exact ⟨s0_0, ⟨rfl, trivial⟩, Option.some.inj f5, H.sel [] rfl⟩
    ·
     have f6 := condT f3; clear f3
     refine sq ?_
     obtain ⟨a1, e, f7⟩ := bindS f6; clear f6
     have HH := H; clear H; obtain ⟨p0, m0, h0, c0, c1, c2, c3, H⟩ := HH.elL 0 rfl e; clear HH
     clear e
     refine idxE c0 c1 c2 ?_; clear c0 c1 c2
     refine load1 c3 ?_; clear c3
     obtain ⟨y0, e, f8⟩ := bindS f7; clear f7
     have i0 := e; clear e
     refine callF (laws_szIntS_c a1 h0 s0_0 y0 i0) (Γi := []) H ⟨Vw.sh 0 rfl, trivial⟩ ?_; clear H i0
     rintro _ _ w2 ⟨rfl, rfl⟩ H
     obtain ⟨a3, e, f9⟩ := bindS f8; clear f8
     refine boolO e ?_; clear e
     cases a3
     ·
      have f10 := condF f9; clear f9
      obtain ⟨a5, e, f11⟩ := bindS f10; clear f10
      refine arO e ?_; clear e
      have hs := Option.some.inj f11; subst hs; clear f11
      exact ⟨(y0, a5), (), rfl, ⟨rfl, rfl, rfl, trivial⟩, H.sel [1] rfl⟩
     ·
      have f12 := condT f9; clear f9
      have hs := Option.some.inj f12; subst hs; clear f12
      have f13 : some _ = some _ := congrArg some (hrt _ rfl).symm
      have hs := Option.some.inj f13; subst hs; clear f13
      have f14 : some _ = some _ := f1; clear f1
      cases f14
      exact ⟨_, _, rfl, ⟨rfl, rfl⟩, (H.sel [] rfl).close trivial⟩
  ·
   clear f0 H
   rintro T1 s1 w3 ⟨hr, (H : Cx w0 fp0 S0 w3 [])⟩
   subst hr
   cases f1
   exact ⟨_, _, rfl, ⟨rfl, rfl⟩, (H.sel [] rfl).close trivial⟩
 ·
  have f15 := condT hF5; clear hF5
  cases f15
  exact ⟨_, _, rfl, ⟨rfl, rfl⟩, (H.sel [] rfl).close trivial⟩

theorem laws_szRelation_c (a__0 : Int) (a__1 : Int) (a__2 : List (List Int)) (a__2h : Hd) (left_ : Int) (y : Int) (hF : F_laws_szRelation (a__0, a__1, a__2) left_ = some y) :
  ConF Tryd.prog 36 #[(.agg #[(.int .i64 a__0), (.int .i64 a__1), (a__2h).v]), (.int .i64 left_)] [Es (List (List Int)) a__2 a__2h] [] (fun v Γ' => v = (.int .i64 y) ∧ Γ' = []) := by
 intro w0 S0 fp0 hI hS
 have H : Cx w0 fp0 S0 w0 [Es (List (List Int)) a__2 a__2h] := Cx.start hI hS
 clear hI hS
 refine enterC (args := [_, _]) gok Tryd.func36 rfl _ rfl rfl rfl ?_
 refine box_ H ?_; clear H; intro b3 w2 hx H
 clear hx
 refine fld gok rfl rfl rfl rfl ?_
 refine load1 (H.bx 0 rfl (j := 2) rfl) ?_
 obtain ⟨y5, e, hF6⟩ := bindS hF; clear hF
 have ey5 := e; clear e
 refine callF (laws_szIntSS_c a__2 a__2h left_ y5 ey5) (Γi := []) H ⟨Vw.sh 1 rfl, trivial⟩ ?_; clear H ey5
 rintro _ _ w7 ⟨rfl, rfl⟩ H
 refine sq ?_
 obtain ⟨a8, e, hF9⟩ := bindS hF6; clear hF6
 refine boolO e ?_; clear e
 cases a8
 ·
  have f0 := condF hF9; clear hF9
  cases f0
  exact ⟨_, _, rfl, ⟨rfl, rfl⟩, (H.sel [] rfl).close trivial⟩
 ·
  have f1 := condT hF9; clear hF9
  cases f1
  exact ⟨_, _, rfl, ⟨rfl, rfl⟩, (H.sel [] rfl).close trivial⟩

theorem laws_toIntS_c (a_ : List Int) (a_h : Hd) (y : List Int) (hF : F_laws_toIntS a_ = some y) :
  ConF Tryd.prog 32 #[(a_h).v] [Es (List Int) a_ a_h] [] (fun v Γ' => ∃ z0 : Hd, v = (z0).v ∧ Γ' = [E (List Int) y z0]) := by
 intro w0 S0 fp0 hI hS
 have H : Cx w0 fp0 S0 w0 [Es (List Int) a_ a_h] := Cx.start hI hS
 clear hI hS
 refine enterC (args := [_]) gok Tryd.func32 rfl _ rfl rfl rfl ?_
 refine lenE (H.rs (α := List Int) 0 rfl).len ?_
 obtain ⟨a2, e, hF3⟩ := bindS hF; clear hF
 refine make_ (α := Int) gok rfl rfl rfl rfl (makeCO_of e) H ?_; clear e H; intro h5 w4 hx H
 clear hx
 obtain ⟨r0, f0, f1⟩ := bindS hF3; clear hF3
 refine cut (fun (q0 : List Int) => [(3, (h5).v)]) (fun (q0 : List Int) w' => q0 = r0 ∧ Cx w0 fp0 S0 w' [E (List Int) q0 h5]) ?_ ?_
 ·
  refine loopW _ (fun (s0 : List Int × Int) (_ : Unit) => [(0, (a_h).v), (3, (h5).v), (4, (.int .i64 s0.2))]) (fun (s0 : List Int × Int) (_ : Unit) w' => Cx w0 fp0 S0 w' [Es (List Int) a_ a_h, E (List Int) s0.1 h5]) (a2, 0) () f0 ⟨rfl, rfl, rfl, trivial⟩ (H.sel [1, 0] rfl) ?_
  ·
   clear H
   rintro T0 ⟨s0_0, s0_1⟩ _ w1 o0 (H : Cx w0 fp0 S0 w1 [Es (List Int) a_ a_h, E (List Int) s0_0 h5]) hrt f2
   refine sq ?_
   refine lenE (H.rs (α := List Int) 0 rfl).len ?_
   obtain ⟨a0, e, f3⟩ := bindS f2; clear f2
   refine boolO e ?_; clear e
   cases a0
   ·
    have f4 := condF f3; clear f3
    have hs := Option.some.inj f4; subst hs; clear f4
    have f5 : some _ = some _ := congrArg some (hrt _ rfl).symm
    exact ⟨s0_0, ⟨rfl, trivial⟩, Option.some.inj f5, H.sel [1] rfl⟩
   ·
    have f6 := condT f3; clear f3
    refine sq ?_
    obtain ⟨a1, e, f7⟩ := bindS f6; clear f6
    obtain ⟨p0, m0, c0, c1, c2, c3⟩ := (H.rs (α := List Int) 0 rfl).at1 e; clear e
    refine idxE c0 c1 c2 ?_; clear c0 c1 c2
    refine load1 c3 ?_; clear c3
    obtain ⟨a3, e, f8⟩ := bindS f7; clear f7
    have i0 := e; clear e
    obtain ⟨p1, m1, c4, c5, c6⟩ := (H.ro (α := List Int) 1 rfl).setp i0
    refine idxE c4 c5 c6 ?_
    replace H := H.sel [1, 0] rfl
    refine setS (α := Int) H c4 c5 i0 ?_; clear H c4 c5 c6 i0; intro w2 H
    obtain ⟨a4, e, f9⟩ := bindS f8; clear f8
    refine arO e ?_; clear e
    have hs := Option.some.inj f9; subst hs; clear f9
    exact ⟨(a3, a4), (), rfl, ⟨rfl, rfl, rfl, trivial⟩, H.sel [1, 0] rfl⟩
 ·
  clear f0 H
  rintro T1 s1 w3 ⟨hr, (H : Cx w0 fp0 S0 w3 [E (List Int) s1 h5])⟩
  subst hr
  cases f1
  exact ⟨_, _, rfl, ⟨h5, rfl, rfl⟩, (H.sel [0] rfl).close ⟨cloE, trivial⟩⟩

theorem laws_toIntSS_c (a_ : List (List Int)) (a_h : Hd) (y : List (List Int)) (hF : F_laws_toIntSS a_ = some y) :
  ConF Tryd.prog 64 #[(a_h).v] [Es (List (List Int)) a_ a_h] [] (fun v Γ' => ∃ z0 : Hd, v = (z0).v ∧ Γ' = [E (List (List Int)) y z0]) := by
 intro w0 S0 fp0 hI hS
 have H : Cx w0 fp0 S0 w0 [Es (List (List Int)) a_ a_h] := Cx.start hI hS
 clear hI hS
 refine enterC (args := [_]) gok Tryd.func64 rfl _ rfl rfl rfl ?_
 refine lenE (H.rs (α := List (List Int)) 0 rfl).len ?_
 obtain ⟨a2, e, hF3⟩ := bindS hF; clear hF
 refine make_ (α := List Int) gok rfl rfl rfl rfl (makeCO_of e) H ?_; clear e H; intro h5 w4 hx H
 clear hx
 obtain ⟨r0, f0, f1⟩ := bindS hF3; clear hF3
 refine cut (fun (q0 : List (List Int)) => [(3, (h5).v)]) (fun (q0 : List (List Int)) w' => q0 = r0 ∧ Cx w0 fp0 S0 w' [E (List (List Int)) q0 h5]) ?_ ?_
 ·
  refine loopW _ (fun (s0 : List (List Int) × Int) (_ : Unit) => [(0, (a_h).v), (3, (h5).v), (4, (.int .i64 s0.2))]) (fun (s0 : List (List Int) × Int) (_ : Unit) w' => Cx w0 fp0 S0 w' [Es (List (List Int)) a_ a_h, E (List (List Int)) s0.1 h5]) (a2, 0) () f0 ⟨rfl, rfl, rfl, trivial⟩ (H.sel [1, 0] rfl) ?_
  ·
   clear H
   rintro T0 ⟨s0_0, s0_1⟩ _ w1 o0 (H : Cx w0 fp0 S0 w1 [Es (List (List Int)) a_ a_h, E (List (List Int)) s0_0 h5]) hrt f2
   refine sq ?_
   refine lenE (H.rs (α := List (List Int)) 0 rfl).len ?_
   obtain ⟨a0, e, f3⟩ := bindS f2; clear f2
   refine boolO e ?_; clear e
   cases a0
   ·
    have f4 := condF f3; clear f3
    have hs := Option.some.inj f4; subst hs; clear f4
    have f5 : some _ = some _ := congrArg some (hrt _ rfl).symm
    exact ⟨s0_0, ⟨rfl, trivial⟩, Option.some.inj f5, H.sel [1] rfl⟩
   ·
    have f6 := condT f3; clear f3
    refine sq ?_
    obtain ⟨a1, e, f7⟩ := bindS f6; clear f6
    have HH := H; clear H; obtain ⟨p0, m0, h0, c0, c1, c2, c3, H⟩ := HH.elL 0 rfl e; clear HH
    clear e
    refine idxE c0 c1 c2 ?_; clear c0 c1 c2
    refine load1 c3 ?_; clear c3
    obtain ⟨y0, e, f8⟩ := bindS f7; clear f7
    have i0 := e; clear e
    refine callF (laws_toIntS_c a1 h0 y0 i0) (Γi := []) H ⟨Vw.sh 0 rfl, trivial⟩ ?_; clear H i0
    rintro _ _ w2 ⟨h1, rfl, rfl⟩ H
    obtain ⟨a3, e, f9⟩ := bindS f8; clear f8
    have i1 := e; clear e
    obtain ⟨p1, m1, c4, c5, c6⟩ := (H.ro (α := List (List Int)) 3 rfl).setp i1
    refine idxE c4 c5 c6 ?_
    replace H := H.sel [3, 0, 1, 2] rfl
    refine setL H c4 c5 i1 ?_; clear H c4 c5 c6 i1; intro w3 H
    obtain ⟨a4, e, f10⟩ := bindS f9; clear f9
    refine arO e ?_; clear e
    have hs := Option.some.inj f10; subst hs; clear f10
    exact ⟨(a3, a4), (), rfl, ⟨rfl, rfl, rfl, trivial⟩, H.sel [2, 0] rfl⟩
 ·
  clear f0 H
  rintro T1 s1 w5 ⟨hr, (H : Cx w0 fp0 S0 w5 [E (List (List Int)) s1 h5])⟩
  subst hr
  cases f1
  exact ⟨_, _, rfl, ⟨h5, rfl, rfl⟩, (H.sel [0] rfl).close ⟨cloE, trivial⟩⟩

theorem laws_toRelation_c (a__0 : Int) (a__1 : Int) (a__2 : List (List Int)) (a__2h : Hd) (y_0 : Int) (y_1 : Int) (y_2 : List (List Int)) (hF : F_laws_toRelation (a__0, a__1, a__2) = some (y_0, y_1, y_2)) :
  ConF Tryd.prog 38 #[(.agg #[(.int .i64 a__0), (.int .i64 a__1), (a__2h).v])] [Es (List (List Int)) a__2 a__2h] [] (fun v Γ' => ∃ z0 : Hd, v = (.agg #[(.int .i64 y_0), (.int .i64 y_1), (z0).v]) ∧ Γ' = [E (List (List Int)) y_2 z0]) := by
 intro w0 S0 fp0 hI hS
 have H : Cx w0 fp0 S0 w0 [Es (List (List Int)) a__2 a__2h] := Cx.start hI hS
 clear hI hS
 refine enterC (args := [_]) gok Tryd.func38 rfl _ rfl rfl rfl ?_
 refine box_ H ?_; clear H; intro b3 w2 hx H
 clear hx
 refine alloc_ gok rfl H ?_; clear H; intro b6 w5 hx H
 clear hx
 refine alloc_ gok rfl H ?_; clear H; intro b9 w8 hx H
 clear hx
 refine fld gok rfl rfl rfl rfl ?_
 refine load1 (H.bx 2 rfl (j := 0) rfl) ?_
 refine fld gok rfl rfl rfl rfl ?_
 refine stB (j := 0) H rfl rfl ?_; clear H; intro w1 H
 refine fld gok rfl rfl rfl rfl ?_
 refine load1 (H.bx 2 rfl (j := 1) rfl) ?_
 refine fld gok rfl rfl rfl rfl ?_
 refine stB (j := 1) H rfl rfl ?_; clear H; intro w3 H
 refine fld gok rfl rfl rfl rfl ?_
 refine load1 (H.bx 2 rfl (j := 2) rfl) ?_
 obtain ⟨y0, e, f0⟩ := bindS hF; clear hF
 have i0 := e; clear e
 refine callF (laws_toIntSS_c a__2 a__2h y0 i0) (Γi := []) H ⟨Vw.sh 3 rfl, trivial⟩ ?_; clear H i0
 rintro _ _ w4 ⟨h0, rfl, rfl⟩ H
 refine fld gok rfl rfl rfl rfl ?_
 replace H := H.sel [1, 0, 2, 3, 4] rfl
 refine stB (j := 2) H rfl rfl ?_; clear H; intro w6 H
 refine loadN [(.int .i64 a__0), (.int .i64 a__1), (h0).v] rfl (fun j u hj => H.bx 0 rfl hj) ?_
 replace H := H.sel [2, 0, 1, 3, 4] rfl
 refine stA gok [(.int .i64 a__0), (.int .i64 a__1), (h0).v] rfl H rfl rfl rfl ?_; clear H; intro w7 H
 refine loadN [(.int .i64 a__0), (.int .i64 a__1), (h0).v] rfl (fun j u hj => H.bx 0 rfl hj) ?_
 cases f0
 exact ⟨_, _, rfl, ⟨h0, rfl, rfl⟩, (H.sel [2] rfl).close ⟨cloE, trivial⟩⟩

theorem spec_l1In_c (n_ : Int) (lo_ : Int) (hi_ : Int) (y : Bool) (hF : F_spec_l1In n_ lo_ hi_ = some y) :
  ConF Tryd.prog 75 #[(.int .i64 n_), (.int .i64 lo_), (.int .i64 hi_)] [] [] (fun v Γ' => v = (.bool y) ∧ Γ' = []) := by
 intro w0 S0 fp0 hI hS
 have H : Cx w0 fp0 S0 w0 [] := Cx.start hI hS
 clear hI hS
 refine enterC (args := [_, _, _]) gok Tryd.func75 rfl _ rfl rfl rfl ?_
 obtain ⟨r9, f0, f1⟩ := bindS hF; clear hF
 refine cut (fun (q0 : Bool) => [(6, (.bool q0))]) (fun (q0 : Bool) w' => q0 = r9 ∧ Cx w0 fp0 S0 w' []) ?_ ?_
 ·
  obtain ⟨a0, e, f2⟩ := bindS f0; clear f0
  refine boolO e ?_; clear e
  cases a0
  ·
   have f3 := condF f2; clear f2
   exact ⟨false, ⟨rfl, trivial⟩, Option.some.inj f3, H.sel [] rfl⟩
  ·
   have f4 := condT f2; clear f2
   obtain ⟨a1, e, f5⟩ := bindS f4; clear f4
   refine boolO e ?_; clear e
   exact ⟨a1, ⟨rfl, trivial⟩, Option.some.inj f5, H.sel [] rfl⟩
 ·
  clear f0 H
  rintro T0 s7 w1 ⟨hr, (H : Cx w0 fp0 S0 w1 [])⟩
  subst hr
  cases f1
  exact ⟨_, _, rfl, ⟨rfl, rfl⟩, (H.sel [] rfl).close trivial⟩

theorem spec_fdGood_c (p_ : Int) (y : Bool) (hF : F_spec_fdGood p_ = some y) :
  ConF Tryd.prog 117 #[(.int .i64 p_)] [] [] (fun v Γ' => v = (.bool y) ∧ Γ' = []) := by
 intro w0 S0 fp0 hI hS
 have H : Cx w0 fp0 S0 w0 [] := Cx.start hI hS
 clear hI hS
 refine enterC (args := [_]) gok Tryd.func117 rfl _ rfl rfl rfl ?_
 refine sq ?_
 obtain ⟨y1, e, hF2⟩ := bindS hF; clear hF
 have ey1 := e; clear e
 refine callF (spec_l1In_c p_ 2 97 y1 ey1) (Γi := []) H trivial ?_; clear H ey1
 rintro _ _ w3 ⟨rfl, rfl⟩ H
 obtain ⟨a4, e, hF5⟩ := bindS hF2; clear hF2
 refine boolO e ?_; clear e
 cases a4
 ·
  have hF6 := condF hF5; clear hF5
  obtain ⟨r0, f0, f1⟩ := bindS hF6; clear hF6
  refine cut (fun (q0 : Unit) => []) (fun (q0 : Unit) w' => .inl () = r0 ∧ Cx w0 fp0 S0 w' []) ?_ ?_
  ·
   refine loopW _ (fun (s0 : Int) (_ : Unit) => [(0, (.int .i64 p_)), (3, (.int .i64 s0))]) (fun (s0 : Int) (_ : Unit) w' => Cx w0 fp0 S0 w' []) 2 () f0 ⟨rfl, rfl, trivial⟩ (H.sel [] rfl) ?_
   ·
    clear H
    rintro T0 s0 _ w1 o0 (H : Cx w0 fp0 S0 w1 []) hrt f2
    refine sq ?_
    obtain ⟨a0, e, f3⟩ := bindS f2; clear f2
    refine arO e ?_; clear e
    obtain ⟨a1, e, f4⟩ := bindS f3; clear f3
    refine boolO e ?_; clear e
    cases a1
    ·
     have f5 := condF f4; clear f4
     have hs := Option.some.inj f5; subst hs; clear f5
     have f6 : some _ = some _ := congrArg some (hrt _ rfl).symm
     exact ⟨(), trivial, Option.some.inj f6, H.sel [] rfl⟩
    ·
     have f7 := condT f4; clear f4
     refine sq ?_
     obtain ⟨a2, e, f8⟩ := bindS f7; clear f7
     refine remO_ e ?_; clear e
     obtain ⟨a3, e, f9⟩ := bindS f8; clear f8
     refine boolO e ?_; clear e
     cases a3
     ·
      have f10 := condF f9; clear f9
      obtain ⟨a5, e, f11⟩ := bindS f10; clear f10
      refine arO e ?_; clear e
      have hs := Option.some.inj f11; subst hs; clear f11
      exact ⟨a5, (), rfl, ⟨rfl, rfl, trivial⟩, H.sel [] rfl⟩
     ·
      have f12 := condT f9; clear f9
      have hs := Option.some.inj f12; subst hs; clear f12
      have f13 : some _ = some _ := congrArg some (hrt _ rfl).symm
      have hs := Option.some.inj f13; subst hs; clear f13
      have f14 : some _ = some _ := f1; clear f1
      cases f14
      exact ⟨_, _, rfl, ⟨rfl, rfl⟩, (H.sel [] rfl).close trivial⟩
  ·
   clear f0 H
   rintro T1 _ w2 ⟨hr, (H : Cx w0 fp0 S0 w2 [])⟩
   subst hr
   cases f1
   exact ⟨_, _, rfl, ⟨rfl, rfl⟩, (H.sel [] rfl).close trivial⟩
 ·
  have f15 := condT hF5; clear hF5
  cases f15
  exact ⟨_, _, rfl, ⟨rfl, rfl⟩, (H.sel [] rfl).close trivial⟩

theorem spec_l1All_c (l_ : List Int) (l_h : Hd) (lo_ : Int) (hi_ : Int) (y : Bool) (hF : F_spec_l1All l_ lo_ hi_ = some y) :
  ConF Tryd.prog 137 #[(l_h).v, (.int .i64 lo_), (.int .i64 hi_)] [Es (List Int) l_ l_h] [] (fun v Γ' => v = (.bool y) ∧ Γ' = []) := by
 intro w0 S0 fp0 hI hS
 have H : Cx w0 fp0 S0 w0 [Es (List Int) l_ l_h] := Cx.start hI hS
 clear hI hS
 refine enterC (args := [_, _, _]) gok Tryd.func137 rfl _ rfl rfl rfl ?_
 refine sq ?_
 refine lenE (H.rs (α := List Int) 0 rfl).len ?_
 have x0 := (H.rs (α := List Int) 0 rfl).max
 obtain ⟨r0, e, f0⟩ := bindS hF; clear hF
 refine loopO _ l_.length (fun (k2 : Nat) (_ : Unit) (_ : Unit) => [(1, (.int .i64 lo_)), (2, (.int .i64 hi_)), (9, (l_h).v), (10, (.int .i64 ((l_.length : Nat) : Int))), (11, (.int .i64 ((k2 : Nat) : Int)))]) (fun _ (_ : Unit) (_ : Unit) w' => Cx w0 fp0 S0 w' [Es (List Int) l_ l_h]) () () e ⟨rfl, rfl, rfl, rfl, rfl, trivial⟩ (H.sel [0] rfl) ?_ ?_
 ·
  clear H e
  rintro T0 k2 _ _ w1 o0 hk (H : Cx w0 fp0 S0 w1 [Es (List Int) l_ l_h]) hrt f1
  refine boolE (z := true) (ltLen hk) ?_
  refine sq ?_
  refine sq ?_
  obtain ⟨a0, e, f2⟩ := bindS f1; clear f1
  obtain ⟨p0, m0, c0, c1, c2, c3⟩ := (H.rs (α := List Int) 0 rfl).at1 e; clear e
  refine idxE c0 c1 c2 ?_; clear c0 c1 c2
  refine load1 c3 ?_; clear c3
  obtain ⟨y0, e, f3⟩ := bindS f2; clear f2
  have i0 := e; clear e
  refine callF (spec_l1In_c a0 lo_ hi_ y0 i0) (Γi := []) H trivial ?_; clear H i0
  rintro _ _ w2 ⟨rfl, rfl⟩ H
  obtain ⟨a1, e, f4⟩ := bindS f3; clear f3
  refine boolO e ?_; clear e
  cases a1
  ·
   have f5 := condF f4; clear f4
   refine arK hk x0 ?_
   have hs := Option.some.inj f5; subst hs; clear f5
   exact ⟨(), (), rfl, ⟨rfl, rfl, rfl, rfl, rfl, trivial⟩, H.sel [0] rfl⟩
  ·
   have f6 := condT f4; clear f4
   have hs := Option.some.inj f6; subst hs; clear f6
   have hr := hrt _ rfl; subst hr
   have f7 : some _ = some _ := f0
   cases f7
   exact ⟨_, _, rfl, ⟨rfl, rfl⟩, (H.sel [] rfl).close trivial⟩
 ·
  clear H e
  rintro T1 _ _ w3 hr (H : Cx w0 fp0 S0 w3 [Es (List Int) l_ l_h])
  subst hr
  refine boolE (z := false) geLen ?_
  refine sq ?_
  cases f0
  exact ⟨_, _, rfl, ⟨rfl, rfl⟩, (H.sel [] rfl).close trivial⟩

theorem spec_fdIn_c (p_ : Int) (l_ : List Int) (l_h : Hd) (y : Bool) (hF : F_spec_fdIn p_ l_ = some y) :
  ConF Tryd.prog 91 #[(.int .i64 p_), (l_h).v] [Es (List Int) l_ l_h] [] (fun v Γ' => v = (.bool y) ∧ Γ' = []) := by
 intro w0 S0 fp0 hI hS
 have H : Cx w0 fp0 S0 w0 [Es (List Int) l_ l_h] := Cx.start hI hS
 clear hI hS
 refine enterC (args := [_, _]) gok Tryd.func91 rfl _ rfl rfl rfl ?_
 obtain ⟨a2, e, hF3⟩ := bindS hF; clear hF
 refine arO e ?_; clear e
 obtain ⟨y4, e, hF5⟩ := bindS hF3; clear hF3
 have ey4 := e; clear e
 refine callF (spec_l1All_c l_ l_h 0 a2 y4 ey4) (Γi := []) H ⟨Vw.sh 0 rfl, trivial⟩ ?_; clear H ey4
 rintro _ _ w6 ⟨rfl, rfl⟩ H
 cases hF5
 exact ⟨_, _, rfl, ⟨rfl, rfl⟩, (H.sel [] rfl).close trivial⟩

theorem spec_spRows_c (p_ : Int) (size_ : Int) (rows_ : List (List Int)) (rows_h : Hd) (y : Bool) (hF : F_spec_spRows p_ size_ rows_ = some y) :
  ConF Tryd.prog 151 #[(.int .i64 p_), (.int .i64 size_), (rows_h).v] [Es (List (List Int)) rows_ rows_h] [] (fun v Γ' => v = (.bool y) ∧ Γ' = []) := by
 intro w0 S0 fp0 hI hS
 have H : Cx w0 fp0 S0 w0 [Es (List (List Int)) rows_ rows_h] := Cx.start hI hS
 clear hI hS
 refine enterC (args := [_, _, _]) gok Tryd.func151 rfl _ rfl rfl rfl ?_
 refine sq ?_
 refine lenE (H.rs (α := List (List Int)) 0 rfl).len ?_
 have x0 := (H.rs (α := List (List Int)) 0 rfl).max
 obtain ⟨r0, e, f0⟩ := bindS hF; clear hF
 refine loopO _ rows_.length (fun (k2 : Nat) (_ : Unit) (_ : Unit) => [(0, (.int .i64 p_)), (1, (.int .i64 size_)), (9, (rows_h).v), (10, (.int .i64 ((rows_.length : Nat) : Int))), (11, (.int .i64 ((k2 : Nat) : Int)))]) (fun _ (_ : Unit) (_ : Unit) w' => Cx w0 fp0 S0 w' [Es (List (List Int)) rows_ rows_h]) () () e ⟨rfl, rfl, rfl, rfl, rfl, trivial⟩ (H.sel [0] rfl) ?_ ?_
 ·
  clear H e
  rintro T0 k2 _ _ w1 o0 hk (H : Cx w0 fp0 S0 w1 [Es (List (List Int)) rows_ rows_h]) hrt f1
  refine boolE (z := true) (ltLen hk) ?_
  refine sq ?_
  refine sq ?_
  obtain ⟨a0, e, f2⟩ := bindS f1; clear f1
  have HH := H; clear H; obtain ⟨p0, m0, h0, c0, c1, c2, c3, H⟩ := HH.elL 0 rfl e; clear HH
  clear e
  refine idxE c0 c1 c2 ?_; clear c0 c1 c2
  refine load1 c3 ?_; clear c3
  obtain ⟨r1, f3, f4⟩ := bindS f2; clear f2
  refine cut (fun (q0 : Bool) => [(0, (.int .i64 p_)), (1, (.int .i64 size_)), (9, (rows_h).v), (10, (.int .i64 ((rows_.length : Nat) : Int))), (11, (.int .i64 ((k2 : Nat) : Int))), (24, (.bool q0))]) (fun (q0 : Bool) w' => q0 = r1 ∧ Cx w0 fp0 S0 w' [Es (List (List Int)) rows_ rows_h]) ?_ ?_
  ·
   refine lenE (H.rs (α := List Int) 0 rfl).len ?_
   obtain ⟨a1, e, f5⟩ := bindS f3; clear f3
   refine boolO e ?_; clear e
   cases a1
   ·
    have f6 := condF f5; clear f5
    obtain ⟨y0, e, f7⟩ := bindS f6; clear f6
    have i0 := e; clear e
    refine callF (spec_fdIn_c p_ a0 h0 y0 i0) (Γi := []) H ⟨Vw.sh 0 rfl, trivial⟩ ?_; clear H i0
    rintro _ _ w2 ⟨rfl, rfl⟩ H
    obtain ⟨a2, e, f8⟩ := bindS f7; clear f7
    refine boolO e ?_; clear e
    exact ⟨a2, ⟨rfl, rfl, rfl, rfl, rfl, rfl, trivial⟩, Option.some.inj f8, H.sel [1] rfl⟩
   ·
    have f9 := condT f5; clear f5
    exact ⟨true, ⟨rfl, rfl, rfl, rfl, rfl, rfl, trivial⟩, Option.some.inj f9, H.sel [1] rfl⟩
  ·
   clear f3 H
   rintro T1 s0 w3 ⟨hr, (H : Cx w0 fp0 S0 w3 [Es (List (List Int)) rows_ rows_h])⟩
   subst hr
   cases s0
   ·
    have f10 := condF f4; clear f4
    refine arK hk x0 ?_
    have hs := Option.some.inj f10; subst hs; clear f10
    exact ⟨(), (), rfl, ⟨rfl, rfl, rfl, rfl, rfl, trivial⟩, H.sel [0] rfl⟩
   ·
    have f11 := condT f4; clear f4
    have hs := Option.some.inj f11; subst hs; clear f11
    have hr := hrt _ rfl; subst hr
    have f12 : some _ = some _ := f0
    cases f12
    exact ⟨_, _, rfl, ⟨rfl, rfl⟩, (H.sel [] rfl).close trivial⟩
 ·
  clear H e
  rintro T2 _ _ w4 hr (H : Cx w0 fp0 S0 w4 [Es (List (List Int)) rows_ rows_h])
  subst hr
  refine boolE (z := false) geLen ?_
  refine sq ?_
  cases f0
  exact ⟨_, _, rfl, ⟨rfl, rfl⟩, (H.sel [] rfl).close trivial⟩

theorem spec_l1Own_c (l_ : List Int) (l_h : Hd) (y : List Int) (hF : F_spec_l1Own l_ = some y) :
  ConF Tryd.prog 118 #[(l_h).v] [Es (List Int) l_ l_h] [] (fun v Γ' => ∃ z0 : Hd, v = (z0).v ∧ Γ' = [E (List Int) y z0]) := by
 intro w0 S0 fp0 hI hS
 have H : Cx w0 fp0 S0 w0 [Es (List Int) l_ l_h] := Cx.start hI hS
 clear hI hS
 refine enterC (args := [_]) gok Tryd.func118 rfl _ rfl rfl rfl ?_
 refine lit0 (α := Int) gok rfl rfl H ?_; clear H; intro h3 w2 hx H
 clear hx
 obtain ⟨a5, e, hF6⟩ := bindS hF; clear hF
 refine appendS (α := Int) gok rfl rfl rfl rfl H (Vw.sh 0 rfl) e ?_; clear e H; intro h8 w7 H
 cases hF6
 exact ⟨_, _, rfl, ⟨h8, rfl, rfl⟩, (H.sel [0] rfl).close ⟨cloE, trivial⟩⟩

theorem spec_fdInv_c (p_ : Int) (a_ : Int) (y : Int) (hF : F_spec_fdInv p_ a_ = some y) :
  ConF Tryd.prog 119 #[(.int .i64 p_), (.int .i64 a_)] [] [] (fun v Γ' => v = (.int .i64 y) ∧ Γ' = []) := by
 intro w0 S0 fp0 hI hS
 have H : Cx w0 fp0 S0 w0 [] := Cx.start hI hS
 clear hI hS
 refine enterC (args := [_, _]) gok Tryd.func119 rfl _ rfl rfl rfl ?_
 obtain ⟨r0, f0, f1⟩ := bindS hF; clear hF
 refine cut (fun (q0 : Unit) => []) (fun (q0 : Unit) w' => .inl () = r0 ∧ Cx w0 fp0 S0 w' []) ?_ ?_
 ·
  refine loopW _ (fun (s0 : Int) (_ : Unit) => [(0, (.int .i64 p_)), (1, (.int .i64 a_)), (5, (.int .i64 s0))]) (fun (s0 : Int) (_ : Unit) w' => Cx w0 fp0 S0 w' []) 1 () f0 ⟨rfl, rfl, rfl, trivial⟩ (H.sel [] rfl) ?_
  ·
   clear H
   rintro T0 s0 _ w1 o0 (H : Cx w0 fp0 S0 w1 []) hrt f2
   refine sq ?_
   obtain ⟨a0, e, f3⟩ := bindS f2; clear f2
   refine boolO e ?_; clear e
   cases a0
   ·
    have f4 := condF f3; clear f3
    have hs := Option.some.inj f4; subst hs; clear f4
    have f5 : some _ = some _ := congrArg some (hrt _ rfl).symm
    exact ⟨(), trivial, Option.some.inj f5, H.sel [] rfl⟩
   ·
    have f6 := condT f3; clear f3
    refine sq ?_
    obtain ⟨a1, e, f7⟩ := bindS f6; clear f6
    refine arO e ?_; clear e
    obtain ⟨a2, e, f8⟩ := bindS f7; clear f7
    refine remO_ e ?_; clear e
    obtain ⟨a3, e, f9⟩ := bindS f8; clear f8
    refine boolO e ?_; clear e
    cases a3
    ·
     have f10 := condF f9; clear f9
     obtain ⟨a4, e, f11⟩ := bindS f10; clear f10
     refine arO e ?_; clear e
     have hs := Option.some.inj f11; subst hs; clear f11
     exact ⟨a4, (), rfl, ⟨rfl, rfl, rfl, trivial⟩, H.sel [] rfl⟩
    ·
     have f12 := condT f9; clear f9
     have hs := Option.some.inj f12; subst hs; clear f12
     have f13 : some _ = some _ := congrArg some (hrt _ rfl).symm
     have hs := Option.some.inj f13; subst hs; clear f13
     have f14 : some _ = some _ := f1; clear f1
     cases f14
     exact ⟨_, _, rfl, ⟨rfl, rfl⟩, (H.sel [] rfl).close trivial⟩
 ·
  clear f0 H
  rintro T1 _ w2 ⟨hr, (H : Cx w0 fp0 S0 w2 [])⟩
  subst hr
  cases f1
  exact ⟨_, _, rfl, ⟨rfl, rfl⟩, (H.sel [] rfl).close trivial⟩

theorem spec_fdMul_c (p_ : Int) (a_ : Int) (b_ : Int) (y : Int) (hF : F_spec_fdMul p_ a_ b_ = some y) :
  ConF Tryd.prog 120 #[(.int .i64 p_), (.int .i64 a_), (.int .i64 b_)] [] [] (fun v Γ' => v = (.int .i64 y) ∧ Γ' = []) := by
 intro w0 S0 fp0 hI hS
 have H : Cx w0 fp0 S0 w0 [] := Cx.start hI hS
 clear hI hS
 refine enterC (args := [_, _, _]) gok Tryd.func120 rfl _ rfl rfl rfl ?_
 obtain ⟨a1, e, hF2⟩ := bindS hF; clear hF
 refine arO e ?_; clear e
 obtain ⟨a3, e, hF4⟩ := bindS hF2; clear hF2
 refine remO_ e ?_; clear e
 cases hF4
 exact ⟨_, _, rfl, ⟨rfl, rfl⟩, (H.sel [] rfl).close trivial⟩

theorem spec_fdSub_c (p_ : Int) (a_ : Int) (b_ : Int) (y : Int) (hF : F_spec_fdSub p_ a_ b_ = some y) :
  ConF Tryd.prog 121 #[(.int .i64 p_), (.int .i64 a_), (.int .i64 b_)] [] [] (fun v Γ' => v = (.int .i64 y) ∧ Γ' = []) := by
 intro w0 S0 fp0 hI hS
 have H : Cx w0 fp0 S0 w0 [] := Cx.start hI hS
 clear hI hS
 refine enterC (args := [_, _, _]) gok Tryd.func121 rfl _ rfl rfl rfl ?_
 obtain ⟨a1, e, hF2⟩ := bindS hF; clear hF
 refine arO e ?_; clear e
 obtain ⟨a3, e, hF4⟩ := bindS hF2; clear hF2
 refine arO e ?_; clear e
 obtain ⟨a5, e, hF6⟩ := bindS hF4; clear hF4
 refine remO_ e ?_; clear e
 cases hF6
 exact ⟨_, _, rfl, ⟨rfl, rfl⟩, (H.sel [] rfl).close trivial⟩

theorem spec_spReduce_c (p_ : Int) (size_ : Int) (rows_ : List (List Int)) (rows_h : Hd) (y : List (List Int)) (hF : F_spec_spReduce p_ size_ rows_ = some y) :
  ConF Tryd.prog 69 #[(.int .i64 p_), (.int .i64 size_), (rows_h).v] [Es (List (List Int)) rows_ rows_h] [] (fun v Γ' => ∃ z0 : Hd, v = (z0).v ∧ Γ' = [E (List (List Int)) y z0]) := by
 intro w0 S0 fp0 hI hS
 have H : Cx w0 fp0 S0 w0 [Es (List (List Int)) rows_ rows_h] := Cx.start hI hS
 clear hI hS
 refine enterC (args := [_, _, _]) gok Tryd.func69 rfl _ rfl rfl rfl ?_
 refine sq ?_
 refine lenE (H.rs (α := List (List Int)) 0 rfl).len ?_
 have x0 := (H.rs (α := List (List Int)) 0 rfl).max
 obtain ⟨r0, e, f0⟩ := bindS hF; clear hF
 replace H := H.nil (α := List Int)
 refine loopS _ rows_.length (fun (k2 : Nat) (s0 : List (List Int)) (g0 : Hd) => [(0, (.int .i64 p_)), (1, (.int .i64 size_)), (7, (g0).v), (19, (rows_h).v), (20, (.int .i64 ((rows_.length : Nat) : Int))), (21, (.int .i64 ((k2 : Nat) : Int)))]) (fun _ (s0 : List (List Int)) (g0 : Hd) w' => Cx w0 fp0 S0 w' [E (List (List Int)) s0 g0, Es (List (List Int)) rows_ rows_h]) [] nilH e ⟨rfl, rfl, rfl, rfl, rfl, rfl, trivial⟩ (H.sel [0, 1] rfl) ?_ ?_
 ·
  clear H e
  rintro T0 k2 s0 g0 w1 o0 hk (H : Cx w0 fp0 S0 w1 [E (List (List Int)) s0 g0, Es (List (List Int)) rows_ rows_h]) f1
  refine boolE (z := true) (ltLen hk) ?_
  refine sq ?_
  refine sq ?_
  obtain ⟨a0, e, f2⟩ := bindS f1; clear f1
  have HH := H; clear H; obtain ⟨p0, m0, h0, c0, c1, c2, c3, H⟩ := HH.elL 1 rfl e; clear HH
  clear e
  refine idxE c0 c1 c2 ?_; clear c0 c1 c2
  refine load1 c3 ?_; clear c3
  obtain ⟨y0, e, f3⟩ := bindS f2; clear f2
  have i0 := e; clear e
  refine callF (spec_l1Own_c a0 h0 y0 i0) (Γi := []) H ⟨Vw.sh 0 rfl, trivial⟩ ?_; clear H i0
  rintro _ _ w2 ⟨h1, rfl, rfl⟩ H
  refine lit1 (α := List Int) (g := h1) gok rfl rfl rfl rfl rfl H ?_; clear H; intro h2 w3 hx H
  clear hx
  obtain ⟨a1, e, f4⟩ := bindS f3; clear f3
  replace H := H.sel [2, 0, 1, 3] rfl
  refine append_ (α := List Int) gok rfl rfl rfl rfl H e ?_; clear e H; intro h3 w4 H
  refine arK hk x0 ?_
  have hs := Option.some.inj f4; subst hs; clear f4
  exact ⟨h3, ⟨rfl, rfl, rfl, rfl, rfl, rfl, trivial⟩, H.sel [0, 2] rfl⟩
 ·
  clear H e
  rintro T1 g1 w5 (H : Cx w0 fp0 S0 w5 [E (List (List Int)) r0 g1, Es (List (List Int)) rows_ rows_h])
  refine boolE (z := false) geLen ?_
  refine sq ?_
  obtain ⟨r1, f5, f6⟩ := bindS f0; clear f0
  refine cut (fun (q0 : List (List Int) × Int) => [(7, (g1).v), (10, (.int .i64 q0.2))]) (fun (q0 : List (List Int) × Int) w' => (q0.1, q0.2) = r1 ∧ Cx w0 fp0 S0 w' [E (List (List Int)) q0.1 g1]) ?_ ?_
  ·
   refine loopW _ (fun (s1 : List (List Int) × Int × Int) (_ : Unit) => [(0, (.int .i64 p_)), (1, (.int .i64 size_)), (7, (g1).v), (10, (.int .i64 s1.2.1)), (11, (.int .i64 s1.2.2))]) (fun (s1 : List (List Int) × Int × Int) (_ : Unit) w' => Cx w0 fp0 S0 w' [E (List (List Int)) s1.1 g1]) (r0, 0, 0) () f5 ⟨rfl, rfl, rfl, rfl, rfl, trivial⟩ (H.sel [0] rfl) ?_
   ·
    clear H
    rintro T2 ⟨s1_0, s1_1, s1_2⟩ _ w6 o1 (H : Cx w0 fp0 S0 w6 [E (List (List Int)) s1_0 g1]) hrt f7
    refine sq ?_
    obtain ⟨r2, f8, f9⟩ := bindS f7; clear f7
    refine cut (fun (q1 : Bool) => [(0, (.int .i64 p_)), (1, (.int .i64 size_)), (7, (g1).v), (10, (.int .i64 s1_1)), (11, (.int .i64 s1_2)), (39, (.bool q1))]) (fun (q1 : Bool) w' => q1 = r2 ∧ Cx w0 fp0 S0 w' [E (List (List Int)) s1_0 g1]) ?_ ?_
    ·
     obtain ⟨a2, e, f10⟩ := bindS f8; clear f8
     refine boolO e ?_; clear e
     cases a2
     ·
      have f11 := condF f10; clear f10
      exact ⟨false, ⟨rfl, rfl, rfl, rfl, rfl, rfl, trivial⟩, Option.some.inj f11, H.sel [0] rfl⟩
     ·
      have f12 := condT f10; clear f10
      refine lenE (H.ro (α := List (List Int)) 0 rfl).len ?_
      obtain ⟨a3, e, f13⟩ := bindS f12; clear f12
      refine boolO e ?_; clear e
      exact ⟨a3, ⟨rfl, rfl, rfl, rfl, rfl, rfl, trivial⟩, Option.some.inj f13, H.sel [0] rfl⟩
    ·
     clear f8 H
     rintro T3 s2 w7 ⟨hr, (H : Cx w0 fp0 S0 w7 [E (List (List Int)) s1_0 g1])⟩
     subst hr
     cases s2
     ·
      have f14 := condF f9; clear f9
      have hs := Option.some.inj f14; subst hs; clear f14
      have f15 : some _ = some _ := congrArg some (hrt _ rfl).symm
      exact ⟨(s1_0, s1_1), ⟨rfl, rfl, trivial⟩, Option.some.inj f15, H.sel [0] rfl⟩
     ·
      have f16 := condT f9; clear f9
      obtain ⟨r3, f17, f18⟩ := bindS f16; clear f16
      refine cut (fun (q2 : List (List Int) × Int) => [(0, (.int .i64 p_)), (1, (.int .i64 size_)), (7, (g1).v), (10, (.int .i64 q2.2)), (11, (.int .i64 s1_2))]) (fun (q2 : List (List Int) × Int) w' => (q2.1, q2.2) = r3 ∧ Cx w0 fp0 S0 w' [E (List (List Int)) q2.1 g1]) ?_ ?_
      ·
       obtain ⟨r4, f19, f20⟩ := bindS f17; clear f17
       refine cut (fun (q3 : Int) => [(0, (.int .i64 p_)), (1, (.int .i64 size_)), (7, (g1).v), (10, (.int .i64 s1_1)), (11, (.int .i64 s1_2)), (12, (.int .i64 q3))]) (fun (q3 : Int) w' => q3 = r4 ∧ Cx w0 fp0 S0 w' [E (List (List Int)) s1_0 g1]) ?_ ?_
       ·
        refine loopW _ (fun (s3 : Int) (_ : Unit) => [(0, (.int .i64 p_)), (1, (.int .i64 size_)), (7, (g1).v), (10, (.int .i64 s1_1)), (11, (.int .i64 s1_2)), (12, (.int .i64 s3))]) (fun (s3 : Int) (_ : Unit) w' => Cx w0 fp0 S0 w' [E (List (List Int)) s1_0 g1]) s1_1 () f19 ⟨rfl, rfl, rfl, rfl, rfl, rfl, trivial⟩ (H.sel [0] rfl) ?_
        ·
         clear H
         rintro T4 s3 _ w8 o2 (H : Cx w0 fp0 S0 w8 [E (List (List Int)) s1_0 g1]) hrt f21
         refine sq ?_
         obtain ⟨r5, f22, f23⟩ := bindS f21; clear f21
         refine cut (fun (q4 : Bool) => [(0, (.int .i64 p_)), (1, (.int .i64 size_)), (7, (g1).v), (10, (.int .i64 s1_1)), (11, (.int .i64 s1_2)), (12, (.int .i64 s3)), (56, (.bool q4))]) (fun (q4 : Bool) w' => q4 = r5 ∧ Cx w0 fp0 S0 w' [E (List (List Int)) s1_0 g1]) ?_ ?_
         ·
          refine lenE (H.ro (α := List (List Int)) 0 rfl).len ?_
          obtain ⟨a4, e, f24⟩ := bindS f22; clear f22
          refine boolO e ?_; clear e
          cases a4
          ·
           have f25 := condF f24; clear f24
           exact ⟨false, ⟨rfl, rfl, rfl, rfl, rfl, rfl, rfl, trivial⟩, Option.some.inj f25, H.sel [0] rfl⟩
          ·
           have f26 := condT f24; clear f24
           obtain ⟨a5, e, f27⟩ := bindS f26; clear f26
           replace H := H.toEH (α := List Int)
           have HH := H; clear H; obtain ⟨p1, m1, h4, c4, c5, c6, c7, H⟩ := HH.peekL e; clear HH
           clear e
           refine idxE c4 c5 c6 ?_
           refine load1 c7 ?_; clear c7
           obtain ⟨a6, e, f28⟩ := bindS f27; clear f27
           obtain ⟨p2, m2, c8, c9, c10, c11⟩ := (H.rh (α := List Int) 0 rfl 0 rfl).at1 e; clear e
           refine idxE c8 c9 c10 ?_; clear c8 c9 c10
           refine load1 c11 ?_; clear c11
           obtain ⟨a7, e, f29⟩ := bindS f28; clear f28
           refine boolO e ?_; clear e
           replace H := H.ofEH
           exact ⟨a7, ⟨rfl, rfl, rfl, rfl, rfl, rfl, rfl, trivial⟩, Option.some.inj f29, H.sel [0] rfl⟩
         ·
          clear f22 H
          rintro T5 s4 w9 ⟨hr, (H : Cx w0 fp0 S0 w9 [E (List (List Int)) s1_0 g1])⟩
          subst hr
          cases s4
          ·
           have f30 := condF f23; clear f23
           have hs := Option.some.inj f30; subst hs; clear f30
           have f31 : some _ = some _ := congrArg some (hrt _ rfl).symm
           exact ⟨s3, ⟨rfl, rfl, rfl, rfl, rfl, rfl, trivial⟩, Option.some.inj f31, H.sel [0] rfl⟩
          ·
           have f32 := condT f23; clear f23
           obtain ⟨a8, e, f33⟩ := bindS f32; clear f32
           refine arO e ?_; clear e
           have hs := Option.some.inj f33; subst hs; clear f33
           exact ⟨a8, (), rfl, ⟨rfl, rfl, rfl, rfl, rfl, rfl, trivial⟩, H.sel [0] rfl⟩
       ·
        clear f19 H
        rintro T6 s5 w10 ⟨hr, (H : Cx w0 fp0 S0 w10 [E (List (List Int)) s1_0 g1])⟩
        subst hr
        refine sq ?_
        refine lenE (H.ro (α := List (List Int)) 0 rfl).len ?_
        obtain ⟨a9, e, f34⟩ := bindS f20; clear f20
        refine boolO e ?_; clear e
        cases a9
        ·
         have f35 := condF f34; clear f34
         obtain ⟨a10, e, f36⟩ := bindS f35; clear f35
         replace H := H.toEH (α := List Int)
         have HH := H; clear H; obtain ⟨p3, m3, h5, c12, c13, c14, c15, H⟩ := HH.peekL e; clear HH
         clear e
         refine idxE c12 c13 c14 ?_
         refine load1 c15 ?_; clear c15
         obtain ⟨a11, e, f37⟩ := bindS f36; clear f36
         have HH := H; clear H; obtain ⟨p4, m4, h6, c16, c17, c18, c19, H⟩ := HH.peekL e; clear HH
         clear e
         refine idxE c16 c17 c18 ?_
         refine load1 c19 ?_; clear c19
         refine idxE c12 c13 c14 ?_
         refine stZ1 (ki := 1) (kj := 0) H rfl rfl c12 ?_; clear H; intro w11 H
         refine idxE c16 c17 c18 ?_
         obtain ⟨a12, e, f38⟩ := bindS f37; clear f37
         refine stZ2 H c13 c17 c16 e ?_; clear H e; intro w12 H
         obtain ⟨a13, e, f39⟩ := bindS f38; clear f38
         replace H := H.toEH (α := List Int)
         have HH := H; clear H; obtain ⟨p5, m5, h7, c20, c21, c22, c23, H⟩ := HH.peekL e; clear HH
         clear e
         refine idxE c20 c21 c22 ?_
         refine load1 c23 ?_; clear c23
         obtain ⟨a14, e, f40⟩ := bindS f39; clear f39
         obtain ⟨p6, m6, c24, c25, c26, c27⟩ := (H.rh (α := List Int) 0 rfl 0 rfl).at1 e; clear e
         refine idxE c24 c25 c26 ?_; clear c24 c25 c26
         refine load1 c27 ?_; clear c27
         obtain ⟨y1, e, f41⟩ := bindS f40; clear f40
         have i1 := e; clear e
         refine callF (spec_fdInv_c p_ a14 y1 i1) (Γi := []) H trivial ?_; clear H i1
         rintro _ _ w13 ⟨rfl, rfl⟩ H
         refine sq ?_
         obtain ⟨a15, e, f42⟩ := bindS f41; clear f41
         have HH := H; clear H; obtain ⟨p7, m7, h8, c28, c29, c30, c31, H⟩ := HH.peekL e; clear HH
         clear e
         refine idxE c28 c29 c30 ?_
         refine load1 c31 ?_; clear c31
         have x1 := (H.rh (α := List Int) 0 rfl 0 rfl).max
         refine lenE (H.rh (α := List Int) 0 rfl 0 rfl).len ?_
         replace H := H.ofEH
         obtain ⟨r6, e, f43⟩ := bindS f42; clear f42
         refine loopS _ a15.length (fun (k0 : Nat) (s6 : List (List Int)) (_ : Unit) => [(0, (.int .i64 p_)), (1, (.int .i64 size_)), (7, (g1).v), (10, (.int .i64 s1_1)), (11, (.int .i64 s1_2)), (14, (.int .i64 y1)), (91, (.int .i64 ((a15.length : Nat) : Int))), (92, (.int .i64 ((k0 : Nat) : Int)))]) (fun _ (s6 : List (List Int)) (_ : Unit) w' => Cx w0 fp0 S0 w' [E (List (List Int)) s6 g1]) a12 () e ⟨rfl, rfl, rfl, rfl, rfl, rfl, rfl, rfl, trivial⟩ (H.sel [0] rfl) ?_ ?_
         ·
          clear H e
          rintro T7 k0 s6 _ w14 o3 hk (H : Cx w0 fp0 S0 w14 [E (List (List Int)) s6 g1]) f44
          refine boolE (z := true) (ltLen hk) ?_
          refine sq ?_
          refine sq ?_
          refine heldX H [16] (.fst 0 (.fst 1 (.fst 2 (.fst 4 (.fst 5 (.fst 6 (.fst 7 (.fst 8 (.fst 10 (.fst 13 (.fst 3 (.fst 9 (.fst 11 (.fst 12 (.act 14 (.fst 15 (.act 16 .done))))))))))))))))) mixed [] trivial (by kernel_rfl) ?_
          clear H; intro w15 H
          have hX : Ext w15 w15 := Upd.refl _ _
          have H0 := H
          obtain ⟨a16, e, f45⟩ := bindS f44; clear f44
          replace H := H.toEH (α := List Int)
          have HH := H; clear H; obtain ⟨p8, m8, h9, c32, c33, c34, c35, H⟩ := HH.peekL e; clear HH
          clear e
          refine idxE c32 c33 c34 ?_
          obtain ⟨a17, e, f46⟩ := bindS f45; clear f45
          have HH := H; clear H; obtain ⟨p9, m9, h10, c36, c37, c38, c39, H⟩ := HH.peekL e; clear HH
          clear e
          refine idxE c36 c37 c38 ?_
          refine load1X c35 ?_; clear c35
          refine load1X c39 ?_; clear c39
          obtain ⟨a18, e, f47⟩ := bindS f46; clear f46
          obtain ⟨p10, m10, c40, c41, c42, c43⟩ := (H.rh (α := List Int) 0 rfl 0 rfl).at1 e; clear e
          refine idxE c40 c41 c42 ?_; clear c40 c41 c42
          refine load1X c43 ?_; clear c43
          obtain ⟨y2, e, f48⟩ := bindS f47; clear f47
          have i2 := e; clear e
          refine callFx (spec_fdMul_c p_ a18 y1 y2 i2) H trivial ?_; clear H i2
          rintro _ _ w16 ⟨rfl, rfl⟩ hx H
          replace hX := hX.trans0 hx; clear hx
          refine hold hX ?_
          replace H := H.takeK 1 rfl
          obtain ⟨a19, e, f49⟩ := bindS f48; clear f48
          have i3 := e; clear e
          obtain ⟨p11, m11, c44, c45, c46⟩ := (H.ro (α := List Int) 0 rfl).setp i3
          refine idxE c44 c45 c46 ?_
          refine setS (α := Int) H c44 c45 i3 ?_; clear H c44 c45 c46 i3; intro w17 H
          obtain ⟨a20, e, f50⟩ := bindS f49; clear f49
          replace H := H.put c33 e; clear e
          refine hold trivial ?_
          refine arK hk x1 ?_
          have hs := Option.some.inj f50; subst hs; clear f50
          exact ⟨(), ⟨rfl, rfl, rfl, rfl, rfl, rfl, rfl, rfl, trivial⟩, H.sel [0] rfl⟩
         ·
          clear H e
          rintro T8 _ w18 (H : Cx w0 fp0 S0 w18 [E (List (List Int)) r6 g1])
          refine boolE (z := false) geLen ?_
          refine sq ?_
          refine sq ?_
          refine lenE (H.ro (α := List (List Int)) 0 rfl).len ?_
          have x2 := (H.ro (α := List (List Int)) 0 rfl).max
          obtain ⟨r7, e, f51⟩ := bindS f43; clear f43
          refine loopS _ r6.length (fun (k1 : Nat) (s7 : List (List Int)) (_ : Unit) => [(0, (.int .i64 p_)), (1, (.int .i64 size_)), (7, (g1).v), (10, (.int .i64 s1_1)), (11, (.int .i64 s1_2)), (113, (.int .i64 ((r6.length : Nat) : Int))), (114, (.int .i64 ((k1 : Nat) : Int)))]) (fun _ (s7 : List (List Int)) (_ : Unit) w' => Cx w0 fp0 S0 w' [E (List (List Int)) s7 g1]) r6 () e ⟨rfl, rfl, rfl, rfl, rfl, rfl, rfl, trivial⟩ (H.sel [0] rfl) ?_ ?_
          ·
           clear H e
           rintro T9 k1 s7 _ w19 o4 hk (H : Cx w0 fp0 S0 w19 [E (List (List Int)) s7 g1]) f52
           refine boolE (z := true) (ltLen hk) ?_
           refine sq ?_
           obtain ⟨r8, f53, f54⟩ := bindS f52; clear f52
           refine cut (fun (q5 : List (List Int)) => [(0, (.int .i64 p_)), (1, (.int .i64 size_)), (7, (g1).v), (10, (.int .i64 s1_1)), (11, (.int .i64 s1_2)), (113, (.int .i64 ((r6.length : Nat) : Int))), (114, (.int .i64 ((k1 : Nat) : Int)))]) (fun (q5 : List (List Int)) w' => q5 = r8 ∧ Cx w0 fp0 S0 w' [E (List (List Int)) q5 g1]) ?_ ?_
           ·
            refine sq ?_
            obtain ⟨r9, f55, f56⟩ := bindS f53; clear f53
            refine cut (fun (q6 : Bool) => [(0, (.int .i64 p_)), (1, (.int .i64 size_)), (7, (g1).v), (10, (.int .i64 s1_1)), (11, (.int .i64 s1_2)), (16, (.int .i64 ((k1 : Nat) : Int))), (113, (.int .i64 ((r6.length : Nat) : Int))), (114, (.int .i64 ((k1 : Nat) : Int))), (129, (.bool q6))]) (fun (q6 : Bool) w' => q6 = r9 ∧ Cx w0 fp0 S0 w' [E (List (List Int)) s7 g1]) ?_ ?_
            ·
             obtain ⟨a21, e, f57⟩ := bindS f55; clear f55
             refine boolO e ?_; clear e
             cases a21
             ·
              have f58 := condF f57; clear f57
              obtain ⟨a22, e, f59⟩ := bindS f58; clear f58
              replace H := H.toEH (α := List Int)
              have HH := H; clear H; obtain ⟨p12, m12, h11, c47, c48, c49, c50, H⟩ := HH.peekL e; clear HH
              clear e
              refine idxE c47 c48 c49 ?_
              refine load1 c50 ?_; clear c50
              obtain ⟨a23, e, f60⟩ := bindS f59; clear f59
              obtain ⟨p13, m13, c51, c52, c53, c54⟩ := (H.rh (α := List Int) 0 rfl 0 rfl).at1 e; clear e
              refine idxE c51 c52 c53 ?_; clear c51 c52 c53
              refine load1 c54 ?_; clear c54
              obtain ⟨a24, e, f61⟩ := bindS f60; clear f60
              refine boolO e ?_; clear e
              replace H := H.ofEH
              exact ⟨a24, ⟨rfl, rfl, rfl, rfl, rfl, rfl, rfl, rfl, rfl, trivial⟩, Option.some.inj f61, H.sel [0] rfl⟩
             ·
              have f62 := condT f57; clear f57
              exact ⟨true, ⟨rfl, rfl, rfl, rfl, rfl, rfl, rfl, rfl, rfl, trivial⟩, Option.some.inj f62, H.sel [0] rfl⟩
            ·
             clear f55 H
             rintro T10 s8 w20 ⟨hr, (H : Cx w0 fp0 S0 w20 [E (List (List Int)) s7 g1])⟩
             subst hr
             cases s8
             ·
              have f63 := condF f56; clear f56
              obtain ⟨a25, e, f64⟩ := bindS f63; clear f63
              replace H := H.toEH (α := List Int)
              have HH := H; clear H; obtain ⟨p14, m14, h12, c55, c56, c57, c58, H⟩ := HH.peekL e; clear HH
              clear e
              refine idxE c55 c56 c57 ?_
              refine load1 c58 ?_; clear c58
              obtain ⟨a26, e, f65⟩ := bindS f64; clear f64
              obtain ⟨p15, m15, c59, c60, c61, c62⟩ := (H.rh (α := List Int) 0 rfl 0 rfl).at1 e; clear e
              refine idxE c59 c60 c61 ?_; clear c59 c60 c61
              refine load1 c62 ?_; clear c62
              replace H := H.ofEH
              obtain ⟨a27, e, f66⟩ := bindS f65; clear f65
              replace H := H.toEH (α := List Int)
              have HH := H; clear H; obtain ⟨p16, m16, h13, c63, c64, c65, c70, H⟩ := HH.peekL e; clear HH
              clear e
              refine idxE c63 c64 c65 ?_
              refine load1 c70 ?_; clear c70
              have x3 := (H.rh (α := List Int) 0 rfl 0 rfl).max
              refine lenE (H.rh (α := List Int) 0 rfl 0 rfl).len ?_
              replace H := H.ofEH
              obtain ⟨r10, e, f67⟩ := bindS f66; clear f66
              refine loopS _ a27.length (fun (k3 : Nat) (s9 : List (List Int)) (_ : Unit) => [(0, (.int .i64 p_)), (1, (.int .i64 size_)), (7, (g1).v), (10, (.int .i64 s1_1)), (11, (.int .i64 s1_2)), (16, (.int .i64 ((k1 : Nat) : Int))), (17, (.int .i64 a26)), (113, (.int .i64 ((r6.length : Nat) : Int))), (114, (.int .i64 ((k1 : Nat) : Int))), (141, (.int .i64 ((a27.length : Nat) : Int))), (142, (.int .i64 ((k3 : Nat) : Int)))]) (fun _ (s9 : List (List Int)) (_ : Unit) w' => Cx w0 fp0 S0 w' [E (List (List Int)) s9 g1]) s7 () e ⟨rfl, rfl, rfl, rfl, rfl, rfl, rfl, rfl, rfl, rfl, rfl, trivial⟩ (H.sel [0] rfl) ?_ ?_
              ·
               clear H e
               rintro T11 k3 s9 _ w21 o5 hk (H : Cx w0 fp0 S0 w21 [E (List (List Int)) s9 g1]) f68
               refine boolE (z := true) (ltLen hk) ?_
               refine sq ?_
               refine sq ?_
               refine heldX H [25] (.fst 0 (.fst 1 (.fst 2 (.fst 4 (.fst 5 (.fst 6 (.fst 7 (.fst 8 (.fst 10 (.fst 13 (.fst 14 (.fst 15 (.fst 16 (.fst 17 (.fst 19 (.fst 3 (.fst 9 (.fst 11 (.fst 12 (.fst 18 (.fst 20 (.fst 21 (.act 22 (.act 23 (.fst 24 (.act 25 .done)))))))))))))))))))))))))) mixed [] trivial (by kernel_rfl) ?_
               clear H; intro w22 H
               have hX : Ext w22 w22 := Upd.refl _ _
               have H0 := H
               obtain ⟨a28, e, f69⟩ := bindS f68; clear f68
               replace H := H.toEH (α := List Int)
               have HH := H; clear H; obtain ⟨p17, m17, h14, c71, c72, c73, c74, H⟩ := HH.peekL e; clear HH
               clear e
               refine idxE c71 c72 c73 ?_
               obtain ⟨a29, e, f70⟩ := bindS f69; clear f69
               have HH := H; clear H; obtain ⟨p18, m18, h15, c75, c76, c77, c78, H⟩ := HH.peekL e; clear HH
               clear e
               refine idxE c75 c76 c77 ?_
               obtain ⟨a30, e, f71⟩ := bindS f70; clear f70
               have HH := H; clear H; obtain ⟨p19, m19, h16, c79, c80, c81, c82, H⟩ := HH.peekL e; clear HH
               clear e
               refine idxE c79 c80 c81 ?_
               refine load1X c74 ?_; clear c74
               refine load1X c78 ?_; clear c78
               obtain ⟨a31, e, f72⟩ := bindS f71; clear f71
               obtain ⟨p20, m20, c83, c84, c85, c86⟩ := (H.rh (α := List Int) 0 rfl 1 rfl).at1 e; clear e
               refine idxE c83 c84 c85 ?_; clear c83 c84 c85
               refine load1X c86 ?_; clear c86
               refine load1X c82 ?_; clear c82
               obtain ⟨a32, e, f73⟩ := bindS f72; clear f72
               obtain ⟨p21, m21, c87, c88, c89, c90⟩ := (H.rh (α := List Int) 0 rfl 0 rfl).at1 e; clear e
               refine idxE c87 c88 c89 ?_; clear c87 c88 c89
               refine load1X c90 ?_; clear c90
               obtain ⟨y3, e, f74⟩ := bindS f73; clear f73
               have i4 := e; clear e
               refine callFx (spec_fdMul_c p_ a26 a32 y3 i4) H trivial ?_; clear H i4
               rintro _ _ w23 ⟨rfl, rfl⟩ hx H
               replace hX := hX.trans0 hx; clear hx
               refine hold hX ?_
               obtain ⟨y4, e, f75⟩ := bindS f74; clear f74
               have i5 := e; clear e
               refine callFx (spec_fdSub_c p_ a31 y3 y4 i5) H trivial ?_; clear H i5
               rintro _ _ w24 ⟨rfl, rfl⟩ hx H
               replace hX := hX.trans0 hx; clear hx
               refine hold hX ?_
               replace H := H.takeK 2 rfl
               obtain ⟨a33, e, f76⟩ := bindS f75; clear f75
               have i6 := e; clear e
               obtain ⟨p22, m22, c91, c92, c93⟩ := (H.ro (α := List Int) 0 rfl).setp i6
               refine idxE c91 c92 c93 ?_
               refine setS (α := Int) H c91 c92 i6 ?_; clear H c91 c92 c93 i6; intro w25 H
               obtain ⟨a34, e, f77⟩ := bindS f76; clear f76
               replace H := H.put c72 e; clear e
               refine hold trivial ?_
               refine arK hk x3 ?_
               have hs := Option.some.inj f77; subst hs; clear f77
               exact ⟨(), ⟨rfl, rfl, rfl, rfl, rfl, rfl, rfl, rfl, rfl, rfl, rfl, trivial⟩, H.sel [0] rfl⟩
              ·
               clear H e
               rintro T12 _ w26 (H : Cx w0 fp0 S0 w26 [E (List (List Int)) r10 g1])
               refine boolE (z := false) geLen ?_
               refine sq ?_
               exact ⟨r10, ⟨rfl, rfl, rfl, rfl, rfl, rfl, rfl, trivial⟩, Option.some.inj f67, H.sel [0] rfl⟩
             ·
              have f78 := condT f56; clear f56
              exact ⟨s7, ⟨rfl, rfl, rfl, rfl, rfl, rfl, rfl, trivial⟩, Option.some.inj f78, H.sel [0] rfl⟩
           ·
            clear f53 H
            rintro T13 s10 w27 ⟨hr, (H : Cx w0 fp0 S0 w27 [E (List (List Int)) s10 g1])⟩
            subst hr
            refine arK hk x2 ?_
            have hs := Option.some.inj f54; subst hs; clear f54
            exact ⟨(), ⟨rfl, rfl, rfl, rfl, rfl, rfl, rfl, trivial⟩, H.sel [0] rfl⟩
          ·
           clear H e
           rintro T14 _ w28 (H : Cx w0 fp0 S0 w28 [E (List (List Int)) r7 g1])
           refine boolE (z := false) geLen ?_
           refine sq ?_
           obtain ⟨a35, e, f79⟩ := bindS f51; clear f51
           refine arO e ?_; clear e
           exact ⟨(r7, a35), ⟨rfl, rfl, rfl, rfl, rfl, trivial⟩, Option.some.inj f79, H.sel [0] rfl⟩
        ·
         have f80 := condT f34; clear f34
         exact ⟨(s1_0, s1_1), ⟨rfl, rfl, rfl, rfl, rfl, trivial⟩, Option.some.inj f80, H.sel [0] rfl⟩
      ·
       clear f17 H
       rintro T15 ⟨s11_0, s11_1⟩ w29 ⟨hr, (H : Cx w0 fp0 S0 w29 [E (List (List Int)) s11_0 g1])⟩
       subst hr
       obtain ⟨a36, e, f81⟩ := bindS f18; clear f18
       refine arO e ?_; clear e
       have hs := Option.some.inj f81; subst hs; clear f81
       exact ⟨(s11_0, s11_1, a36), (), rfl, ⟨rfl, rfl, rfl, rfl, rfl, trivial⟩, H.sel [0] rfl⟩
  ·
   clear f5 H
   rintro T16 ⟨s12_0, s12_1⟩ w30 ⟨hr, (H : Cx w0 fp0 S0 w30 [E (List (List Int)) s12_0 g1])⟩
   subst hr
   obtain ⟨a37, e, f82⟩ := bindS f6; clear f6
   refine slO (α := List Int) gok rfl rfl H e rfl rfl ?_; clear e H; intro h17 H
   cases f82
   exact ⟨_, _, rfl, ⟨h17, rfl, rfl⟩, (H.sel [0] rfl).close ⟨cloE, trivial⟩⟩

theorem spec_l1Same_c (a_ : List Int) (a_h : Hd) (b_ : List Int) (b_h : Hd) (y : Bool) (hF : F_spec_l1Same a_ b_ = some y) :
  ConF Tryd.prog 130 #[(a_h).v, (b_h).v] [Es (List Int) a_ a_h, Es (List Int) b_ b_h] [] (fun v Γ' => v = (.bool y) ∧ Γ' = []) := by
 intro w0 S0 fp0 hI hS
 have H : Cx w0 fp0 S0 w0 [Es (List Int) a_ a_h, Es (List Int) b_ b_h] := Cx.start hI hS
 clear hI hS
 refine enterC (args := [_, _]) gok Tryd.func130 rfl _ rfl rfl rfl ?_
 refine sq ?_
 refine lenE (H.rs (α := List Int) 0 rfl).len ?_
 refine lenE (H.rs (α := List Int) 1 rfl).len ?_
 obtain ⟨a3, e, hF4⟩ := bindS hF; clear hF
 refine boolO e ?_; clear e
 cases a3
 ·
  have hF5 := condF hF4; clear hF4
  refine sq ?_
  refine lenE (H.rs (α := List Int) 0 rfl).len ?_
  have x0 := (H.rs (α := List Int) 0 rfl).max
  obtain ⟨r0, e, f0⟩ := bindS hF5; clear hF5
  refine loopO _ a_.length (fun (k6 : Nat) (_ : Unit) (_ : Unit) => [(0, (a_h).v), (1, (b_h).v), (12, (.int .i64 ((a_.length : Nat) : Int))), (13, (.int .i64 ((k6 : Nat) : Int)))]) (fun _ (_ : Unit) (_ : Unit) w' => Cx w0 fp0 S0 w' [Es (List Int) a_ a_h, Es (List Int) b_ b_h]) () () e ⟨rfl, rfl, rfl, rfl, trivial⟩ (H.sel [0, 1] rfl) ?_ ?_
  ·
   clear H e
   rintro T0 k6 _ _ w1 o0 hk (H : Cx w0 fp0 S0 w1 [Es (List Int) a_ a_h, Es (List Int) b_ b_h]) hrt f1
   refine boolE (z := true) (ltLen hk) ?_
   refine sq ?_
   refine sq ?_
   refine heldX H [] (.fst 0 (.fst 1 (.fst 2 (.fst 4 (.fst 5 (.fst 6 (.fst 3 (.fst 7 (.fst 8 .done))))))))) mixed [] trivial (by kernel_rfl) ?_
   clear H; intro w2 H
   have hX : Ext w2 w2 := Upd.refl _ _
   have H0 := H
   obtain ⟨a0, e, f2⟩ := bindS f1; clear f1
   obtain ⟨p0, m0, c0, c1, c2, c3⟩ := (H.rs (α := List Int) 0 rfl).at1 e; clear e
   refine idxE c0 c1 c2 ?_; clear c0 c1 c2
   obtain ⟨a1, e, f3⟩ := bindS f2; clear f2
   obtain ⟨p1, m1, c4, c5, c6, c7⟩ := (H.rs (α := List Int) 1 rfl).at1 e; clear e
   refine idxE c4 c5 c6 ?_; clear c4 c5 c6
   refine load1X c3 ?_; clear c3
   refine load1X c7 ?_; clear c7
   obtain ⟨a2, e, f4⟩ := bindS f3; clear f3
   refine boolO e ?_; clear e
   cases a2
   ·
    have f5 := condF f4; clear f4
    refine arK hk x0 ?_
    have hs := Option.some.inj f5; subst hs; clear f5
    exact ⟨(), (), rfl, ⟨rfl, rfl, rfl, rfl, trivial⟩, H.sel [0, 1] rfl⟩
   ·
    have f6 := condT f4; clear f4
    have hs := Option.some.inj f6; subst hs; clear f6
    have hr := hrt _ rfl; subst hr
    have f7 : some _ = some _ := f0
    cases f7
    exact ⟨_, _, rfl, ⟨rfl, rfl⟩, (H.sel [] rfl).close trivial⟩
  ·
   clear H e
   rintro T1 _ _ w3 hr (H : Cx w0 fp0 S0 w3 [Es (List Int) a_ a_h, Es (List Int) b_ b_h])
   subst hr
   refine boolE (z := false) geLen ?_
   refine sq ?_
   cases f0
   exact ⟨_, _, rfl, ⟨rfl, rfl⟩, (H.sel [] rfl).close trivial⟩
 ·
  have f8 := condT hF4; clear hF4
  cases f8
  exact ⟨_, _, rfl, ⟨rfl, rfl⟩, (H.sel [] rfl).close trivial⟩

theorem spec_spSame_c (a_ : List (List Int)) (a_h : Hd) (b_ : List (List Int)) (b_h : Hd) (y : Bool) (hF : F_spec_spSame a_ b_ = some y) :
  ConF Tryd.prog 114 #[(a_h).v, (b_h).v] [Es (List (List Int)) a_ a_h, Es (List (List Int)) b_ b_h] [] (fun v Γ' => v = (.bool y) ∧ Γ' = []) := by
 intro w0 S0 fp0 hI hS
 have H : Cx w0 fp0 S0 w0 [Es (List (List Int)) a_ a_h, Es (List (List Int)) b_ b_h] := Cx.start hI hS
 clear hI hS
 refine enterC (args := [_, _]) gok Tryd.func114 rfl _ rfl rfl rfl ?_
 refine sq ?_
 refine lenE (H.rs (α := List (List Int)) 0 rfl).len ?_
 refine lenE (H.rs (α := List (List Int)) 1 rfl).len ?_
 obtain ⟨a3, e, hF4⟩ := bindS hF; clear hF
 refine boolO e ?_; clear e
 cases a3
 ·
  have hF5 := condF hF4; clear hF4
  refine sq ?_
  refine lenE (H.rs (α := List (List Int)) 0 rfl).len ?_
  have x0 := (H.rs (α := List (List Int)) 0 rfl).max
  obtain ⟨r0, e, f0⟩ := bindS hF5; clear hF5
  refine loopO _ a_.length (fun (k6 : Nat) (_ : Unit) (_ : Unit) => [(0, (a_h).v), (1, (b_h).v), (12, (.int .i64 ((a_.length : Nat) : Int))), (13, (.int .i64 ((k6 : Nat) : Int)))]) (fun _ (_ : Unit) (_ : Unit) w' => Cx w0 fp0 S0 w' [Es (List (List Int)) a_ a_h, Es (List (List Int)) b_ b_h]) () () e ⟨rfl, rfl, rfl, rfl, trivial⟩ (H.sel [0, 1] rfl) ?_ ?_
  ·
   clear H e
   rintro T0 k6 _ _ w1 o0 hk (H : Cx w0 fp0 S0 w1 [Es (List (List Int)) a_ a_h, Es (List (List Int)) b_ b_h]) hrt f1
   refine boolE (z := true) (ltLen hk) ?_
   refine sq ?_
   refine sq ?_
   refine heldX H [] (.fst 0 (.fst 1 (.fst 2 (.fst 4 (.fst 5 (.fst 6 (.fst 3 (.fst 7 (.act 8 (.fst 9 .done)))))))))) mixed [] trivial (by kernel_rfl) ?_
   clear H; intro w2 H
   have hX : Ext w2 w2 := Upd.refl _ _
   have H0 := H
   obtain ⟨a0, e, f2⟩ := bindS f1; clear f1
   have HH := H; clear H; obtain ⟨p0, m0, h0, c0, c1, c2, c3, H⟩ := HH.elL 0 rfl e; clear HH
   clear e
   refine idxE c0 c1 c2 ?_; clear c0 c1 c2
   obtain ⟨a1, e, f3⟩ := bindS f2; clear f2
   have HH := H; clear H; obtain ⟨p1, m1, h1, c4, c5, c6, c7, H⟩ := HH.elL 2 rfl e; clear HH
   clear e
   refine idxE c4 c5 c6 ?_; clear c4 c5 c6
   refine load1X c3 ?_; clear c3
   refine load1X c7 ?_; clear c7
   obtain ⟨y0, e, f4⟩ := bindS f3; clear f3
   have i0 := e; clear e
   refine callFx (spec_l1Same_c a0 h0 a1 h1 y0 i0) H ⟨Vw.sh 1 rfl, Vw.sh 0 rfl, trivial⟩ ?_; clear H i0
   rintro _ _ w3 ⟨rfl, rfl⟩ hx H
   replace hX := hX.trans0 hx; clear hx
   refine hold hX ?_
   obtain ⟨a2, e, f5⟩ := bindS f4; clear f4
   refine boolO e ?_; clear e
   cases a2
   ·
    have f6 := condF f5; clear f5
    refine arK hk x0 ?_
    have hs := Option.some.inj f6; subst hs; clear f6
    exact ⟨(), (), rfl, ⟨rfl, rfl, rfl, rfl, trivial⟩, H.sel [2, 3] rfl⟩
   ·
    have f7 := condT f5; clear f5
    have hs := Option.some.inj f7; subst hs; clear f7
    have hr := hrt _ rfl; subst hr
    have f8 : some _ = some _ := f0
    cases f8
    exact ⟨_, _, rfl, ⟨rfl, rfl⟩, (H.sel [] rfl).close trivial⟩
  ·
   clear H e
   rintro T1 _ _ w4 hr (H : Cx w0 fp0 S0 w4 [Es (List (List Int)) a_ a_h, Es (List (List Int)) b_ b_h])
   subst hr
   refine boolE (z := false) geLen ?_
   refine sq ?_
   cases f0
   exact ⟨_, _, rfl, ⟨rfl, rfl⟩, (H.sel [] rfl).close trivial⟩
 ·
  have f9 := condT hF4; clear hF4
  cases f9
  exact ⟨_, _, rfl, ⟨rfl, rfl⟩, (H.sel [] rfl).close trivial⟩

theorem spec_spGood_c (p_ : Int) (s__0 : Int) (s__1 : List (List Int)) (s__1h : Hd) (y : Bool) (hF : F_spec_spGood p_ (s__0, s__1) = some y) :
  ConF Tryd.prog 129 #[(.int .i64 p_), (.agg #[(.int .i64 s__0), (s__1h).v])] [Es (List (List Int)) s__1 s__1h] [] (fun v Γ' => v = (.bool y) ∧ Γ' = []) := by
 intro w0 S0 fp0 hI hS
 have H : Cx w0 fp0 S0 w0 [Es (List (List Int)) s__1 s__1h] := Cx.start hI hS
 clear hI hS
 refine enterC (args := [_, _]) gok Tryd.func129 rfl _ rfl rfl rfl ?_
 refine box_ H ?_; clear H; intro b3 w2 hx H
 clear hx
 obtain ⟨r0, f0, f1⟩ := bindS hF; clear hF
 refine cut (fun (q0 : Bool) => [(4, (.bool q0))]) (fun (q0 : Bool) w' => q0 = r0 ∧ Cx w0 fp0 S0 w' []) ?_ ?_
 ·
  refine heldX H [] (.fst 0 (.act 1 (.fst 2 (.fst 3 (.fst 4 (.act 5 (.fst 6 (.fst 7 (.fst 8 (.fst 11 (.fst 9 (.fst 10 (.fst 12 (.fst 13 (.fst 14 (.fst 15 (.fst 16 (.fst 17 (.fst 19 (.fst 18 (.fst 20 (.act 21 (.fst 22 (.fst 23 (.fst 24 (.fst 25 (.fst 27 (.fst 30 (.fst 26 (.fst 28 (.fst 31 (.act 29 (.act 32 (.fst 33 (.fst 34 .done))))))))))))))))))))))))))))))))))) mixed [] trivial (by kernel_rfl) ?_
  clear H; intro w1 H
  have hX : Ext w1 w1 := Upd.refl _ _
  have H0 := H
  obtain ⟨y0, e, f2⟩ := bindS f0; clear f0
  have i0 := e; clear e
  refine callFx (spec_fdGood_c p_ y0 i0) H trivial ?_; clear H i0
  rintro _ _ w3 ⟨rfl, rfl⟩ hx H
  replace hX := hX.trans0 hx; clear hx
  refine hold hX ?_
  cases y0
  ·
   have f3 := condF f2; clear f2
   exact ⟨false, ⟨rfl, trivial⟩, Option.some.inj f3, H.sel [] rfl⟩
  ·
   have f4 := condT f2; clear f2
   refine anyH (fun _ => fld gok rfl rfl rfl rfl ⟨rfl, rfl⟩) ?_
   refine load1X (H0.bx 0 rfl (j := 0) rfl) ?_
   obtain ⟨y1, e, f5⟩ := bindS f4; clear f4
   have i1 := e; clear e
   refine callFx (spec_l1In_c s__0 0 24 y1 i1) H trivial ?_; clear H i1
   rintro _ _ w4 ⟨rfl, rfl⟩ hx H
   replace hX := hX.trans0 hx; clear hx
   refine hold hX ?_
   cases y1
   ·
    have f6 := condF f5; clear f5
    exact ⟨false, ⟨rfl, trivial⟩, Option.some.inj f6, H.sel [] rfl⟩
   ·
    have f7 := condT f5; clear f5
    refine anyH (fun _ => fld gok rfl rfl rfl rfl ⟨rfl, rfl⟩) ?_
    refine anyH (fun _ => fld gok rfl rfl rfl rfl ⟨rfl, rfl⟩) ?_
    refine load1X (H0.bx 0 rfl (j := 1) rfl) ?_
    refine lenE (H.rs (α := List (List Int)) 1 rfl).len ?_
    refine load1X (H0.bx 0 rfl (j := 0) rfl) ?_
    obtain ⟨a0, e, f8⟩ := bindS f7; clear f7
    refine boolO e ?_; clear e
    cases a0
    ·
     have f9 := condF f8; clear f8
     exact ⟨false, ⟨rfl, trivial⟩, Option.some.inj f9, H.sel [] rfl⟩
    ·
     have f10 := condT f8; clear f8
     refine anyH (fun _ => fld gok rfl rfl rfl rfl ⟨rfl, rfl⟩) ?_
     refine anyH (fun _ => fld gok rfl rfl rfl rfl ⟨rfl, rfl⟩) ?_
     refine load1X (H0.bx 0 rfl (j := 0) rfl) ?_
     refine load1X (H0.bx 0 rfl (j := 1) rfl) ?_
     obtain ⟨y2, e, f11⟩ := bindS f10; clear f10
     have i2 := e; clear e
     refine callFx (spec_spRows_c p_ s__0 s__1 s__1h y2 i2) H ⟨Vw.sh 1 rfl, trivial⟩ ?_; clear H i2
     rintro _ _ w5 ⟨rfl, rfl⟩ hx H
     replace hX := hX.trans0 hx; clear hx
     refine hold hX ?_
     cases y2
     ·
      have f12 := condF f11; clear f11
      exact ⟨false, ⟨rfl, trivial⟩, Option.some.inj f12, H.sel [] rfl⟩
     ·
      have f13 := condT f11; clear f11
      refine anyH (fun _ => fld gok rfl rfl rfl rfl ⟨rfl, rfl⟩) ?_
      refine anyH (fun _ => fld gok rfl rfl rfl rfl ⟨rfl, rfl⟩) ?_
      refine anyH (fun _ => fld gok rfl rfl rfl rfl ⟨rfl, rfl⟩) ?_
      refine load1X (H0.bx 0 rfl (j := 0) rfl) ?_
      refine load1X (H0.bx 0 rfl (j := 1) rfl) ?_
      refine load1X (H0.bx 0 rfl (j := 1) rfl) ?_
      obtain ⟨y3, e, f14⟩ := bindS f13; clear f13
      have i3 := e; clear e
      refine callFx (spec_spReduce_c p_ s__0 s__1 s__1h y3 i3) H ⟨Vw.sh 1 rfl, trivial⟩ ?_; clear H i3
      rintro _ _ w6 ⟨h0, rfl, rfl⟩ hx H
      replace hX := hX.trans0 hx; clear hx
      refine hold hX ?_
      obtain ⟨y4, e, f15⟩ := bindS f14; clear f14
      have i4 := e; clear e
      refine callFx (spec_spSame_c y3 h0 s__1 s__1h y4 i4) H ⟨Vw.own 0 rfl, Vw.sh 2 rfl, trivial⟩ ?_; clear H i4
      rintro _ _ w7 ⟨rfl, rfl⟩ hx H
      replace hX := hX.trans0 hx; clear hx
      refine hold hX ?_
      exact ⟨y4, ⟨rfl, trivial⟩, Option.some.inj f15, H.sel [] rfl⟩
 ·
  clear f0 H
  rintro T0 s0 w8 ⟨hr, (H : Cx w0 fp0 S0 w8 [])⟩
  subst hr
  cases f1
  exact ⟨_, _, rfl, ⟨rfl, rfl⟩, (H.sel [] rfl).close trivial⟩

theorem spec_rlGood_c (p_ : Int) (r__0 : Int) (r__1 : Int) (r__2 : List (List Int)) (r__2h : Hd) (y : Bool) (hF : F_spec_rlGood p_ (r__0, r__1, r__2) = some y) :
  ConF Tryd.prog 87 #[(.int .i64 p_), (.agg #[(.int .i64 r__0), (.int .i64 r__1), (r__2h).v])] [Es (List (List Int)) r__2 r__2h] [] (fun v Γ' => v = (.bool y) ∧ Γ' = []) := by
 intro w0 S0 fp0 hI hS
 have H : Cx w0 fp0 S0 w0 [Es (List (List Int)) r__2 r__2h] := Cx.start hI hS
 clear hI hS
 refine enterC (args := [_, _]) gok Tryd.func87 rfl _ rfl rfl rfl ?_
 refine box_ H ?_; clear H; intro b3 w2 hx H
 clear hx
 obtain ⟨r0, f0, f1⟩ := bindS hF; clear hF
 refine cut (fun (q0 : Bool) => [(4, (.bool q0))]) (fun (q0 : Bool) w' => q0 = r0 ∧ Cx w0 fp0 S0 w' []) ?_ ?_
 ·
  refine fld gok rfl rfl rfl rfl ?_
  refine load1 (H.bx 0 rfl (j := 0) rfl) ?_
  obtain ⟨y0, e, f2⟩ := bindS f0; clear f0
  have i0 := e; clear e
  refine callF (spec_l1In_c r__0 0 24 y0 i0) (Γi := []) H trivial ?_; clear H i0
  rintro _ _ w1 ⟨rfl, rfl⟩ H
  cases y0
  ·
   have f3 := condF f2; clear f2
   exact ⟨false, ⟨rfl, trivial⟩, Option.some.inj f3, H.sel [] rfl⟩
  ·
   have f4 := condT f2; clear f2
   refine fld gok rfl rfl rfl rfl ?_
   refine load1 (H.bx 0 rfl (j := 1) rfl) ?_
   refine fld gok rfl rfl rfl rfl ?_
   refine load1 (H.bx 0 rfl (j := 0) rfl) ?_
   obtain ⟨a0, e, f5⟩ := bindS f4; clear f4
   refine arO e ?_; clear e
   obtain ⟨y1, e, f6⟩ := bindS f5; clear f5
   have i1 := e; clear e
   refine callF (spec_l1In_c r__1 0 a0 y1 i1) (Γi := []) H trivial ?_; clear H i1
   rintro _ _ w3 ⟨rfl, rfl⟩ H
   cases y1
   ·
    have f7 := condF f6; clear f6
    exact ⟨false, ⟨rfl, trivial⟩, Option.some.inj f7, H.sel [] rfl⟩
   ·
    have f8 := condT f6; clear f6
    refine fld gok rfl rfl rfl rfl ?_
    refine load1 (H.bx 0 rfl (j := 0) rfl) ?_
    refine fld gok rfl rfl rfl rfl ?_
    refine load1 (H.bx 0 rfl (j := 1) rfl) ?_
    obtain ⟨a1, e, f9⟩ := bindS f8; clear f8
    refine arO e ?_; clear e
    refine fld gok rfl rfl rfl rfl ?_
    refine load1 (H.bx 0 rfl (j := 2) rfl) ?_
    refine build_ (cs := #[(.int .i64 a1), (r__2h).v]) gok rfl rfl rfl ?_
    obtain ⟨y2, e, f10⟩ := bindS f9; clear f9
    have i2 := e; clear e
    refine callF (spec_spGood_c p_ a1 r__2 r__2h y2 i2) (Γi := []) H ⟨Vw.sh 1 rfl, trivial⟩ ?_; clear H i2
    rintro _ _ w4 ⟨rfl, rfl⟩ H
    exact ⟨y2, ⟨rfl, trivial⟩, Option.some.inj f10, H.sel [] rfl⟩
 ·
  clear f0 H
  rintro T0 s0 w5 ⟨hr, (H : Cx w0 fp0 S0 w5 [])⟩
  subst hr
  cases f1
  exact ⟨_, _, rfl, ⟨rfl, rfl⟩, (H.sel [] rfl).close trivial⟩

theorem spec_spLead_c (v_ : List Int) (v_h : Hd) (y : Int) (hF : F_spec_spLead v_ = some y) :
  ConF Tryd.prog 88 #[(v_h).v] [Es (List Int) v_ v_h] [] (fun v Γ' => v = (.int .i64 y) ∧ Γ' = []) := by
 intro w0 S0 fp0 hI hS
 have H : Cx w0 fp0 S0 w0 [Es (List Int) v_ v_h] := Cx.start hI hS
 clear hI hS
 refine enterC (args := [_]) gok Tryd.func88 rfl _ rfl rfl rfl ?_
 obtain ⟨r0, f0, f1⟩ := bindS hF; clear hF
 refine cut (fun (q0 : Int) => [(3, (.int .i64 q0))]) (fun (q0 : Int) w' => q0 = r0 ∧ Cx w0 fp0 S0 w' []) ?_ ?_
 ·
  refine loopW _ (fun (s0 : Int) (_ : Unit) => [(0, (v_h).v), (3, (.int .i64 s0))]) (fun (s0 : Int) (_ : Unit) w' => Cx w0 fp0 S0 w' [Es (List Int) v_ v_h]) 0 () f0 ⟨rfl, rfl, trivial⟩ (H.sel [0] rfl) ?_
  ·
   clear H
   rintro T0 s0 _ w1 o0 (H : Cx w0 fp0 S0 w1 [Es (List Int) v_ v_h]) hrt f2
   refine sq ?_
   obtain ⟨r1, f3, f4⟩ := bindS f2; clear f2
   refine cut (fun (q1 : Bool) => [(0, (v_h).v), (3, (.int .i64 s0)), (14, (.bool q1))]) (fun (q1 : Bool) w' => q1 = r1 ∧ Cx w0 fp0 S0 w' [Es (List Int) v_ v_h]) ?_ ?_
   ·
    refine lenE (H.rs (α := List Int) 0 rfl).len ?_
    obtain ⟨a0, e, f5⟩ := bindS f3; clear f3
    refine boolO e ?_; clear e
    cases a0
    ·
     have f6 := condF f5; clear f5
     exact ⟨false, ⟨rfl, rfl, rfl, trivial⟩, Option.some.inj f6, H.sel [0] rfl⟩
    ·
     have f7 := condT f5; clear f5
     obtain ⟨a1, e, f8⟩ := bindS f7; clear f7
     obtain ⟨p0, m0, c0, c1, c2, c3⟩ := (H.rs (α := List Int) 0 rfl).at1 e; clear e
     refine idxE c0 c1 c2 ?_; clear c0 c1 c2
     refine load1 c3 ?_; clear c3
     obtain ⟨a2, e, f9⟩ := bindS f8; clear f8
     refine boolO e ?_; clear e
     exact ⟨a2, ⟨rfl, rfl, rfl, trivial⟩, Option.some.inj f9, H.sel [0] rfl⟩
   ·
    clear f3 H
    rintro T1 s1 w2 ⟨hr, (H : Cx w0 fp0 S0 w2 [Es (List Int) v_ v_h])⟩
    subst hr
    cases s1
    ·
     have f10 := condF f4; clear f4
     have hs := Option.some.inj f10; subst hs; clear f10
     have f11 : some _ = some _ := congrArg some (hrt _ rfl).symm
     exact ⟨s0, ⟨rfl, trivial⟩, Option.some.inj f11, H.sel [] rfl⟩
    ·
     have f12 := condT f4; clear f4
     obtain ⟨a3, e, f13⟩ := bindS f12; clear f12
     refine arO e ?_; clear e
     have hs := Option.some.inj f13; subst hs; clear f13
     exact ⟨a3, (), rfl, ⟨rfl, rfl, trivial⟩, H.sel [0] rfl⟩
 ·
  clear f0 H
  rintro T2 s2 w3 ⟨hr, (H : Cx w0 fp0 S0 w3 [])⟩
  subst hr
  cases f1
  exact ⟨_, _, rfl, ⟨rfl, rfl⟩, (H.sel [] rfl).close trivial⟩

theorem spec_spCoords_c (basis_ : List (List Int)) (basis_h : Hd) (v_ : List Int) (v_h : Hd) (y : List Int) (hF : F_spec_spCoords basis_ v_ = some y) :
  ConF Tryd.prog 101 #[(basis_h).v, (v_h).v] [Es (List (List Int)) basis_ basis_h, Es (List Int) v_ v_h] [] (fun v Γ' => ∃ z0 : Hd, v = (z0).v ∧ Γ' = [E (List Int) y z0]) := by
 intro w0 S0 fp0 hI hS
 have H : Cx w0 fp0 S0 w0 [Es (List (List Int)) basis_ basis_h, Es (List Int) v_ v_h] := Cx.start hI hS
 clear hI hS
 refine enterC (args := [_, _]) gok Tryd.func101 rfl _ rfl rfl rfl ?_
 refine sq ?_
 refine lenE (H.rs (α := List (List Int)) 0 rfl).len ?_
 have x0 := (H.rs (α := List (List Int)) 0 rfl).max
 obtain ⟨r0, e, f0⟩ := bindS hF; clear hF
 replace H := H.nil (α := Int)
 refine loopS _ basis_.length (fun (k3 : Nat) (s0 : List Int) (g0 : Hd) => [(1, (v_h).v), (5, (g0).v), (8, (basis_h).v), (9, (.int .i64 ((basis_.length : Nat) : Int))), (10, (.int .i64 ((k3 : Nat) : Int)))]) (fun _ (s0 : List Int) (g0 : Hd) w' => Cx w0 fp0 S0 w' [Es (List Int) v_ v_h, E (List Int) s0 g0, Es (List (List Int)) basis_ basis_h]) [] nilH e ⟨rfl, rfl, rfl, rfl, rfl, trivial⟩ (H.sel [2, 0, 1] rfl) ?_ ?_
 ·
  clear H e
  rintro T0 k3 s0 g0 w1 o0 hk (H : Cx w0 fp0 S0 w1 [Es (List Int) v_ v_h, E (List Int) s0 g0, Es (List (List Int)) basis_ basis_h]) f1
  refine boolE (z := true) (ltLen hk) ?_
  refine sq ?_
  refine sq ?_
  obtain ⟨a0, e, f2⟩ := bindS f1; clear f1
  have HH := H; clear H; obtain ⟨p0, m0, h0, c0, c1, c2, c3, H⟩ := HH.elL 2 rfl e; clear HH
  clear e
  refine idxE c0 c1 c2 ?_; clear c0 c1 c2
  refine load1 c3 ?_; clear c3
  obtain ⟨y0, e, f3⟩ := bindS f2; clear f2
  have i0 := e; clear e
  refine callF (spec_spLead_c a0 h0 y0 i0) (Γi := []) H ⟨Vw.sh 0 rfl, trivial⟩ ?_; clear H i0
  rintro _ _ w2 ⟨rfl, rfl⟩ H
  obtain ⟨a1, e, f4⟩ := bindS f3; clear f3
  obtain ⟨p1, m1, c4, c5, c6, c7⟩ := (H.rs (α := List Int) 1 rfl).at1 e; clear e
  refine idxE c4 c5 c6 ?_; clear c4 c5 c6
  refine load1 c7 ?_; clear c7
  refine lit1S (α := Int) gok rfl rfl rfl rfl H ?_; clear H; intro h1 w3 hx H
  clear hx
  obtain ⟨a2, e, f5⟩ := bindS f4; clear f4
  replace H := H.sel [3, 0, 1, 2, 4] rfl
  refine append_ (α := Int) gok rfl rfl rfl rfl H e ?_; clear e H; intro h2 w4 H
  refine arK hk x0 ?_
  have hs := Option.some.inj f5; subst hs; clear f5
  exact ⟨h2, ⟨rfl, rfl, rfl, rfl, rfl, trivial⟩, H.sel [2, 0, 3] rfl⟩
 ·
  clear H e
  rintro T1 g1 w5 (H : Cx w0 fp0 S0 w5 [Es (List Int) v_ v_h, E (List Int) r0 g1, Es (List (List Int)) basis_ basis_h])
  refine boolE (z := false) geLen ?_
  refine sq ?_
  cases f0
  exact ⟨_, _, rfl, ⟨g1, rfl, rfl⟩, (H.sel [1] rfl).close ⟨cloE, trivial⟩⟩

theorem spec_spSum_c (p_ : Int) (size_ : Int) (rows_ : List (List Int)) (rows_h : Hd) (coefs_ : List Int) (coefs_h : Hd) (y : List Int) (hF : F_spec_spSum p_ size_ rows_ coefs_ = some y) :
  ConF Tryd.prog 131 #[(.int .i64 p_), (.int .i64 size_), (rows_h).v, (coefs_h).v] [Es (List (List Int)) rows_ rows_h, Es (List Int) coefs_ coefs_h] [] (fun v Γ' => ∃ z0 : Hd, v = (z0).v ∧ Γ' = [E (List Int) y z0]) := by
 intro w0 S0 fp0 hI hS
 have H : Cx w0 fp0 S0 w0 [Es (List (List Int)) rows_ rows_h, Es (List Int) coefs_ coefs_h] := Cx.start hI hS
 clear hI hS
 refine enterC (args := [_, _, _, _]) gok Tryd.func131 rfl _ rfl rfl rfl ?_
 obtain ⟨a3, e, hF4⟩ := bindS hF; clear hF
 refine make_ (α := Int) gok rfl rfl rfl rfl (makeCO_of e) H ?_; clear e H; intro h6 w5 hx H
 clear hx
 refine sq ?_
 refine lenE (H.rs (α := List (List Int)) 1 rfl).len ?_
 have x0 := (H.rs (α := List (List Int)) 1 rfl).max
 obtain ⟨r0, e, f0⟩ := bindS hF4; clear hF4
 refine loopS _ rows_.length (fun (k8 : Nat) (s0 : List Int) (_ : Unit) => [(0, (.int .i64 p_)), (3, (coefs_h).v), (9, (h6).v), (16, (rows_h).v), (17, (.int .i64 ((rows_.length : Nat) : Int))), (18, (.int .i64 ((k8 : Nat) : Int)))]) (fun _ (s0 : List Int) (_ : Unit) w' => Cx w0 fp0 S0 w' [Es (List Int) coefs_ coefs_h, E (List Int) s0 h6, Es (List (List Int)) rows_ rows_h]) a3 () e ⟨rfl, rfl, rfl, rfl, rfl, rfl, trivial⟩ (H.sel [2, 0, 1] rfl) ?_ ?_
 ·
  clear H e
  rintro T0 k8 s0 _ w1 o0 hk (H : Cx w0 fp0 S0 w1 [Es (List Int) coefs_ coefs_h, E (List Int) s0 h6, Es (List (List Int)) rows_ rows_h]) f1
  refine boolE (z := true) (ltLen hk) ?_
  refine sq ?_
  refine sq ?_
  obtain ⟨a0, e, f2⟩ := bindS f1; clear f1
  have HH := H; clear H; obtain ⟨p0, m0, h0, c0, c1, c2, c3, H⟩ := HH.elL 2 rfl e; clear HH
  clear e
  refine idxE c0 c1 c2 ?_; clear c0 c1 c2
  refine load1 c3 ?_; clear c3
  refine lenE (H.rs (α := List Int) 0 rfl).len ?_
  have x1 := (H.rs (α := List Int) 0 rfl).max
  obtain ⟨r1, e, f3⟩ := bindS f2; clear f2
  refine loopS _ a0.length (fun (k0 : Nat) (s1 : List Int) (_ : Unit) => [(0, (.int .i64 p_)), (3, (coefs_h).v), (9, (h6).v), (10, (.int .i64 ((k8 : Nat) : Int))), (16, (rows_h).v), (17, (.int .i64 ((rows_.length : Nat) : Int))), (18, (.int .i64 ((k8 : Nat) : Int))), (23, (h0).v), (24, (.int .i64 ((a0.length : Nat) : Int))), (25, (.int .i64 ((k0 : Nat) : Int)))]) (fun _ (s1 : List Int) (_ : Unit) w' => Cx w0 fp0 S0 w' [Es (List Int) coefs_ coefs_h, E (List Int) s1 h6, Es (List (List Int)) rows_ rows_h, Es (List Int) a0 h0]) s0 () e ⟨rfl, rfl, rfl, rfl, rfl, rfl, rfl, rfl, rfl, rfl, trivial⟩ (H.sel [1, 2, 3, 0] rfl) ?_ ?_
  ·
   clear H e
   rintro T1 k0 s1 _ w2 o1 hk (H : Cx w0 fp0 S0 w2 [Es (List Int) coefs_ coefs_h, E (List Int) s1 h6, Es (List (List Int)) rows_ rows_h, Es (List Int) a0 h0]) f4
   refine boolE (z := true) (ltLen hk) ?_
   refine sq ?_
   refine sq ?_
   obtain ⟨a1, e, f5⟩ := bindS f4; clear f4
   obtain ⟨p1, m1, c4, c5, c6, c7⟩ := (H.rs (α := List Int) 3 rfl).at1 e; clear e
   refine idxE c4 c5 c6 ?_; clear c4 c5 c6
   refine load1 c7 ?_; clear c7
   refine heldX H [16] (.fst 0 (.fst 1 (.fst 2 (.fst 3 (.fst 4 (.fst 6 (.fst 7 (.fst 8 (.fst 10 (.fst 13 (.fst 5 (.fst 9 (.fst 11 (.fst 12 (.fst 14 (.fst 15 (.act 16 .done))))))))))))))))) mixed [] trivial (by kernel_rfl) ?_
   clear H; intro w3 H
   have hX : Ext w3 w3 := Upd.refl _ _
   have H0 := H
   obtain ⟨a2, e, f6⟩ := bindS f5; clear f5
   obtain ⟨p2, m2, c8, c9, c10, c11⟩ := (H.ro (α := List Int) 1 rfl).at1 e; clear e
   refine idxE c8 c9 c10 ?_; clear c8 c9 c10
   obtain ⟨a4, e, f7⟩ := bindS f6; clear f6
   obtain ⟨p3, m3, c12, c13, c14, c15⟩ := (H.rs (α := List Int) 0 rfl).at1 e; clear e
   refine idxE c12 c13 c14 ?_; clear c12 c13 c14
   refine load1X c11 ?_; clear c11
   refine load1X c15 ?_; clear c15
   obtain ⟨a5, e, f8⟩ := bindS f7; clear f7
   refine arO e ?_; clear e
   obtain ⟨a6, e, f9⟩ := bindS f8; clear f8
   refine arO e ?_; clear e
   obtain ⟨a7, e, f10⟩ := bindS f9; clear f9
   refine remO_ e ?_; clear e
   obtain ⟨a8, e, f11⟩ := bindS f10; clear f10
   have i0 := e; clear e
   obtain ⟨p4, m4, c16, c17, c18⟩ := (H.ro (α := List Int) 1 rfl).setp i0
   refine idxE c16 c17 c18 ?_
   replace H := H.sel [1, 0, 2, 3] rfl
   refine setS (α := Int) H c16 c17 i0 ?_; clear H c16 c17 c18 i0; intro w4 H
   refine hold trivial ?_
   refine arK hk x1 ?_
   have hs := Option.some.inj f11; subst hs; clear f11
   exact ⟨(), ⟨rfl, rfl, rfl, rfl, rfl, rfl, rfl, rfl, rfl, rfl, trivial⟩, H.sel [1, 0, 2, 3] rfl⟩
  ·
   clear H e
   rintro T2 _ w6 (H : Cx w0 fp0 S0 w6 [Es (List Int) coefs_ coefs_h, E (List Int) r1 h6, Es (List (List Int)) rows_ rows_h, Es (List Int) a0 h0])
   refine boolE (z := false) geLen ?_
   refine sq ?_
   refine arK hk x0 ?_
   have hs := Option.some.inj f3; subst hs; clear f3
   exact ⟨(), ⟨rfl, rfl, rfl, rfl, rfl, rfl, trivial⟩, H.sel [0, 1, 2] rfl⟩
 ·
  clear H e
  rintro T3 _ w7 (H : Cx w0 fp0 S0 w7 [Es (List Int) coefs_ coefs_h, E (List Int) r0 h6, Es (List (List Int)) rows_ rows_h])
  refine boolE (z := false) geLen ?_
  refine sq ?_
  cases f0
  exact ⟨_, _, rfl, ⟨h6, rfl, rfl⟩, (H.sel [1] rfl).close ⟨cloE, trivial⟩⟩

theorem spec_spHas_c (p_ : Int) (basis_ : List (List Int)) (basis_h : Hd) (v_ : List Int) (v_h : Hd) (y : Bool) (hF : F_spec_spHas p_ basis_ v_ = some y) :
  ConF Tryd.prog 83 #[(.int .i64 p_), (basis_h).v, (v_h).v] [Es (List (List Int)) basis_ basis_h, Es (List Int) v_ v_h] [] (fun v Γ' => v = (.bool y) ∧ Γ' = []) := by
 intro w0 S0 fp0 hI hS
 have H : Cx w0 fp0 S0 w0 [Es (List (List Int)) basis_ basis_h, Es (List Int) v_ v_h] := Cx.start hI hS
 clear hI hS
 refine enterC (args := [_, _, _]) gok Tryd.func83 rfl _ rfl rfl rfl ?_
 refine lenE (H.rs (α := List Int) 1 rfl).len ?_
 obtain ⟨y3, e, hF4⟩ := bindS hF; clear hF
 have ey3 := e; clear e
 refine callF (spec_spCoords_c basis_ basis_h v_ v_h y3 ey3) (Γi := []) H ⟨Vw.sh 0 rfl, Vw.sh 1 rfl, trivial⟩ ?_; clear H ey3
 rintro _ _ w5 ⟨h6, rfl, rfl⟩ H
 obtain ⟨y8, e, hF9⟩ := bindS hF4; clear hF4
 have ey8 := e; clear e
 refine callF (spec_spSum_c p_ ((v_.length : Nat) : Int) basis_ basis_h y3 h6 y8 ey8) (Γi := []) H ⟨Vw.sh 1 rfl, Vw.own 0 rfl, trivial⟩ ?_; clear H ey8
 rintro _ _ w1 ⟨h0, rfl, rfl⟩ H
 obtain ⟨y0, e, f0⟩ := bindS hF9; clear hF9
 have i0 := e; clear e
 refine callF (spec_l1Same_c y8 h0 v_ v_h y0 i0) (Γi := []) H ⟨Vw.own 0 rfl, Vw.sh 3 rfl, trivial⟩ ?_; clear H i0
 rintro _ _ w2 ⟨rfl, rfl⟩ H
 cases f0
 exact ⟨_, _, rfl, ⟨rfl, rfl⟩, (H.sel [] rfl).close trivial⟩

theorem spec_rlHas_c (p_ : Int) (r__0 : Int) (r__1 : Int) (r__2 : List (List Int)) (r__2h : Hd) (x_ : List Int) (x_h : Hd) (y_ : List Int) (y_h : Hd) (y : Bool) (hF : F_spec_rlHas p_ (r__0, r__1, r__2) x_ y_ = some y) :
  ConF Tryd.prog 92 #[(.int .i64 p_), (.agg #[(.int .i64 r__0), (.int .i64 r__1), (r__2h).v]), (x_h).v, (y_h).v] [Es (List (List Int)) r__2 r__2h, Es (List Int) x_ x_h, Es (List Int) y_ y_h] [] (fun v Γ' => v = (.bool y) ∧ Γ' = []) := by
 intro w0 S0 fp0 hI hS
 have H : Cx w0 fp0 S0 w0 [Es (List (List Int)) r__2 r__2h, Es (List Int) x_ x_h, Es (List Int) y_ y_h] := Cx.start hI hS
 clear hI hS
 refine enterC (args := [_, _, _, _]) gok Tryd.func92 rfl _ rfl rfl rfl ?_
 refine box_ H ?_; clear H; intro b5 w4 hx H
 clear hx
 refine heldX H [6, 7, 8, 0, 1, 2] (.pure 0 (.pure 1 (.pure 2 (.fst 3 (.fst 5 (.act 4 (.act 6 (.act 7 (.act 8 .done))))))))) mixed [((Addr.add ⟨b5, 0, none⟩ 2), (r__2h).v)] ⟨H.bx 0 rfl (j := 2) rfl, trivial⟩ (by kernel_rfl) ?_
 clear H; intro w7 H
 have hX : Ext w7 w7 := Upd.refl _ _
 have H0 := H
 refine anyH (fun _ => fld gok rfl rfl rfl rfl ⟨rfl, rfl⟩) ?_
 refine load1W 0 rfl ?_
 obtain ⟨y8, e, hF9⟩ := bindS hF; clear hF
 have ey8 := e; clear e
 refine callFx (spec_l1Own_c x_ x_h y8 ey8) H ⟨Vw.sh 2 rfl, trivial⟩ ?_; clear H ey8
 rintro _ _ w1 ⟨h0, rfl, rfl⟩ hx H
 replace hX := hX.trans0 hx; clear hx
 refine hold hX ?_
 obtain ⟨a0, e, f0⟩ := bindS hF9; clear hF9
 refine appendS (α := Int) gok rfl rfl rfl rfl H (Vw.sh 3 rfl) e ?_; clear e H; intro h1 w2 H
 refine hold ⟨H.bx 1 rfl (j := 2) rfl, trivial⟩ ?_
 obtain ⟨y0, e, f1⟩ := bindS f0; clear f0
 have i0 := e; clear e
 refine callF (spec_spHas_c p_ r__2 r__2h a0 h1 y0 i0) (Γi := []) H ⟨Vw.sh 2 rfl, Vw.own 0 rfl, trivial⟩ ?_; clear H i0
 rintro _ _ w3 ⟨rfl, rfl⟩ H
 refine hold ⟨H.bx 1 rfl (j := 2) rfl, trivial⟩ ?_
 refine hold ⟨H.bx 1 rfl (j := 2) rfl, trivial⟩ ?_
 cases f1
 exact ⟨_, _, rfl, ⟨rfl, rfl⟩, (H.sel [] rfl).close trivial⟩

theorem spec_HasPair_c (p_ : Int) (r__0 : Int) (r__1 : Int) (r__2 : List (List Int)) (r__2h : Hd) (x_ : List Int) (x_h : Hd) (y_ : List Int) (y_h : Hd) (y0 : Bool) (y1 : Bool) (hF : F_spec_HasPair p_ (r__0, r__1, r__2) x_ y_ = some (y0, y1)) :
  ConF Tryd.prog 44 #[(.int .i64 p_), (.agg #[(.int .i64 r__0), (.int .i64 r__1), (r__2h).v]), (x_h).v, (y_h).v] [Es (List (List Int)) r__2 r__2h, Es (List Int) x_ x_h, Es (List Int) y_ y_h] [] (fun v Γ' => v = (.tuple #[(.bool y0), (.bool y1)]) ∧ Γ' = []) := by
 intro w0 S0 fp0 hI hS
 have H : Cx w0 fp0 S0 w0 [Es (List (List Int)) r__2 r__2h, Es (List Int) x_ x_h, Es (List Int) y_ y_h] := Cx.start hI hS
 clear hI hS
 refine enterC (args := [_, _, _, _]) gok Tryd.func44 rfl _ rfl rfl rfl ?_
 refine box_ H ?_; clear H; intro b5 w4 hx H
 clear hx
 refine sq ?_
 obtain ⟨r0, f0, f1⟩ := bindS hF; clear hF
 refine cut (fun (q0 : Bool) => [(0, (.int .i64 p_)), (2, (x_h).v), (3, (y_h).v), (5, (.pointer (some ⟨b5, 0, none⟩))), (39, (.bool q0))]) (fun (q0 : Bool) w' => q0 = r0 ∧ Cx w0 fp0 S0 w' [Es (List Int) x_ x_h, Es (List Int) y_ y_h, Bx b5 [(.int .i64 r__0), (.int .i64 r__1), (r__2h).v], Es (List (List Int)) r__2 r__2h]) ?_ ?_
 ·
  refine loadN [(.int .i64 r__0), (.int .i64 r__1), (r__2h).v] rfl (fun j u hj => H.bx 0 rfl hj) ?_
  obtain ⟨y2, e, f2⟩ := bindS f0; clear f0
  have i0 := e; clear e
  refine callF (spec_rlGood_c p_ r__0 r__1 r__2 r__2h y2 i0) (Γi := []) H ⟨Vw.sh 1 rfl, trivial⟩ ?_; clear H i0
  rintro _ _ w1 ⟨rfl, rfl⟩ H
  obtain ⟨a0, e, f3⟩ := bindS f2; clear f2
  refine boolO e ?_; clear e
  cases a0
  ·
   have f4 := condF f3; clear f3
   refine lenE (H.rs (α := List Int) 2 rfl).len ?_
   refine fld gok rfl rfl rfl rfl ?_
   refine load1 (H.bx 0 rfl (j := 0) rfl) ?_
   obtain ⟨a1, e, f5⟩ := bindS f4; clear f4
   refine boolO e ?_; clear e
   cases a1
   ·
    have f6 := condF f5; clear f5
    refine lenE (H.rs (α := List Int) 3 rfl).len ?_
    refine fld gok rfl rfl rfl rfl ?_
    refine load1 (H.bx 0 rfl (j := 1) rfl) ?_
    obtain ⟨a2, e, f7⟩ := bindS f6; clear f6
    refine boolO e ?_; clear e
    cases a2
    ·
     have f8 := condF f7; clear f7
     obtain ⟨y3, e, f9⟩ := bindS f8; clear f8
     have i1 := e; clear e
     refine callF (spec_fdIn_c p_ x_ x_h y3 i1) (Γi := []) H ⟨Vw.sh 2 rfl, trivial⟩ ?_; clear H i1
     rintro _ _ w2 ⟨rfl, rfl⟩ H
     obtain ⟨a3, e, f10⟩ := bindS f9; clear f9
     refine boolO e ?_; clear e
     cases a3
     ·
      have f11 := condF f10; clear f10
      obtain ⟨y4, e, f12⟩ := bindS f11; clear f11
      have i2 := e; clear e
      refine callF (spec_fdIn_c p_ y_ y_h y4 i2) (Γi := []) H ⟨Vw.sh 3 rfl, trivial⟩ ?_; clear H i2
      rintro _ _ w3 ⟨rfl, rfl⟩ H
      obtain ⟨a4, e, f13⟩ := bindS f12; clear f12
      refine boolO e ?_; clear e
      exact ⟨a4, ⟨rfl, rfl, rfl, rfl, rfl, trivial⟩, Option.some.inj f13, H.sel [2, 3, 0, 1] rfl⟩
     ·
      have f14 := condT f10; clear f10
      exact ⟨true, ⟨rfl, rfl, rfl, rfl, rfl, trivial⟩, Option.some.inj f14, H.sel [2, 3, 0, 1] rfl⟩
    ·
     have f15 := condT f7; clear f7
     exact ⟨true, ⟨rfl, rfl, rfl, rfl, rfl, trivial⟩, Option.some.inj f15, H.sel [2, 3, 0, 1] rfl⟩
   ·
    have f16 := condT f5; clear f5
    exact ⟨true, ⟨rfl, rfl, rfl, rfl, rfl, trivial⟩, Option.some.inj f16, H.sel [2, 3, 0, 1] rfl⟩
  ·
   have f17 := condT f3; clear f3
   exact ⟨true, ⟨rfl, rfl, rfl, rfl, rfl, trivial⟩, Option.some.inj f17, H.sel [2, 3, 0, 1] rfl⟩
 ·
  clear f0 H
  rintro T0 s0 w5 ⟨hr, (H : Cx w0 fp0 S0 w5 [Es (List Int) x_ x_h, Es (List Int) y_ y_h, Bx b5 [(.int .i64 r__0), (.int .i64 r__1), (r__2h).v], Es (List (List Int)) r__2 r__2h])⟩
  subst hr
  cases s0
  ·
   have f18 := condF f1; clear f1
   refine loadN [(.int .i64 r__0), (.int .i64 r__1), (r__2h).v] rfl (fun j u hj => H.bx 2 rfl hj) ?_
   obtain ⟨y5, e, f19⟩ := bindS f18; clear f18
   have i3 := e; clear e
   refine callF (spec_rlHas_c p_ r__0 r__1 r__2 r__2h x_ x_h y_ y_h y5 i3) (Γi := []) H ⟨Vw.sh 3 rfl, Vw.sh 0 rfl, Vw.sh 1 rfl, trivial⟩ ?_; clear H i3
   rintro _ _ w6 ⟨rfl, rfl⟩ H
   cases f19
   exact ⟨_, _, rfl, ⟨rfl, rfl⟩, (H.sel [] rfl).close trivial⟩
  ·
   have f20 := condT f1; clear f1
   cases f20
   exact ⟨_, _, rfl, ⟨rfl, rfl⟩, (H.sel [] rfl).close trivial⟩

theorem impl_isField_c (p_ : Int) (y : Bool) (hF : F_impl_isField p_ = some y) :
  ConF Tryd.prog 104 #[(.int .i64 p_)] [Gl 0 [.int .i64 2, .int .i64 3, .int .i64 5, .int .i64 7]] [] (fun v Γ' => v = (.bool y) ∧ Γ' = []) := by
 intro w0 S0 fp0 hI hS
 have H : Cx w0 fp0 S0 w0 [Gl 0 [.int .i64 2, .int .i64 3, .int .i64 5, .int .i64 7]] := Cx.start hI hS
 clear hI hS
 refine enterC (args := [_]) gok Tryd.func104 rfl _ rfl rfl rfl ?_
 refine sq ?_
 obtain ⟨r0, f0, f1⟩ := bindS hF; clear hF
 refine cut (fun (q0 : Bool) => [(0, (.int .i64 p_)), (10, (.bool q0))]) (fun (q0 : Bool) w' => q0 = r0 ∧ Cx w0 fp0 S0 w' [Gl 0 [.int .i64 2, .int .i64 3, .int .i64 5, .int .i64 7]]) ?_ ?_
 ·
  obtain ⟨a0, e, f2⟩ := bindS f0; clear f0
  refine boolO e ?_; clear e
  cases a0
  ·
   have f3 := condF f2; clear f2
   obtain ⟨a1, e, f4⟩ := bindS f3; clear f3
   refine boolO e ?_; clear e
   exact ⟨a1, ⟨rfl, rfl, trivial⟩, Option.some.inj f4, H.sel [0] rfl⟩
  ·
   have f5 := condT f2; clear f2
   exact ⟨true, ⟨rfl, rfl, trivial⟩, Option.some.inj f5, H.sel [0] rfl⟩
 ·
  clear f0 H
  rintro T0 s8 w1 ⟨hr, (H : Cx w0 fp0 S0 w1 [Gl 0 [.int .i64 2, .int .i64 3, .int .i64 5, .int .i64 7]])⟩
  subst hr
  cases s8
  ·
   have f6 := condF f1; clear f1
   refine sq ?_
   refine loadN [.int .i64 2, .int .i64 3, .int .i64 5, .int .i64 7] rfl (H.gl 0 rfl) ?_
   obtain ⟨a2, hn56, f7⟩ := bindS f6; clear f6
   obtain ⟨r1, e, f8⟩ := bindS f7; clear f7
   refine loopO _ ((4 : Int).toNat) (fun (k0 : Nat) (_ : Unit) (_ : Unit) => [(0, (.int .i64 p_)), (11, (.agg #[.int .i64 2, .int .i64 3, .int .i64 5, .int .i64 7])), (12, (.int .i64 ((k0 : Nat) : Int)))]) (fun _ (_ : Unit) (_ : Unit) w' => Cx w0 fp0 S0 w' [Gl 0 [.int .i64 2, .int .i64 3, .int .i64 5, .int .i64 7]]) () () e ⟨rfl, rfl, rfl, trivial⟩ (H.sel [0] rfl) ?_ ?_
   ·
    clear H e
    rintro T1 k0 _ _ w2 o0 hk (H : Cx w0 fp0 S0 w2 [Gl 0 [.int .i64 2, .int .i64 3, .int .i64 5, .int .i64 7]]) hrt f9
    refine boolE (z := true) (ltNat hk) ?_
    refine sq ?_
    refine sq ?_
    obtain ⟨a3, e, f10⟩ := bindS f9; clear f9
    refine indexI gok rfl rfl rfl rfl rfl e ?_; clear e
    obtain ⟨r2, f11, f12⟩ := bindS f10; clear f10
    refine cut (fun (q1 : Bool) => [(0, (.int .i64 p_)), (11, (.agg #[.int .i64 2, .int .i64 3, .int .i64 5, .int .i64 7])), (12, (.int .i64 ((k0 : Nat) : Int))), (23, (.bool q1))]) (fun (q1 : Bool) w' => q1 = r2 ∧ Cx w0 fp0 S0 w' [Gl 0 [.int .i64 2, .int .i64 3, .int .i64 5, .int .i64 7]]) ?_ ?_
    ·
     obtain ⟨a4, e, f13⟩ := bindS f11; clear f11
     refine remO_ e ?_; clear e
     obtain ⟨a5, e, f14⟩ := bindS f13; clear f13
     refine boolO e ?_; clear e
     cases a5
     ·
      have f15 := condF f14; clear f14
      exact ⟨false, ⟨rfl, rfl, rfl, rfl, trivial⟩, Option.some.inj f15, H.sel [0] rfl⟩
     ·
      have f16 := condT f14; clear f14
      obtain ⟨a6, e, f17⟩ := bindS f16; clear f16
      refine boolO e ?_; clear e
      exact ⟨a6, ⟨rfl, rfl, rfl, rfl, trivial⟩, Option.some.inj f17, H.sel [0] rfl⟩
    ·
     clear f11 H
     rintro T2 s0 w3 ⟨hr, (H : Cx w0 fp0 S0 w3 [Gl 0 [.int .i64 2, .int .i64 3, .int .i64 5, .int .i64 7]])⟩
     subst hr
     cases s0
     ·
      have f18 := condF f12; clear f12
      refine arK hk (maxI hn56) ?_
      have hs := Option.some.inj f18; subst hs; clear f18
      exact ⟨(), (), rfl, ⟨rfl, rfl, rfl, trivial⟩, H.sel [0] rfl⟩
     ·
      have f19 := condT f12; clear f12
      have hs := Option.some.inj f19; subst hs; clear f19
      have hr := hrt _ rfl; subst hr
      have f20 : some _ = some _ := f8
      cases f20
      exact ⟨_, _, rfl, ⟨rfl, rfl⟩, (H.sel [] rfl).close trivial⟩
   ·
    clear H e
    rintro T3 _ _ w4 hr (H : Cx w0 fp0 S0 w4 [Gl 0 [.int .i64 2, .int .i64 3, .int .i64 5, .int .i64 7]])
    subst hr
    refine boolE (z := false) geNat ?_
    refine sq ?_
    cases f8
    exact ⟨_, _, rfl, ⟨rfl, rfl⟩, (H.sel [] rfl).close trivial⟩
  ·
   have f21 := condT f1; clear f1
   cases f21
   exact ⟨_, _, rfl, ⟨rfl, rfl⟩, (H.sel [] rfl).close trivial⟩

theorem impl_within_c (n_ : Int) (low_ : Int) (high_ : Int) (y : Bool) (hF : F_impl_within n_ low_ high_ = some y) :
  ConF Tryd.prog 78 #[(.int .i64 n_), (.int .i64 low_), (.int .i64 high_)] [] [] (fun v Γ' => v = (.bool y) ∧ Γ' = []) := by
 intro w0 S0 fp0 hI hS
 have H : Cx w0 fp0 S0 w0 [] := Cx.start hI hS
 clear hI hS
 refine enterC (args := [_, _, _]) gok Tryd.func78 rfl _ rfl rfl rfl ?_
 obtain ⟨r9, f0, f1⟩ := bindS hF; clear hF
 refine cut (fun (q0 : Bool) => [(6, (.bool q0))]) (fun (q0 : Bool) w' => q0 = r9 ∧ Cx w0 fp0 S0 w' []) ?_ ?_
 ·
  obtain ⟨a0, e, f2⟩ := bindS f0; clear f0
  refine boolO e ?_; clear e
  cases a0
  ·
   have f3 := condF f2; clear f2
   exact ⟨false, ⟨rfl, trivial⟩, Option.some.inj f3, H.sel [] rfl⟩
  ·
   have f4 := condT f2; clear f2
   obtain ⟨a1, e, f5⟩ := bindS f4; clear f4
   refine boolO e ?_; clear e
   exact ⟨a1, ⟨rfl, trivial⟩, Option.some.inj f5, H.sel [] rfl⟩
 ·
  clear f0 H
  rintro T0 s7 w1 ⟨hr, (H : Cx w0 fp0 S0 w1 [])⟩
  subst hr
  cases f1
  exact ⟨_, _, rfl, ⟨rfl, rfl⟩, (H.sel [] rfl).close trivial⟩

theorem impl_fits_c (left_ : Int) (right_ : Int) (y : Bool) (hF : F_impl_fits left_ right_ = some y) :
  ConF Tryd.prog 136 #[(.int .i64 left_), (.int .i64 right_)] [] [] (fun v Γ' => v = (.bool y) ∧ Γ' = []) := by
 intro w0 S0 fp0 hI hS
 have H : Cx w0 fp0 S0 w0 [] := Cx.start hI hS
 clear hI hS
 refine enterC (args := [_, _]) gok Tryd.func136 rfl _ rfl rfl rfl ?_
 obtain ⟨r0, f0, f1⟩ := bindS hF; clear hF
 refine cut (fun (q0 : Bool) => [(4, (.bool q0))]) (fun (q0 : Bool) w' => q0 = r0 ∧ Cx w0 fp0 S0 w' []) ?_ ?_
 ·
  obtain ⟨y0, e, f2⟩ := bindS f0; clear f0
  have i0 := e; clear e
  refine callF (impl_within_c left_ 0 24 y0 i0) (Γi := []) H trivial ?_; clear H i0
  rintro _ _ w1 ⟨rfl, rfl⟩ H
  cases y0
  ·
   have f3 := condF f2; clear f2
   exact ⟨false, ⟨rfl, trivial⟩, Option.some.inj f3, H.sel [] rfl⟩
  ·
   have f4 := condT f2; clear f2
   obtain ⟨y1, e, f5⟩ := bindS f4; clear f4
   have i1 := e; clear e
   refine callF (impl_within_c right_ 0 24 y1 i1) (Γi := []) H trivial ?_; clear H i1
   rintro _ _ w2 ⟨rfl, rfl⟩ H
   cases y1
   ·
    have f6 := condF f5; clear f5
    exact ⟨false, ⟨rfl, trivial⟩, Option.some.inj f6, H.sel [] rfl⟩
   ·
    have f7 := condT f5; clear f5
    obtain ⟨a0, e, f8⟩ := bindS f7; clear f7
    refine arO e ?_; clear e
    obtain ⟨a1, e, f9⟩ := bindS f8; clear f8
    refine boolO e ?_; clear e
    exact ⟨a1, ⟨rfl, trivial⟩, Option.some.inj f9, H.sel [] rfl⟩
 ·
  clear f0 H
  rintro T0 s0 w3 ⟨hr, (H : Cx w0 fp0 S0 w3 [])⟩
  subst hr
  cases f1
  exact ⟨_, _, rfl, ⟨rfl, rfl⟩, (H.sel [] rfl).close trivial⟩

theorem impl_isElement_c (p_ : Int) (a_ : Int) (y : Bool) (hF : F_impl_isElement p_ a_ = some y) :
  ConF Tryd.prog 133 #[(.int .i64 p_), (.int .i64 a_)] [] [] (fun v Γ' => v = (.bool y) ∧ Γ' = []) := by
 intro w0 S0 fp0 hI hS
 have H : Cx w0 fp0 S0 w0 [] := Cx.start hI hS
 clear hI hS
 refine enterC (args := [_, _]) gok Tryd.func133 rfl _ rfl rfl rfl ?_
 obtain ⟨r9, f0, f1⟩ := bindS hF; clear hF
 refine cut (fun (q0 : Bool) => [(4, (.bool q0))]) (fun (q0 : Bool) w' => q0 = r9 ∧ Cx w0 fp0 S0 w' []) ?_ ?_
 ·
  obtain ⟨a0, e, f2⟩ := bindS f0; clear f0
  refine boolO e ?_; clear e
  cases a0
  ·
   have f3 := condF f2; clear f2
   exact ⟨false, ⟨rfl, trivial⟩, Option.some.inj f3, H.sel [] rfl⟩
  ·
   have f4 := condT f2; clear f2
   obtain ⟨a1, e, f5⟩ := bindS f4; clear f4
   refine boolO e ?_; clear e
   exact ⟨a1, ⟨rfl, trivial⟩, Option.some.inj f5, H.sel [] rfl⟩
 ·
  clear f0 H
  rintro T0 s7 w1 ⟨hr, (H : Cx w0 fp0 S0 w1 [])⟩
  subst hr
  cases f1
  exact ⟨_, _, rfl, ⟨rfl, rfl⟩, (H.sel [] rfl).close trivial⟩

theorem impl_isVector_c (p_ : Int) (v_ : List Int) (v_h : Hd) (n_ : Int) (y : Bool) (hF : F_impl_isVector p_ v_ n_ = some y) :
  ConF Tryd.prog 85 #[(.int .i64 p_), (v_h).v, (.int .i64 n_)] [Es (List Int) v_ v_h] [] (fun v Γ' => v = (.bool y) ∧ Γ' = []) := by
 intro w0 S0 fp0 hI hS
 have H : Cx w0 fp0 S0 w0 [Es (List Int) v_ v_h] := Cx.start hI hS
 clear hI hS
 refine enterC (args := [_, _, _]) gok Tryd.func85 rfl _ rfl rfl rfl ?_
 refine sq ?_
 refine lenE (H.rs (α := List Int) 0 rfl).len ?_
 obtain ⟨a2, e, hF3⟩ := bindS hF; clear hF
 refine boolO e ?_; clear e
 cases a2
 ·
  have hF4 := condF hF3; clear hF3
  refine sq ?_
  refine lenE (H.rs (α := List Int) 0 rfl).len ?_
  have x0 := (H.rs (α := List Int) 0 rfl).max
  obtain ⟨r0, e, f0⟩ := bindS hF4; clear hF4
  refine loopO _ v_.length (fun (k5 : Nat) (_ : Unit) (_ : Unit) => [(0, (.int .i64 p_)), (13, (v_h).v), (14, (.int .i64 ((v_.length : Nat) : Int))), (15, (.int .i64 ((k5 : Nat) : Int)))]) (fun _ (_ : Unit) (_ : Unit) w' => Cx w0 fp0 S0 w' [Es (List Int) v_ v_h]) () () e ⟨rfl, rfl, rfl, rfl, trivial⟩ (H.sel [0] rfl) ?_ ?_
  ·
   clear H e
   rintro T0 k5 _ _ w1 o0 hk (H : Cx w0 fp0 S0 w1 [Es (List Int) v_ v_h]) hrt f1
   refine boolE (z := true) (ltLen hk) ?_
   refine sq ?_
   refine sq ?_
   obtain ⟨a0, e, f2⟩ := bindS f1; clear f1
   obtain ⟨p0, m0, c0, c1, c2, c3⟩ := (H.rs (α := List Int) 0 rfl).at1 e; clear e
   refine idxE c0 c1 c2 ?_; clear c0 c1 c2
   refine load1 c3 ?_; clear c3
   obtain ⟨y0, e, f3⟩ := bindS f2; clear f2
   have i0 := e; clear e
   refine callF (impl_isElement_c p_ a0 y0 i0) (Γi := []) H trivial ?_; clear H i0
   rintro _ _ w2 ⟨rfl, rfl⟩ H
   obtain ⟨a1, e, f4⟩ := bindS f3; clear f3
   refine boolO e ?_; clear e
   cases a1
   ·
    have f5 := condF f4; clear f4
    refine arK hk x0 ?_
    have hs := Option.some.inj f5; subst hs; clear f5
    exact ⟨(), (), rfl, ⟨rfl, rfl, rfl, rfl, trivial⟩, H.sel [0] rfl⟩
   ·
    have f6 := condT f4; clear f4
    have hs := Option.some.inj f6; subst hs; clear f6
    have hr := hrt _ rfl; subst hr
    have f7 : some _ = some _ := f0
    cases f7
    exact ⟨_, _, rfl, ⟨rfl, rfl⟩, (H.sel [] rfl).close trivial⟩
  ·
   clear H e
   rintro T1 _ _ w3 hr (H : Cx w0 fp0 S0 w3 [Es (List Int) v_ v_h])
   subst hr
   refine boolE (z := false) geLen ?_
   refine sq ?_
   cases f0
   exact ⟨_, _, rfl, ⟨rfl, rfl⟩, (H.sel [] rfl).close trivial⟩
 ·
  have f8 := condT hF3; clear hF3
  cases f8
  exact ⟨_, _, rfl, ⟨rfl, rfl⟩, (H.sel [] rfl).close trivial⟩

theorem impl_areVectors_c (p_ : Int) (rows_ : List (List Int)) (rows_h : Hd) (n_ : Int) (y : Bool) (hF : F_impl_areVectors p_ rows_ n_ = some y) :
  ConF Tryd.prog 127 #[(.int .i64 p_), (rows_h).v, (.int .i64 n_)] [Es (List (List Int)) rows_ rows_h] [] (fun v Γ' => v = (.bool y) ∧ Γ' = []) := by
 intro w0 S0 fp0 hI hS
 have H : Cx w0 fp0 S0 w0 [Es (List (List Int)) rows_ rows_h] := Cx.start hI hS
 clear hI hS
 refine enterC (args := [_, _, _]) gok Tryd.func127 rfl _ rfl rfl rfl ?_
 refine sq ?_
 refine lenE (H.rs (α := List (List Int)) 0 rfl).len ?_
 have x0 := (H.rs (α := List (List Int)) 0 rfl).max
 obtain ⟨r0, e, f0⟩ := bindS hF; clear hF
 refine loopO _ rows_.length (fun (k2 : Nat) (_ : Unit) (_ : Unit) => [(0, (.int .i64 p_)), (2, (.int .i64 n_)), (9, (rows_h).v), (10, (.int .i64 ((rows_.length : Nat) : Int))), (11, (.int .i64 ((k2 : Nat) : Int)))]) (fun _ (_ : Unit) (_ : Unit) w' => Cx w0 fp0 S0 w' [Es (List (List Int)) rows_ rows_h]) () () e ⟨rfl, rfl, rfl, rfl, rfl, trivial⟩ (H.sel [0] rfl) ?_ ?_
 ·
  clear H e
  rintro T0 k2 _ _ w1 o0 hk (H : Cx w0 fp0 S0 w1 [Es (List (List Int)) rows_ rows_h]) hrt f1
  refine boolE (z := true) (ltLen hk) ?_
  refine sq ?_
  refine sq ?_
  obtain ⟨a0, e, f2⟩ := bindS f1; clear f1
  have HH := H; clear H; obtain ⟨p0, m0, h0, c0, c1, c2, c3, H⟩ := HH.elL 0 rfl e; clear HH
  clear e
  refine idxE c0 c1 c2 ?_; clear c0 c1 c2
  refine load1 c3 ?_; clear c3
  obtain ⟨y0, e, f3⟩ := bindS f2; clear f2
  have i0 := e; clear e
  refine callF (impl_isVector_c p_ a0 h0 n_ y0 i0) (Γi := []) H ⟨Vw.sh 0 rfl, trivial⟩ ?_; clear H i0
  rintro _ _ w2 ⟨rfl, rfl⟩ H
  obtain ⟨a1, e, f4⟩ := bindS f3; clear f3
  refine boolO e ?_; clear e
  cases a1
  ·
   have f5 := condF f4; clear f4
   refine arK hk x0 ?_
   have hs := Option.some.inj f5; subst hs; clear f5
   exact ⟨(), (), rfl, ⟨rfl, rfl, rfl, rfl, rfl, trivial⟩, H.sel [1] rfl⟩
  ·
   have f6 := condT f4; clear f4
   have hs := Option.some.inj f6; subst hs; clear f6
   have hr := hrt _ rfl; subst hr
   have f7 : some _ = some _ := f0
   cases f7
   exact ⟨_, _, rfl, ⟨rfl, rfl⟩, (H.sel [] rfl).close trivial⟩
 ·
  clear H e
  rintro T1 _ _ w3 hr (H : Cx w0 fp0 S0 w3 [Es (List (List Int)) rows_ rows_h])
  subst hr
  refine boolE (z := false) geLen ?_
  refine sq ?_
  cases f0
  exact ⟨_, _, rfl, ⟨rfl, rfl⟩, (H.sel [] rfl).close trivial⟩

theorem impl_clone_c (list_ : List Int) (list_h : Hd) (y : List Int) (hF : F_impl_clone list_ = some y) :
  ConF Tryd.prog 134 #[(list_h).v] [Es (List Int) list_ list_h] [] (fun v Γ' => ∃ z0 : Hd, v = (z0).v ∧ Γ' = [E (List Int) y z0]) := by
 intro w0 S0 fp0 hI hS
 have H : Cx w0 fp0 S0 w0 [Es (List Int) list_ list_h] := Cx.start hI hS
 clear hI hS
 refine enterC (args := [_]) gok Tryd.func134 rfl _ rfl rfl rfl ?_
 refine lit0 (α := Int) gok rfl rfl H ?_; clear H; intro h3 w2 hx H
 clear hx
 obtain ⟨a5, e, hF6⟩ := bindS hF; clear hF
 refine appendS (α := Int) gok rfl rfl rfl rfl H (Vw.sh 0 rfl) e ?_; clear e H; intro h8 w7 H
 cases hF6
 exact ⟨_, _, rfl, ⟨h8, rfl, rfl⟩, (H.sel [0] rfl).close ⟨cloE, trivial⟩⟩

theorem impl_clones_c (list_ : List (List Int)) (list_h : Hd) (y : List (List Int)) (hF : F_impl_clones list_ = some y) :
  ConF Tryd.prog 109 #[(list_h).v] [Es (List (List Int)) list_ list_h] [] (fun v Γ' => ∃ z0 : Hd, v = (z0).v ∧ Γ' = [E (List (List Int)) y z0]) := by
 intro w0 S0 fp0 hI hS
 have H : Cx w0 fp0 S0 w0 [Es (List (List Int)) list_ list_h] := Cx.start hI hS
 clear hI hS
 refine enterC (args := [_]) gok Tryd.func109 rfl _ rfl rfl rfl ?_
 refine lenE (H.rs (α := List (List Int)) 0 rfl).len ?_
 obtain ⟨a2, e, hF3⟩ := bindS hF; clear hF
 refine make_ (α := List Int) gok rfl rfl rfl rfl e H ?_; clear e H; intro h5 w4 hx H
 clear hx
 refine sq ?_
 refine lenE (H.rs (α := List (List Int)) 1 rfl).len ?_
 have x0 := (H.rs (α := List (List Int)) 1 rfl).max
 obtain ⟨r0, e, f0⟩ := bindS hF3; clear hF3
 refine loopS _ list_.length (fun (k7 : Nat) (s0 : List (List Int)) (g0 : Hd) => [(3, (g0).v), (9, (list_h).v), (10, (.int .i64 ((list_.length : Nat) : Int))), (11, (.int .i64 ((k7 : Nat) : Int)))]) (fun _ (s0 : List (List Int)) (g0 : Hd) w' => Cx w0 fp0 S0 w' [E (List (List Int)) s0 g0, Es (List (List Int)) list_ list_h]) a2 h5 e ⟨rfl, rfl, rfl, rfl, trivial⟩ (H.sel [0, 1] rfl) ?_ ?_
 ·
  clear H e
  rintro T0 k7 s0 g0 w1 o0 hk (H : Cx w0 fp0 S0 w1 [E (List (List Int)) s0 g0, Es (List (List Int)) list_ list_h]) f1
  refine boolE (z := true) (ltLen hk) ?_
  refine sq ?_
  refine sq ?_
  obtain ⟨a0, e, f2⟩ := bindS f1; clear f1
  have HH := H; clear H; obtain ⟨p0, m0, h0, c0, c1, c2, c3, H⟩ := HH.elL 1 rfl e; clear HH
  clear e
  refine idxE c0 c1 c2 ?_; clear c0 c1 c2
  refine load1 c3 ?_; clear c3
  obtain ⟨y0, e, f3⟩ := bindS f2; clear f2
  have i0 := e; clear e
  refine callF (impl_clone_c a0 h0 y0 i0) (Γi := []) H ⟨Vw.sh 0 rfl, trivial⟩ ?_; clear H i0
  rintro _ _ w2 ⟨h1, rfl, rfl⟩ H
  refine lit1 (α := List Int) (g := h1) gok rfl rfl rfl rfl rfl H ?_; clear H; intro h2 w3 hx H
  clear hx
  obtain ⟨a1, e, f4⟩ := bindS f3; clear f3
  replace H := H.sel [2, 0, 1, 3] rfl
  refine append_ (α := List Int) gok rfl rfl rfl rfl H e ?_; clear e H; intro h3 w5 H
  refine arK hk x0 ?_
  have hs := Option.some.inj f4; subst hs; clear f4
  exact ⟨h3, ⟨rfl, rfl, rfl, rfl, trivial⟩, H.sel [0, 2] rfl⟩
 ·
  clear H e
  rintro T1 g1 w6 (H : Cx w0 fp0 S0 w6 [E (List (List Int)) r0 g1, Es (List (List Int)) list_ list_h])
  refine boolE (z := false) geLen ?_
  refine sq ?_
  cases f0
  exact ⟨_, _, rfl, ⟨g1, rfl, rfl⟩, (H.sel [0] rfl).close ⟨cloE, trivial⟩⟩

theorem impl_bit_c (yes_ : Bool) (y : Int) (hF : F_impl_bit yes_ = some y) :
  ConF Tryd.prog 161 #[(.bool yes_)] [] [] (fun v Γ' => v = (.int .i64 y) ∧ Γ' = []) := by
 intro w0 S0 fp0 hI hS
 have H : Cx w0 fp0 S0 w0 [] := Cx.start hI hS
 clear hI hS
 refine enterC (args := [_]) gok Tryd.func161 rfl _ rfl rfl rfl ?_
 refine sq ?_
 cases yes_
 ·
  have hF1 := condF hF; clear hF
  cases hF1
  exact ⟨_, _, rfl, ⟨rfl, rfl⟩, (H.sel [] rfl).close trivial⟩
 ·
  have hF2 := condT hF; clear hF
  cases hF2
  exact ⟨_, _, rfl, ⟨rfl, rfl⟩, (H.sel [] rfl).close trivial⟩

theorem impl_power_c (p_ : Int) (a_ : Int) (n_ : Int) (y : Int) (hF : F_impl_power p_ a_ n_ = some y) :
  ConF Tryd.prog 160 #[(.int .i64 p_), (.int .i64 a_), (.int .i64 n_)] [] [] (fun v Γ' => v = (.int .i64 y) ∧ Γ' = []) := by
 intro w0 S0 fp0 hI hS
 have H : Cx w0 fp0 S0 w0 [] := Cx.start hI hS
 clear hI hS
 refine enterC (args := [_, _, _]) gok Tryd.func160 rfl _ rfl rfl rfl ?_
 obtain ⟨a1, e, hF2⟩ := bindS hF; clear hF
 refine remO_ e ?_; clear e
 obtain ⟨r0, f0, f1⟩ := bindS hF2; clear hF2
 refine cut (fun (q0 : Int) => [(7, (.int .i64 q0))]) (fun (q0 : Int) w' => q0 = r0 ∧ Cx w0 fp0 S0 w' []) ?_ ?_
 ·
  refine loopW _ (fun (s0 : Int × Int × Int) (_ : Unit) => [(0, (.int .i64 p_)), (1, (.int .i64 s0.1)), (2, (.int .i64 s0.2.1)), (7, (.int .i64 s0.2.2))]) (fun (s0 : Int × Int × Int) (_ : Unit) w' => Cx w0 fp0 S0 w' []) (a_, n_, a1) () f0 ⟨rfl, rfl, rfl, rfl, trivial⟩ (H.sel [] rfl) ?_
  ·
   clear H
   rintro T0 ⟨s0_0, s0_1, s0_2⟩ _ w1 o0 (H : Cx w0 fp0 S0 w1 []) hrt f2
   refine sq ?_
   obtain ⟨a0, e, f3⟩ := bindS f2; clear f2
   refine boolO e ?_; clear e
   cases a0
   ·
    have f4 := condF f3; clear f3
    have hs := Option.some.inj f4; subst hs; clear f4
    have f5 : some _ = some _ := congrArg some (hrt _ rfl).symm
    exact ⟨s0_2, ⟨rfl, trivial⟩, Option.some.inj f5, H.sel [] rfl⟩
   ·
    have f6 := condT f3; clear f3
    refine sq ?_
    obtain ⟨r1, f7, f8⟩ := bindS f6; clear f6
    refine cut (fun (q1 : Int) => [(0, (.int .i64 p_)), (1, (.int .i64 s0_0)), (2, (.int .i64 s0_1)), (7, (.int .i64 q1))]) (fun (q1 : Int) w' => q1 = r1 ∧ Cx w0 fp0 S0 w' []) ?_ ?_
    ·
     obtain ⟨a2, e, f9⟩ := bindS f7; clear f7
     refine remO_ e ?_; clear e
     obtain ⟨a3, e, f10⟩ := bindS f9; clear f9
     refine boolO e ?_; clear e
     cases a3
     ·
      have f11 := condF f10; clear f10
      exact ⟨s0_2, ⟨rfl, rfl, rfl, rfl, trivial⟩, Option.some.inj f11, H.sel [] rfl⟩
     ·
      have f12 := condT f10; clear f10
      obtain ⟨a4, e, f13⟩ := bindS f12; clear f12
      refine arO e ?_; clear e
      obtain ⟨a5, e, f14⟩ := bindS f13; clear f13
      refine remO_ e ?_; clear e
      exact ⟨a5, ⟨rfl, rfl, rfl, rfl, trivial⟩, Option.some.inj f14, H.sel [] rfl⟩
    ·
     clear f7 H
     rintro T1 s1 w2 ⟨hr, (H : Cx w0 fp0 S0 w2 [])⟩
     subst hr
     obtain ⟨a6, e, f15⟩ := bindS f8; clear f8
     refine arO e ?_; clear e
     obtain ⟨a7, e, f16⟩ := bindS f15; clear f15
     refine remO_ e ?_; clear e
     obtain ⟨a8, e, f17⟩ := bindS f16; clear f16
     refine quoO_ e ?_; clear e
     have hs := Option.some.inj f17; subst hs; clear f17
     exact ⟨(a7, a8, s1), (), rfl, ⟨rfl, rfl, rfl, rfl, trivial⟩, H.sel [] rfl⟩
 ·
  clear f0 H
  rintro T2 s2 w3 ⟨hr, (H : Cx w0 fp0 S0 w3 [])⟩
  subst hr
  cases f1
  exact ⟨_, _, rfl, ⟨rfl, rfl⟩, (H.sel [] rfl).close trivial⟩

theorem impl_inverse_c (p_ : Int) (a_ : Int) (y : Int) (hF : F_impl_inverse p_ a_ = some y) :
  ConF Tryd.prog 157 #[(.int .i64 p_), (.int .i64 a_)] [] [] (fun v Γ' => v = (.int .i64 y) ∧ Γ' = []) := by
 intro w0 S0 fp0 hI hS
 have H : Cx w0 fp0 S0 w0 [] := Cx.start hI hS
 clear hI hS
 refine enterC (args := [_, _]) gok Tryd.func157 rfl _ rfl rfl rfl ?_
 obtain ⟨a1, e, hF2⟩ := bindS hF; clear hF
 refine arO e ?_; clear e
 obtain ⟨a3, e, hF4⟩ := bindS hF2; clear hF2
 refine boolO e ?_; clear e
 obtain ⟨y5, e, hF6⟩ := bindS hF4; clear hF4
 have ey5 := e; clear e
 refine callF (impl_bit_c a3 y5 ey5) (Γi := []) H trivial ?_; clear H ey5
 rintro _ _ w7 ⟨rfl, rfl⟩ H
 obtain ⟨a8, e, hF9⟩ := bindS hF6; clear hF6
 refine arO e ?_; clear e
 obtain ⟨y0, e, f0⟩ := bindS hF9; clear hF9
 have i0 := e; clear e
 refine callF (impl_power_c p_ a_ a8 y0 i0) (Γi := []) H trivial ?_; clear H i0
 rintro _ _ w1 ⟨rfl, rfl⟩ H
 cases f0
 exact ⟨_, _, rfl, ⟨rfl, rfl⟩, (H.sel [] rfl).close trivial⟩

theorem impl_mod_c (p_ : Int) (a_ : Int) (y : Int) (hF : F_impl_mod p_ a_ = some y) :
  ConF Tryd.prog 143 #[(.int .i64 p_), (.int .i64 a_)] [] [] (fun v Γ' => v = (.int .i64 y) ∧ Γ' = []) := by
 intro w0 S0 fp0 hI hS
 have H : Cx w0 fp0 S0 w0 [] := Cx.start hI hS
 clear hI hS
 refine enterC (args := [_, _]) gok Tryd.func143 rfl _ rfl rfl rfl ?_
 obtain ⟨a1, e, hF2⟩ := bindS hF; clear hF
 refine remO_ e ?_; clear e
 refine sq ?_
 obtain ⟨a3, e, hF4⟩ := bindS hF2; clear hF2
 refine boolO e ?_; clear e
 cases a3
 ·
  have hF5 := condF hF4; clear hF4
  cases hF5
  exact ⟨_, _, rfl, ⟨rfl, rfl⟩, (H.sel [] rfl).close trivial⟩
 ·
  have hF6 := condT hF4; clear hF4
  obtain ⟨a7, e, hF8⟩ := bindS hF6; clear hF6
  refine arO e ?_; clear e
  cases hF8
  exact ⟨_, _, rfl, ⟨rfl, rfl⟩, (H.sel [] rfl).close trivial⟩

theorem impl_addTimes_c (p_ : Int) (v_ : List Int) (v_h : Hd) (by_ : Int) (w_ : List Int) (w_h : Hd) (y : List Int) (hF : F_impl_addTimes p_ v_ by_ w_ = some y) :
  ConF Tryd.prog 135 #[(.int .i64 p_), (v_h).v, (.int .i64 by_), (w_h).v] [Es (List Int) w_ w_h] [E (List Int) v_ v_h] (fun v Γ' => v = (.tuple #[]) ∧ Γ' = [E (List Int) y v_h]) := by
 intro w0 S0 fp0 hI hS
 have H : Cx w0 fp0 S0 w0 [Es (List Int) w_ w_h, E (List Int) v_ v_h] := Cx.start hI hS
 clear hI hS
 refine enterC (args := [_, _, _, _]) gok Tryd.func135 rfl _ rfl rfl rfl ?_
 refine lenE (H.rs (α := List Int) 0 rfl).len ?_
 have x0 := (H.rs (α := List Int) 0 rfl).max
 obtain ⟨r0, e, f0⟩ := bindS hF; clear hF
 refine loopS _ w_.length (fun (k3 : Nat) (s0 : List Int) (_ : Unit) => [(0, (.int .i64 p_)), (1, (v_h).v), (2, (.int .i64 by_)), (10, (w_h).v), (11, (.int .i64 ((w_.length : Nat) : Int))), (12, (.int .i64 ((k3 : Nat) : Int)))]) (fun _ (s0 : List Int) (_ : Unit) w' => Cx w0 fp0 S0 w' [E (List Int) s0 v_h, Es (List Int) w_ w_h]) v_ () e ⟨rfl, rfl, rfl, rfl, rfl, rfl, trivial⟩ (H.sel [1, 0] rfl) ?_ ?_
 ·
  clear H e
  rintro T0 k3 s0 _ w1 o0 hk (H : Cx w0 fp0 S0 w1 [E (List Int) s0 v_h, Es (List Int) w_ w_h]) f1
  refine boolE (z := true) (ltLen hk) ?_
  refine sq ?_
  refine sq ?_
  obtain ⟨a0, e, f2⟩ := bindS f1; clear f1
  obtain ⟨p0, m0, c0, c1, c2, c3⟩ := (H.rs (α := List Int) 1 rfl).at1 e; clear e
  refine idxE c0 c1 c2 ?_; clear c0 c1 c2
  refine load1 c3 ?_; clear c3
  obtain ⟨a1, e, f3⟩ := bindS f2; clear f2
  obtain ⟨p1, m1, c4, c5, c6, c7⟩ := (H.ro (α := List Int) 0 rfl).at1 e; clear e
  refine idxE c4 c5 c6 ?_; clear c4 c5 c6
  refine load1 c7 ?_; clear c7
  obtain ⟨a2, e, f4⟩ := bindS f3; clear f3
  refine arO e ?_; clear e
  obtain ⟨a3, e, f5⟩ := bindS f4; clear f4
  refine arO e ?_; clear e
  obtain ⟨y0, e, f6⟩ := bindS f5; clear f5
  have i0 := e; clear e
  refine callF (impl_mod_c p_ a3 y0 i0) (Γi := []) H trivial ?_; clear H i0
  rintro _ _ w2 ⟨rfl, rfl⟩ H
  obtain ⟨a4, e, f7⟩ := bindS f6; clear f6
  have i1 := e; clear e
  obtain ⟨p2, m2, c8, c9, c10⟩ := (H.ro (α := List Int) 0 rfl).setp i1
  refine idxE c8 c9 c10 ?_
  refine setS (α := Int) H c8 c9 i1 ?_; clear H c8 c9 c10 i1; intro w3 H
  refine arK hk x0 ?_
  have hs := Option.some.inj f7; subst hs; clear f7
  exact ⟨(), ⟨rfl, rfl, rfl, rfl, rfl, rfl, trivial⟩, H.sel [0, 1] rfl⟩
 ·
  clear H e
  rintro T1 _ w4 (H : Cx w0 fp0 S0 w4 [E (List Int) r0 v_h, Es (List Int) w_ w_h])
  refine boolE (z := false) geLen ?_
  refine sq ?_
  cases f0
  exact ⟨_, _, rfl, ⟨rfl, rfl⟩, (H.sel [0] rfl).close ⟨cloE, trivial⟩⟩

theorem impl_rowOperation_apply_c (o__0 : Int) (o__1 : Int) (o__2 : Int) (o__3 : Int) (p_ : Int) (rows_ : List (List Int)) (rows_h : Hd) (y : List (List Int)) (hF : F_impl_rowOperation_apply (o__0, o__1, o__2, o__3) p_ rows_ = some y) :
  ConF Tryd.prog 148 #[(.agg #[(.int .i64 o__0), (.int .i64 o__1), (.int .i64 o__2), (.int .i64 o__3)]), (.int .i64 p_), (rows_h).v] [] [E (List (List Int)) rows_ rows_h] (fun v Γ' => v = (.tuple #[]) ∧ Γ' = [E (List (List Int)) y rows_h]) := by
 intro w0 S0 fp0 hI hS
 have H : Cx w0 fp0 S0 w0 [E (List (List Int)) rows_ rows_h] := Cx.start hI hS
 clear hI hS
 refine enterC (args := [_, _, _]) gok Tryd.func148 rfl _ rfl rfl rfl ?_
 refine box_ H ?_; clear H; intro b3 w2 hx H
 clear hx
 refine fld gok rfl rfl rfl rfl ?_
 refine load1 (H.bx 0 rfl (j := 0) rfl) ?_
 obtain ⟨a5, e, hF6⟩ := bindS hF; clear hF
 refine boolO e ?_; clear e
 cases a5
 ·
  have hF7 := condF hF6; clear hF6
  obtain ⟨a8, e, hF9⟩ := bindS hF7; clear hF7
  refine boolO e ?_; clear e
  cases a8
  ·
   have f0 := condF hF9; clear hF9
   obtain ⟨a0, e, f1⟩ := bindS f0; clear f0
   refine boolO e ?_; clear e
   cases a0
   ·
    have f2 := condF f1; clear f1
    cases f2
    exact ⟨_, _, rfl, ⟨rfl, rfl⟩, (H.sel [1] rfl).close ⟨cloE, trivial⟩⟩
   ·
    have f3 := condT f1; clear f1
    refine heldX H [14] (.fst 0 (.fst 1 (.fst 2 (.fst 6 (.fst 9 (.fst 10 (.fst 3 (.fst 4 (.fst 5 (.fst 7 (.fst 8 (.fst 11 (.fst 12 (.fst 13 (.act 14 .done))))))))))))))) mixed [] trivial (by kernel_rfl) ?_
    clear H; intro w1 H
    have hX : Ext w1 w1 := Upd.refl _ _
    have H0 := H
    refine anyH (fun _ => fld gok rfl rfl rfl rfl ⟨rfl, rfl⟩) ?_
    refine anyH (fun _ => fld gok rfl rfl rfl rfl ⟨rfl, rfl⟩) ?_
    refine anyH (fun _ => fld gok rfl rfl rfl rfl ⟨rfl, rfl⟩) ?_
    refine load1X (H.bx 0 rfl (j := 1) rfl) ?_
    obtain ⟨a1, e, f4⟩ := bindS f3; clear f3
    replace H := H.sel [1, 0] rfl
    replace H := H.toEH (α := List Int)
    have HH := H; clear H; obtain ⟨p0, m0, h0, c0, c1, c2, c3, H⟩ := HH.peekL e; clear HH
    clear e
    refine idxE c0 c1 c2 ?_
    refine load1X c3 ?_; clear c3
    refine load1X (H.bx 1 rfl (j := 3) rfl) ?_
    obtain ⟨a2, e, f5⟩ := bindS f4; clear f4
    refine arO e ?_; clear e
    refine load1X (H.bx 1 rfl (j := 2) rfl) ?_
    obtain ⟨a3, e, f6⟩ := bindS f5; clear f5
    have HH := H; clear H; obtain ⟨p1, m1, h1, c4, c5, c6, c7, H⟩ := HH.peekL e; clear HH
    clear e
    refine idxE c4 c5 c6 ?_
    refine load1X c7 ?_; clear c7
    obtain ⟨y0, e, f7⟩ := bindS f6; clear f6
    have i0 := e; clear e
    have u0 := H.kn 0 rfl 0 rfl
    obtain ⟨u1, n0, f8⟩ := bindS f7; clear f7
    have q0 : m1 ≠ m0 := fun q => neqO_some n0 (by omega)
    replace H := H.takeK 1 rfl
    refine callF (impl_addTimes_c p_ a1 h0 a2 a3 h1 y0 i0) (Γi := [E (List Int) a1 h0]) H ⟨Vw.ex (α := List Int) (k := ⟨m1, a3, h1⟩) 0 rfl u0 q0, trivial⟩ ?_; clear H i0
    rintro _ _ w3 ⟨rfl, rfl⟩ H
    obtain ⟨a4, e, f9⟩ := bindS f8; clear f8
    replace H := H.put c1 e; clear e
    refine hold trivial ?_
    cases f9
    exact ⟨_, _, rfl, ⟨rfl, rfl⟩, (H.sel [0] rfl).close ⟨cloE, trivial⟩⟩
  ·
   have f10 := condT hF9; clear hF9
   refine fld gok rfl rfl rfl rfl ?_
   refine load1 (H.bx 0 rfl (j := 3) rfl) ?_
   obtain ⟨y1, e, f11⟩ := bindS f10; clear f10
   have i1 := e; clear e
   refine callF (impl_inverse_c p_ o__3 y1 i1) (Γi := []) H trivial ?_; clear H i1
   rintro _ _ w4 ⟨rfl, rfl⟩ H
   refine fld gok rfl rfl rfl rfl ?_
   refine load1 (H.bx 0 rfl (j := 1) rfl) ?_
   obtain ⟨a6, e, f12⟩ := bindS f11; clear f11
   replace H := H.sel [1, 0] rfl
   have HH := H; clear H; obtain ⟨p2, m2, h2, c8, c9, c10, H⟩ := HH.take e; clear HH
   clear e
   have c11 := H.hx0 1 rfl c8 rfl
   refine idxE c8 c9 c10 ?_
   refine load1 c11 ?_; clear c11
   refine lenE (H.ro (α := List Int) 0 rfl).len ?_
   have x0 := (H.ro (α := List Int) 0 rfl).max
   obtain ⟨r0, e, f13⟩ := bindS f12; clear f12
   refine loopS _ a6.length (fun (k0 : Nat) (s0 : List Int) (_ : Unit) => [(1, (.int .i64 p_)), (2, (rows_h).v), (3, (.pointer (some ⟨b3, 0, none⟩))), (6, (.int .i64 y1)), (41, (h2).v), (42, (.int .i64 ((a6.length : Nat) : Int))), (43, (.int .i64 ((k0 : Nat) : Int)))]) (fun _ (s0 : List Int) (_ : Unit) w' => Cx w0 fp0 S0 w' [EX (List Int) m2 [(h2).v] rows_ rows_h, Bx b3 [(.int .i64 o__0), (.int .i64 o__1), (.int .i64 o__2), (.int .i64 o__3)], E (List Int) s0 h2]) a6 () e ⟨rfl, rfl, rfl, rfl, rfl, rfl, rfl, trivial⟩ (H.sel [1, 2, 0] rfl) ?_ ?_
   ·
    clear H e
    rintro T0 k0 s0 _ w5 o0 hk (H : Cx w0 fp0 S0 w5 [EX (List Int) m2 [(h2).v] rows_ rows_h, Bx b3 [(.int .i64 o__0), (.int .i64 o__1), (.int .i64 o__2), (.int .i64 o__3)], E (List Int) s0 h2]) f14
    refine boolE (z := true) (ltLen hk) ?_
    refine sq ?_
    refine sq ?_
    obtain ⟨a7, e, f15⟩ := bindS f14; clear f14
    obtain ⟨p3, m3, c12, c13, c14, c15⟩ := (H.ro (α := List Int) 2 rfl).at1 e; clear e
    refine idxE c12 c13 c14 ?_; clear c12 c13 c14
    refine load1 c15 ?_; clear c15
    refine heldX H [12] (.fst 0 (.fst 1 (.fst 5 (.fst 6 (.fst 7 (.fst 8 (.fst 9 (.fst 10 (.fst 2 (.fst 3 (.fst 4 (.fst 11 (.act 12 .done))))))))))))) mixed [] trivial (by kernel_rfl) ?_
    clear H; intro w6 H
    have hX : Ext w6 w6 := Upd.refl _ _
    have H0 := H
    refine anyH (fun _ => fld gok rfl rfl rfl rfl ⟨rfl, rfl⟩) ?_
    obtain ⟨a9, e, f16⟩ := bindS f15; clear f15
    refine arO e ?_; clear e
    obtain ⟨a10, e, f17⟩ := bindS f16; clear f16
    refine remO_ e ?_; clear e
    refine load1X (H.bx 1 rfl (j := 1) rfl) ?_
    have c20 := H.hx0 0 rfl c8 rfl
    refine idxE c8 c9 c10 ?_
    refine load1X c20 ?_; clear c20
    obtain ⟨a12, e, f18⟩ := bindS f17; clear f17
    have i2 := e; clear e
    obtain ⟨p4, m4, c21, c22, c23⟩ := (H.ro (α := List Int) 2 rfl).setp i2
    refine idxE c21 c22 c23 ?_
    replace H := H.sel [2, 0, 1] rfl
    refine setS (α := Int) H c21 c22 i2 ?_; clear H c21 c22 c23 i2; intro w7 H
    refine hold trivial ?_
    refine arK hk x0 ?_
    have hs := Option.some.inj f18; subst hs; clear f18
    exact ⟨(), ⟨rfl, rfl, rfl, rfl, rfl, rfl, rfl, trivial⟩, H.sel [1, 2, 0] rfl⟩
   ·
    clear H e
    rintro T1 _ w8 (H : Cx w0 fp0 S0 w8 [EX (List Int) m2 [(h2).v] rows_ rows_h, Bx b3 [(.int .i64 o__0), (.int .i64 o__1), (.int .i64 o__2), (.int .i64 o__3)], E (List Int) r0 h2])
    refine boolE (z := false) geLen ?_
    refine sq ?_
    obtain ⟨a13, e, f19⟩ := bindS f13; clear f13
    replace H := H.sel [2, 0, 1] rfl
    replace H := H.put c9 e; clear e
    cases f19
    exact ⟨_, _, rfl, ⟨rfl, rfl⟩, (H.sel [0] rfl).close ⟨cloE, trivial⟩⟩
 ·
  have f20 := condT hF6; clear hF6
  refine heldX H [17, 19, 18, 0, 1, 2, 3, 4, 5] (.pure 0 (.pure 1 (.pure 2 (.pure 3 (.pure 4 (.pure 5 (.fst 6 (.fst 7 (.fst 11 (.fst 12 (.fst 8 (.fst 9 (.fst 10 (.fst 13 (.fst 14 (.fst 15 (.fst 16 (.act 17 (.act 18 (.act 19 .done)))))))))))))))))))) mixed [((Addr.add ⟨b3, 0, none⟩ 1), (.int .i64 o__1)), ((Addr.add ⟨b3, 0, none⟩ 2), (.int .i64 o__2))] ⟨H.bx 0 rfl (j := 1) rfl, H.bx 0 rfl (j := 2) rfl, trivial⟩ (by kernel_rfl) ?_
  clear H; intro w9 H
  have hX : Ext w9 w9 := Upd.refl _ _
  have H0 := H
  refine anyH (fun _ => fld gok rfl rfl rfl rfl ⟨rfl, rfl⟩) ?_
  refine load1W 0 rfl ?_
  refine anyH (fun _ => fld gok rfl rfl rfl rfl ⟨rfl, rfl⟩) ?_
  refine load1W 1 rfl ?_
  refine anyH (fun _ => fld gok rfl rfl rfl rfl ⟨rfl, rfl⟩) ?_
  refine anyH (fun _ => fld gok rfl rfl rfl rfl ⟨rfl, rfl⟩) ?_
  refine load1X (H.bx 0 rfl (j := 2) rfl) ?_
  obtain ⟨a14, e, f21⟩ := bindS f20; clear f20
  replace H := H.sel [1, 0] rfl
  replace H := H.toEH (α := List Int)
  have HH := H; clear H; obtain ⟨p5, m5, h3, c24, c25, c26, c31, H⟩ := HH.peekL e; clear HH
  clear e
  refine idxE c24 c25 c26 ?_
  refine load1X c31 ?_; clear c31
  refine load1X (H.bx 1 rfl (j := 1) rfl) ?_
  obtain ⟨a15, e, f22⟩ := bindS f21; clear f21
  have HH := H; clear H; obtain ⟨p6, m6, h4, c32, c33, c34, c35, H⟩ := HH.peekL e; clear HH
  clear e
  refine idxE c32 c33 c34 ?_
  refine load1X c35 ?_; clear c35
  refine idxE c32 c33 c34 ?_
  refine stZ1 (ki := 0) (kj := 1) H rfl rfl c32 ?_; clear H; intro w10 H
  refine hold ⟨H.bx 1 rfl (j := 1) rfl, H.bx 1 rfl (j := 2) rfl, trivial⟩ ?_
  refine idxE c24 c25 c26 ?_
  refine hold ⟨H.bx 1 rfl (j := 1) rfl, H.bx 1 rfl (j := 2) rfl, trivial⟩ ?_
  obtain ⟨a16, e, f23⟩ := bindS f22; clear f22
  refine stZ2 H c33 c25 c24 e ?_; clear H e; intro w11 H
  refine hold ⟨H.bx 1 rfl (j := 1) rfl, H.bx 1 rfl (j := 2) rfl, trivial⟩ ?_
  cases f23
  exact ⟨_, _, rfl, ⟨rfl, rfl⟩, (H.sel [0] rfl).close ⟨cloE, trivial⟩⟩

theorem impl_reduction_1_c (o__0 : Int) (o__1 : Int) (o__2 : Int) (o__3 : Int) (c0_b : Nat) (c0_ : Int) (c1_b : Nat) (c1_ : List (List Int)) (c1_h : Hd) (c2_b : Nat) (c2_ : List (List Int)) (c2_h : Hd) (y0 : List (List Int)) (y1 : List (List Int)) (hF : F_impl_reduction_1 (o__0, o__1, o__2, o__3) c0_ c1_ c2_ = some (y0, y1)) :
  ConF Tryd.prog 147 #[(.agg #[(.int .i64 o__0), (.int .i64 o__1), (.int .i64 o__2), (.int .i64 o__3)]), (.pointer (some ⟨c0_b, 0, none⟩)), (.pointer (some ⟨c1_b, 0, none⟩)), (.pointer (some ⟨c2_b, 0, none⟩))] [] [Bx c0_b [(.int .i64 c0_)], Bx c1_b [(c1_h).v], E (List (List Int)) c1_ c1_h, Bx c2_b [(c2_h).v], E (List (List Int)) c2_ c2_h] (fun v Γ' => v = (.tuple #[]) ∧ Γ' = [Bx c0_b [(.int .i64 c0_)], Bx c1_b [(c1_h).v], E (List (List Int)) y0 c1_h, Bx c2_b [(c2_h).v], E (List (List Int)) y1 c2_h]) := by
 intro w0 S0 fp0 hI hS
 have H : Cx w0 fp0 S0 w0 [Bx c0_b [(.int .i64 c0_)], Bx c1_b [(c1_h).v], E (List (List Int)) c1_ c1_h, Bx c2_b [(c2_h).v], E (List (List Int)) c2_ c2_h] := Cx.start hI hS
 clear hI hS
 refine enterC (args := [_, _, _, _]) gok Tryd.func147 rfl _ rfl rfl rfl ?_
 refine box_ H ?_; clear H; intro b7 w6 hx H
 clear hx
 refine sq ?_
 refine loadN [(.int .i64 o__0), (.int .i64 o__1), (.int .i64 o__2), (.int .i64 o__3)] rfl (fun j u hj => H.bx 0 rfl hj) ?_
 refine fld gok rfl rfl rfl rfl ?_
 refine load1 (H.bx 0 rfl (j := 1) rfl) ?_
 refine fld gok rfl rfl rfl rfl ?_
 refine load1 (H.bx 0 rfl (j := 1) rfl) ?_
 refine build_ (cs := #[(.int .i64 0), (.int .i64 o__1), (.int .i64 o__1), (.int .i64 0)]) gok rfl rfl rfl ?_
 obtain ⟨a9, e, f0⟩ := bindS hF; clear hF
 refine eqA gok rfl Tryd.underlying140 (by kernel_rfl) (by kernel_rfl) (by kernel_rfl) (by refine ⟨rfl, ⟨_, _, rfl⟩, rfl, ⟨_, _, rfl⟩, rfl, ⟨_, _, rfl⟩, rfl, ⟨_, _, rfl⟩, trivial⟩) (ls := [o__0, o__1, o__2, o__3]) (bs := [0, o__1, o__1, 0]) rfl rfl rfl rfl e ?_; clear e
 cases a9
 ·
  have f1 := condF f0; clear f0
  refine loadN [(.int .i64 o__0), (.int .i64 o__1), (.int .i64 o__2), (.int .i64 o__3)] rfl (fun j u hj => H.bx 0 rfl hj) ?_
  refine load1 (H.bx0 1 rfl) ?_
  refine load1 (H.bx0 2 rfl) ?_
  obtain ⟨y2, e, f2⟩ := bindS f1; clear f1
  have i0 := e; clear e
  replace H := H.sel [3, 0, 1, 2, 4, 5] rfl
  refine callF (impl_rowOperation_apply_c o__0 o__1 o__2 o__3 c0_ c1_ c1_h y2 i0) (Γi := [E (List (List Int)) c1_ c1_h]) H trivial ?_; clear H i0
  rintro _ _ w1 ⟨rfl, rfl⟩ H
  refine loadN [(.int .i64 o__0), (.int .i64 o__1), (.int .i64 o__2), (.int .i64 o__3)] rfl (fun j u hj => H.bx 1 rfl hj) ?_
  refine load1 (H.bx0 2 rfl) ?_
  refine load1 (H.bx0 4 rfl) ?_
  obtain ⟨y3, e, f3⟩ := bindS f2; clear f2
  have i1 := e; clear e
  replace H := H.sel [5, 0, 1, 2, 3, 4] rfl
  refine callF (impl_rowOperation_apply_c o__0 o__1 o__2 o__3 c0_ c2_ c2_h y3 i1) (Γi := [E (List (List Int)) c2_ c2_h]) H trivial ?_; clear H i1
  rintro _ _ w2 ⟨rfl, rfl⟩ H
  cases f3
  exact ⟨_, _, rfl, ⟨rfl, rfl⟩, (H.sel [3, 4, 1, 5, 0] rfl).close ⟨cloB, cloB, cloE, cloB, cloE, trivial⟩⟩
 ·
  have f4 := condT f0; clear f0
  cases f4
  exact ⟨_, _, rfl, ⟨rfl, rfl⟩, (H.sel [1, 2, 3, 4, 5] rfl).close ⟨cloB, cloB, cloE, cloB, cloE, trivial⟩⟩

theorem impl_reduction_c (p_ : Int) (rows_ : List (List Int)) (rows_h : Hd) (n_ : Int) (also_ : List (List Int)) (also_h : Hd) (y0 : List (List Int)) (y1 : List (List Int)) (y2 : Int) (hF : F_impl_reduction p_ rows_ n_ also_ = some (y0, y1, y2)) :
  ConF Tryd.prog 111 #[(.int .i64 p_), (rows_h).v, (.int .i64 n_), (also_h).v] [] [E (List (List Int)) rows_ rows_h, E (List (List Int)) also_ also_h] (fun v Γ' => v = (.int .i64 y2) ∧ Γ' = [E (List (List Int)) y0 rows_h, E (List (List Int)) y1 also_h]) := by
 intro w0 S0 fp0 hI hS
 have H : Cx w0 fp0 S0 w0 [E (List (List Int)) rows_ rows_h, E (List (List Int)) also_ also_h] := Cx.start hI hS
 clear hI hS
 refine enterC (args := [_, _, _, _]) gok Tryd.func111 rfl _ rfl rfl rfl ?_
 refine box_ H ?_; clear H; intro b4 w3 hx H
 clear hx
 refine box_ H ?_; clear H; intro b7 w6 hx H
 clear hx
 refine box_ H ?_; clear H; intro b0 w9 hx H
 clear hx
 obtain ⟨r0, f0, f1⟩ := bindS hF; clear hF
 refine cut (fun (q0 : List (List Int) × List (List Int) × Int) => [(9, (.int .i64 q0.2.2))]) (fun (q0 : List (List Int) × List (List Int) × Int) w' => (q0.1, q0.2.1, q0.2.2) = r0 ∧ Cx w0 fp0 S0 w' [E (List (List Int)) q0.1 rows_h, E (List (List Int)) q0.2.1 also_h]) ?_ ?_
 ·
  refine loopW _ (fun (s0 : List (List Int) × List (List Int) × Int × Int) (_ : Unit) => [(2, (.int .i64 n_)), (5, (.pointer (some ⟨b7, 0, none⟩))), (9, (.int .i64 s0.2.2.2)), (10, (.func (.func 147) #[] #[(.pointer (some ⟨b4, 0, none⟩)), (.pointer (some ⟨b7, 0, none⟩)), (.pointer (some ⟨b0, 0, none⟩))])), (11, (.int .i64 s0.2.2.1))]) (fun (s0 : List (List Int) × List (List Int) × Int × Int) (_ : Unit) w' => Cx w0 fp0 S0 w' [Bx b7 [(rows_h).v], E (List (List Int)) s0.1 rows_h, Bx b4 [(.int .i64 p_)], Bx b0 [(also_h).v], E (List (List Int)) s0.2.1 also_h]) (rows_, also_, 0, 0) () f0 ⟨rfl, rfl, rfl, rfl, rfl, trivial⟩ (H.sel [1, 3, 2, 0, 4] rfl) ?_
  ·
   clear H
   rintro T0 ⟨s0_0, s0_1, s0_2, s0_3⟩ _ w1 o0 (H : Cx w0 fp0 S0 w1 [Bx b7 [(rows_h).v], E (List (List Int)) s0_0 rows_h, Bx b4 [(.int .i64 p_)], Bx b0 [(also_h).v], E (List (List Int)) s0_1 also_h]) hrt f2
   refine sq ?_
   obtain ⟨r1, f3, f4⟩ := bindS f2; clear f2
   refine cut (fun (q1 : Bool) => [(2, (.int .i64 n_)), (5, (.pointer (some ⟨b7, 0, none⟩))), (9, (.int .i64 s0_3)), (10, (.func (.func 147) #[] #[(.pointer (some ⟨b4, 0, none⟩)), (.pointer (some ⟨b7, 0, none⟩)), (.pointer (some ⟨b0, 0, none⟩))])), (11, (.int .i64 s0_2)), (23, (.bool q1))]) (fun (q1 : Bool) w' => q1 = r1 ∧ Cx w0 fp0 S0 w' [Bx b7 [(rows_h).v], E (List (List Int)) s0_0 rows_h, Bx b4 [(.int .i64 p_)], Bx b0 [(also_h).v], E (List (List Int)) s0_1 also_h]) ?_ ?_
   ·
    obtain ⟨a0, e, f5⟩ := bindS f3; clear f3
    refine boolO e ?_; clear e
    cases a0
    ·
     have f6 := condF f5; clear f5
     exact ⟨false, ⟨rfl, rfl, rfl, rfl, rfl, rfl, trivial⟩, Option.some.inj f6, H.sel [0, 1, 2, 3, 4] rfl⟩
    ·
     have f7 := condT f5; clear f5
     refine load1 (H.bx0 0 rfl) ?_
     refine lenE (H.ro (α := List (List Int)) 1 rfl).len ?_
     obtain ⟨a1, e, f8⟩ := bindS f7; clear f7
     refine boolO e ?_; clear e
     exact ⟨a1, ⟨rfl, rfl, rfl, rfl, rfl, rfl, trivial⟩, Option.some.inj f8, H.sel [0, 1, 2, 3, 4] rfl⟩
   ·
    clear f3 H
    rintro T1 s1 w2 ⟨hr, (H : Cx w0 fp0 S0 w2 [Bx b7 [(rows_h).v], E (List (List Int)) s0_0 rows_h, Bx b4 [(.int .i64 p_)], Bx b0 [(also_h).v], E (List (List Int)) s0_1 also_h])⟩
    subst hr
    cases s1
    ·
     have f9 := condF f4; clear f4
     have hs := Option.some.inj f9; subst hs; clear f9
     have f10 : some _ = some _ := congrArg some (hrt _ rfl).symm
     exact ⟨(s0_0, s0_1, s0_3), ⟨rfl, trivial⟩, Option.some.inj f10, H.sel [1, 4] rfl⟩
    ·
     have f11 := condT f4; clear f4
     obtain ⟨r2, f12, f13⟩ := bindS f11; clear f11
     refine cut (fun (q2 : List (List Int) × List (List Int) × Int) => [(2, (.int .i64 n_)), (5, (.pointer (some ⟨b7, 0, none⟩))), (9, (.int .i64 q2.2.2)), (10, (.func (.func 147) #[] #[(.pointer (some ⟨b4, 0, none⟩)), (.pointer (some ⟨b7, 0, none⟩)), (.pointer (some ⟨b0, 0, none⟩))])), (11, (.int .i64 s0_2))]) (fun (q2 : List (List Int) × List (List Int) × Int) w' => (q2.1, q2.2.1, q2.2.2) = r2 ∧ Cx w0 fp0 S0 w' [Bx b7 [(rows_h).v], E (List (List Int)) q2.1 rows_h, Bx b4 [(.int .i64 p_)], Bx b0 [(also_h).v], E (List (List Int)) q2.2.1 also_h]) ?_ ?_
     ·
      obtain ⟨r3, f14, f15⟩ := bindS f12; clear f12
      refine cut (fun (q3 : Int) => [(2, (.int .i64 n_)), (5, (.pointer (some ⟨b7, 0, none⟩))), (9, (.int .i64 s0_3)), (10, (.func (.func 147) #[] #[(.pointer (some ⟨b4, 0, none⟩)), (.pointer (some ⟨b7, 0, none⟩)), (.pointer (some ⟨b0, 0, none⟩))])), (11, (.int .i64 s0_2)), (12, (.int .i64 q3))]) (fun (q3 : Int) w' => q3 = r3 ∧ Cx w0 fp0 S0 w' [Bx b7 [(rows_h).v], E (List (List Int)) s0_0 rows_h, Bx b4 [(.int .i64 p_)], Bx b0 [(also_h).v], E (List (List Int)) s0_1 also_h]) ?_ ?_
      ·
       refine loopW _ (fun (s2 : Int) (_ : Unit) => [(2, (.int .i64 n_)), (5, (.pointer (some ⟨b7, 0, none⟩))), (9, (.int .i64 s0_3)), (10, (.func (.func 147) #[] #[(.pointer (some ⟨b4, 0, none⟩)), (.pointer (some ⟨b7, 0, none⟩)), (.pointer (some ⟨b0, 0, none⟩))])), (11, (.int .i64 s0_2)), (12, (.int .i64 s2))]) (fun (s2 : Int) (_ : Unit) w' => Cx w0 fp0 S0 w' [Bx b7 [(rows_h).v], E (List (List Int)) s0_0 rows_h, Bx b4 [(.int .i64 p_)], Bx b0 [(also_h).v], E (List (List Int)) s0_1 also_h]) s0_3 () f14 ⟨rfl, rfl, rfl, rfl, rfl, rfl, trivial⟩ (H.sel [0, 1, 2, 3, 4] rfl) ?_
       ·
        clear H
        rintro T2 s2 _ w4 o1 (H : Cx w0 fp0 S0 w4 [Bx b7 [(rows_h).v], E (List (List Int)) s0_0 rows_h, Bx b4 [(.int .i64 p_)], Bx b0 [(also_h).v], E (List (List Int)) s0_1 also_h]) hrt f16
        refine sq ?_
        obtain ⟨r4, f17, f18⟩ := bindS f16; clear f16
        refine cut (fun (q4 : Bool) => [(2, (.int .i64 n_)), (5, (.pointer (some ⟨b7, 0, none⟩))), (9, (.int .i64 s0_3)), (10, (.func (.func 147) #[] #[(.pointer (some ⟨b4, 0, none⟩)), (.pointer (some ⟨b7, 0, none⟩)), (.pointer (some ⟨b0, 0, none⟩))])), (11, (.int .i64 s0_2)), (12, (.int .i64 s2)), (40, (.bool q4))]) (fun (q4 : Bool) w' => q4 = r4 ∧ Cx w0 fp0 S0 w' [Bx b7 [(rows_h).v], E (List (List Int)) s0_0 rows_h, Bx b4 [(.int .i64 p_)], Bx b0 [(also_h).v], E (List (List Int)) s0_1 also_h]) ?_ ?_
        ·
         refine load1 (H.bx0 0 rfl) ?_
         refine lenE (H.ro (α := List (List Int)) 1 rfl).len ?_
         obtain ⟨a2, e, f19⟩ := bindS f17; clear f17
         refine boolO e ?_; clear e
         cases a2
         ·
          have f20 := condF f19; clear f19
          exact ⟨false, ⟨rfl, rfl, rfl, rfl, rfl, rfl, rfl, trivial⟩, Option.some.inj f20, H.sel [0, 1, 2, 3, 4] rfl⟩
         ·
          have f21 := condT f19; clear f19
          refine load1 (H.bx0 0 rfl) ?_
          obtain ⟨a3, e, f22⟩ := bindS f21; clear f21
          replace H := H.sel [1, 0, 2, 3, 4] rfl
          replace H := H.toEH (α := List Int)
          have HH := H; clear H; obtain ⟨p0, m0, h0, c0, c1, c2, c3, H⟩ := HH.peekL e; clear HH
          clear e
          refine idxE c0 c1 c2 ?_
          refine load1 c3 ?_; clear c3
          obtain ⟨a4, e, f23⟩ := bindS f22; clear f22
          obtain ⟨p1, m1, c4, c5, c6, c7⟩ := (H.rh (α := List Int) 0 rfl 0 rfl).at1 e; clear e
          refine idxE c4 c5 c6 ?_; clear c4 c5 c6
          refine load1 c7 ?_; clear c7
          obtain ⟨a5, e, f24⟩ := bindS f23; clear f23
          refine boolO e ?_; clear e
          replace H := H.ofEH
          exact ⟨a5, ⟨rfl, rfl, rfl, rfl, rfl, rfl, rfl, trivial⟩, Option.some.inj f24, H.sel [1, 0, 2, 3, 4] rfl⟩
        ·
         clear f17 H
         rintro T3 s3 w5 ⟨hr, (H : Cx w0 fp0 S0 w5 [Bx b7 [(rows_h).v], E (List (List Int)) s0_0 rows_h, Bx b4 [(.int .i64 p_)], Bx b0 [(also_h).v], E (List (List Int)) s0_1 also_h])⟩
         subst hr
         cases s3
         ·
          have f25 := condF f18; clear f18
          have hs := Option.some.inj f25; subst hs; clear f25
          have f26 : some _ = some _ := congrArg some (hrt _ rfl).symm
          exact ⟨s2, ⟨rfl, rfl, rfl, rfl, rfl, rfl, trivial⟩, Option.some.inj f26, H.sel [0, 1, 2, 3, 4] rfl⟩
         ·
          have f27 := condT f18; clear f18
          obtain ⟨a6, e, f28⟩ := bindS f27; clear f27
          refine arO e ?_; clear e
          have hs := Option.some.inj f28; subst hs; clear f28
          exact ⟨a6, (), rfl, ⟨rfl, rfl, rfl, rfl, rfl, rfl, trivial⟩, H.sel [0, 1, 2, 3, 4] rfl⟩
      ·
       clear f14 H
       rintro T4 s4 w7 ⟨hr, (H : Cx w0 fp0 S0 w7 [Bx b7 [(rows_h).v], E (List (List Int)) s0_0 rows_h, Bx b4 [(.int .i64 p_)], Bx b0 [(also_h).v], E (List (List Int)) s0_1 also_h])⟩
       subst hr
       refine sq ?_
       refine load1 (H.bx0 0 rfl) ?_
       refine lenE (H.ro (α := List (List Int)) 1 rfl).len ?_
       obtain ⟨a7, e, f29⟩ := bindS f15; clear f15
       refine boolO e ?_; clear e
       cases a7
       ·
        have f30 := condF f29; clear f29
        refine build_ (cs := #[(.int .i64 0), (.int .i64 s0_3), (.int .i64 s4), (.int .i64 0)]) gok rfl rfl rfl ?_
        obtain ⟨y3, e, f31⟩ := bindS f30; clear f30
        obtain ⟨y3_0, y3_1⟩ := y3
        have i0 := e; clear e
        replace H := H.sel [2, 0, 1, 3, 4] rfl
        refine callF (impl_reduction_1_c 0 s0_3 s4 0 b4 p_ b7 s0_0 rows_h b0 s0_1 also_h y3_0 y3_1 i0) (Γi := [Bx b4 [(.int .i64 p_)], Bx b7 [(rows_h).v], E (List (List Int)) s0_0 rows_h, Bx b0 [(also_h).v], E (List (List Int)) s0_1 also_h]) H trivial ?_; clear H i0
        rintro _ _ w8 ⟨rfl, rfl⟩ H
        refine load1 (H.bx0 1 rfl) ?_
        obtain ⟨a8, e, f32⟩ := bindS f31; clear f31
        replace H := H.sel [2, 0, 1, 3, 4] rfl
        replace H := H.toEH (α := List Int)
        have HH := H; clear H; obtain ⟨p2, m2, h1, c8, c9, c10, c11, H⟩ := HH.peekL e; clear HH
        clear e
        refine idxE c8 c9 c10 ?_
        refine load1 c11 ?_; clear c11
        obtain ⟨a9, e, f33⟩ := bindS f32; clear f32
        obtain ⟨p3, m3, c12, c13, c14, c15⟩ := (H.rh (α := List Int) 0 rfl 0 rfl).at1 e; clear e
        refine idxE c12 c13 c14 ?_; clear c12 c13 c14
        refine load1 c15 ?_; clear c15
        refine build_ (cs := #[(.int .i64 1), (.int .i64 s0_3), (.int .i64 0), (.int .i64 a9)]) gok rfl rfl rfl ?_
        replace H := H.ofEH
        obtain ⟨y4, e, f34⟩ := bindS f33; clear f33
        obtain ⟨y4_0, y4_1⟩ := y4
        have i1 := e; clear e
        replace H := H.sel [1, 2, 0, 3, 4] rfl
        refine callF (impl_reduction_1_c 1 s0_3 0 a9 b4 p_ b7 y3_0 rows_h b0 y3_1 also_h y4_0 y4_1 i1) (Γi := [Bx b4 [(.int .i64 p_)], Bx b7 [(rows_h).v], E (List (List Int)) y3_0 rows_h, Bx b0 [(also_h).v], E (List (List Int)) y3_1 also_h]) H trivial ?_; clear H i1
        rintro _ _ w10 ⟨rfl, rfl⟩ H
        refine sq ?_
        refine load1 (H.bx0 1 rfl) ?_
        refine lenE (H.ro (α := List (List Int)) 2 rfl).len ?_
        have x0 := (H.ro (α := List (List Int)) 2 rfl).max
        obtain ⟨r5, e, f35⟩ := bindS f34; clear f34
        refine loopS _ y4_0.length (fun (k0 : Nat) (s5 : List (List Int) × List (List Int)) (_ : Unit) => [(2, (.int .i64 n_)), (5, (.pointer (some ⟨b7, 0, none⟩))), (9, (.int .i64 s0_3)), (10, (.func (.func 147) #[] #[(.pointer (some ⟨b4, 0, none⟩)), (.pointer (some ⟨b7, 0, none⟩)), (.pointer (some ⟨b0, 0, none⟩))])), (11, (.int .i64 s0_2)), (64, (.int .i64 ((y4_0.length : Nat) : Int))), (65, (.int .i64 ((k0 : Nat) : Int)))]) (fun _ (s5 : List (List Int) × List (List Int)) (_ : Unit) w' => Cx w0 fp0 S0 w' [Bx b7 [(rows_h).v], E (List (List Int)) s5.1 rows_h, Bx b4 [(.int .i64 p_)], Bx b0 [(also_h).v], E (List (List Int)) s5.2 also_h]) (y4_0, y4_1) () e ⟨rfl, rfl, rfl, rfl, rfl, rfl, rfl, trivial⟩ (H.sel [1, 2, 0, 3, 4] rfl) ?_ ?_
        ·
         clear H e
         rintro T5 k0 ⟨s5_0, s5_1⟩ _ w11 o2 hk (H : Cx w0 fp0 S0 w11 [Bx b7 [(rows_h).v], E (List (List Int)) s5_0 rows_h, Bx b4 [(.int .i64 p_)], Bx b0 [(also_h).v], E (List (List Int)) s5_1 also_h]) f36
         refine boolE (z := true) (ltLen hk) ?_
         refine sq ?_
         refine sq ?_
         obtain ⟨r6, f37, f38⟩ := bindS f36; clear f36
         refine cut (fun (q5 : Bool) => [(2, (.int .i64 n_)), (5, (.pointer (some ⟨b7, 0, none⟩))), (9, (.int .i64 s0_3)), (10, (.func (.func 147) #[] #[(.pointer (some ⟨b4, 0, none⟩)), (.pointer (some ⟨b7, 0, none⟩)), (.pointer (some ⟨b0, 0, none⟩))])), (11, (.int .i64 s0_2)), (13, (.int .i64 ((k0 : Nat) : Int))), (64, (.int .i64 ((y4_0.length : Nat) : Int))), (65, (.int .i64 ((k0 : Nat) : Int))), (80, (.bool q5))]) (fun (q5 : Bool) w' => q5 = r6 ∧ Cx w0 fp0 S0 w' [Bx b7 [(rows_h).v], E (List (List Int)) s5_0 rows_h, Bx b4 [(.int .i64 p_)], Bx b0 [(also_h).v], E (List (List Int)) s5_1 also_h]) ?_ ?_
         ·
          obtain ⟨a10, e, f39⟩ := bindS f37; clear f37
          refine boolO e ?_; clear e
          cases a10
          ·
           have f40 := condF f39; clear f39
           exact ⟨false, ⟨rfl, rfl, rfl, rfl, rfl, rfl, rfl, rfl, rfl, trivial⟩, Option.some.inj f40, H.sel [0, 1, 2, 3, 4] rfl⟩
          ·
           have f41 := condT f39; clear f39
           refine load1 (H.bx0 0 rfl) ?_
           obtain ⟨a11, e, f42⟩ := bindS f41; clear f41
           replace H := H.sel [1, 0, 2, 3, 4] rfl
           replace H := H.toEH (α := List Int)
           have HH := H; clear H; obtain ⟨p4, m4, h2, c16, c17, c18, c19, H⟩ := HH.peekL e; clear HH
           clear e
           refine idxE c16 c17 c18 ?_
           refine load1 c19 ?_; clear c19
           obtain ⟨a12, e, f43⟩ := bindS f42; clear f42
           obtain ⟨p5, m5, c20, c21, c22, c23⟩ := (H.rh (α := List Int) 0 rfl 0 rfl).at1 e; clear e
           refine idxE c20 c21 c22 ?_; clear c20 c21 c22
           refine load1 c23 ?_; clear c23
           obtain ⟨a13, e, f44⟩ := bindS f43; clear f43
           refine boolO e ?_; clear e
           replace H := H.ofEH
           exact ⟨a13, ⟨rfl, rfl, rfl, rfl, rfl, rfl, rfl, rfl, rfl, trivial⟩, Option.some.inj f44, H.sel [1, 0, 2, 3, 4] rfl⟩
         ·
          clear f37 H
          rintro T6 s6 w12 ⟨hr, (H : Cx w0 fp0 S0 w12 [Bx b7 [(rows_h).v], E (List (List Int)) s5_0 rows_h, Bx b4 [(.int .i64 p_)], Bx b0 [(also_h).v], E (List (List Int)) s5_1 also_h])⟩
          subst hr
          cases s6
          ·
           have f45 := condF f38; clear f38
           refine arK hk x0 ?_
           have hs := Option.some.inj f45; subst hs; clear f45
           exact ⟨(), ⟨rfl, rfl, rfl, rfl, rfl, rfl, rfl, trivial⟩, H.sel [0, 1, 2, 3, 4] rfl⟩
          ·
           have f46 := condT f38; clear f38
           refine load1 (H.bx0 0 rfl) ?_
           obtain ⟨a14, e, f47⟩ := bindS f46; clear f46
           replace H := H.sel [1, 0, 2, 3, 4] rfl
           replace H := H.toEH (α := List Int)
           have HH := H; clear H; obtain ⟨p6, m6, h3, c24, c25, c26, c27, H⟩ := HH.peekL e; clear HH
           clear e
           refine idxE c24 c25 c26 ?_
           refine load1 c27 ?_; clear c27
           obtain ⟨a15, e, f48⟩ := bindS f47; clear f47
           obtain ⟨p7, m7, c28, c29, c30, c31⟩ := (H.rh (α := List Int) 0 rfl 0 rfl).at1 e; clear e
           refine idxE c28 c29 c30 ?_; clear c28 c29 c30
           refine load1 c31 ?_; clear c31
           refine build_ (cs := #[(.int .i64 2), (.int .i64 ((k0 : Nat) : Int)), (.int .i64 s0_3), (.int .i64 a15)]) gok rfl rfl rfl ?_
           replace H := H.ofEH
           obtain ⟨y5, e, f49⟩ := bindS f48; clear f48
           obtain ⟨y5_0, y5_1⟩ := y5
           have i2 := e; clear e
           replace H := H.sel [2, 1, 0, 3, 4] rfl
           refine callF (impl_reduction_1_c 2 ((k0 : Nat) : Int) s0_3 a15 b4 p_ b7 s5_0 rows_h b0 s5_1 also_h y5_0 y5_1 i2) (Γi := [Bx b4 [(.int .i64 p_)], Bx b7 [(rows_h).v], E (List (List Int)) s5_0 rows_h, Bx b0 [(also_h).v], E (List (List Int)) s5_1 also_h]) H trivial ?_; clear H i2
           rintro _ _ w13 ⟨rfl, rfl⟩ H
           refine arK hk x0 ?_
           have hs := Option.some.inj f49; subst hs; clear f49
           exact ⟨(), ⟨rfl, rfl, rfl, rfl, rfl, rfl, rfl, trivial⟩, H.sel [1, 2, 0, 3, 4] rfl⟩
        ·
         clear H e
         obtain ⟨s7_0, s7_1⟩ := r5
         rintro T7 _ w14 (H : Cx w0 fp0 S0 w14 [Bx b7 [(rows_h).v], E (List (List Int)) s7_0 rows_h, Bx b4 [(.int .i64 p_)], Bx b0 [(also_h).v], E (List (List Int)) s7_1 also_h])
         refine boolE (z := false) geLen ?_
         refine sq ?_
         obtain ⟨a16, e, f50⟩ := bindS f35; clear f35
         refine arO e ?_; clear e
         exact ⟨(s7_0, s7_1, a16), ⟨rfl, rfl, rfl, rfl, rfl, trivial⟩, Option.some.inj f50, H.sel [0, 1, 2, 3, 4] rfl⟩
       ·
        have f51 := condT f29; clear f29
        exact ⟨(s0_0, s0_1, s0_3), ⟨rfl, rfl, rfl, rfl, rfl, trivial⟩, Option.some.inj f51, H.sel [0, 1, 2, 3, 4] rfl⟩
     ·
      clear f12 H
      rintro T8 ⟨s8_0, s8_1, s8_2⟩ w15 ⟨hr, (H : Cx w0 fp0 S0 w15 [Bx b7 [(rows_h).v], E (List (List Int)) s8_0 rows_h, Bx b4 [(.int .i64 p_)], Bx b0 [(also_h).v], E (List (List Int)) s8_1 also_h])⟩
      subst hr
      obtain ⟨a17, e, f52⟩ := bindS f13; clear f13
      refine arO e ?_; clear e
      have hs := Option.some.inj f52; subst hs; clear f52
      exact ⟨(s8_0, s8_1, a17, s8_2), (), rfl, ⟨rfl, rfl, rfl, rfl, rfl, trivial⟩, H.sel [0, 1, 2, 3, 4] rfl⟩
 ·
  clear f0 H
  rintro T9 ⟨s9_0, s9_1, s9_2⟩ w16 ⟨hr, (H : Cx w0 fp0 S0 w16 [E (List (List Int)) s9_0 rows_h, E (List (List Int)) s9_1 also_h])⟩
  subst hr
  cases f1
  exact ⟨_, _, rfl, ⟨rfl, rfl⟩, (H.sel [0, 1] rfl).close ⟨cloE, cloE, trivial⟩⟩

theorem impl_reduced_c (p_ : Int) (rows_ : List (List Int)) (rows_h : Hd) (n_ : Int) (y : List (List Int)) (hF : F_impl_reduced p_ rows_ n_ = some y) :
  ConF Tryd.prog 72 #[(.int .i64 p_), (rows_h).v, (.int .i64 n_)] [Es (List (List Int)) rows_ rows_h] [] (fun v Γ' => ∃ z0 : Hd, v = (z0).v ∧ Γ' = [E (List (List Int)) y z0]) := by
 intro w0 S0 fp0 hI hS
 have H : Cx w0 fp0 S0 w0 [Es (List (List Int)) rows_ rows_h] := Cx.start hI hS
 clear hI hS
 refine enterC (args := [_, _, _]) gok Tryd.func72 rfl _ rfl rfl rfl ?_
 obtain ⟨y2, e, hF3⟩ := bindS hF; clear hF
 have ey2 := e; clear e
 refine callF (impl_clones_c rows_ rows_h y2 ey2) (Γi := []) H ⟨Vw.sh 0 rfl, trivial⟩ ?_; clear H ey2
 rintro _ _ w4 ⟨h5, rfl, rfl⟩ H
 refine lenE (H.ro (α := List (List Int)) 0 rfl).len ?_
 obtain ⟨a7, e, hF8⟩ := bindS hF3; clear hF3
 refine make_ (α := List Int) gok rfl rfl rfl rfl (makeCO_of e) H ?_; clear e H; intro h0 w9 hx H
 clear hx
 obtain ⟨y0, e, f0⟩ := bindS hF8; clear hF8
 obtain ⟨y0_0, y0_1, y0_2⟩ := y0
 have i0 := e; clear e
 replace H := H.sel [1, 0, 2] rfl
 refine callF (impl_reduction_c p_ y2 h5 n_ a7 h0 y0_0 y0_1 y0_2 i0) (Γi := [E (List (List Int)) y2 h5, E (List (List Int)) a7 h0]) H trivial ?_; clear H i0
 rintro _ _ w1 ⟨rfl, rfl⟩ H
 obtain ⟨a0, e, f1⟩ := bindS f0; clear f0
 refine slO3 (α := List Int) gok rfl rfl H e ?_; clear e H; intro h1 H
 cases f1
 exact ⟨_, _, rfl, ⟨h1, rfl, rfl⟩, (H.sel [0] rfl).close ⟨cloE, trivial⟩⟩

theorem impl_isReduced_c (p_ : Int) (rows_ : List (List Int)) (rows_h : Hd) (n_ : Int) (y : Bool) (hF : F_impl_isReduced p_ rows_ n_ = some y) :
  ConF Tryd.prog 132 #[(.int .i64 p_), (rows_h).v, (.int .i64 n_)] [Es (List (List Int)) rows_ rows_h] [] (fun v Γ' => v = (.bool y) ∧ Γ' = []) := by
 intro w0 S0 fp0 hI hS
 have H : Cx w0 fp0 S0 w0 [Es (List (List Int)) rows_ rows_h] := Cx.start hI hS
 clear hI hS
 refine enterC (args := [_, _, _]) gok Tryd.func132 rfl _ rfl rfl rfl ?_
 refine sq ?_
 obtain ⟨r0, f0, f1⟩ := bindS hF; clear hF
 refine cut (fun (q0 : Bool) => [(0, (.int .i64 p_)), (1, (rows_h).v), (2, (.int .i64 n_)), (19, (.bool q0))]) (fun (q0 : Bool) w' => q0 = r0 ∧ Cx w0 fp0 S0 w' [Es (List (List Int)) rows_ rows_h]) ?_ ?_
 ·
  refine lenE (H.rs (α := List (List Int)) 0 rfl).len ?_
  obtain ⟨a0, e, f2⟩ := bindS f0; clear f0
  refine boolO e ?_; clear e
  cases a0
  ·
   have f3 := condF f2; clear f2
   obtain ⟨y0, e, f4⟩ := bindS f3; clear f3
   have i0 := e; clear e
   refine callF (impl_areVectors_c p_ rows_ rows_h n_ y0 i0) (Γi := []) H ⟨Vw.sh 0 rfl, trivial⟩ ?_; clear H i0
   rintro _ _ w1 ⟨rfl, rfl⟩ H
   obtain ⟨a1, e, f5⟩ := bindS f4; clear f4
   refine boolO e ?_; clear e
   exact ⟨a1, ⟨rfl, rfl, rfl, rfl, trivial⟩, Option.some.inj f5, H.sel [0] rfl⟩
  ·
   have f6 := condT f2; clear f2
   exact ⟨true, ⟨rfl, rfl, rfl, rfl, trivial⟩, Option.some.inj f6, H.sel [0] rfl⟩
 ·
  clear f0 H
  rintro T0 s0 w2 ⟨hr, (H : Cx w0 fp0 S0 w2 [Es (List (List Int)) rows_ rows_h])⟩
  subst hr
  cases s0
  ·
   have f7 := condF f1; clear f1
   refine sq ?_
   obtain ⟨y1, e, f8⟩ := bindS f7; clear f7
   have i1 := e; clear e
   refine callF (impl_reduced_c p_ rows_ rows_h n_ y1 i1) (Γi := []) H ⟨Vw.sh 0 rfl, trivial⟩ ?_; clear H i1
   rintro _ _ w3 ⟨h0, rfl, rfl⟩ H
   refine lenE (H.ro (α := List (List Int)) 0 rfl).len ?_
   replace H := H.frz
   have x0 := (H.rs (α := List (List Int)) 0 rfl).max
   obtain ⟨r1, e, f9⟩ := bindS f8; clear f8
   refine loopO _ y1.length (fun (k0 : Nat) (_ : Unit) (_ : Unit) => [(0, (.int .i64 p_)), (1, (rows_h).v), (2, (.int .i64 n_)), (23, (h0).v), (24, (.int .i64 ((y1.length : Nat) : Int))), (25, (.int .i64 ((k0 : Nat) : Int)))]) (fun _ (_ : Unit) (_ : Unit) w' => Cx w0 fp0 S0 w' [Es (List (List Int)) rows_ rows_h, Es (List (List Int)) y1 h0]) () () e ⟨rfl, rfl, rfl, rfl, rfl, rfl, trivial⟩ (H.sel [1, 0] rfl) ?_ ?_
   ·
    clear H e
    rintro T1 k0 _ _ w4 o0 hk (H : Cx w0 fp0 S0 w4 [Es (List (List Int)) rows_ rows_h, Es (List (List Int)) y1 h0]) hrt f10
    refine boolE (z := true) (ltLen hk) ?_
    refine sq ?_
    refine sq ?_
    obtain ⟨a2, e, f11⟩ := bindS f10; clear f10
    have HH := H; clear H; obtain ⟨p0, m0, h1, c0, c1, c2, c3, H⟩ := HH.elL 1 rfl e; clear HH
    clear e
    refine idxE c0 c1 c2 ?_; clear c0 c1 c2
    refine load1 c3 ?_; clear c3
    refine heldX H [] (.fst 0 (.fst 2 (.fst 3 (.fst 4 (.fst 5 (.act 1 (.act 6 (.act 7 .done)))))))) mixed [] trivial (by kernel_rfl) ?_
    clear H; intro w5 H
    have hX : Ext w5 w5 := Upd.refl _ _
    have H0 := H
    obtain ⟨a3, e, f12⟩ := bindS f11; clear f11
    have HH := H; clear H; obtain ⟨p1, m1, h2, c4, c5, c6, c7, H⟩ := HH.elL 1 rfl e; clear HH
    clear e
    refine idxE c4 c5 c6 ?_; clear c4 c5 c6
    refine load1X c7 ?_; clear c7
    obtain ⟨y2, e, f13⟩ := bindS f12; clear f12
    have i2 := e; clear e
    refine callFx (impl_pad_c a2 h1 y2 i2) H ⟨Vw.sh 1 rfl, trivial⟩ ?_; clear H i2
    rintro _ _ w6 ⟨rfl, rfl⟩ hx H
    replace hX := hX.trans0 hx; clear hx
    refine hold hX ?_
    obtain ⟨y3, e, f14⟩ := bindS f13; clear f13
    have i3 := e; clear e
    refine callFx (impl_pad_c a3 h2 y3 i3) H ⟨Vw.sh 0 rfl, trivial⟩ ?_; clear H i3
    rintro _ _ w7 ⟨rfl, rfl⟩ hx H
    replace hX := hX.trans0 hx; clear hx
    refine hold hX ?_
    obtain ⟨a4, e, f15⟩ := bindS f14; clear f14
    refine neqAr (t := 146) (n := 48) (e := 3) gok rfl rfl (by kernel_rfl) (by kernel_rfl) e ?_; clear e
    refine hold hX ?_
    cases a4
    ·
     have f16 := condF f15; clear f15
     refine arK hk x0 ?_
     have hs := Option.some.inj f16; subst hs; clear f16
     exact ⟨(), (), rfl, ⟨rfl, rfl, rfl, rfl, rfl, rfl, trivial⟩, H.sel [2, 3] rfl⟩
    ·
     have f17 := condT f15; clear f15
     have hs := Option.some.inj f17; subst hs; clear f17
     have hr := hrt _ rfl; subst hr
     have f18 : some _ = some _ := f9
     cases f18
     exact ⟨_, _, rfl, ⟨rfl, rfl⟩, (H.sel [] rfl).close trivial⟩
   ·
    clear H e
    rintro T2 _ _ w8 hr (H : Cx w0 fp0 S0 w8 [Es (List (List Int)) rows_ rows_h, Es (List (List Int)) y1 h0])
    subst hr
    refine boolE (z := false) geLen ?_
    refine sq ?_
    obtain ⟨y4, e, f19⟩ := bindS f9; clear f9
    have i4 := e; clear e
    refine callF (impl_reduced_c p_ rows_ rows_h n_ y4 i4) (Γi := []) H ⟨Vw.sh 0 rfl, trivial⟩ ?_; clear H i4
    rintro _ _ w9 ⟨h3, rfl, rfl⟩ H
    refine lenE (H.ro (α := List (List Int)) 0 rfl).len ?_
    refine lenE (H.rs (α := List (List Int)) 1 rfl).len ?_
    obtain ⟨a5, e, f20⟩ := bindS f19; clear f19
    refine boolO e ?_; clear e
    cases f20
    exact ⟨_, _, rfl, ⟨rfl, rfl⟩, (H.sel [] rfl).close trivial⟩
  ·
   have f21 := condT f1; clear f1
   cases f21
   exact ⟨_, _, rfl, ⟨rfl, rfl⟩, (H.sel [] rfl).close trivial⟩

theorem impl_isRelation_c (p_ : Int) (r__0 : Int) (r__1 : Int) (r__2 : List (List Int)) (r__2h : Hd) (y : Bool) (hF : F_impl_isRelation p_ (r__0, r__1, r__2) = some y) :
  ConF Tryd.prog 89 #[(.int .i64 p_), (.agg #[(.int .i64 r__0), (.int .i64 r__1), (r__2h).v])] [Es (List (List Int)) r__2 r__2h, Gl 0 [.int .i64 2, .int .i64 3, .int .i64 5, .int .i64 7]] [] (fun v Γ' => v = (.bool y) ∧ Γ' = []) := by
 intro w0 S0 fp0 hI hS
 have H : Cx w0 fp0 S0 w0 [Es (List (List Int)) r__2 r__2h, Gl 0 [.int .i64 2, .int .i64 3, .int .i64 5, .int .i64 7]] := Cx.start hI hS
 clear hI hS
 refine enterC (args := [_, _]) gok Tryd.func89 rfl _ rfl rfl rfl ?_
 refine box_ H ?_; clear H; intro b4 w3 hx H
 clear hx
 obtain ⟨r0, f0, f1⟩ := bindS hF; clear hF
 refine cut (fun (q0 : Bool) => [(4, (.bool q0))]) (fun (q0 : Bool) w' => q0 = r0 ∧ Cx w0 fp0 S0 w' [Gl 0 [.int .i64 2, .int .i64 3, .int .i64 5, .int .i64 7]]) ?_ ?_
 ·
  obtain ⟨y0, e, f2⟩ := bindS f0; clear f0
  have i0 := e; clear e
  refine callF (impl_isField_c p_ y0 i0) (Γi := []) H ⟨Vw.gl 2 rfl, trivial⟩ ?_; clear H i0
  rintro _ _ w1 ⟨rfl, rfl⟩ H
  cases y0
  ·
   have f3 := condF f2; clear f2
   exact ⟨false, ⟨rfl, trivial⟩, Option.some.inj f3, H.sel [2] rfl⟩
  ·
   have f4 := condT f2; clear f2
   refine fld gok rfl rfl rfl rfl ?_
   refine load1 (H.bx 0 rfl (j := 0) rfl) ?_
   refine fld gok rfl rfl rfl rfl ?_
   refine load1 (H.bx 0 rfl (j := 1) rfl) ?_
   obtain ⟨y1, e, f5⟩ := bindS f4; clear f4
   have i1 := e; clear e
   refine callF (impl_fits_c r__0 r__1 y1 i1) (Γi := []) H trivial ?_; clear H i1
   rintro _ _ w2 ⟨rfl, rfl⟩ H
   cases y1
   ·
    have f6 := condF f5; clear f5
    exact ⟨false, ⟨rfl, trivial⟩, Option.some.inj f6, H.sel [2] rfl⟩
   ·
    have f7 := condT f5; clear f5
    refine fld gok rfl rfl rfl rfl ?_
    refine load1 (H.bx 0 rfl (j := 2) rfl) ?_
    refine fld gok rfl rfl rfl rfl ?_
    refine load1 (H.bx 0 rfl (j := 0) rfl) ?_
    refine fld gok rfl rfl rfl rfl ?_
    refine load1 (H.bx 0 rfl (j := 1) rfl) ?_
    obtain ⟨a0, e, f8⟩ := bindS f7; clear f7
    refine arO e ?_; clear e
    obtain ⟨y2, e, f9⟩ := bindS f8; clear f8
    have i2 := e; clear e
    refine callF (impl_isReduced_c p_ r__2 r__2h a0 y2 i2) (Γi := []) H ⟨Vw.sh 1 rfl, trivial⟩ ?_; clear H i2
    rintro _ _ w4 ⟨rfl, rfl⟩ H
    exact ⟨y2, ⟨rfl, trivial⟩, Option.some.inj f9, H.sel [2] rfl⟩
 ·
  clear f0 H
  rintro T0 s0 w5 ⟨hr, (H : Cx w0 fp0 S0 w5 [Gl 0 [.int .i64 2, .int .i64 3, .int .i64 5, .int .i64 7]])⟩
  subst hr
  cases f1
  exact ⟨_, _, rfl, ⟨rfl, rfl⟩, (H.sel [] rfl).close trivial⟩

theorem impl_joined_c (lists_ : List (List Int)) (lists_h : Hd) (y : List Int) (hF : F_impl_joined lists_ = some y) :
  ConF Tryd.prog 94 #[(lists_h).v] [Es (List (List Int)) lists_ lists_h] [] (fun v Γ' => ∃ z0 : Hd, v = (z0).v ∧ Γ' = [E (List Int) y z0]) := by
 intro w0 S0 fp0 hI hS
 have H : Cx w0 fp0 S0 w0 [Es (List (List Int)) lists_ lists_h] := Cx.start hI hS
 clear hI hS
 refine enterC (args := [_]) gok Tryd.func94 rfl _ rfl rfl rfl ?_
 refine lit0 (α := Int) gok rfl rfl H ?_; clear H; intro h3 w2 hx H
 clear hx
 refine sq ?_
 refine lenE (H.rs (α := List (List Int)) 1 rfl).len ?_
 have x0 := (H.rs (α := List (List Int)) 1 rfl).max
 obtain ⟨r0, e, f0⟩ := bindS hF; clear hF
 refine loopS _ lists_.length (fun (k5 : Nat) (s0 : List Int) (g0 : Hd) => [(3, (g0).v), (7, (lists_h).v), (8, (.int .i64 ((lists_.length : Nat) : Int))), (9, (.int .i64 ((k5 : Nat) : Int)))]) (fun _ (s0 : List Int) (g0 : Hd) w' => Cx w0 fp0 S0 w' [E (List Int) s0 g0, Es (List (List Int)) lists_ lists_h]) ([] : List Int) h3 e ⟨rfl, rfl, rfl, rfl, trivial⟩ (H.sel [0, 1] rfl) ?_ ?_
 ·
  clear H e
  rintro T0 k5 s0 g0 w1 o0 hk (H : Cx w0 fp0 S0 w1 [E (List Int) s0 g0, Es (List (List Int)) lists_ lists_h]) f1
  refine boolE (z := true) (ltLen hk) ?_
  refine sq ?_
  refine sq ?_
  obtain ⟨a0, e, f2⟩ := bindS f1; clear f1
  have HH := H; clear H; obtain ⟨p0, m0, h0, c0, c1, c2, c3, H⟩ := HH.elL 1 rfl e; clear HH
  clear e
  refine idxE c0 c1 c2 ?_; clear c0 c1 c2
  refine load1 c3 ?_; clear c3
  obtain ⟨a1, e, f3⟩ := bindS f2; clear f2
  replace H := H.sel [1, 0, 2] rfl
  refine appendS (α := Int) gok rfl rfl rfl rfl H (Vw.sh 0 rfl) e ?_; clear e H; intro h1 w3 H
  refine arK hk x0 ?_
  have hs := Option.some.inj f3; subst hs; clear f3
  exact ⟨h1, ⟨rfl, rfl, rfl, rfl, trivial⟩, H.sel [0, 2] rfl⟩
 ·
  clear H e
  rintro T1 g1 w4 (H : Cx w0 fp0 S0 w4 [E (List Int) r0 g1, Es (List (List Int)) lists_ lists_h])
  refine boolE (z := false) geLen ?_
  refine sq ?_
  cases f0
  exact ⟨_, _, rfl, ⟨g1, rfl, rfl⟩, (H.sel [0] rfl).close ⟨cloE, trivial⟩⟩

theorem impl_lead_c (v_ : List Int) (v_h : Hd) (y : Int) (hF : F_impl_lead v_ = some y) :
  ConF Tryd.prog 90 #[(v_h).v] [Es (List Int) v_ v_h] [] (fun v Γ' => v = (.int .i64 y) ∧ Γ' = []) := by
 intro w0 S0 fp0 hI hS
 have H : Cx w0 fp0 S0 w0 [Es (List Int) v_ v_h] := Cx.start hI hS
 clear hI hS
 refine enterC (args := [_]) gok Tryd.func90 rfl _ rfl rfl rfl ?_
 refine sq ?_
 refine lenE (H.rs (α := List Int) 0 rfl).len ?_
 have x0 := (H.rs (α := List Int) 0 rfl).max
 obtain ⟨r0, e, f0⟩ := bindS hF; clear hF
 refine loopO _ v_.length (fun (k2 : Nat) (_ : Unit) (_ : Unit) => [(0, (v_h).v), (5, (v_h).v), (6, (.int .i64 ((v_.length : Nat) : Int))), (7, (.int .i64 ((k2 : Nat) : Int)))]) (fun _ (_ : Unit) (_ : Unit) w' => Cx w0 fp0 S0 w' [Es (List Int) v_ v_h]) () () e ⟨rfl, rfl, rfl, rfl, trivial⟩ (H.sel [0] rfl) ?_ ?_
 ·
  clear H e
  rintro T0 k2 _ _ w1 o0 hk (H : Cx w0 fp0 S0 w1 [Es (List Int) v_ v_h]) hrt f1
  refine boolE (z := true) (ltLen hk) ?_
  refine sq ?_
  refine sq ?_
  obtain ⟨a0, e, f2⟩ := bindS f1; clear f1
  obtain ⟨p0, m0, c0, c1, c2, c3⟩ := (H.rs (α := List Int) 0 rfl).at1 e; clear e
  refine idxE c0 c1 c2 ?_; clear c0 c1 c2
  refine load1 c3 ?_; clear c3
  obtain ⟨a1, e, f3⟩ := bindS f2; clear f2
  refine boolO e ?_; clear e
  cases a1
  ·
   have f4 := condF f3; clear f3
   refine arK hk x0 ?_
   have hs := Option.some.inj f4; subst hs; clear f4
   exact ⟨(), (), rfl, ⟨rfl, rfl, rfl, rfl, trivial⟩, H.sel [0] rfl⟩
  ·
   have f5 := condT f3; clear f3
   have hs := Option.some.inj f5; subst hs; clear f5
   have hr := hrt _ rfl; subst hr
   have f6 : some _ = some _ := f0
   cases f6
   exact ⟨_, _, rfl, ⟨rfl, rfl⟩, (H.sel [] rfl).close trivial⟩
 ·
  clear H e
  rintro T1 _ _ w2 hr (H : Cx w0 fp0 S0 w2 [Es (List Int) v_ v_h])
  subst hr
  refine boolE (z := false) geLen ?_
  refine sq ?_
  refine lenE (H.rs (α := List Int) 0 rfl).len ?_
  cases f0
  exact ⟨_, _, rfl, ⟨rfl, rfl⟩, (H.sel [] rfl).close trivial⟩

theorem impl_isZero_c (v_ : List Int) (v_h : Hd) (y : Bool) (hF : F_impl_isZero v_ = some y) :
  ConF Tryd.prog 97 #[(v_h).v] [Es (List Int) v_ v_h] [] (fun v Γ' => v = (.bool y) ∧ Γ' = []) := by
 intro w0 S0 fp0 hI hS
 have H : Cx w0 fp0 S0 w0 [Es (List Int) v_ v_h] := Cx.start hI hS
 clear hI hS
 refine enterC (args := [_]) gok Tryd.func97 rfl _ rfl rfl rfl ?_
 obtain ⟨y2, e, hF3⟩ := bindS hF; clear hF
 have ey2 := e; clear e
 refine callF (impl_lead_c v_ v_h y2 ey2) (Γi := []) H ⟨Vw.sh 0 rfl, trivial⟩ ?_; clear H ey2
 rintro _ _ w4 ⟨rfl, rfl⟩ H
 refine lenE (H.rs (α := List Int) 0 rfl).len ?_
 obtain ⟨a5, e, hF6⟩ := bindS hF3; clear hF3
 refine boolO e ?_; clear e
 cases hF6
 exact ⟨_, _, rfl, ⟨rfl, rfl⟩, (H.sel [] rfl).close trivial⟩

theorem impl_coordinates_c (p_ : Int) (basis_ : List (List Int)) (basis_h : Hd) (v_ : List Int) (v_h : Hd) (y0 : List Int) (y1 : Bool) (hF : F_impl_coordinates p_ basis_ v_ = some (y0, y1)) :
  ConF Tryd.prog 86 #[(.int .i64 p_), (basis_h).v, (v_h).v] [Es (List (List Int)) basis_ basis_h, Es (List Int) v_ v_h] [] (fun v Γ' => ∃ z0 : Hd, v = (.tuple #[(z0).v, (.bool y1)]) ∧ Γ' = [E (List Int) y0 z0]) := by
 intro w0 S0 fp0 hI hS
 have H : Cx w0 fp0 S0 w0 [Es (List (List Int)) basis_ basis_h, Es (List Int) v_ v_h] := Cx.start hI hS
 clear hI hS
 refine enterC (args := [_, _, _]) gok Tryd.func86 rfl _ rfl rfl rfl ?_
 obtain ⟨y3, e, hF4⟩ := bindS hF; clear hF
 have ey3 := e; clear e
 refine callF (impl_clone_c v_ v_h y3 ey3) (Γi := []) H ⟨Vw.sh 1 rfl, trivial⟩ ?_; clear H ey3
 rintro _ _ w5 ⟨h6, rfl, rfl⟩ H
 refine lit0 (α := Int) gok rfl rfl H ?_; clear H; intro h9 w8 hx H
 clear hx
 refine sq ?_
 refine lenE (H.rs (α := List (List Int)) 2 rfl).len ?_
 have x0 := (H.rs (α := List (List Int)) 2 rfl).max
 obtain ⟨r0, e, f0⟩ := bindS hF4; clear hF4
 refine loopS _ basis_.length (fun (k0 : Nat) (s0 : List Int × List Int) (g0 : Hd) => [(0, (.int .i64 p_)), (8, (h6).v), (9, (g0).v), (16, (basis_h).v), (17, (.int .i64 ((basis_.length : Nat) : Int))), (18, (.int .i64 ((k0 : Nat) : Int)))]) (fun _ (s0 : List Int × List Int) (g0 : Hd) w' => Cx w0 fp0 S0 w' [E (List Int) s0.1 h6, E (List Int) s0.2 g0, Es (List (List Int)) basis_ basis_h]) (y3, ([] : List Int)) h9 e ⟨rfl, rfl, rfl, rfl, rfl, rfl, trivial⟩ (H.sel [1, 0, 2] rfl) ?_ ?_
 ·
  clear H e
  rintro T0 k0 ⟨s0_0, s0_1⟩ g0 w1 o0 hk (H : Cx w0 fp0 S0 w1 [E (List Int) s0_0 h6, E (List Int) s0_1 g0, Es (List (List Int)) basis_ basis_h]) f1
  refine boolE (z := true) (ltLen hk) ?_
  refine sq ?_
  refine sq ?_
  obtain ⟨a0, e, f2⟩ := bindS f1; clear f1
  have HH := H; clear H; obtain ⟨p0, m0, h0, c0, c1, c2, c3, H⟩ := HH.elL 2 rfl e; clear HH
  clear e
  refine idxE c0 c1 c2 ?_; clear c0 c1 c2
  refine load1 c3 ?_; clear c3
  obtain ⟨y2, e, f3⟩ := bindS f2; clear f2
  have i0 := e; clear e
  refine callF (impl_lead_c a0 h0 y2 i0) (Γi := []) H ⟨Vw.sh 0 rfl, trivial⟩ ?_; clear H i0
  rintro _ _ w2 ⟨rfl, rfl⟩ H
  obtain ⟨a1, e, f4⟩ := bindS f3; clear f3
  obtain ⟨p1, m1, c4, c5, c6, c7⟩ := (H.ro (α := List Int) 1 rfl).at1 e; clear e
  refine idxE c4 c5 c6 ?_; clear c4 c5 c6
  refine load1 c7 ?_; clear c7
  refine lit1S (α := Int) gok rfl rfl rfl rfl H ?_; clear H; intro h1 w3 hx H
  clear hx
  obtain ⟨a2, e, f5⟩ := bindS f4; clear f4
  replace H := H.sel [3, 0, 1, 2, 4] rfl
  refine append_ (α := Int) gok rfl rfl rfl rfl H e ?_; clear e H; intro h2 w4 H
  obtain ⟨a3, e, f6⟩ := bindS f5; clear f5
  refine arO e ?_; clear e
  obtain ⟨y4, e, f7⟩ := bindS f6; clear f6
  have i1 := e; clear e
  replace H := H.sel [2, 0, 1, 3] rfl
  refine callF (impl_addTimes_c p_ s0_0 h6 a3 a0 h0 y4 i1) (Γi := [E (List Int) s0_0 h6]) H ⟨Vw.sh 1 rfl, trivial⟩ ?_; clear H i1
  rintro _ _ w6 ⟨rfl, rfl⟩ H
  refine arK hk x0 ?_
  have hs := Option.some.inj f7; subst hs; clear f7
  exact ⟨h2, ⟨rfl, rfl, rfl, rfl, rfl, rfl, trivial⟩, H.sel [0, 1, 3] rfl⟩
 ·
  clear H e
  obtain ⟨s1_0, s1_1⟩ := r0
  rintro T1 g1 w7 (H : Cx w0 fp0 S0 w7 [E (List Int) s1_0 h6, E (List Int) s1_1 g1, Es (List (List Int)) basis_ basis_h])
  refine boolE (z := false) geLen ?_
  refine sq ?_
  obtain ⟨y5, e, f8⟩ := bindS f0; clear f0
  have i2 := e; clear e
  refine callF (impl_isZero_c s1_0 h6 y5 i2) (Γi := []) H ⟨Vw.own 0 rfl, trivial⟩ ?_; clear H i2
  rintro _ _ w9 ⟨rfl, rfl⟩ H
  cases f8
  exact ⟨_, _, rfl, ⟨g1, rfl, rfl⟩, (H.sel [1] rfl).close ⟨cloE, trivial⟩⟩

theorem impl_hasPair_c (p_ : Int) (r__0 : Int) (r__1 : Int) (r__2 : List (List Int)) (r__2h : Hd) (pair_ : List Int) (pair_h : Hd) (y : Bool) (hF : F_impl_hasPair p_ (r__0, r__1, r__2) pair_ = some y) :
  ConF Tryd.prog 93 #[(.int .i64 p_), (.agg #[(.int .i64 r__0), (.int .i64 r__1), (r__2h).v]), (pair_h).v] [Es (List (List Int)) r__2 r__2h, Es (List Int) pair_ pair_h] [] (fun v Γ' => v = (.bool y) ∧ Γ' = []) := by
 intro w0 S0 fp0 hI hS
 have H : Cx w0 fp0 S0 w0 [Es (List (List Int)) r__2 r__2h, Es (List Int) pair_ pair_h] := Cx.start hI hS
 clear hI hS
 refine enterC (args := [_, _, _]) gok Tryd.func93 rfl _ rfl rfl rfl ?_
 refine box_ H ?_; clear H; intro b4 w3 hx H
 clear hx
 refine fld gok rfl rfl rfl rfl ?_
 refine load1 (H.bx 0 rfl (j := 2) rfl) ?_
 obtain ⟨y6, e, hF7⟩ := bindS hF; clear hF
 obtain ⟨y6_0, y6_1⟩ := y6
 have ey6 := e; clear e
 refine callF (impl_coordinates_c p_ r__2 r__2h pair_ pair_h y6_0 y6_1 ey6) (Γi := []) H ⟨Vw.sh 1 rfl, Vw.sh 2 rfl, trivial⟩ ?_; clear H ey6
 rintro _ _ w8 ⟨h9, rfl, rfl⟩ H
 cases hF7
 exact ⟨_, _, rfl, ⟨rfl, rfl⟩, (H.sel [] rfl).close trivial⟩

theorem impl_HasPair_c (p_ : Int) (r__0 : Int) (r__1 : Int) (r__2 : List (List Int)) (r__2h : Hd) (x_ : List Int) (x_h : Hd) (y_ : List Int) (y_h : Hd) (y0 : Bool) (y1 : Bool) (hF : F_impl_HasPair p_ (r__0, r__1, r__2) x_ y_ = some (y0, y1)) :
  ConF Tryd.prog 45 #[(.int .i64 p_), (.agg #[(.int .i64 r__0), (.int .i64 r__1), (r__2h).v]), (x_h).v, (y_h).v] [Es (List (List Int)) r__2 r__2h, Es (List Int) x_ x_h, Es (List Int) y_ y_h, Gl 0 [.int .i64 2, .int .i64 3, .int .i64 5, .int .i64 7]] [] (fun v Γ' => v = (.tuple #[(.bool y0), (.bool y1)]) ∧ Γ' = []) := by
 intro w0 S0 fp0 hI hS
 have H : Cx w0 fp0 S0 w0 [Es (List (List Int)) r__2 r__2h, Es (List Int) x_ x_h, Es (List Int) y_ y_h, Gl 0 [.int .i64 2, .int .i64 3, .int .i64 5, .int .i64 7]] := Cx.start hI hS
 clear hI hS
 refine enterC (args := [_, _, _, _]) gok Tryd.func45 rfl _ rfl rfl rfl ?_
 refine box_ H ?_; clear H; intro b6 w5 hx H
 clear hx
 refine sq ?_
 obtain ⟨r0, f0, f1⟩ := bindS hF; clear hF
 refine cut (fun (q0 : Bool) => [(0, (.int .i64 p_)), (2, (x_h).v), (3, (y_h).v), (5, (.pointer (some ⟨b6, 0, none⟩))), (29, (.bool q0))]) (fun (q0 : Bool) w' => q0 = r0 ∧ Cx w0 fp0 S0 w' [Es (List Int) x_ x_h, Es (List Int) y_ y_h, Bx b6 [(.int .i64 r__0), (.int .i64 r__1), (r__2h).v], Es (List (List Int)) r__2 r__2h, Gl 0 [.int .i64 2, .int .i64 3, .int .i64 5, .int .i64 7]]) ?_ ?_
 ·
  refine loadN [(.int .i64 r__0), (.int .i64 r__1), (r__2h).v] rfl (fun j u hj => H.bx 0 rfl hj) ?_
  obtain ⟨y2, e, f2⟩ := bindS f0; clear f0
  have i0 := e; clear e
  refine callF (impl_isRelation_c p_ r__0 r__1 r__2 r__2h y2 i0) (Γi := []) H ⟨Vw.sh 1 rfl, Vw.gl 4 rfl, trivial⟩ ?_; clear H i0
  rintro _ _ w1 ⟨rfl, rfl⟩ H
  obtain ⟨a0, e, f3⟩ := bindS f2; clear f2
  refine boolO e ?_; clear e
  cases a0
  ·
   have f4 := condF f3; clear f3
   refine fld gok rfl rfl rfl rfl ?_
   refine load1 (H.bx 0 rfl (j := 0) rfl) ?_
   obtain ⟨y3, e, f5⟩ := bindS f4; clear f4
   have i1 := e; clear e
   refine callF (impl_isVector_c p_ x_ x_h r__0 y3 i1) (Γi := []) H ⟨Vw.sh 2 rfl, trivial⟩ ?_; clear H i1
   rintro _ _ w2 ⟨rfl, rfl⟩ H
   obtain ⟨a1, e, f6⟩ := bindS f5; clear f5
   refine boolO e ?_; clear e
   cases a1
   ·
    have f7 := condF f6; clear f6
    refine fld gok rfl rfl rfl rfl ?_
    refine load1 (H.bx 0 rfl (j := 1) rfl) ?_
    obtain ⟨y4, e, f8⟩ := bindS f7; clear f7
    have i2 := e; clear e
    refine callF (impl_isVector_c p_ y_ y_h r__1 y4 i2) (Γi := []) H ⟨Vw.sh 3 rfl, trivial⟩ ?_; clear H i2
    rintro _ _ w3 ⟨rfl, rfl⟩ H
    obtain ⟨a2, e, f9⟩ := bindS f8; clear f8
    refine boolO e ?_; clear e
    exact ⟨a2, ⟨rfl, rfl, rfl, rfl, rfl, trivial⟩, Option.some.inj f9, H.sel [2, 3, 0, 1, 4] rfl⟩
   ·
    have f10 := condT f6; clear f6
    exact ⟨true, ⟨rfl, rfl, rfl, rfl, rfl, trivial⟩, Option.some.inj f10, H.sel [2, 3, 0, 1, 4] rfl⟩
  ·
   have f11 := condT f3; clear f3
   exact ⟨true, ⟨rfl, rfl, rfl, rfl, rfl, trivial⟩, Option.some.inj f11, H.sel [2, 3, 0, 1, 4] rfl⟩
 ·
  clear f0 H
  rintro T0 s0 w4 ⟨hr, (H : Cx w0 fp0 S0 w4 [Es (List Int) x_ x_h, Es (List Int) y_ y_h, Bx b6 [(.int .i64 r__0), (.int .i64 r__1), (r__2h).v], Es (List (List Int)) r__2 r__2h, Gl 0 [.int .i64 2, .int .i64 3, .int .i64 5, .int .i64 7]])⟩
  subst hr
  cases s0
  ·
   have f12 := condF f1; clear f1
   refine heldX H [] (.fst 0 (.fst 2 (.fst 3 (.fst 1 (.act 4 (.act 5 (.act 6 (.fst 7 (.fst 8 .done))))))))) mixed [] trivial (by kernel_rfl) ?_
   clear H; intro w6 H
   have hX : Ext w6 w6 := Upd.refl _ _
   have H0 := H
   refine loadNX [(.int .i64 r__0), (.int .i64 r__1), (r__2h).v] rfl (fun j u hj => H.bx 2 rfl hj) ?_
   replace H := H.dup 1 rfl persS
   replace H := H.dup 1 rfl persS
   refine litN (α := Sh (List Int)) (us := [(x_h).v, (y_h).v]) (xs := [x_, y_]) (gs := ([x_h, y_h] : List Hd)) gok rfl rfl rfl ⟨rfl, rfl, trivial⟩ rfl rfl H ?_; clear H; intro h0 w7 hx H
   replace hX := hX.trans0 hx; clear hx
   refine hold hX ?_
   obtain ⟨y5, e, f13⟩ := bindS f12; clear f12
   have i3 := e; clear e
   refine callFx (impl_joined_c [x_, y_] h0 y5 i3) H ⟨Vw.part (β := List (List Int)) (Vw.own (α := List (Sh (List Int))) 0 rfl) [x_, y_] h0 (fun S h => h), trivial⟩ ?_; clear H i3
   rintro _ _ w8 ⟨h1, rfl, rfl⟩ hx H
   replace hX := hX.trans0 hx; clear hx
   refine hold hX ?_
   obtain ⟨y6, e, f14⟩ := bindS f13; clear f13
   have i4 := e; clear e
   refine callFx (impl_hasPair_c p_ r__0 r__1 r__2 r__2h y5 h1 y6 i4) H ⟨Vw.sh 5 rfl, Vw.own 0 rfl, trivial⟩ ?_; clear H i4
   rintro _ _ w9 ⟨rfl, rfl⟩ hx H
   replace hX := hX.trans0 hx; clear hx
   refine hold hX ?_
   cases f14
   exact ⟨_, _, rfl, ⟨rfl, rfl⟩, (H.sel [] rfl).close trivial⟩
  ·
   have f15 := condT f1; clear f1
   cases f15
   exact ⟨_, _, rfl, ⟨rfl, rfl⟩, (H.sel [] rfl).close trivial⟩

theorem laws_eqIntS_c (a_ : List Int) (a_h : Hd) (b_ : List Int) (b_h : Hd) (y : Bool) (hF : F_laws_eqIntS a_ b_ = some y) :
  ConF Tryd.prog 35 #[(a_h).v, (b_h).v] [Es (List Int) a_ a_h, Es (List Int) b_ b_h] [] (fun v Γ' => v = (.bool y) ∧ Γ' = []) := by
 intro w0 S0 fp0 hI hS
 have H : Cx w0 fp0 S0 w0 [Es (List Int) a_ a_h, Es (List Int) b_ b_h] := Cx.start hI hS
 clear hI hS
 refine enterC (args := [_, _]) gok Tryd.func35 rfl _ rfl rfl rfl ?_
 refine sq ?_
 refine lenE (H.rs (α := List Int) 0 rfl).len ?_
 refine lenE (H.rs (α := List Int) 1 rfl).len ?_
 obtain ⟨a3, e, hF4⟩ := bindS hF; clear hF
 refine boolO e ?_; clear e
 cases a3
 ·
  have hF5 := condF hF4; clear hF4
  obtain ⟨r0, f0, f1⟩ := bindS hF5; clear hF5
  refine cut (fun (q0 : Unit) => []) (fun (q0 : Unit) w' => .inl () = r0 ∧ Cx w0 fp0 S0 w' []) ?_ ?_
  ·
   refine loopW _ (fun (s0 : Int) (_ : Unit) => [(0, (a_h).v), (1, (b_h).v), (5, (.int .i64 s0))]) (fun (s0 : Int) (_ : Unit) w' => Cx w0 fp0 S0 w' [Es (List Int) a_ a_h, Es (List Int) b_ b_h]) 0 () f0 ⟨rfl, rfl, rfl, trivial⟩ (H.sel [0, 1] rfl) ?_
   ·
    clear H
    rintro T0 s0 _ w1 o0 (H : Cx w0 fp0 S0 w1 [Es (List Int) a_ a_h, Es (List Int) b_ b_h]) hrt f2
    refine sq ?_
    refine lenE (H.rs (α := List Int) 0 rfl).len ?_
    obtain ⟨a0, e, f3⟩ := bindS f2; clear f2
    refine boolO e ?_; clear e
    cases a0
    ·
     have f4 := condF f3; clear f3
     have hs := Option.some.inj f4; subst hs; clear f4
     have f5 : some _ = some _ := congrArg some (hrt _ rfl).symm
     exact ⟨(), trivial, Option.some.inj f5, H.sel [] rfl⟩
    ·
     have f6 := condT f3; clear f3
     refine sq ?_
     refine heldX H [] (.fst 0 (.fst 1 (.fst 2 (.fst 4 (.fst 5 (.fst 6 (.fst 3 (.fst 7 (.fst 8 .done))))))))) mixed [] trivial (by kernel_rfl) ?_
     clear H; intro w2 H
     have hX : Ext w2 w2 := Upd.refl _ _
     have H0 := H
     obtain ⟨a1, e, f7⟩ := bindS f6; clear f6
     obtain ⟨p0, m0, c0, c1, c2, c3⟩ := (H.rs (α := List Int) 0 rfl).at1 e; clear e
     refine idxE c0 c1 c2 ?_; clear c0 c1 c2
     obtain ⟨a2, e, f8⟩ := bindS f7; clear f7
     obtain ⟨p1, m1, c4, c5, c6, c7⟩ := (H.rs (α := List Int) 1 rfl).at1 e; clear e
     refine idxE c4 c5 c6 ?_; clear c4 c5 c6
     refine load1X c3 ?_; clear c3
     refine load1X c7 ?_; clear c7
     obtain ⟨a4, e, f9⟩ := bindS f8; clear f8
     refine boolO e ?_; clear e
     cases a4
     ·
      have f10 := condF f9; clear f9
      obtain ⟨a5, e, f11⟩ := bindS f10; clear f10
      refine arO e ?_; clear e
      have hs := Option.some.inj f11; subst hs; clear f11
      exact ⟨a5, (), rfl, ⟨rfl, rfl, rfl, trivial⟩, H.sel [0, 1] rfl⟩
     ·
      have f12 := condT f9; clear f9
      have hs := Option.some.inj f12; subst hs; clear f12
      have f13 : some _ = some _ := congrArg some (hrt _ rfl).symm
      have hs := Option.some.inj f13; subst hs; clear f13
      have f14 : some _ = some _ := f1; clear f1
      cases f14
      exact ⟨_, _, rfl, ⟨rfl, rfl⟩, (H.sel [] rfl).close trivial⟩
  ·
   clear f0 H
   rintro T1 _ w3 ⟨hr, (H : Cx w0 fp0 S0 w3 [])⟩
   subst hr
   cases f1
   exact ⟨_, _, rfl, ⟨rfl, rfl⟩, (H.sel [] rfl).close trivial⟩
 ·
  have f15 := condT hF4; clear hF4
  cases f15
  exact ⟨_, _, rfl, ⟨rfl, rfl⟩, (H.sel [] rfl).close trivial⟩

theorem laws_eqIntSS_c (a_ : List (List Int)) (a_h : Hd) (b_ : List (List Int)) (b_h : Hd) (y : Bool) (hF : F_laws_eqIntSS a_ b_ = some y) :
  ConF Tryd.prog 67 #[(a_h).v, (b_h).v] [Es (List (List Int)) a_ a_h, Es (List (List Int)) b_ b_h] [] (fun v Γ' => v = (.bool y) ∧ Γ' = []) := by
 intro w0 S0 fp0 hI hS
 have H : Cx w0 fp0 S0 w0 [Es (List (List Int)) a_ a_h, Es (List (List Int)) b_ b_h] := Cx.start hI hS
 clear hI hS
 refine enterC (args := [_, _]) gok Tryd.func67 rfl _ rfl rfl rfl ?_
 refine sq ?_
 refine lenE (H.rs (α := List (List Int)) 0 rfl).len ?_
 refine lenE (H.rs (α := List (List Int)) 1 rfl).len ?_
 obtain ⟨a3, e, hF4⟩ := bindS hF; clear hF
 refine boolO e ?_; clear e
 cases a3
 ·
  have hF5 := condF hF4; clear hF4
  obtain ⟨r0, f0, f1⟩ := bindS hF5; clear hF5
  refine cut (fun (q0 : Unit) => []) (fun (q0 : Unit) w' => .inl () = r0 ∧ Cx w0 fp0 S0 w' []) ?_ ?_
  ·
   refine loopW _ (fun (s0 : Int) (_ : Unit) => [(0, (a_h).v), (1, (b_h).v), (5, (.int .i64 s0))]) (fun (s0 : Int) (_ : Unit) w' => Cx w0 fp0 S0 w' [Es (List (List Int)) a_ a_h, Es (List (List Int)) b_ b_h]) 0 () f0 ⟨rfl, rfl, rfl, trivial⟩ (H.sel [0, 1] rfl) ?_
   ·
    clear H
    rintro T0 s0 _ w1 o0 (H : Cx w0 fp0 S0 w1 [Es (List (List Int)) a_ a_h, Es (List (List Int)) b_ b_h]) hrt f2
    refine sq ?_
    refine lenE (H.rs (α := List (List Int)) 0 rfl).len ?_
    obtain ⟨a0, e, f3⟩ := bindS f2; clear f2
    refine boolO e ?_; clear e
    cases a0
    ·
     have f4 := condF f3; clear f3
     have hs := Option.some.inj f4; subst hs; clear f4
     have f5 : some _ = some _ := congrArg some (hrt _ rfl).symm
     exact ⟨(), trivial, Option.some.inj f5, H.sel [] rfl⟩
    ·
     have f6 := condT f3; clear f3
     refine sq ?_
     refine heldX H [] (.fst 0 (.fst 1 (.fst 2 (.fst 4 (.fst 5 (.fst 6 (.fst 3 (.fst 7 (.act 8 (.fst 9 .done)))))))))) mixed [] trivial (by kernel_rfl) ?_
     clear H; intro w2 H
     have hX : Ext w2 w2 := Upd.refl _ _
     have H0 := H
     obtain ⟨a1, e, f7⟩ := bindS f6; clear f6
     have HH := H; clear H; obtain ⟨p0, m0, h0, c0, c1, c2, c3, H⟩ := HH.elL 0 rfl e; clear HH
     clear e
     refine idxE c0 c1 c2 ?_; clear c0 c1 c2
     obtain ⟨a2, e, f8⟩ := bindS f7; clear f7
     have HH := H; clear H; obtain ⟨p1, m1, h1, c4, c5, c6, c7, H⟩ := HH.elL 2 rfl e; clear HH
     clear e
     refine idxE c4 c5 c6 ?_; clear c4 c5 c6
     refine load1X c3 ?_; clear c3
     refine load1X c7 ?_; clear c7
     obtain ⟨y0, e, f9⟩ := bindS f8; clear f8
     have i0 := e; clear e
     refine callFx (laws_eqIntS_c a1 h0 a2 h1 y0 i0) H ⟨Vw.sh 1 rfl, Vw.sh 0 rfl, trivial⟩ ?_; clear H i0
     rintro _ _ w3 ⟨rfl, rfl⟩ hx H
     replace hX := hX.trans0 hx; clear hx
     refine hold hX ?_
     obtain ⟨a4, e, f10⟩ := bindS f9; clear f9
     refine boolO e ?_; clear e
     cases a4
     ·
      have f11 := condF f10; clear f10
      obtain ⟨a5, e, f12⟩ := bindS f11; clear f11
      refine arO e ?_; clear e
      have hs := Option.some.inj f12; subst hs; clear f12
      exact ⟨a5, (), rfl, ⟨rfl, rfl, rfl, trivial⟩, H.sel [2, 3] rfl⟩
     ·
      have f13 := condT f10; clear f10
      have hs := Option.some.inj f13; subst hs; clear f13
      have f14 : some _ = some _ := congrArg some (hrt _ rfl).symm
      have hs := Option.some.inj f14; subst hs; clear f14
      have f15 : some _ = some _ := f1; clear f1
      cases f15
      exact ⟨_, _, rfl, ⟨rfl, rfl⟩, (H.sel [] rfl).close trivial⟩
  ·
   clear f0 H
   rintro T1 _ w4 ⟨hr, (H : Cx w0 fp0 S0 w4 [])⟩
   subst hr
   cases f1
   exact ⟨_, _, rfl, ⟨rfl, rfl⟩, (H.sel [] rfl).close trivial⟩
 ·
  have f16 := condT hF4; clear hF4
  cases f16
  exact ⟨_, _, rfl, ⟨rfl, rfl⟩, (H.sel [] rfl).close trivial⟩

theorem laws_eqRelation_c (a__0 : Int) (a__1 : Int) (a__2 : List (List Int)) (a__2h : Hd) (b__0 : Int) (b__1 : Int) (b__2 : List (List Int)) (b__2h : Hd) (y : Bool) (hF : F_laws_eqRelation (a__0, a__1, a__2) (b__0, b__1, b__2) = some y) :
  ConF Tryd.prog 40 #[(.agg #[(.int .i64 a__0), (.int .i64 a__1), (a__2h).v]), (.agg #[(.int .i64 b__0), (.int .i64 b__1), (b__2h).v])] [Es (List (List Int)) a__2 a__2h, Es (List (List Int)) b__2 b__2h] [] (fun v Γ' => v = (.bool y) ∧ Γ' = []) := by
 intro w0 S0 fp0 hI hS
 have H : Cx w0 fp0 S0 w0 [Es (List (List Int)) a__2 a__2h, Es (List (List Int)) b__2 b__2h] := Cx.start hI hS
 clear hI hS
 refine enterC (args := [_, _]) gok Tryd.func40 rfl _ rfl rfl rfl ?_
 refine box_ H ?_; clear H; intro b4 w3 hx H
 clear hx
 refine box_ H ?_; clear H; intro b7 w6 hx H
 clear hx
 refine sq ?_
 refine fld gok rfl rfl rfl rfl ?_
 refine load1 (H.bx 1 rfl (j := 0) rfl) ?_
 refine fld gok rfl rfl rfl rfl ?_
 refine load1 (H.bx 0 rfl (j := 0) rfl) ?_
 obtain ⟨a9, e, f0⟩ := bindS hF; clear hF
 refine boolO e ?_; clear e
 cases a9
 ·
  have f1 := condF f0; clear f0
  refine sq ?_
  refine fld gok rfl rfl rfl rfl ?_
  refine load1 (H.bx 1 rfl (j := 1) rfl) ?_
  refine fld gok rfl rfl rfl rfl ?_
  refine load1 (H.bx 0 rfl (j := 1) rfl) ?_
  obtain ⟨a0, e, f2⟩ := bindS f1; clear f1
  refine boolO e ?_; clear e
  cases a0
  ·
   have f3 := condF f2; clear f2
   refine sq ?_
   refine fld gok rfl rfl rfl rfl ?_
   refine load1 (H.bx 1 rfl (j := 2) rfl) ?_
   refine fld gok rfl rfl rfl rfl ?_
   refine load1 (H.bx 0 rfl (j := 2) rfl) ?_
   obtain ⟨y0, e, f4⟩ := bindS f3; clear f3
   have i0 := e; clear e
   refine callF (laws_eqIntSS_c a__2 a__2h b__2 b__2h y0 i0) (Γi := []) H ⟨Vw.sh 2 rfl, Vw.sh 3 rfl, trivial⟩ ?_; clear H i0
   rintro _ _ w1 ⟨rfl, rfl⟩ H
   obtain ⟨a1, e, f5⟩ := bindS f4; clear f4
   refine boolO e ?_; clear e
   cases a1
   ·
    have f6 := condF f5; clear f5
    cases f6
    exact ⟨_, _, rfl, ⟨rfl, rfl⟩, (H.sel [] rfl).close trivial⟩
   ·
    have f7 := condT f5; clear f5
    cases f7
    exact ⟨_, _, rfl, ⟨rfl, rfl⟩, (H.sel [] rfl).close trivial⟩
  ·
   have f8 := condT f2; clear f2
   cases f8
   exact ⟨_, _, rfl, ⟨rfl, rfl⟩, (H.sel [] rfl).close trivial⟩
 ·
  have f9 := condT f0; clear f0
  cases f9
  exact ⟨_, _, rfl, ⟨rfl, rfl⟩, (H.sel [] rfl).close trivial⟩

theorem laws_FnExactHasPair_c (aP_ : Int) (aR__0 : Int) (aR__1 : Int) (aR__2 : List (List Int)) (aR__2h : Hd) (aX_ : List Int) (aX_h : Hd) (aY_ : List Int) (aY_h : Hd) (y : Bool) (hF : F_laws_FnExactHasPair aP_ (aR__0, aR__1, aR__2) aX_ aY_ = some y) :
  ConF Tryd.prog 8 #[(.int .i64 aP_), (.agg #[(.int .i64 aR__0), (.int .i64 aR__1), (aR__2h).v]), (aX_h).v, (aY_h).v] [Es (List (List Int)) aR__2 aR__2h, Es (List Int) aX_ aX_h, Es (List Int) aY_ aY_h, Gl 0 [.int .i64 2, .int .i64 3, .int .i64 5, .int .i64 7]] [] (fun v Γ' => v = (.bool y) ∧ Γ' = []) := by
 intro w0 S0 fp0 hI hS
 have H : Cx w0 fp0 S0 w0 [Es (List (List Int)) aR__2 aR__2h, Es (List Int) aX_ aX_h, Es (List Int) aY_ aY_h, Gl 0 [.int .i64 2, .int .i64 3, .int .i64 5, .int .i64 7]] := Cx.start hI hS
 clear hI hS
 refine enterC (args := [_, _, _, _]) gok Tryd.func8 rfl _ rfl rfl rfl ?_
 refine box_ H ?_; clear H; intro b6 w5 hx H
 clear hx
 refine sq ?_
 refine lenE (H.rs (α := List Int) 2 rfl).len ?_
 obtain ⟨a8, e, hF9⟩ := bindS hF; clear hF
 refine boolO e ?_; clear e
 cases a8
 ·
  have f0 := condF hF9; clear hF9
  refine sq ?_
  refine lenE (H.rs (α := List Int) 3 rfl).len ?_
  obtain ⟨a0, e, f1⟩ := bindS f0; clear f0
  refine boolO e ?_; clear e
  cases a0
  ·
   have f2 := condF f1; clear f1
   refine loadN [(.int .i64 aR__0), (.int .i64 aR__1), (aR__2h).v] rfl (fun j u hj => H.bx 0 rfl hj) ?_
   obtain ⟨y0, e, f3⟩ := bindS f2; clear f2
   have i0 := e; clear e
   refine callF (laws_szRelation_c aR__0 aR__1 aR__2 aR__2h 1048576 y0 i0) (Γi := []) H ⟨Vw.sh 1 rfl, trivial⟩ ?_; clear H i0
   rintro _ _ w1 ⟨rfl, rfl⟩ H
   refine sq ?_
   obtain ⟨a1, e, f4⟩ := bindS f3; clear f3
   refine boolO e ?_; clear e
   cases a1
   ·
    have f5 := condF f4; clear f4
    refine loadN [(.int .i64 aR__0), (.int .i64 aR__1), (aR__2h).v] rfl (fun j u hj => H.bx 0 rfl hj) ?_
    obtain ⟨y1, e, f6⟩ := bindS f5; clear f5
    obtain ⟨y1_0, y1_1, y1_2⟩ := y1
    have i1 := e; clear e
    refine callF (laws_toRelation_c aR__0 aR__1 aR__2 aR__2h y1_0 y1_1 y1_2 i1) (Γi := []) H ⟨Vw.sh 1 rfl, trivial⟩ ?_; clear H i1
    rintro _ _ w2 ⟨h0, rfl, rfl⟩ H
    obtain ⟨y2, e, f7⟩ := bindS f6; clear f6
    have i2 := e; clear e
    refine callF (laws_toIntS_c aX_ aX_h y2 i2) (Γi := []) H ⟨Vw.sh 3 rfl, trivial⟩ ?_; clear H i2
    rintro _ _ w3 ⟨h1, rfl, rfl⟩ H
    obtain ⟨y3, e, f8⟩ := bindS f7; clear f7
    have i3 := e; clear e
    refine callF (laws_toIntS_c aY_ aY_h y3 i3) (Γi := []) H ⟨Vw.sh 5 rfl, trivial⟩ ?_; clear H i3
    rintro _ _ w4 ⟨h2, rfl, rfl⟩ H
    obtain ⟨y4, e, f9⟩ := bindS f8; clear f8
    obtain ⟨y4_0, y4_1⟩ := y4
    have i4 := e; clear e
    refine callF (spec_HasPair_c aP_ y1_0 y1_1 y1_2 h0 y2 h1 y3 h2 y4_0 y4_1 i4) (Γi := []) H ⟨Vw.own 2 rfl, Vw.own 1 rfl, Vw.own 0 rfl, trivial⟩ ?_; clear H i4
    rintro _ _ w6 ⟨rfl, rfl⟩ H
    refine loadN [(.int .i64 aR__0), (.int .i64 aR__1), (aR__2h).v] rfl (fun j u hj => H.bx 3 rfl hj) ?_
    obtain ⟨y5, e, f10⟩ := bindS f9; clear f9
    obtain ⟨y5_0, y5_1, y5_2⟩ := y5
    have i5 := e; clear e
    refine callF (laws_toRelation_c aR__0 aR__1 aR__2 aR__2h y5_0 y5_1 y5_2 i5) (Γi := []) H ⟨Vw.sh 4 rfl, trivial⟩ ?_; clear H i5
    rintro _ _ w7 ⟨h3, rfl, rfl⟩ H
    refine alloc_ gok rfl H ?_; clear H; intro b0 w8 hx H
    clear hx
    refine stA gok [(.int .i64 y5_0), (.int .i64 y5_1), (h3).v] rfl H rfl rfl rfl ?_; clear H; intro w9 H
    obtain ⟨y6, e, f11⟩ := bindS f10; clear f10
    have i6 := e; clear e
    refine callF (laws_toIntS_c aX_ aX_h y6 i6) (Γi := []) H ⟨Vw.sh 7 rfl, trivial⟩ ?_; clear H i6
    rintro _ _ w10 ⟨h4, rfl, rfl⟩ H
    obtain ⟨y7, e, f12⟩ := bindS f11; clear f11
    have i7 := e; clear e
    refine callF (laws_toIntS_c aY_ aY_h y7 i7) (Γi := []) H ⟨Vw.sh 9 rfl, trivial⟩ ?_; clear H i7
    rintro _ _ w11 ⟨h5, rfl, rfl⟩ H
    refine loadN [(.int .i64 y5_0), (.int .i64 y5_1), (h3).v] rfl (fun j u hj => H.bx 2 rfl hj) ?_
    obtain ⟨y8, e, f13⟩ := bindS f12; clear f12
    obtain ⟨y8_0, y8_1⟩ := y8
    have i8 := e; clear e
    refine callF (impl_HasPair_c aP_ y5_0 y5_1 y5_2 h3 y6 h4 y7 h5 y8_0 y8_1 i8) (Γi := []) H ⟨Vw.own 3 rfl, Vw.own 1 rfl, Vw.own 0 rfl, Vw.gl 11 rfl, trivial⟩ ?_; clear H i8
    rintro _ _ w12 ⟨rfl, rfl⟩ H
    refine sq ?_
    obtain ⟨r0, f14, f15⟩ := bindS f13; clear f13
    refine cut (fun (q0 : Bool) => [(2, (aX_h).v), (3, (aY_h).v), (5, (.pointer (some ⟨b6, 0, none⟩))), (12, (.pointer (some ⟨b0, 0, none⟩))), (13, (h4).v), (14, (h5).v), (60, (.bool q0))]) (fun (q0 : Bool) w' => q0 = r0 ∧ Cx w0 fp0 S0 w' [Es (List Int) aX_ aX_h, Es (List Int) aY_ aY_h, Bx b6 [(.int .i64 aR__0), (.int .i64 aR__1), (aR__2h).v], Es (List (List Int)) aR__2 aR__2h, Bx b0 [(.int .i64 y5_0), (.int .i64 y5_1), (h3).v], E (List (List Int)) y5_2 h3, E (List Int) y6 h4, E (List Int) y7 h5, Gl 0 [.int .i64 2, .int .i64 3, .int .i64 5, .int .i64 7]]) ?_ ?_
    ·
     obtain ⟨a2, e, f16⟩ := bindS f14; clear f14
     refine boolO e ?_; clear e
     cases a2
     ·
      have f17 := condF f16; clear f16
      obtain ⟨a3, e, f18⟩ := bindS f17; clear f17
      refine boolO e ?_; clear e
      exact ⟨a3, ⟨rfl, rfl, rfl, rfl, rfl, rfl, rfl, trivial⟩, Option.some.inj f18, H.sel [9, 10, 7, 8, 2, 3, 1, 0, 11] rfl⟩
     ·
      have f19 := condT f16; clear f16
      exact ⟨true, ⟨rfl, rfl, rfl, rfl, rfl, rfl, rfl, trivial⟩, Option.some.inj f19, H.sel [9, 10, 7, 8, 2, 3, 1, 0, 11] rfl⟩
    ·
     clear f14 H
     rintro T0 s0 w13 ⟨hr, (H : Cx w0 fp0 S0 w13 [Es (List Int) aX_ aX_h, Es (List Int) aY_ aY_h, Bx b6 [(.int .i64 aR__0), (.int .i64 aR__1), (aR__2h).v], Es (List (List Int)) aR__2 aR__2h, Bx b0 [(.int .i64 y5_0), (.int .i64 y5_1), (h3).v], E (List (List Int)) y5_2 h3, E (List Int) y6 h4, E (List Int) y7 h5, Gl 0 [.int .i64 2, .int .i64 3, .int .i64 5, .int .i64 7]])⟩
     subst hr
     cases s0
     ·
      have f20 := condF f15; clear f15
      refine sq ?_
      refine heldX H [] (.fst 0 (.fst 1 (.act 2 (.act 3 (.fst 4 .done))))) mixed [] trivial (by kernel_rfl) ?_
      clear H; intro w14 H
      have hX : Ext w14 w14 := Upd.refl _ _
      have H0 := H
      refine loadNX [(.int .i64 y5_0), (.int .i64 y5_1), (h3).v] rfl (fun j u hj => H.bx 4 rfl hj) ?_
      refine loadNX [(.int .i64 aR__0), (.int .i64 aR__1), (aR__2h).v] rfl (fun j u hj => H.bx 2 rfl hj) ?_
      obtain ⟨y9, e, f21⟩ := bindS f20; clear f20
      obtain ⟨y9_0, y9_1, y9_2⟩ := y9
      have i9 := e; clear e
      refine callFx (laws_toRelation_c aR__0 aR__1 aR__2 aR__2h y9_0 y9_1 y9_2 i9) H ⟨Vw.sh 3 rfl, trivial⟩ ?_; clear H i9
      rintro _ _ w15 ⟨h6, rfl, rfl⟩ hx H
      replace hX := hX.trans0 hx; clear hx
      refine hold hX ?_
      obtain ⟨y10, e, f22⟩ := bindS f21; clear f21
      have i10 := e; clear e
      refine callFx (laws_eqRelation_c y5_0 y5_1 y5_2 h3 y9_0 y9_1 y9_2 h6 y10 i10) H ⟨Vw.own 6 rfl, Vw.own 0 rfl, trivial⟩ ?_; clear H i10
      rintro _ _ w17 ⟨rfl, rfl⟩ hx H
      replace hX := hX.trans0 hx; clear hx
      refine hold hX ?_
      obtain ⟨a4, e, f23⟩ := bindS f22; clear f22
      refine boolO e ?_; clear e
      cases a4
      ·
       have f24 := condF f23; clear f23
       refine sq ?_
       obtain ⟨y11, e, f25⟩ := bindS f24; clear f24
       have i11 := e; clear e
       refine callF (laws_toIntS_c aX_ aX_h y11 i11) (Γi := []) H ⟨Vw.sh 1 rfl, trivial⟩ ?_; clear H i11
       rintro _ _ w18 ⟨h7, rfl, rfl⟩ H
       obtain ⟨y12, e, f26⟩ := bindS f25; clear f25
       have i12 := e; clear e
       refine callF (laws_eqIntS_c y6 h4 y11 h7 y12 i12) (Γi := []) H ⟨Vw.own 8 rfl, Vw.own 0 rfl, trivial⟩ ?_; clear H i12
       rintro _ _ w19 ⟨rfl, rfl⟩ H
       obtain ⟨a5, e, f27⟩ := bindS f26; clear f26
       refine boolO e ?_; clear e
       cases a5
       ·
        have f28 := condF f27; clear f27
        refine sq ?_
        obtain ⟨y13, e, f29⟩ := bindS f28; clear f28
        have i13 := e; clear e
        refine callF (laws_toIntS_c aY_ aY_h y13 i13) (Γi := []) H ⟨Vw.sh 3 rfl, trivial⟩ ?_; clear H i13
        rintro _ _ w20 ⟨h8, rfl, rfl⟩ H
        obtain ⟨y15, e, f30⟩ := bindS f29; clear f29
        have i14 := e; clear e
        refine callF (laws_eqIntS_c y7 h5 y13 h8 y15 i14) (Γi := []) H ⟨Vw.own 10 rfl, Vw.own 0 rfl, trivial⟩ ?_; clear H i14
        rintro _ _ w21 ⟨rfl, rfl⟩ H
        obtain ⟨a6, e, f31⟩ := bindS f30; clear f30
        refine boolO e ?_; clear e
        cases a6
        ·
         have f32 := condF f31; clear f31
         cases f32
         exact ⟨_, _, rfl, ⟨rfl, rfl⟩, (H.sel [] rfl).close trivial⟩
        ·
         have f33 := condT f31; clear f31
         cases f33
         exact ⟨_, _, rfl, ⟨rfl, rfl⟩, (H.sel [] rfl).close trivial⟩
       ·
        have f34 := condT f27; clear f27
        cases f34
        exact ⟨_, _, rfl, ⟨rfl, rfl⟩, (H.sel [] rfl).close trivial⟩
      ·
       have f35 := condT f23; clear f23
       cases f35
       exact ⟨_, _, rfl, ⟨rfl, rfl⟩, (H.sel [] rfl).close trivial⟩
     ·
      have f36 := condT f15; clear f15
      cases f36
      exact ⟨_, _, rfl, ⟨rfl, rfl⟩, (H.sel [] rfl).close trivial⟩
   ·
    have f37 := condT f4; clear f4
    cases f37
    exact ⟨_, _, rfl, ⟨rfl, rfl⟩, (H.sel [] rfl).close trivial⟩
  ·
   have f38 := condT f1; clear f1
   cases f38
   exact ⟨_, _, rfl, ⟨rfl, rfl⟩, (H.sel [] rfl).close trivial⟩
 ·
  have f39 := condT hF9; clear hF9
  cases f39
  exact ⟨_, _, rfl, ⟨rfl, rfl⟩, (H.sel [] rfl).close trivial⟩
end Go.Proofs.YtnlbhdepagkjgaaDoor
