/-
 Contracts, printed by a program (wip/y/gen.py): each function of Go computes its partial function. Condition of each: its partial function yields a value.
-/
import Derived.Test.YtmchibapkddniaaGreatZMan
namespace Go.Proofs.YtmchibapkddniaaGreat
open Go Go.Proofs.YtmchibapkddniaaGreat.RW
set_option maxRecDepth 100000
set_option maxHeartbeats 1000000
set_option linter.unusedVariables false

theorem laws_szNode_c (a__0 : Int) (a__1 : Int) (a__2 : ByteArray) (left_ : Int) (y : Int) (hF : F_laws_szNode (a__0, a__1, a__2) left_ = some y) :
  ConF Tryz.prog 21 #[(.agg #[(.int .i64 a__0), (.int .i64 a__1), (.string a__2)]), (.int .i64 left_)] [] [] (fun v Γ' => v = (.int .i64 y) ∧ Γ' = []) := by
 intro w0 S0 fp0 hI hS
 have H : Cx w0 fp0 S0 w0 [] := Cx.start hI hS
 clear hI hS
 refine enterC (args := [_, _]) gok Tryz.func21 rfl _ rfl rfl rfl ?_
 refine box_ H ?_; clear H; intro b2 w1 hx H
 clear hx
 refine fld gok rfl rfl rfl rfl ?_
 refine load1 (H.bx 0 rfl (j := 2) rfl) ?_
 refine lenE (m := a__2.size) rfl ?_
 obtain ⟨a4, e, hF5⟩ := bindS hF; clear hF
 refine arO e ?_; clear e
 refine sq ?_
 obtain ⟨a6, e, hF7⟩ := bindS hF5; clear hF5
 refine boolO e ?_; clear e
 cases a6
 ·
  have hF8 := condF hF7; clear hF7
  cases hF8
  exact ⟨_, _, rfl, ⟨rfl, rfl⟩, (H.sel [] rfl).close trivial⟩
 ·
  have hF9 := condT hF7; clear hF7
  cases hF9
  exact ⟨_, _, rfl, ⟨rfl, rfl⟩, (H.sel [] rfl).close trivial⟩

theorem laws_szNodeS_c (a_ : List (Int × Int × ByteArray)) (a_h : Hd) (left_ : Int) (y : Int) (hF : F_laws_szNodeS a_ left_ = some y) :
  ConF Tryz.prog 11 #[(a_h).v, (.int .i64 left_)] [Es (List (Int × Int × ByteArray)) a_ a_h] [] (fun v Γ' => v = (.int .i64 y) ∧ Γ' = []) := by
 intro w0 S0 fp0 hI hS
 have H : Cx w0 fp0 S0 w0 [Es (List (Int × Int × ByteArray)) a_ a_h] := Cx.start hI hS
 clear hI hS
 refine enterC (args := [_, _]) gok Tryz.func11 rfl _ rfl rfl rfl ?_
 refine lenE (H.rs (α := List (Int × Int × ByteArray)) 0 rfl).len ?_
 obtain ⟨a2, e, hF3⟩ := bindS hF; clear hF
 refine arO e ?_; clear e
 refine sq ?_
 obtain ⟨a4, e, hF5⟩ := bindS hF3; clear hF3
 refine boolO e ?_; clear e
 cases a4
 ·
  have hF6 := condF hF5; clear hF5
  obtain ⟨r0, f0, f1⟩ := bindS hF6; clear hF6
  refine cut (fun (q0 : Int) => [(1, (.int .i64 q0))]) (fun (q0 : Int) w' => .inl q0 = r0 ∧ Cx w0 fp0 S0 w' []) ?_ ?_
  ·
   refine loopW _ (fun (s0 : Int × Int) (_ : Unit) => [(0, (a_h).v), (1, (.int .i64 s0.1)), (5, (.int .i64 s0.2))]) (fun (s0 : Int × Int) (_ : Unit) w' => Cx w0 fp0 S0 w' [Es (List (Int × Int × ByteArray)) a_ a_h]) (a2, 0) () f0 ⟨rfl, rfl, rfl, trivial⟩ (H.sel [0] rfl) ?_
   ·
    clear H
    rintro T0 ⟨s0_0, s0_1⟩ _ w1 o0 (H : Cx w0 fp0 S0 w1 [Es (List (Int × Int × ByteArray)) a_ a_h]) hrt f2
    refine sq ?_
    refine lenE (H.rs (α := List (Int × Int × ByteArray)) 0 rfl).len ?_
    obtain ⟨a0, e, f3⟩ := bindS f2; clear f2
    refine boolO e ?_; clear e
    cases a0
    ·
     have f4 := condF f3; clear f3
     have hs := Option.some.inj f4; subst hs; clear f4
     have f5 : some _ = some _ := congrArg some (hrt _ rfl).symm
     exact ⟨s0_0, ⟨rfl, trivial⟩, Option.some.inj f5, H.sel [] rfl⟩
    ·
     have f6 := condT f3; clear f3
     refine sq ?_
     obtain ⟨a1, e, f7⟩ := bindS f6; clear f6
     have HH := H; clear H; obtain ⟨p0, m0, g0, c0, c1, c2, c3, H⟩ := HH.el (α := Int × Int × ByteArray) 0 rfl e; clear HH
     clear e
     obtain ⟨a1_0, a1_1, a1_2⟩ := a1
     obtain ⟨_, _, _⟩ := g0
     replace H := H.sel [1] rfl
     refine idxE c0 c1 c2 ?_; clear c0 c1 c2
     refine loadN [(.int .i64 a1_0), (.int .i64 a1_1), (.string a1_2)] rfl c3 ?_; clear c3
     obtain ⟨y0, e, f8⟩ := bindS f7; clear f7
     have i0 := e; clear e
     refine callF (laws_szNode_c a1_0 a1_1 a1_2 s0_0 y0 i0) (Γi := []) H trivial ?_; clear H i0
     rintro _ _ w2 ⟨rfl, rfl⟩ H
     obtain ⟨a3, e, f9⟩ := bindS f8; clear f8
     refine boolO e ?_; clear e
     cases a3
     ·
      have f10 := condF f9; clear f9
      obtain ⟨a5, e, f11⟩ := bindS f10; clear f10
      refine arO e ?_; clear e
      have hs := Option.some.inj f11; subst hs; clear f11
      exact ⟨(y0, a5), (), rfl, ⟨rfl, rfl, rfl, trivial⟩, H.sel [0] rfl⟩
     ·
      have f12 := condT f9; clear f9
      have hs := Option.some.inj f12; subst hs; clear f12
      have f13 : some _ = some _ := congrArg some (hrt _ rfl).symm
      have hs := Option.some.inj f13; subst hs; clear f13
      have f14 : some _ = some _ := f1; clear f1
      cases f14
      exact ⟨_, _, rfl, ⟨rfl, rfl⟩, (H.sel [] rfl).close trivial⟩
  ·
   clear f0 H
   rintro T1 s1 w3 ⟨hr, (H : Cx w0 fp0 S0 w3 [])⟩
   subst hr
   cases f1
   exact ⟨_, _, rfl, ⟨rfl, rfl⟩, (H.sel [] rfl).close trivial⟩
 ·
  have f15 := condT hF5; clear hF5
  cases f15
  exact ⟨_, _, rfl, ⟨rfl, rfl⟩, (H.sel [] rfl).close trivial⟩

theorem laws_szTerm_c (a__0 : List (Int × Int × ByteArray)) (a__0h : Hd) (left_ : Int) (y : Int) (hF : F_laws_szTerm a__0 left_ = some y) :
  ConF Tryz.prog 4 #[(.agg #[(a__0h).v]), (.int .i64 left_)] [Es (List (Int × Int × ByteArray)) a__0 a__0h] [] (fun v Γ' => v = (.int .i64 y) ∧ Γ' = []) := by
 intro w0 S0 fp0 hI hS
 have H : Cx w0 fp0 S0 w0 [Es (List (Int × Int × ByteArray)) a__0 a__0h] := Cx.start hI hS
 clear hI hS
 refine enterC (args := [_, _]) gok Tryz.func4 rfl _ rfl rfl rfl ?_
 refine box_ H ?_; clear H; intro b3 w2 hx H
 clear hx
 refine fld gok rfl rfl rfl rfl ?_
 refine load1 (H.bx 0 rfl (j := 0) rfl) ?_
 obtain ⟨y5, e, hF6⟩ := bindS hF; clear hF
 have ey5 := e; clear e
 refine callF (laws_szNodeS_c a__0 a__0h left_ y5 ey5) (Γi := []) H ⟨Vw.sh 1 rfl, trivial⟩ ?_; clear H ey5
 rintro _ _ w7 ⟨rfl, rfl⟩ H
 refine sq ?_
 obtain ⟨a8, e, hF9⟩ := bindS hF6; clear hF6
 refine boolO e ?_; clear e
 cases a8
 ·
  have f0 := condF hF9; clear hF9
  cases f0
  exact ⟨_, _, rfl, ⟨rfl, rfl⟩, (H.sel [] rfl).close trivial⟩
 ·
  have f1 := condT hF9; clear hF9
  cases f1
  exact ⟨_, _, rfl, ⟨rfl, rfl⟩, (H.sel [] rfl).close trivial⟩

theorem laws_toNode_c (a__0 : Int) (a__1 : Int) (a__2 : ByteArray) (y_0 : Int) (y_1 : Int) (y_2 : ByteArray) (hF : F_laws_toNode (a__0, a__1, a__2) = some (y_0, y_1, y_2)) :
  ConF Tryz.prog 28 #[(.agg #[(.int .i64 a__0), (.int .i64 a__1), (.string a__2)])] [] [] (fun v Γ' => v = (.agg #[(.int .i64 y_0), (.int .i64 y_1), (.string y_2)]) ∧ Γ' = []) := by
 intro w0 S0 fp0 hI hS
 have H : Cx w0 fp0 S0 w0 [] := Cx.start hI hS
 clear hI hS
 refine enterC (args := [_]) gok Tryz.func28 rfl _ rfl rfl rfl ?_
 refine box_ H ?_; clear H; intro b2 w1 hx H
 clear hx
 refine alloc_ gok rfl H ?_; clear H; intro b5 w4 hx H
 clear hx
 refine alloc_ gok rfl H ?_; clear H; intro b8 w7 hx H
 clear hx
 refine fld gok rfl rfl rfl rfl ?_
 refine load1 (H.bx 2 rfl (j := 0) rfl) ?_
 refine fld gok rfl rfl rfl rfl ?_
 refine stB (j := 0) H rfl rfl ?_; clear H; intro w2 H
 refine fld gok rfl rfl rfl rfl ?_
 refine load1 (H.bx 2 rfl (j := 1) rfl) ?_
 refine fld gok rfl rfl rfl rfl ?_
 refine stB (j := 1) H rfl rfl ?_; clear H; intro w3 H
 refine fld gok rfl rfl rfl rfl ?_
 refine load1 (H.bx 2 rfl (j := 2) rfl) ?_
 refine fld gok rfl rfl rfl rfl ?_
 refine stB (j := 2) H rfl rfl ?_; clear H; intro w5 H
 refine loadN [(.int .i64 a__0), (.int .i64 a__1), (.string a__2)] rfl (fun j u hj => H.bx 0 rfl hj) ?_
 replace H := H.sel [1, 0, 2] rfl
 refine stA gok [(.int .i64 a__0), (.int .i64 a__1), (.string a__2)] rfl H rfl rfl rfl ?_; clear H; intro w6 H
 refine loadN [(.int .i64 a__0), (.int .i64 a__1), (.string a__2)] rfl (fun j u hj => H.bx 0 rfl hj) ?_
 cases hF
 exact ⟨_, _, rfl, ⟨rfl, rfl⟩, (H.sel [] rfl).close trivial⟩

theorem laws_toNodeS_c (a_ : List (Int × Int × ByteArray)) (a_h : Hd) (y : List (Int × Int × ByteArray)) (hF : F_laws_toNodeS a_ = some y) :
  ConF Tryz.prog 14 #[(a_h).v] [Es (List (Int × Int × ByteArray)) a_ a_h] [] (fun v Γ' => ∃ z0 : Hd, v = (z0).v ∧ Γ' = [E (List (Int × Int × ByteArray)) y z0]) := by
 intro w0 S0 fp0 hI hS
 have H : Cx w0 fp0 S0 w0 [Es (List (Int × Int × ByteArray)) a_ a_h] := Cx.start hI hS
 clear hI hS
 refine enterC (args := [_]) gok Tryz.func14 rfl _ rfl rfl rfl ?_
 refine lenE (H.rs (α := List (Int × Int × ByteArray)) 0 rfl).len ?_
 obtain ⟨a2, e, hF3⟩ := bindS hF; clear hF
 refine make_ (α := Int × Int × ByteArray) gok rfl rfl rfl rfl (makeCO_of e) H ?_; clear e H; intro h5 w4 hx H
 clear hx
 obtain ⟨r0, f0, f1⟩ := bindS hF3; clear hF3
 refine cut (fun (q0 : List (Int × Int × ByteArray)) => [(3, (h5).v)]) (fun (q0 : List (Int × Int × ByteArray)) w' => q0 = r0 ∧ Cx w0 fp0 S0 w' [E (List (Int × Int × ByteArray)) q0 h5]) ?_ ?_
 ·
  refine loopW _ (fun (s0 : (List (Int × Int × ByteArray)) × Int) (_ : Unit) => [(0, (a_h).v), (3, (h5).v), (4, (.int .i64 s0.2))]) (fun (s0 : (List (Int × Int × ByteArray)) × Int) (_ : Unit) w' => Cx w0 fp0 S0 w' [Es (List (Int × Int × ByteArray)) a_ a_h, E (List (Int × Int × ByteArray)) s0.1 h5]) (a2, 0) () f0 ⟨rfl, rfl, rfl, trivial⟩ (H.sel [1, 0] rfl) ?_
  ·
   clear H
   rintro T0 ⟨s0_0, s0_1⟩ _ w1 o0 (H : Cx w0 fp0 S0 w1 [Es (List (Int × Int × ByteArray)) a_ a_h, E (List (Int × Int × ByteArray)) s0_0 h5]) hrt f2
   refine sq ?_
   refine lenE (H.rs (α := List (Int × Int × ByteArray)) 0 rfl).len ?_
   obtain ⟨a0, e, f3⟩ := bindS f2; clear f2
   refine boolO e ?_; clear e
   cases a0
   ·
    have f4 := condF f3; clear f3
    have hs := Option.some.inj f4; subst hs; clear f4
    have f5 : some _ = some _ := congrArg some (hrt _ rfl).symm
    exact ⟨s0_0, ⟨rfl, trivial⟩, Option.some.inj f5, H.sel [1] rfl⟩
   ·
    have f6 := condT f3; clear f3
    refine sq ?_
    obtain ⟨a1, e, f7⟩ := bindS f6; clear f6
    have HH := H; clear H; obtain ⟨p0, m0, g0, c0, c1, c2, c3, H⟩ := HH.el (α := Int × Int × ByteArray) 0 rfl e; clear HH
    clear e
    obtain ⟨a1_0, a1_1, a1_2⟩ := a1
    obtain ⟨_, _, _⟩ := g0
    replace H := H.sel [1, 2] rfl
    refine idxE c0 c1 c2 ?_; clear c0 c1 c2
    refine loadN [(.int .i64 a1_0), (.int .i64 a1_1), (.string a1_2)] rfl c3 ?_; clear c3
    obtain ⟨y0, e, f8⟩ := bindS f7; clear f7
    obtain ⟨y0_0, y0_1, y0_2⟩ := y0
    have i0 := e; clear e
    refine callF (laws_toNode_c a1_0 a1_1 a1_2 y0_0 y0_1 y0_2 i0) (Γi := []) H trivial ?_; clear H i0
    rintro _ _ w2 ⟨rfl, rfl⟩ H
    replace H := H.sc (α := ByteArray) y0_2
    replace H := H.sc (α := Int) y0_1
    replace H := H.join (α := Int) (β := ByteArray)
    replace H := H.sc (α := Int) y0_0
    replace H := H.join (α := Int) (β := Int × ByteArray)
    obtain ⟨a3, e, f9⟩ := bindS f8; clear f8
    have i1 := e; clear e
    replace H := H.sel [2, 0, 1] rfl
    have HH := H; clear H; obtain ⟨p1, m1, c4, c5, c6, c7, H⟩ := HH.hole (α := Int × Int × ByteArray) i1; clear HH
    refine idxE c5 c6 c7 ?_
    refine stXA (α := Int × Int × ByteArray) gok [(.int .i64 y0_0), (.int .i64 y0_1), (.string y0_2)] rfl rfl H c5 rfl rfl ?_; clear H; intro w3 H
    replace H := H.sel [1, 0, 2] rfl
    replace H := H.put c6 i1; clear c5 c6 c7 i1
    obtain ⟨a4, e, f10⟩ := bindS f9; clear f9
    refine arO e ?_; clear e
    have hs := Option.some.inj f10; subst hs; clear f10
    exact ⟨(a3, a4), (), rfl, ⟨rfl, rfl, rfl, trivial⟩, H.sel [1, 0] rfl⟩
 ·
  clear f0 H
  rintro T1 s1 w5 ⟨hr, (H : Cx w0 fp0 S0 w5 [E (List (Int × Int × ByteArray)) s1 h5])⟩
  subst hr
  cases f1
  exact ⟨_, _, rfl, ⟨h5, rfl, rfl⟩, (H.sel [0] rfl).close ⟨cloE, trivial⟩⟩

theorem laws_toTerm_c (a__0 : List (Int × Int × ByteArray)) (a__0h : Hd) (y_0 : List (Int × Int × ByteArray)) (hF : F_laws_toTerm a__0 = some y_0) :
  ConF Tryz.prog 6 #[(.agg #[(a__0h).v])] [Es (List (Int × Int × ByteArray)) a__0 a__0h] [] (fun v Γ' => ∃ z0 : Hd, v = (.agg #[(z0).v]) ∧ Γ' = [E (List (Int × Int × ByteArray)) y_0 z0]) := by
 intro w0 S0 fp0 hI hS
 have H : Cx w0 fp0 S0 w0 [Es (List (Int × Int × ByteArray)) a__0 a__0h] := Cx.start hI hS
 clear hI hS
 refine enterC (args := [_]) gok Tryz.func6 rfl _ rfl rfl rfl ?_
 refine box_ H ?_; clear H; intro b3 w2 hx H
 clear hx
 refine alloc_ gok rfl H ?_; clear H; intro b6 w5 hx H
 clear hx
 refine alloc_ gok rfl H ?_; clear H; intro b9 w8 hx H
 clear hx
 refine fld gok rfl rfl rfl rfl ?_
 refine load1 (H.bx 2 rfl (j := 0) rfl) ?_
 obtain ⟨y0, e, f0⟩ := bindS hF; clear hF
 have i0 := e; clear e
 refine callF (laws_toNodeS_c a__0 a__0h y0 i0) (Γi := []) H ⟨Vw.sh 3 rfl, trivial⟩ ?_; clear H i0
 rintro _ _ w1 ⟨h0, rfl, rfl⟩ H
 refine fld gok rfl rfl rfl rfl ?_
 replace H := H.sel [1, 0, 2, 3, 4] rfl
 refine stB (j := 0) H rfl rfl ?_; clear H; intro w3 H
 refine loadN [(h0).v] rfl (fun j u hj => H.bx 0 rfl hj) ?_
 replace H := H.sel [2, 0, 1, 3, 4] rfl
 refine stA gok [(h0).v] rfl H rfl rfl rfl ?_; clear H; intro w4 H
 refine loadN [(h0).v] rfl (fun j u hj => H.bx 0 rfl hj) ?_
 cases f0
 exact ⟨_, _, rfl, ⟨h0, rfl, rfl⟩, (H.sel [2] rfl).close ⟨cloE, trivial⟩⟩

theorem spec_l1In_c (n_ : Int) (lo_ : Int) (hi_ : Int) (y : Bool) (hF : F_spec_l1In n_ lo_ hi_ = some y) :
  ConF Tryz.prog 107 #[(.int .i64 n_), (.int .i64 lo_), (.int .i64 hi_)] [] [] (fun v Γ' => v = (.bool y) ∧ Γ' = []) := by
 intro w0 S0 fp0 hI hS
 have H : Cx w0 fp0 S0 w0 [] := Cx.start hI hS
 clear hI hS
 refine enterC (args := [_, _, _]) gok Tryz.func107 rfl _ rfl rfl rfl ?_
 obtain ⟨r9, f0, f1⟩ := bindS hF; clear hF
 refine cut (fun (q0 : Bool) => [(6, (.bool q0))]) (fun (q0 : Bool) w' => q0 = r9 ∧ Cx w0 fp0 S0 w' []) ?_ ?_
 ·
  obtain ⟨a0, e, f2⟩ := bindS f0; clear f0
  refine boolO e ?_; clear e
  cases a0
  ·
   have f3 := condF f2; clear f2
   exact ⟨false, ⟨rfl, trivial⟩, Option.some.inj f3, H.sel [] rfl⟩
  ·
   have f4 := condT f2; clear f2
   obtain ⟨a1, e, f5⟩ := bindS f4; clear f4
   refine boolO e ?_; clear e
   exact ⟨a1, ⟨rfl, trivial⟩, Option.some.inj f5, H.sel [] rfl⟩
 ·
  clear f0 H
  rintro T0 s7 w1 ⟨hr, (H : Cx w0 fp0 S0 w1 [])⟩
  subst hr
  cases f1
  exact ⟨_, _, rfl, ⟨rfl, rfl⟩, (H.sel [] rfl).close trivial⟩

theorem spec_tmLeaf_c (n__0 : Int) (n__1 : Int) (n__2 : ByteArray) (y : Bool) (hF : F_spec_tmLeaf (n__0, n__1, n__2) = some y) :
  ConF Tryz.prog 108 #[(.agg #[(.int .i64 n__0), (.int .i64 n__1), (.string n__2)])] [] [] (fun v Γ' => v = (.bool y) ∧ Γ' = []) := by
 intro w0 S0 fp0 hI hS
 have H : Cx w0 fp0 S0 w0 [] := Cx.start hI hS
 clear hI hS
 refine enterC (args := [_]) gok Tryz.func108 rfl _ rfl rfl rfl ?_
 refine box_ H ?_; clear H; intro b2 w1 hx H
 clear hx
 refine sq ?_
 obtain ⟨r0, f0, f1⟩ := bindS hF; clear hF
 refine cut (fun (q0 : Bool) => [(1, (.pointer (some ⟨b2, 0, none⟩))), (11, (.bool q0))]) (fun (q0 : Bool) w' => q0 = r0 ∧ Cx w0 fp0 S0 w' [Bx b2 [(.int .i64 n__0), (.int .i64 n__1), (.string n__2)]]) ?_ ?_
 ·
  refine fld gok rfl rfl rfl rfl ?_
  refine load1 (H.bx 0 rfl (j := 2) rfl) ?_
  obtain ⟨a0, e, f2⟩ := bindS f0; clear f0
  refine neqZ e ?_; clear e
  cases a0
  ·
   have f3 := condF f2; clear f2
   refine fld gok rfl rfl rfl rfl ?_
   refine load1 (H.bx 0 rfl (j := 0) rfl) ?_
   obtain ⟨y0, e, f4⟩ := bindS f3; clear f3
   have i0 := e; clear e
   refine callF (spec_l1In_c n__0 1 14 y0 i0) (Γi := []) H trivial ?_; clear H i0
   rintro _ _ w2 ⟨rfl, rfl⟩ H
   obtain ⟨a1, e, f5⟩ := bindS f4; clear f4
   refine boolO e ?_; clear e
   exact ⟨a1, ⟨rfl, rfl, trivial⟩, Option.some.inj f5, H.sel [0] rfl⟩
  ·
   have f6 := condT f2; clear f2
   exact ⟨true, ⟨rfl, rfl, trivial⟩, Option.some.inj f6, H.sel [0] rfl⟩
 ·
  clear f0 H
  rintro T0 s0 w3 ⟨hr, (H : Cx w0 fp0 S0 w3 [Bx b2 [(.int .i64 n__0), (.int .i64 n__1), (.string n__2)]])⟩
  subst hr
  cases s0
  ·
   have f7 := condF f1; clear f1
   refine sq ?_
   refine fld gok rfl rfl rfl rfl ?_
   refine load1 (H.bx 0 rfl (j := 0) rfl) ?_
   obtain ⟨a2, e, f8⟩ := bindS f7; clear f7
   refine boolO e ?_; clear e
   cases a2
   ·
    have f9 := condF f8; clear f8
    obtain ⟨r1, f10, f11⟩ := bindS f9; clear f9
    refine cut (fun (q1 : Bool) => [(1, (.pointer (some ⟨b2, 0, none⟩))), (19, (.bool q1))]) (fun (q1 : Bool) w' => q1 = r1 ∧ Cx w0 fp0 S0 w' [Bx b2 [(.int .i64 n__0), (.int .i64 n__1), (.string n__2)]]) ?_ ?_
    ·
     obtain ⟨a3, e, f12⟩ := bindS f10; clear f10
     refine boolO e ?_; clear e
     cases a3
     ·
      have f13 := condF f12; clear f12
      obtain ⟨a4, e, f14⟩ := bindS f13; clear f13
      refine boolO e ?_; clear e
      exact ⟨a4, ⟨rfl, rfl, trivial⟩, Option.some.inj f14, H.sel [0] rfl⟩
     ·
      have f15 := condT f12; clear f12
      exact ⟨true, ⟨rfl, rfl, trivial⟩, Option.some.inj f15, H.sel [0] rfl⟩
    ·
     clear f10 H
     rintro T1 s1 w4 ⟨hr, (H : Cx w0 fp0 S0 w4 [Bx b2 [(.int .i64 n__0), (.int .i64 n__1), (.string n__2)]])⟩
     subst hr
     cases s1
     ·
      have f16 := condF f11; clear f11
      refine fld gok rfl rfl rfl rfl ?_
      refine load1 (H.bx 0 rfl (j := 1) rfl) ?_
      obtain ⟨a5, e, f17⟩ := bindS f16; clear f16
      refine boolO e ?_; clear e
      cases f17
      exact ⟨_, _, rfl, ⟨rfl, rfl⟩, (H.sel [] rfl).close trivial⟩
     ·
      have f18 := condT f11; clear f11
      refine fld gok rfl rfl rfl rfl ?_
      refine load1 (H.bx 0 rfl (j := 1) rfl) ?_
      obtain ⟨y1, e, f19⟩ := bindS f18; clear f18
      have i1 := e; clear e
      refine callF (spec_l1In_c n__1 0 96 y1 i1) (Γi := []) H trivial ?_; clear H i1
      rintro _ _ w5 ⟨rfl, rfl⟩ H
      cases f19
      exact ⟨_, _, rfl, ⟨rfl, rfl⟩, (H.sel [] rfl).close trivial⟩
   ·
    have f20 := condT f8; clear f8
    refine fld gok rfl rfl rfl rfl ?_
    refine load1 (H.bx 0 rfl (j := 1) rfl) ?_
    obtain ⟨y2, e, f21⟩ := bindS f20; clear f20
    have i2 := e; clear e
    refine callF (spec_l1In_c n__1 0 12 y2 i2) (Γi := []) H trivial ?_; clear H i2
    rintro _ _ w6 ⟨rfl, rfl⟩ H
    cases f21
    exact ⟨_, _, rfl, ⟨rfl, rfl⟩, (H.sel [] rfl).close trivial⟩
  ·
   have f22 := condT f1; clear f1
   cases f22
   exact ⟨_, _, rfl, ⟨rfl, rfl⟩, (H.sel [] rfl).close trivial⟩

theorem spec_tmKind_c (kind_ : Int) (y0 : Int) (y1 : Int) (hF : F_spec_tmKind kind_ = some (y0, y1)) :
  ConF Tryz.prog 81 #[(.int .i64 kind_)] [] [] (fun v Γ' => v = (.tuple #[(.int .i64 y0), (.int .i64 y1)]) ∧ Γ' = []) := by
 intro w0 S0 fp0 hI hS
 have H : Cx w0 fp0 S0 w0 [] := Cx.start hI hS
 clear hI hS
 refine enterC (args := [_]) gok Tryz.func81 rfl _ rfl rfl rfl ?_
 refine sq ?_
 obtain ⟨a1, e, hF2⟩ := bindS hF; clear hF
 refine boolO e ?_; clear e
 cases a1
 ·
  have hF3 := condF hF2; clear hF2
  obtain ⟨r0, f0, f1⟩ := bindS hF3; clear hF3
  refine cut (fun (q0 : Bool) => [(4, (.int .i64 kind_)), (7, (.bool q0))]) (fun (q0 : Bool) w' => q0 = r0 ∧ Cx w0 fp0 S0 w' []) ?_ ?_
  ·
   obtain ⟨a0, e, f2⟩ := bindS f0; clear f0
   refine boolO e ?_; clear e
   cases a0
   ·
    have f3 := condF f2; clear f2
    obtain ⟨a2, e, f4⟩ := bindS f3; clear f3
    refine boolO e ?_; clear e
    exact ⟨a2, ⟨rfl, rfl, trivial⟩, Option.some.inj f4, H.sel [] rfl⟩
   ·
    have f5 := condT f2; clear f2
    exact ⟨true, ⟨rfl, rfl, trivial⟩, Option.some.inj f5, H.sel [] rfl⟩
  ·
   clear f0 H
   rintro T0 s0 w1 ⟨hr, (H : Cx w0 fp0 S0 w1 [])⟩
   subst hr
   cases s0
   ·
    have f6 := condF f1; clear f1
    obtain ⟨r1, f7, f8⟩ := bindS f6; clear f6
    refine cut (fun (q1 : Bool) => [(4, (.int .i64 kind_)), (10, (.bool q1))]) (fun (q1 : Bool) w' => q1 = r1 ∧ Cx w0 fp0 S0 w' []) ?_ ?_
    ·
     obtain ⟨a3, e, f9⟩ := bindS f7; clear f7
     refine boolO e ?_; clear e
     cases a3
     ·
      have f10 := condF f9; clear f9
      obtain ⟨a4, e, f11⟩ := bindS f10; clear f10
      refine boolO e ?_; clear e
      exact ⟨a4, ⟨rfl, rfl, trivial⟩, Option.some.inj f11, H.sel [] rfl⟩
     ·
      have f12 := condT f9; clear f9
      exact ⟨true, ⟨rfl, rfl, trivial⟩, Option.some.inj f12, H.sel [] rfl⟩
    ·
     clear f7 H
     rintro T1 s1 w2 ⟨hr, (H : Cx w0 fp0 S0 w2 [])⟩
     subst hr
     cases s1
     ·
      have f13 := condF f8; clear f8
      obtain ⟨r2, f14, f15⟩ := bindS f13; clear f13
      refine cut (fun (q2 : Bool) => [(4, (.int .i64 kind_)), (13, (.bool q2))]) (fun (q2 : Bool) w' => q2 = r2 ∧ Cx w0 fp0 S0 w' []) ?_ ?_
      ·
       obtain ⟨a5, e, f16⟩ := bindS f14; clear f14
       refine boolO e ?_; clear e
       cases a5
       ·
        have f17 := condF f16; clear f16
        obtain ⟨a6, e, f18⟩ := bindS f17; clear f17
        refine boolO e ?_; clear e
        exact ⟨a6, ⟨rfl, rfl, trivial⟩, Option.some.inj f18, H.sel [] rfl⟩
       ·
        have f19 := condT f16; clear f16
        exact ⟨true, ⟨rfl, rfl, trivial⟩, Option.some.inj f19, H.sel [] rfl⟩
      ·
       clear f14 H
       rintro T2 s2 w3 ⟨hr, (H : Cx w0 fp0 S0 w3 [])⟩
       subst hr
       cases s2
       ·
        have f20 := condF f15; clear f15
        obtain ⟨r3, f21, f22⟩ := bindS f20; clear f20
        refine cut (fun (q3 : Bool) => [(16, (.bool q3))]) (fun (q3 : Bool) w' => q3 = r3 ∧ Cx w0 fp0 S0 w' []) ?_ ?_
        ·
         obtain ⟨a7, e, f23⟩ := bindS f21; clear f21
         refine boolO e ?_; clear e
         cases a7
         ·
          have f24 := condF f23; clear f23
          obtain ⟨a8, e, f25⟩ := bindS f24; clear f24
          refine boolO e ?_; clear e
          exact ⟨a8, ⟨rfl, trivial⟩, Option.some.inj f25, H.sel [] rfl⟩
         ·
          have f26 := condT f23; clear f23
          exact ⟨true, ⟨rfl, trivial⟩, Option.some.inj f26, H.sel [] rfl⟩
        ·
         clear f21 H
         rintro T3 s3 w4 ⟨hr, (H : Cx w0 fp0 S0 w4 [])⟩
         subst hr
         cases s3
         ·
          have f27 := condF f22; clear f22
          cases f27
          exact ⟨_, _, rfl, ⟨rfl, rfl⟩, (H.sel [] rfl).close trivial⟩
         ·
          have f28 := condT f22; clear f22
          cases f28
          exact ⟨_, _, rfl, ⟨rfl, rfl⟩, (H.sel [] rfl).close trivial⟩
       ·
        have f29 := condT f15; clear f15
        cases f29
        exact ⟨_, _, rfl, ⟨rfl, rfl⟩, (H.sel [] rfl).close trivial⟩
     ·
      have f30 := condT f8; clear f8
      cases f30
      exact ⟨_, _, rfl, ⟨rfl, rfl⟩, (H.sel [] rfl).close trivial⟩
   ·
    have f31 := condT f1; clear f1
    cases f31
    exact ⟨_, _, rfl, ⟨rfl, rfl⟩, (H.sel [] rfl).close trivial⟩
 ·
  have f32 := condT hF2; clear hF2
  cases f32
  exact ⟨_, _, rfl, ⟨rfl, rfl⟩, (H.sel [] rfl).close trivial⟩

theorem spec_tmArity_c (n__0 : Int) (n__1 : Int) (n__2 : ByteArray) (y0 : Int) (y1 : Int) (hF : F_spec_tmArity (n__0, n__1, n__2) = some (y0, y1)) :
  ConF Tryz.prog 109 #[(.agg #[(.int .i64 n__0), (.int .i64 n__1), (.string n__2)])] [] [] (fun v Γ' => v = (.tuple #[(.int .i64 y0), (.int .i64 y1)]) ∧ Γ' = []) := by
 intro w0 S0 fp0 hI hS
 have H : Cx w0 fp0 S0 w0 [] := Cx.start hI hS
 clear hI hS
 refine enterC (args := [_]) gok Tryz.func109 rfl _ rfl rfl rfl ?_
 refine box_ H ?_; clear H; intro b2 w1 hx H
 clear hx
 refine sq ?_
 refine fld gok rfl rfl rfl rfl ?_
 refine load1 (H.bx 0 rfl (j := 0) rfl) ?_
 obtain ⟨a4, e, hF5⟩ := bindS hF; clear hF
 refine boolO e ?_; clear e
 cases a4
 ·
  have hF6 := condF hF5; clear hF5
  refine fld gok rfl rfl rfl rfl ?_
  refine load1 (H.bx 0 rfl (j := 0) rfl) ?_
  obtain ⟨y7, e, hF8⟩ := bindS hF6; clear hF6
  obtain ⟨y7_0, y7_1⟩ := y7
  have ey7 := e; clear e
  refine callF (spec_tmKind_c n__0 y7_0 y7_1 ey7) (Γi := []) H trivial ?_; clear H ey7
  rintro _ _ w9 ⟨rfl, rfl⟩ H
  cases hF8
  exact ⟨_, _, rfl, ⟨rfl, rfl⟩, (H.sel [] rfl).close trivial⟩
 ·
  have f0 := condT hF5; clear hF5
  refine heldX H [] (.fst 0 (.fst 2 (.fst 1 (.fst 4 (.fst 3 (.fst 5 .done)))))) mixed [] trivial (by kernel_rfl) ?_
  clear H; intro w2 H
  have hX : Ext w2 w2 := Upd.refl _ _
  have H0 := H
  refine anyH (fun _ => fld gok rfl rfl rfl rfl ⟨rfl, rfl⟩) ?_
  refine anyH (fun _ => fld gok rfl rfl rfl rfl ⟨rfl, rfl⟩) ?_
  refine load1X (H.bx 0 rfl (j := 1) rfl) ?_
  refine load1X (H.bx 0 rfl (j := 1) rfl) ?_
  cases f0
  exact ⟨_, _, rfl, ⟨rfl, rfl⟩, (H.sel [] rfl).close trivial⟩

theorem spec_lbFind_c (lib_ : List (ByteArray × Int × Int × (List (Int × Int × ByteArray)))) (lib_h : Hd) (name_ : ByteArray) (y : Int) (hF : F_spec_lbFind lib_ name_ = some y) :
  ConF Tryz.prog 110 #[(lib_h).v, (.string name_)] [Es (List (ByteArray × Int × Int × (List (Int × Int × ByteArray)))) lib_ lib_h] [] (fun v Γ' => v = (.int .i64 y) ∧ Γ' = []) := by
 intro w0 S0 fp0 hI hS
 have H : Cx w0 fp0 S0 w0 [Es (List (ByteArray × Int × Int × (List (Int × Int × ByteArray)))) lib_ lib_h] := Cx.start hI hS
 clear hI hS
 refine enterC (args := [_, _]) gok Tryz.func110 rfl _ rfl rfl rfl ?_
 refine sq ?_
 refine lenE (H.rs (α := List (ByteArray × Int × Int × (List (Int × Int × ByteArray)))) 0 rfl).len ?_
 have x0 := (H.rs (α := List (ByteArray × Int × Int × (List (Int × Int × ByteArray)))) 0 rfl).max
 obtain ⟨r0, e, f0⟩ := bindS hF; clear hF
 refine loopO _ lib_.length (fun (k2 : Nat) (_ : Unit) (_ : Unit) => [(1, (.string name_)), (7, (lib_h).v), (8, (.int .i64 ((lib_.length : Nat) : Int))), (9, (.int .i64 ((k2 : Nat) : Int)))]) (fun _ (_ : Unit) (_ : Unit) w' => Cx w0 fp0 S0 w' [Es (List (ByteArray × Int × Int × (List (Int × Int × ByteArray)))) lib_ lib_h]) () () e ⟨rfl, rfl, rfl, rfl, trivial⟩ (H.sel [0] rfl) ?_ ?_
 ·
  clear H e
  rintro T0 k2 _ _ w1 o0 hk (H : Cx w0 fp0 S0 w1 [Es (List (ByteArray × Int × Int × (List (Int × Int × ByteArray)))) lib_ lib_h]) hrt f1
  refine boolE (z := true) (ltLen hk) ?_
  refine sq ?_
  refine sq ?_
  obtain ⟨a0, e, f2⟩ := bindS f1; clear f1
  have HH := H; clear H; obtain ⟨p0, m0, g0, c0, c1, c2, c3, H⟩ := HH.el (α := ByteArray × Int × Int × (List (Int × Int × ByteArray))) 0 rfl e; clear HH
  clear e
  obtain ⟨a0_0, a0_1, a0_2, a0_3_0⟩ := a0
  obtain ⟨_, _, _, h0⟩ := g0
  replace H := H.part (β := List (Int × Int × ByteArray)) a0_3_0 (h0 : Hd) 0 rfl (fun S h => (And.right (And.right (And.right h))))
  replace H := H.sel [0, 2] rfl
  refine idxE c0 c1 c2 ?_; clear c0 c1 c2
  refine loadN [(.string a0_0), (.int .i64 a0_1), (.int .i64 a0_2), (h0).v] rfl c3 ?_; clear c3
  refine alloc_ gok rfl H ?_; clear H; intro b0 w2 hx H
  clear hx
  refine stA gok [(.string a0_0), (.int .i64 a0_1), (.int .i64 a0_2), (h0).v] rfl H rfl rfl rfl ?_; clear H; intro w3 H
  refine fld gok rfl rfl rfl rfl ?_
  refine load1 (H.bx 0 rfl (j := 0) rfl) ?_
  obtain ⟨a1, e, f3⟩ := bindS f2; clear f2
  refine eqZ e ?_; clear e
  cases a1
  ·
   have f4 := condF f3; clear f3
   refine arK hk x0 ?_
   have hs := Option.some.inj f4; subst hs; clear f4
   exact ⟨(), (), rfl, ⟨rfl, rfl, rfl, rfl, trivial⟩, H.sel [2] rfl⟩
  ·
   have f5 := condT f3; clear f3
   have hs := Option.some.inj f5; subst hs; clear f5
   have hr := hrt _ rfl; subst hr
   have f6 : some _ = some _ := f0
   cases f6
   exact ⟨_, _, rfl, ⟨rfl, rfl⟩, (H.sel [] rfl).close trivial⟩
 ·
  clear H e
  rintro T1 _ _ w4 hr (H : Cx w0 fp0 S0 w4 [Es (List (ByteArray × Int × Int × (List (Int × Int × ByteArray)))) lib_ lib_h])
  subst hr
  refine boolE (z := false) geLen ?_
  refine sq ?_
  cases f0
  exact ⟨_, _, rfl, ⟨rfl, rfl⟩, (H.sel [] rfl).close trivial⟩

theorem spec_lbScan_c (lib_ : List (ByteArray × Int × Int × (List (Int × Int × ByteArray)))) (lib_h : Hd) (t__0 : List (Int × Int × ByteArray)) (t__0h : Hd) (y0_0 : List Int) (y0_1 : List Int) (y0_2 : List Int) (y1 : Bool) (hF : F_spec_lbScan lib_ t__0 = some ((y0_0, y0_1, y0_2), y1)) :
  ConF Tryz.prog 79 #[(lib_h).v, (.agg #[(t__0h).v])] [Es (List (ByteArray × Int × Int × (List (Int × Int × ByteArray)))) lib_ lib_h, Es (List (Int × Int × ByteArray)) t__0 t__0h] [] (fun v Γ' => ∃ z0 z1 z2 : Hd, v = (.tuple #[(.agg #[(z0).v, (z1).v, (z2).v]), (.bool y1)]) ∧ Γ' = [E (List Int) y0_0 z0, E (List Int) y0_1 z1, E (List Int) y0_2 z2]) := by
 intro w0 S0 fp0 hI hS
 have H : Cx w0 fp0 S0 w0 [Es (List (ByteArray × Int × Int × (List (Int × Int × ByteArray)))) lib_ lib_h, Es (List (Int × Int × ByteArray)) t__0 t__0h] := Cx.start hI hS
 clear hI hS
 refine enterC (args := [_, _]) gok Tryz.func79 rfl _ rfl rfl rfl ?_
 refine box_ H ?_; clear H; intro b4 w3 hx H
 clear hx
 refine alloc_ gok rfl H ?_; clear H; intro b7 w6 hx H
 clear hx
 refine alloc_ gok rfl H ?_; clear H; intro b0 w9 hx H
 clear hx
 refine sq ?_
 refine fld gok rfl rfl rfl rfl ?_
 refine load1 (H.bx 2 rfl (j := 0) rfl) ?_
 refine lenE (H.rs (α := List (Int × Int × ByteArray)) 4 rfl).len ?_
 obtain ⟨y0, e, f0⟩ := bindS hF; clear hF
 have i0 := e; clear e
 refine callF (spec_l1In_c ((t__0.length : Nat) : Int) 1 400 y0 i0) (Γi := []) H trivial ?_; clear H i0
 rintro _ _ w1 ⟨rfl, rfl⟩ H
 obtain ⟨a0, e, f1⟩ := bindS f0; clear f0
 refine boolO e ?_; clear e
 cases a0
 ·
  have f2 := condF f1; clear f1
  refine sq ?_
  refine fld gok rfl rfl rfl rfl ?_
  refine load1 (H.bx 2 rfl (j := 0) rfl) ?_
  refine lenE (H.rs (α := List (Int × Int × ByteArray)) 4 rfl).len ?_
  have x0 := (H.rs (α := List (Int × Int × ByteArray)) 4 rfl).max
  obtain ⟨r0, e, f3⟩ := bindS f2; clear f2
  replace H := H.nil (α := Int)
  replace H := H.nil (α := Int)
  replace H := H.nil (α := Int)
  refine loopO _ t__0.length (fun (k0 : Nat) (s0 : List Int × List Int × List Int) (g0 : Hd × Hd × Hd) => [(0, (lib_h).v), (3, (.pointer (some ⟨b4, 0, none⟩))), (4, (.pointer (some ⟨b7, 0, none⟩))), (6, (.pointer (some ⟨b0, 0, none⟩))), (23, (t__0h).v), (24, (.int .i64 ((t__0.length : Nat) : Int))), (25, (.int .i64 ((k0 : Nat) : Int)))]) (fun _ (s0 : List Int × List Int × List Int) (g0 : Hd × Hd × Hd) w' => Cx w0 fp0 S0 w' [Es (List (ByteArray × Int × Int × (List (Int × Int × ByteArray)))) lib_ lib_h, Bx b4 [(t__0h).v], Es (List (Int × Int × ByteArray)) t__0 t__0h, Bx b7 [(.slice none 0 0), (.slice none 0 0), (.slice none 0 0)], Bx b0 [(g0.1).v, (g0.2.1).v, (g0.2.2).v], E (List Int) s0.1 g0.1, E (List Int) s0.2.1 g0.2.1, E (List Int) s0.2.2 g0.2.2]) ([], [], []) (nilH, nilH, nilH) e ⟨rfl, rfl, rfl, rfl, rfl, rfl, rfl, trivial⟩ (H.sel [6, 5, 7, 4, 3, 2, 1, 0] rfl) ?_ ?_
  ·
   clear H e
   rintro T0 k0 ⟨s0_0, s0_1, s0_2⟩ ⟨g0_0, g0_1, g0_2⟩ w2 o0 hk (H : Cx w0 fp0 S0 w2 [Es (List (ByteArray × Int × Int × (List (Int × Int × ByteArray)))) lib_ lib_h, Bx b4 [(t__0h).v], Es (List (Int × Int × ByteArray)) t__0 t__0h, Bx b7 [(.slice none 0 0), (.slice none 0 0), (.slice none 0 0)], Bx b0 [(g0_0).v, (g0_1).v, (g0_2).v], E (List Int) s0_0 g0_0, E (List Int) s0_1 g0_1, E (List Int) s0_2 g0_2]) hrt f4
   refine boolE (z := true) (ltLen hk) ?_
   refine sq ?_
   obtain ⟨r1, f5, f6⟩ := bindS f4; clear f4
   refine cut (fun (q0 : (List Int × List Int × List Int) × (Hd × Hd × Hd)) => [(0, (lib_h).v), (3, (.pointer (some ⟨b4, 0, none⟩))), (4, (.pointer (some ⟨b7, 0, none⟩))), (6, (.pointer (some ⟨b0, 0, none⟩))), (23, (t__0h).v), (24, (.int .i64 ((t__0.length : Nat) : Int))), (25, (.int .i64 ((k0 : Nat) : Int)))]) (fun (q0 : (List Int × List Int × List Int) × (Hd × Hd × Hd)) w' => .inl (q0.1.1, q0.1.2.1, q0.1.2.2) = r1 ∧ Cx w0 fp0 S0 w' [Es (List (ByteArray × Int × Int × (List (Int × Int × ByteArray)))) lib_ lib_h, Bx b4 [(t__0h).v], Es (List (Int × Int × ByteArray)) t__0 t__0h, Bx b7 [(.slice none 0 0), (.slice none 0 0), (.slice none 0 0)], Bx b0 [(q0.2.1).v, (q0.2.2.1).v, (q0.2.2.2).v], E (List Int) q0.1.1 q0.2.1, E (List Int) q0.1.2.1 q0.2.2.1, E (List Int) q0.1.2.2 q0.2.2.2]) ?_ ?_
   ·
    obtain ⟨a1, e, f7⟩ := bindS f5; clear f5
    have HH := H; clear H; obtain ⟨p0, m0, g1, c0, c1, c2, c3, H⟩ := HH.el (α := Int × Int × ByteArray) 2 rfl e; clear HH
    clear e
    obtain ⟨a1_0, a1_1, a1_2⟩ := a1
    obtain ⟨_, _, _⟩ := g1
    replace H := H.sel [1, 2, 3, 4, 5, 6, 7, 8] rfl
    refine idxE c0 c1 c2 ?_; clear c0 c1 c2
    refine loadN [(.int .i64 a1_0), (.int .i64 a1_1), (.string a1_2)] rfl c3 ?_; clear c3
    refine alloc_ gok rfl H ?_; clear H; intro b1 w4 hx H
    clear hx
    refine stA gok [(.int .i64 a1_0), (.int .i64 a1_1), (.string a1_2)] rfl H rfl rfl rfl ?_; clear H; intro w5 H
    refine sq ?_
    obtain ⟨r2, f8, f9⟩ := bindS f7; clear f7
    refine cut (fun (q1 : Bool) => [(0, (lib_h).v), (3, (.pointer (some ⟨b4, 0, none⟩))), (4, (.pointer (some ⟨b7, 0, none⟩))), (6, (.pointer (some ⟨b0, 0, none⟩))), (7, (.int .i64 ((k0 : Nat) : Int))), (8, (.pointer (some ⟨b1, 0, none⟩))), (23, (t__0h).v), (24, (.int .i64 ((t__0.length : Nat) : Int))), (25, (.int .i64 ((k0 : Nat) : Int))), (36, (.bool q1))]) (fun (q1 : Bool) w' => q1 = r2 ∧ Cx w0 fp0 S0 w' [Es (List (ByteArray × Int × Int × (List (Int × Int × ByteArray)))) lib_ lib_h, Bx b4 [(t__0h).v], Es (List (Int × Int × ByteArray)) t__0 t__0h, Bx b7 [(.slice none 0 0), (.slice none 0 0), (.slice none 0 0)], Bx b0 [(g0_0).v, (g0_1).v, (g0_2).v], E (List Int) s0_0 g0_0, E (List Int) s0_1 g0_1, E (List Int) s0_2 g0_2, Bx b1 [(.int .i64 a1_0), (.int .i64 a1_1), (.string a1_2)]]) ?_ ?_
    ·
     refine loadN [(.int .i64 a1_0), (.int .i64 a1_1), (.string a1_2)] rfl (fun j u hj => H.bx 0 rfl hj) ?_
     obtain ⟨y2, e, f10⟩ := bindS f8; clear f8
     have i1 := e; clear e
     refine callF (spec_tmLeaf_c a1_0 a1_1 a1_2 y2 i1) (Γi := []) H trivial ?_; clear H i1
     rintro _ _ w7 ⟨rfl, rfl⟩ H
     cases y2
     ·
      have f11 := condF f10; clear f10
      refine fld gok rfl rfl rfl rfl ?_
      refine load1 (H.bx 0 rfl (j := 0) rfl) ?_
      obtain ⟨a2, e, f12⟩ := bindS f11; clear f11
      refine boolO e ?_; clear e
      exact ⟨a2, ⟨rfl, rfl, rfl, rfl, rfl, rfl, rfl, rfl, rfl, rfl, trivial⟩, Option.some.inj f12, H.sel [1, 2, 3, 4, 5, 6, 7, 8, 0] rfl⟩
     ·
      have f13 := condT f10; clear f10
      exact ⟨true, ⟨rfl, rfl, rfl, rfl, rfl, rfl, rfl, rfl, rfl, rfl, trivial⟩, Option.some.inj f13, H.sel [1, 2, 3, 4, 5, 6, 7, 8, 0] rfl⟩
    ·
     clear f8 H
     rintro T1 s1 w8 ⟨hr, (H : Cx w0 fp0 S0 w8 [Es (List (ByteArray × Int × Int × (List (Int × Int × ByteArray)))) lib_ lib_h, Bx b4 [(t__0h).v], Es (List (Int × Int × ByteArray)) t__0 t__0h, Bx b7 [(.slice none 0 0), (.slice none 0 0), (.slice none 0 0)], Bx b0 [(g0_0).v, (g0_1).v, (g0_2).v], E (List Int) s0_0 g0_0, E (List Int) s0_1 g0_1, E (List Int) s0_2 g0_2, Bx b1 [(.int .i64 a1_0), (.int .i64 a1_1), (.string a1_2)]])⟩
     subst hr
     cases s1
     ·
      have f14 := condF f9; clear f9
      refine sq ?_
      obtain ⟨r3, f15, f16⟩ := bindS f14; clear f14
      refine cut (fun (q2 : Bool) => [(0, (lib_h).v), (3, (.pointer (some ⟨b4, 0, none⟩))), (4, (.pointer (some ⟨b7, 0, none⟩))), (6, (.pointer (some ⟨b0, 0, none⟩))), (7, (.int .i64 ((k0 : Nat) : Int))), (8, (.pointer (some ⟨b1, 0, none⟩))), (23, (t__0h).v), (24, (.int .i64 ((t__0.length : Nat) : Int))), (25, (.int .i64 ((k0 : Nat) : Int))), (115, (.bool q2))]) (fun (q2 : Bool) w' => q2 = r3 ∧ Cx w0 fp0 S0 w' [Es (List (ByteArray × Int × Int × (List (Int × Int × ByteArray)))) lib_ lib_h, Bx b4 [(t__0h).v], Es (List (Int × Int × ByteArray)) t__0 t__0h, Bx b7 [(.slice none 0 0), (.slice none 0 0), (.slice none 0 0)], Bx b0 [(g0_0).v, (g0_1).v, (g0_2).v], E (List Int) s0_0 g0_0, E (List Int) s0_1 g0_1, E (List Int) s0_2 g0_2, Bx b1 [(.int .i64 a1_0), (.int .i64 a1_1), (.string a1_2)]]) ?_ ?_
      ·
       refine fld gok rfl rfl rfl rfl ?_
       refine load1 (H.bx 8 rfl (j := 0) rfl) ?_
       obtain ⟨a3, e, f17⟩ := bindS f15; clear f15
       refine boolO e ?_; clear e
       cases a3
       ·
        have f18 := condF f17; clear f17
        refine fld gok rfl rfl rfl rfl ?_
        refine load1 (H.bx 8 rfl (j := 2) rfl) ?_
        obtain ⟨a4, e, f19⟩ := bindS f18; clear f18
        refine neqZ e ?_; clear e
        cases a4
        ·
         have f20 := condF f19; clear f19
         refine fld gok rfl rfl rfl rfl ?_
         refine load1 (H.bx 8 rfl (j := 1) rfl) ?_
         obtain ⟨a5, e, f21⟩ := bindS f20; clear f20
         refine boolO e ?_; clear e
         cases a5
         ·
          have f22 := condF f21; clear f21
          obtain ⟨a6, e, f23⟩ := bindS f22; clear f22
          refine boolO e ?_; clear e
          cases a6
          ·
           have f24 := condF f23; clear f23
           refine fld gok rfl rfl rfl rfl ?_
           refine load1 (H.bx 4 rfl (j := 0) rfl) ?_
           obtain ⟨a7, e, f25⟩ := bindS f24; clear f24
           refine arO e ?_; clear e
           obtain ⟨a8, e, f26⟩ := bindS f25; clear f25
           obtain ⟨p1, m1, c4, c5, c6, c7⟩ := (H.ro (α := List Int) 5 rfl).at1 e; clear e
           refine idxE c4 c5 c6 ?_; clear c4 c5 c6
           refine load1 c7 ?_; clear c7
           obtain ⟨a9, e, f27⟩ := bindS f26; clear f26
           refine boolO e ?_; clear e
           exact ⟨a9, ⟨rfl, rfl, rfl, rfl, rfl, rfl, rfl, rfl, rfl, rfl, trivial⟩, Option.some.inj f27, H.sel [0, 1, 2, 3, 4, 5, 6, 7, 8] rfl⟩
          ·
           have f28 := condT f23; clear f23
           exact ⟨true, ⟨rfl, rfl, rfl, rfl, rfl, rfl, rfl, rfl, rfl, rfl, trivial⟩, Option.some.inj f28, H.sel [0, 1, 2, 3, 4, 5, 6, 7, 8] rfl⟩
         ·
          have f29 := condT f21; clear f21
          exact ⟨true, ⟨rfl, rfl, rfl, rfl, rfl, rfl, rfl, rfl, rfl, rfl, trivial⟩, Option.some.inj f29, H.sel [0, 1, 2, 3, 4, 5, 6, 7, 8] rfl⟩
        ·
         have f30 := condT f19; clear f19
         exact ⟨true, ⟨rfl, rfl, rfl, rfl, rfl, rfl, rfl, rfl, rfl, rfl, trivial⟩, Option.some.inj f30, H.sel [0, 1, 2, 3, 4, 5, 6, 7, 8] rfl⟩
       ·
        have f31 := condT f17; clear f17
        refine fld gok rfl rfl rfl rfl ?_
        refine load1 (H.bx 8 rfl (j := 0) rfl) ?_
        obtain ⟨a10, e, f32⟩ := bindS f31; clear f31
        refine boolO e ?_; clear e
        cases a10
        ·
         have f33 := condF f32; clear f32
         refine fld gok rfl rfl rfl rfl ?_
         refine load1 (H.bx 8 rfl (j := 2) rfl) ?_
         obtain ⟨a11, e, f34⟩ := bindS f33; clear f33
         refine neqZ e ?_; clear e
         cases a11
         ·
          have f35 := condF f34; clear f34
          refine fld gok rfl rfl rfl rfl ?_
          refine load1 (H.bx 8 rfl (j := 1) rfl) ?_
          obtain ⟨a12, e, f36⟩ := bindS f35; clear f35
          refine boolO e ?_; clear e
          cases a12
          ·
           have f37 := condF f36; clear f36
           obtain ⟨a13, e, f38⟩ := bindS f37; clear f37
           refine boolO e ?_; clear e
           cases a13
           ·
            have f39 := condF f38; clear f38
            refine fld gok rfl rfl rfl rfl ?_
            refine load1 (H.bx 4 rfl (j := 0) rfl) ?_
            obtain ⟨a14, e, f40⟩ := bindS f39; clear f39
            refine arO e ?_; clear e
            obtain ⟨a16, e, f41⟩ := bindS f40; clear f40
            obtain ⟨p2, m2, c8, c9, c10, c11⟩ := (H.ro (α := List Int) 5 rfl).at1 e; clear e
            refine idxE c8 c9 c10 ?_; clear c8 c9 c10
            refine load1 c11 ?_; clear c11
            obtain ⟨a17, e, f42⟩ := bindS f41; clear f41
            refine boolO e ?_; clear e
            exact ⟨a17, ⟨rfl, rfl, rfl, rfl, rfl, rfl, rfl, rfl, rfl, rfl, trivial⟩, Option.some.inj f42, H.sel [0, 1, 2, 3, 4, 5, 6, 7, 8] rfl⟩
           ·
            have f43 := condT f38; clear f38
            exact ⟨true, ⟨rfl, rfl, rfl, rfl, rfl, rfl, rfl, rfl, rfl, rfl, trivial⟩, Option.some.inj f43, H.sel [0, 1, 2, 3, 4, 5, 6, 7, 8] rfl⟩
          ·
           have f44 := condT f36; clear f36
           exact ⟨true, ⟨rfl, rfl, rfl, rfl, rfl, rfl, rfl, rfl, rfl, rfl, trivial⟩, Option.some.inj f44, H.sel [0, 1, 2, 3, 4, 5, 6, 7, 8] rfl⟩
         ·
          have f45 := condT f34; clear f34
          exact ⟨true, ⟨rfl, rfl, rfl, rfl, rfl, rfl, rfl, rfl, rfl, rfl, trivial⟩, Option.some.inj f45, H.sel [0, 1, 2, 3, 4, 5, 6, 7, 8] rfl⟩
        ·
         have f46 := condT f32; clear f32
         exact ⟨true, ⟨rfl, rfl, rfl, rfl, rfl, rfl, rfl, rfl, rfl, rfl, trivial⟩, Option.some.inj f46, H.sel [0, 1, 2, 3, 4, 5, 6, 7, 8] rfl⟩
      ·
       clear f15 H
       rintro T2 s2 w10 ⟨hr, (H : Cx w0 fp0 S0 w10 [Es (List (ByteArray × Int × Int × (List (Int × Int × ByteArray)))) lib_ lib_h, Bx b4 [(t__0h).v], Es (List (Int × Int × ByteArray)) t__0 t__0h, Bx b7 [(.slice none 0 0), (.slice none 0 0), (.slice none 0 0)], Bx b0 [(g0_0).v, (g0_1).v, (g0_2).v], E (List Int) s0_0 g0_0, E (List Int) s0_1 g0_1, E (List Int) s0_2 g0_2, Bx b1 [(.int .i64 a1_0), (.int .i64 a1_1), (.string a1_2)]])⟩
       subst hr
       cases s2
       ·
        have f47 := condF f16; clear f16
        obtain ⟨a18, e, f48⟩ := bindS f47; clear f47
        refine arO e ?_; clear e
        refine fld gok rfl rfl rfl rfl ?_
        refine load1 (H.bx 4 rfl (j := 0) rfl) ?_
        obtain ⟨a19, e, f49⟩ := bindS f48; clear f48
        obtain ⟨p3, m3, c12, c13, c14, c15⟩ := (H.ro (α := List Int) 5 rfl).at1 e; clear e
        refine idxE c12 c13 c14 ?_; clear c12 c13 c14
        refine load1 c15 ?_; clear c15
        obtain ⟨a20, e, f50⟩ := bindS f49; clear f49
        refine arO e ?_; clear e
        refine heldX H [] (.fst 0 (.fst 2 (.fst 5 (.fst 7 (.fst 11 (.fst 13 (.fst 16 (.fst 18 (.fst 1 (.fst 3 (.fst 4 (.fst 6 (.fst 8 (.fst 9 (.fst 10 (.fst 22 (.fst 12 (.fst 14 (.fst 15 (.fst 17 (.fst 19 (.fst 20 (.fst 21 (.fst 23 .done)))))))))))))))))))))))) mixed [] trivial (by kernel_rfl) ?_
        clear H; intro w11 H
        have hX : Ext w11 w11 := Upd.refl _ _
        have H0 := H
        refine anyH (fun _ => fld gok rfl rfl rfl rfl ⟨rfl, rfl⟩) ?_
        refine anyH (fun _ => fld gok rfl rfl rfl rfl ⟨rfl, rfl⟩) ?_
        refine anyH (fun _ => fld gok rfl rfl rfl rfl ⟨rfl, rfl⟩) ?_
        refine anyH (fun _ => fld gok rfl rfl rfl rfl ⟨rfl, rfl⟩) ?_
        refine load1X (H.bx 4 rfl (j := 1) rfl) ?_
        obtain ⟨a21, e, f51⟩ := bindS f50; clear f50
        obtain ⟨p4, m4, c16, c17, c18, c19⟩ := (H.ro (α := List Int) 6 rfl).at1 e; clear e
        refine idxE c16 c17 c18 ?_; clear c16 c17 c18
        refine load1X c19 ?_; clear c19
        refine load1X (H.bx 4 rfl (j := 1) rfl) ?_
        obtain ⟨a22, e, f52⟩ := bindS f51; clear f51
        obtain ⟨p5, m5, c20, c21, c22, c23⟩ := (H.ro (α := List Int) 6 rfl).at1 e; clear e
        refine idxE c20 c21 c22 ?_; clear c20 c21 c22
        refine load1X c23 ?_; clear c23
        obtain ⟨a23, e, f53⟩ := bindS f52; clear f52
        refine arO e ?_; clear e
        refine load1X (H.bx 4 rfl (j := 2) rfl) ?_
        obtain ⟨a24, e, f54⟩ := bindS f53; clear f53
        obtain ⟨p6, m6, c24, c25, c26, c27⟩ := (H.ro (α := List Int) 7 rfl).at1 e; clear e
        refine idxE c24 c25 c26 ?_; clear c24 c25 c26
        refine load1X c27 ?_; clear c27
        refine load1X (H.bx 4 rfl (j := 2) rfl) ?_
        obtain ⟨a25, e, f55⟩ := bindS f54; clear f54
        obtain ⟨p7, m7, c28, c29, c30, c31⟩ := (H.ro (α := List Int) 7 rfl).at1 e; clear e
        refine idxE c28 c29 c30 ?_; clear c28 c29 c30
        refine load1X c31 ?_; clear c31
        obtain ⟨a26, e, f56⟩ := bindS f55; clear f55
        refine arO e ?_; clear e
        obtain ⟨r4, f57, f58⟩ := bindS f56; clear f56
        refine cut (fun (q3 : Int × Int) => [(0, (lib_h).v), (3, (.pointer (some ⟨b4, 0, none⟩))), (4, (.pointer (some ⟨b7, 0, none⟩))), (6, (.pointer (some ⟨b0, 0, none⟩))), (13, (.int .i64 a20)), (14, (.int .i64 q3.1)), (15, (.int .i64 q3.2)), (23, (t__0h).v), (24, (.int .i64 ((t__0.length : Nat) : Int))), (25, (.int .i64 ((k0 : Nat) : Int)))]) (fun (q3 : Int × Int) w' => .inl (q3.1, q3.2) = r4 ∧ Cx w0 fp0 S0 w' [Es (List (ByteArray × Int × Int × (List (Int × Int × ByteArray)))) lib_ lib_h, Bx b4 [(t__0h).v], Es (List (Int × Int × ByteArray)) t__0 t__0h, Bx b7 [(.slice none 0 0), (.slice none 0 0), (.slice none 0 0)], Bx b0 [(g0_0).v, (g0_1).v, (g0_2).v], E (List Int) s0_0 g0_0, E (List Int) s0_1 g0_1, E (List Int) s0_2 g0_2]) ?_ ?_
        ·
         refine fld gok rfl rfl rfl rfl ?_
         refine load1 (H.bx 8 rfl (j := 0) rfl) ?_
         obtain ⟨a27, e, f59⟩ := bindS f57; clear f57
         refine boolO e ?_; clear e
         cases a27
         ·
          have f60 := condF f59; clear f59
          exact ⟨(a23, a26), ⟨rfl, rfl, rfl, rfl, rfl, rfl, rfl, rfl, rfl, rfl, trivial⟩, Option.some.inj f60, H.sel [0, 1, 2, 3, 4, 5, 6, 7] rfl⟩
         ·
          have f61 := condT f59; clear f59
          refine sq ?_
          refine heldX H [] (.fst 0 (.fst 2 (.fst 5 (.fst 7 (.fst 1 (.fst 3 (.fst 4 (.fst 6 (.fst 8 (.fst 9 (.fst 10 .done))))))))))) mixed [] trivial (by kernel_rfl) ?_
          clear H; intro w12 H
          have hX : Ext w12 w12 := Upd.refl _ _
          have H0 := H
          refine anyH (fun _ => fld gok rfl rfl rfl rfl ⟨rfl, rfl⟩) ?_
          refine anyH (fun _ => fld gok rfl rfl rfl rfl ⟨rfl, rfl⟩) ?_
          refine load1X (H.bx 4 rfl (j := 2) rfl) ?_
          obtain ⟨a28, e, f62⟩ := bindS f61; clear f61
          obtain ⟨p8, m8, c32, c33, c34, c35⟩ := (H.ro (α := List Int) 7 rfl).at1 e; clear e
          refine idxE c32 c33 c34 ?_; clear c32 c33 c34
          refine load1X c35 ?_; clear c35
          refine load1X (H.bx 4 rfl (j := 1) rfl) ?_
          obtain ⟨a29, e, f63⟩ := bindS f62; clear f62
          obtain ⟨p9, m9, c36, c37, c38, c39⟩ := (H.ro (α := List Int) 6 rfl).at1 e; clear e
          refine idxE c36 c37 c38 ?_; clear c36 c37 c38
          refine load1X c39 ?_; clear c39
          obtain ⟨a30, e, f64⟩ := bindS f63; clear f63
          refine boolO e ?_; clear e
          cases a30
          ·
           have f65 := condF f64; clear f64
           refine heldX H [] (.fst 0 (.fst 2 (.fst 5 (.fst 7 (.fst 1 (.fst 3 (.fst 4 (.fst 10 (.fst 6 (.fst 8 (.fst 9 (.fst 11 .done)))))))))))) mixed [] trivial (by kernel_rfl) ?_
           clear H; intro w13 H
           have hX : Ext w13 w13 := Upd.refl _ _
           have H0 := H
           refine anyH (fun _ => fld gok rfl rfl rfl rfl ⟨rfl, rfl⟩) ?_
           refine anyH (fun _ => fld gok rfl rfl rfl rfl ⟨rfl, rfl⟩) ?_
           refine load1X (H.bx 4 rfl (j := 1) rfl) ?_
           obtain ⟨a31, e, f66⟩ := bindS f65; clear f65
           obtain ⟨p10, m10, c40, c41, c42, c43⟩ := (H.ro (α := List Int) 6 rfl).at1 e; clear e
           refine idxE c40 c41 c42 ?_; clear c40 c41 c42
           refine load1X c43 ?_; clear c43
           refine load1X (H.bx 4 rfl (j := 2) rfl) ?_
           obtain ⟨a32, e, f67⟩ := bindS f66; clear f66
           obtain ⟨p11, m11, c44, c45, c46, c47⟩ := (H.ro (α := List Int) 7 rfl).at1 e; clear e
           refine idxE c44 c45 c46 ?_; clear c44 c45 c46
           refine load1X c47 ?_; clear c47
           exact ⟨(a31, a32), ⟨rfl, rfl, rfl, rfl, rfl, rfl, rfl, rfl, rfl, rfl, trivial⟩, Option.some.inj f67, H.sel [0, 1, 2, 3, 4, 5, 6, 7] rfl⟩
          ·
           have f68 := condT f64; clear f64
           refine loadN [(g0_0).v, (g0_1).v, (g0_2).v] rfl (fun j u hj => H.bx 4 rfl hj) ?_
           replace H := H.sel [3, 0, 1, 2, 4, 5, 6, 7, 8] rfl
           refine stA gok [(g0_0).v, (g0_1).v, (g0_2).v] rfl H rfl rfl rfl ?_; clear H; intro w15 H
           have hs := Option.some.inj f68; subst hs; clear f68
           have f69 : some _ = some _ := f58; clear f58
           have hs := Option.some.inj f69; subst hs; clear f69
           have f70 : some _ = some _ := f6; clear f6
           have hs := Option.some.inj f70; subst hs; clear f70
           have hr := hrt _ rfl; subst hr
           have f71 : some _ = some _ := f3
           refine loadN [(g0_0).v, (g0_1).v, (g0_2).v] rfl (fun j u hj => H.bx 0 rfl hj) ?_
           cases f71
           exact ⟨_, _, rfl, ⟨g0_0, g0_1, g0_2, rfl, rfl⟩, (H.sel [5, 6, 7] rfl).close ⟨cloE, cloE, cloE, trivial⟩⟩
        ·
         clear f57 H
         rintro T3 ⟨s3_0, s3_1⟩ w16 ⟨hr, (H : Cx w0 fp0 S0 w16 [Es (List (ByteArray × Int × Int × (List (Int × Int × ByteArray)))) lib_ lib_h, Bx b4 [(t__0h).v], Es (List (Int × Int × ByteArray)) t__0 t__0h, Bx b7 [(.slice none 0 0), (.slice none 0 0), (.slice none 0 0)], Bx b0 [(g0_0).v, (g0_1).v, (g0_2).v], E (List Int) s0_0 g0_0, E (List Int) s0_1 g0_1, E (List Int) s0_2 g0_2])⟩
         subst hr
         refine sq ?_
         obtain ⟨r5, f72, f73⟩ := bindS f58; clear f58
         refine cut (fun (q4 : Bool) => [(0, (lib_h).v), (3, (.pointer (some ⟨b4, 0, none⟩))), (4, (.pointer (some ⟨b7, 0, none⟩))), (6, (.pointer (some ⟨b0, 0, none⟩))), (13, (.int .i64 a20)), (14, (.int .i64 s3_0)), (15, (.int .i64 s3_1)), (23, (t__0h).v), (24, (.int .i64 ((t__0.length : Nat) : Int))), (25, (.int .i64 ((k0 : Nat) : Int))), (177, (.bool q4))]) (fun (q4 : Bool) w' => q4 = r5 ∧ Cx w0 fp0 S0 w' [Es (List (ByteArray × Int × Int × (List (Int × Int × ByteArray)))) lib_ lib_h, Bx b4 [(t__0h).v], Es (List (Int × Int × ByteArray)) t__0 t__0h, Bx b7 [(.slice none 0 0), (.slice none 0 0), (.slice none 0 0)], Bx b0 [(g0_0).v, (g0_1).v, (g0_2).v], E (List Int) s0_0 g0_0, E (List Int) s0_1 g0_1, E (List Int) s0_2 g0_2]) ?_ ?_
         ·
          obtain ⟨a33, e, f74⟩ := bindS f72; clear f72
          refine boolO e ?_; clear e
          cases a33
          ·
           have f75 := condF f74; clear f74
           obtain ⟨a34, e, f76⟩ := bindS f75; clear f75
           refine boolO e ?_; clear e
           exact ⟨a34, ⟨rfl, rfl, rfl, rfl, rfl, rfl, rfl, rfl, rfl, rfl, rfl, trivial⟩, Option.some.inj f76, H.sel [0, 1, 2, 3, 4, 5, 6, 7] rfl⟩
          ·
           have f77 := condT f74; clear f74
           exact ⟨true, ⟨rfl, rfl, rfl, rfl, rfl, rfl, rfl, rfl, rfl, rfl, rfl, trivial⟩, Option.some.inj f77, H.sel [0, 1, 2, 3, 4, 5, 6, 7] rfl⟩
         ·
          clear f72 H
          rintro T4 s4 w17 ⟨hr, (H : Cx w0 fp0 S0 w17 [Es (List (ByteArray × Int × Int × (List (Int × Int × ByteArray)))) lib_ lib_h, Bx b4 [(t__0h).v], Es (List (Int × Int × ByteArray)) t__0 t__0h, Bx b7 [(.slice none 0 0), (.slice none 0 0), (.slice none 0 0)], Bx b0 [(g0_0).v, (g0_1).v, (g0_2).v], E (List Int) s0_0 g0_0, E (List Int) s0_1 g0_1, E (List Int) s0_2 g0_2])⟩
          subst hr
          cases s4
          ·
           have f78 := condF f73; clear f73
           refine heldX H [8, 10, 9] (.fst 0 (.fst 2 (.fst 4 (.fst 1 (.fst 3 (.fst 5 (.fst 6 (.act 7 (.act 8 (.act 9 (.act 10 .done))))))))))) mixed [] trivial (by kernel_rfl) ?_
           clear H; intro w18 H
           have hX : Ext w18 w18 := Upd.refl _ _
           have H0 := H
           refine anyH (fun _ => fld gok rfl rfl rfl rfl ⟨rfl, rfl⟩) ?_
           refine anyH (fun _ => fld gok rfl rfl rfl rfl ⟨rfl, rfl⟩) ?_
           refine load1X (H.bx 4 rfl (j := 0) rfl) ?_
           refine load1X (H.bx 4 rfl (j := 0) rfl) ?_
           obtain ⟨a35, e, f79⟩ := bindS f78; clear f78
           obtain ⟨p12, m12, c48, c49, c50, c51⟩ := (H.ro (α := List Int) 5 rfl).at1 e; clear e
           refine idxE c48 c49 c50 ?_; clear c48 c49 c50
           refine load1X c51 ?_; clear c51
           refine lit1S (α := Int) gok rfl rfl rfl rfl H ?_; clear H; intro h0 w19 hx H
           replace hX := hX.trans0 hx; clear hx
           refine hold hX ?_
           obtain ⟨a36, e, f80⟩ := bindS f79; clear f79
           replace H := H.sel [6, 0, 1, 2, 3, 4, 5, 7, 8] rfl
           refine append_ (α := Int) gok rfl rfl rfl rfl H e ?_; clear e H; intro h1 w20 H
           refine hold trivial ?_
           refine fld gok rfl rfl rfl rfl ?_
           refine hold trivial ?_
           replace H := H.sel [5, 0, 1, 2, 3, 4, 6, 7] rfl
           refine stB (j := 0) H rfl rfl ?_; clear H; intro w21 H
           refine hold trivial ?_
           refine fld gok rfl rfl rfl rfl ?_
           refine load1 (H.bx 0 rfl (j := 1) rfl) ?_
           refine lit1S (α := Int) gok rfl rfl rfl rfl H ?_; clear H; intro h2 w22 hx H
           clear hx
           obtain ⟨a37, e, f81⟩ := bindS f80; clear f80
           replace H := H.sel [7, 0, 1, 2, 3, 4, 5, 6, 8] rfl
           refine append_ (α := Int) gok rfl rfl rfl rfl H e ?_; clear e H; intro h3 w23 H
           refine fld gok rfl rfl rfl rfl ?_
           replace H := H.sel [1, 0, 2, 3, 4, 5, 6, 7] rfl
           refine stB (j := 1) H rfl rfl ?_; clear H; intro w24 H
           refine fld gok rfl rfl rfl rfl ?_
           refine load1 (H.bx 0 rfl (j := 2) rfl) ?_
           refine lit1S (α := Int) gok rfl rfl rfl rfl H ?_; clear H; intro h4 w25 hx H
           clear hx
           obtain ⟨a38, e, f82⟩ := bindS f81; clear f81
           replace H := H.sel [8, 0, 1, 2, 3, 4, 5, 6, 7] rfl
           refine append_ (α := Int) gok rfl rfl rfl rfl H e ?_; clear e H; intro h5 w26 H
           refine fld gok rfl rfl rfl rfl ?_
           replace H := H.sel [1, 0, 2, 3, 4, 5, 6, 7] rfl
           refine stB (j := 2) H rfl rfl ?_; clear H; intro w27 H
           exact ⟨((a36, a37, a38), (h1, h3, h5)), ⟨rfl, rfl, rfl, rfl, rfl, rfl, rfl, trivial⟩, Option.some.inj f82, H.sel [4, 5, 6, 7, 0, 3, 2, 1] rfl⟩
          ·
           have f83 := condT f73; clear f73
           refine loadN [(g0_0).v, (g0_1).v, (g0_2).v] rfl (fun j u hj => H.bx 4 rfl hj) ?_
           replace H := H.sel [3, 0, 1, 2, 4, 5, 6, 7] rfl
           refine stA gok [(g0_0).v, (g0_1).v, (g0_2).v] rfl H rfl rfl rfl ?_; clear H; intro w28 H
           have hs := Option.some.inj f83; subst hs; clear f83
           have f84 : some _ = some _ := f6; clear f6
           have hs := Option.some.inj f84; subst hs; clear f84
           have hr := hrt _ rfl; subst hr
           have f85 : some _ = some _ := f3
           refine loadN [(g0_0).v, (g0_1).v, (g0_2).v] rfl (fun j u hj => H.bx 0 rfl hj) ?_
           cases f85
           exact ⟨_, _, rfl, ⟨g0_0, g0_1, g0_2, rfl, rfl⟩, (H.sel [5, 6, 7] rfl).close ⟨cloE, cloE, cloE, trivial⟩⟩
       ·
        have f86 := condT f16; clear f16
        refine loadN [(g0_0).v, (g0_1).v, (g0_2).v] rfl (fun j u hj => H.bx 4 rfl hj) ?_
        replace H := H.sel [3, 0, 1, 2, 4, 5, 6, 7, 8] rfl
        refine stA gok [(g0_0).v, (g0_1).v, (g0_2).v] rfl H rfl rfl rfl ?_; clear H; intro w29 H
        have hs := Option.some.inj f86; subst hs; clear f86
        have f87 : some _ = some _ := f6; clear f6
        have hs := Option.some.inj f87; subst hs; clear f87
        have hr := hrt _ rfl; subst hr
        have f88 : some _ = some _ := f3
        refine loadN [(g0_0).v, (g0_1).v, (g0_2).v] rfl (fun j u hj => H.bx 0 rfl hj) ?_
        cases f88
        exact ⟨_, _, rfl, ⟨g0_0, g0_1, g0_2, rfl, rfl⟩, (H.sel [5, 6, 7] rfl).close ⟨cloE, cloE, cloE, trivial⟩⟩
     ·
      have f89 := condT f9; clear f9
      refine loadN [(.int .i64 a1_0), (.int .i64 a1_1), (.string a1_2)] rfl (fun j u hj => H.bx 8 rfl hj) ?_
      obtain ⟨y3, e, f90⟩ := bindS f89; clear f89
      obtain ⟨y3_0, y3_1⟩ := y3
      have i2 := e; clear e
      refine callF (spec_tmArity_c a1_0 a1_1 a1_2 y3_0 y3_1 i2) (Γi := []) H trivial ?_; clear H i2
      rintro _ _ w30 ⟨rfl, rfl⟩ H
      obtain ⟨r6, f91, f92⟩ := bindS f90; clear f90
      refine cut (fun (q5 : Int × Int) => [(0, (lib_h).v), (3, (.pointer (some ⟨b4, 0, none⟩))), (4, (.pointer (some ⟨b7, 0, none⟩))), (6, (.pointer (some ⟨b0, 0, none⟩))), (7, (.int .i64 ((k0 : Nat) : Int))), (9, (.int .i64 q5.2)), (10, (.int .i64 q5.1)), (23, (t__0h).v), (24, (.int .i64 ((t__0.length : Nat) : Int))), (25, (.int .i64 ((k0 : Nat) : Int)))]) (fun (q5 : Int × Int) w' => .inl (q5.1, q5.2) = r6 ∧ Cx w0 fp0 S0 w' [Es (List (ByteArray × Int × Int × (List (Int × Int × ByteArray)))) lib_ lib_h, Bx b4 [(t__0h).v], Es (List (Int × Int × ByteArray)) t__0 t__0h, Bx b7 [(.slice none 0 0), (.slice none 0 0), (.slice none 0 0)], Bx b0 [(g0_0).v, (g0_1).v, (g0_2).v], E (List Int) s0_0 g0_0, E (List Int) s0_1 g0_1, E (List Int) s0_2 g0_2]) ?_ ?_
      ·
       refine fld gok rfl rfl rfl rfl ?_
       refine load1 (H.bx 8 rfl (j := 0) rfl) ?_
       obtain ⟨a39, e, f93⟩ := bindS f91; clear f91
       refine boolO e ?_; clear e
       cases a39
       ·
        have f94 := condF f93; clear f93
        exact ⟨(y3_1, y3_0), ⟨rfl, rfl, rfl, rfl, rfl, rfl, rfl, rfl, rfl, rfl, trivial⟩, Option.some.inj f94, H.sel [0, 1, 2, 3, 4, 5, 6, 7] rfl⟩
       ·
        have f95 := condT f93; clear f93
        refine fld gok rfl rfl rfl rfl ?_
        refine load1 (H.bx 8 rfl (j := 2) rfl) ?_
        obtain ⟨y4, e, f96⟩ := bindS f95; clear f95
        have i3 := e; clear e
        refine callF (spec_lbFind_c lib_ lib_h a1_2 y4 i3) (Γi := []) H ⟨Vw.sh 0 rfl, trivial⟩ ?_; clear H i3
        rintro _ _ w31 ⟨rfl, rfl⟩ H
        refine sq ?_
        obtain ⟨r7, f97, f98⟩ := bindS f96; clear f96
        refine cut (fun (q6 : Bool) => [(0, (lib_h).v), (3, (.pointer (some ⟨b4, 0, none⟩))), (4, (.pointer (some ⟨b7, 0, none⟩))), (6, (.pointer (some ⟨b0, 0, none⟩))), (7, (.int .i64 ((k0 : Nat) : Int))), (11, (.int .i64 y4)), (23, (t__0h).v), (24, (.int .i64 ((t__0.length : Nat) : Int))), (25, (.int .i64 ((k0 : Nat) : Int))), (55, (.bool q6))]) (fun (q6 : Bool) w' => q6 = r7 ∧ Cx w0 fp0 S0 w' [Es (List (ByteArray × Int × Int × (List (Int × Int × ByteArray)))) lib_ lib_h, Bx b4 [(t__0h).v], Es (List (Int × Int × ByteArray)) t__0 t__0h, Bx b7 [(.slice none 0 0), (.slice none 0 0), (.slice none 0 0)], Bx b0 [(g0_0).v, (g0_1).v, (g0_2).v], E (List Int) s0_0 g0_0, E (List Int) s0_1 g0_1, E (List Int) s0_2 g0_2]) ?_ ?_
        ·
         obtain ⟨a40, e, f99⟩ := bindS f97; clear f97
         refine boolO e ?_; clear e
         cases a40
         ·
          have f100 := condF f99; clear f99
          refine fld gok rfl rfl rfl rfl ?_
          refine load1 (H.bx 8 rfl (j := 1) rfl) ?_
          obtain ⟨a41, e, f101⟩ := bindS f100; clear f100
          refine boolO e ?_; clear e
          exact ⟨a41, ⟨rfl, rfl, rfl, rfl, rfl, rfl, rfl, rfl, rfl, rfl, trivial⟩, Option.some.inj f101, H.sel [0, 1, 2, 3, 4, 5, 6, 7] rfl⟩
         ·
          have f102 := condT f99; clear f99
          exact ⟨true, ⟨rfl, rfl, rfl, rfl, rfl, rfl, rfl, rfl, rfl, rfl, trivial⟩, Option.some.inj f102, H.sel [0, 1, 2, 3, 4, 5, 6, 7] rfl⟩
        ·
         clear f97 H
         rintro T5 s5 w32 ⟨hr, (H : Cx w0 fp0 S0 w32 [Es (List (ByteArray × Int × Int × (List (Int × Int × ByteArray)))) lib_ lib_h, Bx b4 [(t__0h).v], Es (List (Int × Int × ByteArray)) t__0 t__0h, Bx b7 [(.slice none 0 0), (.slice none 0 0), (.slice none 0 0)], Bx b0 [(g0_0).v, (g0_1).v, (g0_2).v], E (List Int) s0_0 g0_0, E (List Int) s0_1 g0_1, E (List Int) s0_2 g0_2])⟩
         subst hr
         cases s5
         ·
          have f103 := condF f98; clear f98
          refine heldX H [] (.fst 0 (.fst 1 (.fst 2 (.fst 3 (.fst 5 (.fst 6 (.fst 7 (.fst 8 (.fst 4 (.fst 10 (.fst 9 (.fst 11 .done)))))))))))) mixed [] trivial (by kernel_rfl) ?_
          clear H; intro w33 H
          have hX : Ext w33 w33 := Upd.refl _ _
          have H0 := H
          obtain ⟨a42, e, f104⟩ := bindS f103; clear f103
          have HH := H; clear H; obtain ⟨p13, m13, g2, c52, c53, c54, c55, H⟩ := HH.el (α := ByteArray × Int × Int × (List (Int × Int × ByteArray))) 0 rfl e; clear HH
          clear e
          obtain ⟨a42_0, a42_1, a42_2, a42_3_0⟩ := a42
          obtain ⟨_, _, _, h6⟩ := g2
          replace H := H.part (β := List (Int × Int × ByteArray)) a42_3_0 (h6 : Hd) 0 rfl (fun S h => (And.right (And.right (And.right h))))
          replace H := H.sel [0, 2, 3, 4, 5, 6, 7, 8, 9] rfl
          refine idxE c52 c53 c54 ?_; clear c52 c53 c54
          refine anyH (fun _ => fld gok rfl rfl rfl rfl ⟨rfl, rfl⟩) ?_
          obtain ⟨a43, e, f105⟩ := bindS f104; clear f104
          have HH := H; clear H; obtain ⟨p14, m14, g3, c56, c57, c58, c59, H⟩ := HH.el (α := ByteArray × Int × Int × (List (Int × Int × ByteArray))) 1 rfl e; clear HH
          clear e
          obtain ⟨a43_0, a43_1, a43_2, a43_3_0⟩ := a43
          obtain ⟨_, _, _, h7⟩ := g3
          replace H := H.part (β := List (Int × Int × ByteArray)) a43_3_0 (h7 : Hd) 0 rfl (fun S h => (And.right (And.right (And.right h))))
          replace H := H.sel [0, 2, 3, 4, 5, 6, 7, 8, 9, 10] rfl
          refine idxE c56 c57 c58 ?_; clear c56 c57 c58
          refine anyH (fun _ => fld gok rfl rfl rfl rfl ⟨rfl, rfl⟩) ?_
          refine load1X (c55 1 _ rfl) ?_
          refine load1X (c59 2 _ rfl) ?_
          exact ⟨(a43_2, a42_1), ⟨rfl, rfl, rfl, rfl, rfl, rfl, rfl, rfl, rfl, rfl, trivial⟩, Option.some.inj f105, H.sel [2, 3, 4, 5, 6, 7, 8, 9] rfl⟩
         ·
          have f106 := condT f98; clear f98
          refine loadN [(g0_0).v, (g0_1).v, (g0_2).v] rfl (fun j u hj => H.bx 4 rfl hj) ?_
          replace H := H.sel [3, 0, 1, 2, 4, 5, 6, 7] rfl
          refine stA gok [(g0_0).v, (g0_1).v, (g0_2).v] rfl H rfl rfl rfl ?_; clear H; intro w34 H
          have hs := Option.some.inj f106; subst hs; clear f106
          have f107 : some _ = some _ := f92; clear f92
          have hs := Option.some.inj f107; subst hs; clear f107
          have f108 : some _ = some _ := f6; clear f6
          have hs := Option.some.inj f108; subst hs; clear f108
          have hr := hrt _ rfl; subst hr
          have f109 : some _ = some _ := f3
          refine loadN [(g0_0).v, (g0_1).v, (g0_2).v] rfl (fun j u hj => H.bx 0 rfl hj) ?_
          cases f109
          exact ⟨_, _, rfl, ⟨g0_0, g0_1, g0_2, rfl, rfl⟩, (H.sel [5, 6, 7] rfl).close ⟨cloE, cloE, cloE, trivial⟩⟩
      ·
       clear f91 H
       rintro T6 ⟨s6_0, s6_1⟩ w35 ⟨hr, (H : Cx w0 fp0 S0 w35 [Es (List (ByteArray × Int × Int × (List (Int × Int × ByteArray)))) lib_ lib_h, Bx b4 [(t__0h).v], Es (List (Int × Int × ByteArray)) t__0 t__0h, Bx b7 [(.slice none 0 0), (.slice none 0 0), (.slice none 0 0)], Bx b0 [(g0_0).v, (g0_1).v, (g0_2).v], E (List Int) s0_0 g0_0, E (List Int) s0_1 g0_1, E (List Int) s0_2 g0_2])⟩
       subst hr
       refine fld gok rfl rfl rfl rfl ?_
       refine load1 (H.bx 4 rfl (j := 0) rfl) ?_
       refine lit1S (α := Int) gok rfl rfl rfl rfl H ?_; clear H; intro h8 w36 hx H
       clear hx
       obtain ⟨a44, e, f110⟩ := bindS f92; clear f92
       replace H := H.sel [6, 0, 1, 2, 3, 4, 5, 7, 8] rfl
       refine append_ (α := Int) gok rfl rfl rfl rfl H e ?_; clear e H; intro h9 w37 H
       refine fld gok rfl rfl rfl rfl ?_
       replace H := H.sel [5, 0, 1, 2, 3, 4, 6, 7] rfl
       refine stB (j := 0) H rfl rfl ?_; clear H; intro w38 H
       refine fld gok rfl rfl rfl rfl ?_
       refine load1 (H.bx 0 rfl (j := 1) rfl) ?_
       refine lit1S (α := Int) gok rfl rfl rfl rfl H ?_; clear H; intro h10 w39 hx H
       clear hx
       obtain ⟨a45, e, f111⟩ := bindS f110; clear f110
       replace H := H.sel [7, 0, 1, 2, 3, 4, 5, 6, 8] rfl
       refine append_ (α := Int) gok rfl rfl rfl rfl H e ?_; clear e H; intro h11 w40 H
       refine fld gok rfl rfl rfl rfl ?_
       replace H := H.sel [1, 0, 2, 3, 4, 5, 6, 7] rfl
       refine stB (j := 1) H rfl rfl ?_; clear H; intro w41 H
       refine fld gok rfl rfl rfl rfl ?_
       refine load1 (H.bx 0 rfl (j := 2) rfl) ?_
       refine lit1S (α := Int) gok rfl rfl rfl rfl H ?_; clear H; intro h12 w42 hx H
       clear hx
       obtain ⟨a46, e, f112⟩ := bindS f111; clear f111
       replace H := H.sel [8, 0, 1, 2, 3, 4, 5, 6, 7] rfl
       refine append_ (α := Int) gok rfl rfl rfl rfl H e ?_; clear e H; intro h13 w43 H
       refine fld gok rfl rfl rfl rfl ?_
       replace H := H.sel [1, 0, 2, 3, 4, 5, 6, 7] rfl
       refine stB (j := 2) H rfl rfl ?_; clear H; intro w44 H
       exact ⟨((a44, a45, a46), (h9, h11, h13)), ⟨rfl, rfl, rfl, rfl, rfl, rfl, rfl, trivial⟩, Option.some.inj f112, H.sel [4, 5, 6, 7, 0, 3, 2, 1] rfl⟩
   ·
    clear f5 H
    rintro T7 ⟨⟨s7_0, s7_1, s7_2⟩, ⟨g4_0, g4_1, g4_2⟩⟩ w45 ⟨hr, (H : Cx w0 fp0 S0 w45 [Es (List (ByteArray × Int × Int × (List (Int × Int × ByteArray)))) lib_ lib_h, Bx b4 [(t__0h).v], Es (List (Int × Int × ByteArray)) t__0 t__0h, Bx b7 [(.slice none 0 0), (.slice none 0 0), (.slice none 0 0)], Bx b0 [(g4_0).v, (g4_1).v, (g4_2).v], E (List Int) s7_0 g4_0, E (List Int) s7_1 g4_1, E (List Int) s7_2 g4_2])⟩
    subst hr
    refine arK hk x0 ?_
    have hs := Option.some.inj f6; subst hs; clear f6
    exact ⟨(s7_0, s7_1, s7_2), (g4_0, g4_1, g4_2), rfl, ⟨rfl, rfl, rfl, rfl, rfl, rfl, rfl, trivial⟩, H.sel [0, 1, 2, 3, 4, 5, 6, 7] rfl⟩
  ·
   clear H e
   rintro T8 ⟨s8_0, s8_1, s8_2⟩ ⟨g5_0, g5_1, g5_2⟩ w46 hr (H : Cx w0 fp0 S0 w46 [Es (List (ByteArray × Int × Int × (List (Int × Int × ByteArray)))) lib_ lib_h, Bx b4 [(t__0h).v], Es (List (Int × Int × ByteArray)) t__0 t__0h, Bx b7 [(.slice none 0 0), (.slice none 0 0), (.slice none 0 0)], Bx b0 [(g5_0).v, (g5_1).v, (g5_2).v], E (List Int) s8_0 g5_0, E (List Int) s8_1 g5_1, E (List Int) s8_2 g5_2])
   subst hr
   refine boolE (z := false) geLen ?_
   refine sq ?_
   refine heldX H [10, 11, 8, 9, 7, 0, 1, 2, 3, 4, 5, 6] (.pure 0 (.pure 1 (.pure 2 (.pure 3 (.pure 4 (.pure 5 (.pure 6 (.alts (.alt 7 (.alts (.alt 8 (.pure 9 (.act 10 (.act 11 .done))) (.alt 10 (.act 8 (.act 9 (.act 11 .done))) .no))) (.alt 10 (.act 7 (.act 8 (.act 9 (.act 11 .done)))) .no)))))))))) mixed [((Addr.add ⟨b0, 0, none⟩ 0), (g5_0).v), ((Addr.add ⟨b0, 0, none⟩ 1), (g5_1).v), ((Addr.add ⟨b0, 0, none⟩ 2), (g5_2).v), ((Addr.add ⟨b0, 0, none⟩ 0), (g5_0).v), ((Addr.add ⟨b4, 0, none⟩ 0), (t__0h).v)] ⟨H.bx 4 rfl (j := 0) rfl, H.bx 4 rfl (j := 1) rfl, H.bx 4 rfl (j := 2) rfl, H.bx 4 rfl (j := 0) rfl, H.bx 1 rfl (j := 0) rfl, trivial⟩ (by kernel_rfl) ?_
   clear H; intro w47 H
   have hX : Ext w47 w47 := Upd.refl _ _
   have H0 := H
   refine loadNW 0 [(g5_0).v, (g5_1).v, (g5_2).v] rfl ⟨rfl, rfl, rfl, trivial⟩ ?_
   refine anyH (fun _ => fld gok rfl rfl rfl rfl ⟨rfl, rfl⟩) ?_
   refine load1W 3 rfl ?_
   refine anyH (fun _ => fld gok rfl rfl rfl rfl ⟨rfl, rfl⟩) ?_
   refine load1W 4 rfl ?_
   refine lenE (H.rs (α := List (Int × Int × ByteArray)) 2 rfl).len ?_
   obtain ⟨a47, e, f113⟩ := bindS f3; clear f3
   refine arO e ?_; clear e
   refine both ?_ ?_
   ·
    obtain ⟨a48, e, f114⟩ := bindS f113; clear f113
    have d0 := e; clear e
    obtain ⟨p15, m15, c60, c61, c62, c63⟩ := (H.ro (α := List Int) 5 rfl).at1 d0; clear c63
    refine idxE c60 c61 c62 ?_; clear c62
    refine hold ⟨H.bx 4 rfl (j := 0) rfl, H.bx 4 rfl (j := 1) rfl, H.bx 4 rfl (j := 2) rfl, H.bx 4 rfl (j := 0) rfl, H.bx 1 rfl (j := 0) rfl, trivial⟩ ?_
    refine both ?_ ?_
    ·
     refine load1 ((H.ro (α := List Int) 5 rfl).at1' c60 c61 d0) ?_; clear c60 c61 d0
     refine hold ⟨H.bx 4 rfl (j := 0) rfl, H.bx 4 rfl (j := 1) rfl, H.bx 4 rfl (j := 2) rfl, H.bx 4 rfl (j := 0) rfl, H.bx 1 rfl (j := 0) rfl, trivial⟩ ?_
     obtain ⟨a49, e, f115⟩ := bindS f114; clear f114
     refine boolO e ?_; clear e
     replace H := H.sel [3, 0, 1, 2, 4, 5, 6, 7] rfl
     refine stA gok [(g5_0).v, (g5_1).v, (g5_2).v] rfl H rfl rfl rfl ?_; clear H; intro w48 H
     refine hold ⟨H.bx 4 rfl (j := 0) rfl, H.bx 4 rfl (j := 1) rfl, H.bx 4 rfl (j := 2) rfl, H.bx 4 rfl (j := 0) rfl, H.bx 2 rfl (j := 0) rfl, trivial⟩ ?_
     refine hold ⟨H.bx 4 rfl (j := 0) rfl, H.bx 4 rfl (j := 1) rfl, H.bx 4 rfl (j := 2) rfl, H.bx 4 rfl (j := 0) rfl, H.bx 2 rfl (j := 0) rfl, trivial⟩ ?_
     refine loadN [(g5_0).v, (g5_1).v, (g5_2).v] rfl (fun j u hj => H.bx 0 rfl hj) ?_
     cases f115
     exact ⟨_, _, rfl, ⟨g5_0, g5_1, g5_2, rfl, rfl⟩, (H.sel [5, 6, 7] rfl).close ⟨cloE, cloE, cloE, trivial⟩⟩
    ·
     refine both ?_ ?_
     ·
      obtain ⟨a50, o1, f116⟩ := bindS f114; clear f114
      replace H := H.sel [3, 0, 1, 2, 4, 5, 6, 7] rfl
      refine stA gok [(g5_0).v, (g5_1).v, (g5_2).v] rfl H rfl rfl rfl ?_; clear H; intro w49 H
      refine hold ⟨H.bx 4 rfl (j := 0) rfl, H.bx 4 rfl (j := 1) rfl, H.bx 4 rfl (j := 2) rfl, H.bx 4 rfl (j := 0) rfl, H.bx 2 rfl (j := 0) rfl, trivial⟩ ?_
      refine load1 ((H.ro (α := List Int) 5 rfl).at1' c60 c61 d0) ?_; clear c60 c61 d0
      refine hold ⟨H.bx 4 rfl (j := 0) rfl, H.bx 4 rfl (j := 1) rfl, H.bx 4 rfl (j := 2) rfl, H.bx 4 rfl (j := 0) rfl, H.bx 2 rfl (j := 0) rfl, trivial⟩ ?_
      have e := o1; clear o1
      refine boolO e ?_; clear e
      refine hold ⟨H.bx 4 rfl (j := 0) rfl, H.bx 4 rfl (j := 1) rfl, H.bx 4 rfl (j := 2) rfl, H.bx 4 rfl (j := 0) rfl, H.bx 2 rfl (j := 0) rfl, trivial⟩ ?_
      refine hold ⟨H.bx 4 rfl (j := 0) rfl, H.bx 4 rfl (j := 1) rfl, H.bx 4 rfl (j := 2) rfl, H.bx 4 rfl (j := 0) rfl, H.bx 2 rfl (j := 0) rfl, trivial⟩ ?_
      refine loadN [(g5_0).v, (g5_1).v, (g5_2).v] rfl (fun j u hj => H.bx 0 rfl hj) ?_
      cases f116
      exact ⟨_, _, rfl, ⟨g5_0, g5_1, g5_2, rfl, rfl⟩, (H.sel [5, 6, 7] rfl).close ⟨cloE, cloE, cloE, trivial⟩⟩
     ·
      exact trivial
   ·
    refine both ?_ ?_
    ·
     obtain ⟨a51, o2, f117⟩ := bindS f113; clear f113
     obtain ⟨a52, o3, f118⟩ := bindS f117; clear f117
     replace H := H.sel [3, 0, 1, 2, 4, 5, 6, 7] rfl
     refine stA gok [(g5_0).v, (g5_1).v, (g5_2).v] rfl H rfl rfl rfl ?_; clear H; intro w50 H
     refine hold ⟨H.bx 4 rfl (j := 0) rfl, H.bx 4 rfl (j := 1) rfl, H.bx 4 rfl (j := 2) rfl, H.bx 4 rfl (j := 0) rfl, H.bx 2 rfl (j := 0) rfl, trivial⟩ ?_
     have e := o2; clear o2
     have d1 := e; clear e
     obtain ⟨p16, m16, c64, c65, c66, c67⟩ := (H.ro (α := List Int) 5 rfl).at1 d1; clear c67
     refine idxE c64 c65 c66 ?_; clear c66
     refine hold ⟨H.bx 4 rfl (j := 0) rfl, H.bx 4 rfl (j := 1) rfl, H.bx 4 rfl (j := 2) rfl, H.bx 4 rfl (j := 0) rfl, H.bx 2 rfl (j := 0) rfl, trivial⟩ ?_
     refine load1 ((H.ro (α := List Int) 5 rfl).at1' c64 c65 d1) ?_; clear c64 c65 d1
     refine hold ⟨H.bx 4 rfl (j := 0) rfl, H.bx 4 rfl (j := 1) rfl, H.bx 4 rfl (j := 2) rfl, H.bx 4 rfl (j := 0) rfl, H.bx 2 rfl (j := 0) rfl, trivial⟩ ?_
     have e := o3; clear o3
     refine boolO e ?_; clear e
     refine hold ⟨H.bx 4 rfl (j := 0) rfl, H.bx 4 rfl (j := 1) rfl, H.bx 4 rfl (j := 2) rfl, H.bx 4 rfl (j := 0) rfl, H.bx 2 rfl (j := 0) rfl, trivial⟩ ?_
     refine hold ⟨H.bx 4 rfl (j := 0) rfl, H.bx 4 rfl (j := 1) rfl, H.bx 4 rfl (j := 2) rfl, H.bx 4 rfl (j := 0) rfl, H.bx 2 rfl (j := 0) rfl, trivial⟩ ?_
     refine loadN [(g5_0).v, (g5_1).v, (g5_2).v] rfl (fun j u hj => H.bx 0 rfl hj) ?_
     cases f118
     exact ⟨_, _, rfl, ⟨g5_0, g5_1, g5_2, rfl, rfl⟩, (H.sel [5, 6, 7] rfl).close ⟨cloE, cloE, cloE, trivial⟩⟩
    ·
     exact trivial
 ·
  have f119 := condT f1; clear f1
  refine loadN [(.slice none 0 0), (.slice none 0 0), (.slice none 0 0)] rfl (fun j u hj => H.bx 0 rfl hj) ?_
  replace H := H.sel [1, 0, 2, 3, 4] rfl
  refine stA gok [(.slice none 0 0), (.slice none 0 0), (.slice none 0 0)] rfl H rfl rfl rfl ?_; clear H; intro w51 H
  refine loadN [(.slice none 0 0), (.slice none 0 0), (.slice none 0 0)] rfl (fun j u hj => H.bx 0 rfl hj) ?_
  replace H := H.nil (α := Int)
  replace H := H.nil (α := Int)
  replace H := H.nil (α := Int)
  cases f119
  exact ⟨_, _, rfl, ⟨nilH, nilH, nilH, rfl, rfl⟩, (H.sel [2, 1, 0] rfl).close ⟨cloE, cloE, cloE, trivial⟩⟩

theorem spec_tmScan_c (t__0 : List (Int × Int × ByteArray)) (t__0h : Hd) (y0_0 : List Int) (y0_1 : List Int) (y0_2 : List Int) (y1 : Bool) (hF : F_spec_tmScan t__0 = some ((y0_0, y0_1, y0_2), y1)) :
  ConF Tryz.prog 50 #[(.agg #[(t__0h).v])] [Es (List (Int × Int × ByteArray)) t__0 t__0h] [] (fun v Γ' => ∃ z0 z1 z2 : Hd, v = (.tuple #[(.agg #[(z0).v, (z1).v, (z2).v]), (.bool y1)]) ∧ Γ' = [E (List Int) y0_0 z0, E (List Int) y0_1 z1, E (List Int) y0_2 z2]) := by
 intro w0 S0 fp0 hI hS
 have H : Cx w0 fp0 S0 w0 [Es (List (Int × Int × ByteArray)) t__0 t__0h] := Cx.start hI hS
 clear hI hS
 refine enterC (args := [_]) gok Tryz.func50 rfl _ rfl rfl rfl ?_
 refine box_ H ?_; clear H; intro b3 w2 hx H
 clear hx
 refine alloc_ gok rfl H ?_; clear H; intro b6 w5 hx H
 clear hx
 refine loadN [(t__0h).v] rfl (fun j u hj => H.bx 1 rfl hj) ?_
 replace H := H.nil (α := ByteArray × Int × Int × (List (Int × Int × ByteArray)))
 obtain ⟨y9, e, f0⟩ := bindS hF; clear hF
 obtain ⟨⟨y9_0_0, y9_0_1, y9_0_2⟩, y9_1⟩ := y9
 have ey9 := e; clear e
 refine callF (spec_lbScan_c [] nilH t__0 t__0h y9_0_0 y9_0_1 y9_0_2 y9_1 ey9) (Γi := []) H ⟨Vw.own 0 rfl, Vw.sh 3 rfl, trivial⟩ ?_; clear H ey9
 rintro _ _ w1 ⟨h0, h1, h2, rfl, rfl⟩ H
 replace H := H.sel [4, 0, 1, 2, 3, 5, 6] rfl
 refine stA gok [(h0).v, (h1).v, (h2).v] rfl H rfl rfl rfl ?_; clear H; intro w3 H
 refine loadN [(h0).v, (h1).v, (h2).v] rfl (fun j u hj => H.bx 0 rfl hj) ?_
 cases f0
 exact ⟨_, _, rfl, ⟨h0, h1, h2, rfl, rfl⟩, (H.sel [1, 2, 3] rfl).close ⟨cloE, cloE, cloE, trivial⟩⟩

theorem spec_tmValid_c (t__0 : List (Int × Int × ByteArray)) (t__0h : Hd) (y : Bool) (hF : F_spec_tmValid t__0 = some y) :
  ConF Tryz.prog 22 #[(.agg #[(t__0h).v])] [Es (List (Int × Int × ByteArray)) t__0 t__0h] [] (fun v Γ' => v = (.bool y) ∧ Γ' = []) := by
 intro w0 S0 fp0 hI hS
 have H : Cx w0 fp0 S0 w0 [Es (List (Int × Int × ByteArray)) t__0 t__0h] := Cx.start hI hS
 clear hI hS
 refine enterC (args := [_]) gok Tryz.func22 rfl _ rfl rfl rfl ?_
 refine box_ H ?_; clear H; intro b3 w2 hx H
 clear hx
 refine loadN [(t__0h).v] rfl (fun j u hj => H.bx 0 rfl hj) ?_
 obtain ⟨y5, e, hF6⟩ := bindS hF; clear hF
 obtain ⟨⟨y5_0_0, y5_0_1, y5_0_2⟩, y5_1⟩ := y5
 have ey5 := e; clear e
 refine callF (spec_tmScan_c t__0 t__0h y5_0_0 y5_0_1 y5_0_2 y5_1 ey5) (Γi := []) H ⟨Vw.sh 1 rfl, trivial⟩ ?_; clear H ey5
 rintro _ _ w7 ⟨h8, h0, h1, rfl, rfl⟩ H
 refine alloc_ gok rfl H ?_; clear H; intro b0 w1 hx H
 clear hx
 refine stA gok [(h8).v, (h0).v, (h1).v] rfl H rfl rfl rfl ?_; clear H; intro w3 H
 cases hF6
 exact ⟨_, _, rfl, ⟨rfl, rfl⟩, (H.sel [] rfl).close trivial⟩

theorem spec_tmTop_c (t__0 : List (Int × Int × ByteArray)) (t__0h : Hd) (y : Int) (hF : F_spec_tmTop t__0 = some y) :
  ConF Tryz.prog 51 #[(.agg #[(t__0h).v])] [Es (List (Int × Int × ByteArray)) t__0 t__0h] [] (fun v Γ' => v = (.int .i64 y) ∧ Γ' = []) := by
 intro w0 S0 fp0 hI hS
 have H : Cx w0 fp0 S0 w0 [Es (List (Int × Int × ByteArray)) t__0 t__0h] := Cx.start hI hS
 clear hI hS
 refine enterC (args := [_]) gok Tryz.func51 rfl _ rfl rfl rfl ?_
 refine box_ H ?_; clear H; intro b3 w2 hx H
 clear hx
 refine fld gok rfl rfl rfl rfl ?_
 refine load1 (H.bx 0 rfl (j := 0) rfl) ?_
 refine fld gok rfl rfl rfl rfl ?_
 refine load1 (H.bx 0 rfl (j := 0) rfl) ?_
 refine lenE (H.rs (α := List (Int × Int × ByteArray)) 1 rfl).len ?_
 obtain ⟨a5, e, hF6⟩ := bindS hF; clear hF
 refine arO e ?_; clear e
 obtain ⟨a0, e, f0⟩ := bindS hF6; clear hF6
 have HH := H; clear H; obtain ⟨p0, m0, g0, c7, c8, c9, c0, H⟩ := HH.el (α := Int × Int × ByteArray) 1 rfl e; clear HH
 clear e
 obtain ⟨a0_0, a0_1, a0_2⟩ := a0
 obtain ⟨_, _, _⟩ := g0
 replace H := H.sel [1, 2] rfl
 refine idxE c7 c8 c9 ?_; clear c7 c8 c9
 refine fld gok rfl rfl rfl rfl ?_
 refine load1 (c0 0 _ rfl) ?_
 cases f0
 exact ⟨_, _, rfl, ⟨rfl, rfl⟩, (H.sel [] rfl).close trivial⟩

theorem spec_hgId_c (n_ : Int) (y_0 : Int) (y_1 : List (Int × Int × List Int × List Int)) (y_2 : List Int) (y_3 : List Int) (hF : F_spec_hgId n_ = some (y_0, y_1, y_2, y_3)) :
  ConF Tryz.prog 80 #[(.int .i64 n_)] [] [] (fun v Γ' => ∃ z0 z1 z2 : Hd, v = (.agg #[(.int .i64 y_0), (z0).v, (z1).v, (z2).v]) ∧ Γ' = [E (List (Int × Int × List Int × List Int)) y_1 z0, E (List Int) y_2 z1, E (List Int) y_3 z2]) := by
 intro w0 S0 fp0 hI hS
 have H : Cx w0 fp0 S0 w0 [] := Cx.start hI hS
 clear hI hS
 refine enterC (args := [_]) gok Tryz.func80 rfl _ rfl rfl rfl ?_
 refine alloc_ gok rfl H ?_; clear H; intro b2 w1 hx H
 clear hx
 refine build_ (cs := #[(.int .i64 n_), (.slice none 0 0), (.slice none 0 0), (.slice none 0 0)]) gok rfl rfl rfl ?_
 refine alloc_ gok rfl H ?_; clear H; intro b5 w4 hx H
 clear hx
 refine stA gok [(.int .i64 n_), (.slice none 0 0), (.slice none 0 0), (.slice none 0 0)] rfl H rfl rfl rfl ?_; clear H; intro w7 H
 obtain ⟨r0, f0, f1⟩ := bindS hF; clear hF
 refine cut (fun (q0 : (List Int × List Int) × (Hd × Hd)) => [(2, (.pointer (some ⟨b2, 0, none⟩))), (3, (.pointer (some ⟨b5, 0, none⟩)))]) (fun (q0 : (List Int × List Int) × (Hd × Hd)) w' => (q0.1.1, q0.1.2) = r0 ∧ Cx w0 fp0 S0 w' [Bx b2 [(.int .i64 0), (.slice none 0 0), (.slice none 0 0), (.slice none 0 0)], Bx b5 [(.int .i64 n_), (.slice none 0 0), (q0.2.1).v, (q0.2.2).v], E (List Int) q0.1.1 q0.2.1, E (List Int) q0.1.2 q0.2.2]) ?_ ?_
 ·
  replace H := H.nil (α := Int)
  replace H := H.nil (α := Int)
  refine loopW _ (fun (s0 : List Int × List Int × Int) (g0 : Hd × Hd) => [(0, (.int .i64 n_)), (2, (.pointer (some ⟨b2, 0, none⟩))), (3, (.pointer (some ⟨b5, 0, none⟩))), (4, (.int .i64 s0.2.2))]) (fun (s0 : List Int × List Int × Int) (g0 : Hd × Hd) w' => Cx w0 fp0 S0 w' [Bx b2 [(.int .i64 0), (.slice none 0 0), (.slice none 0 0), (.slice none 0 0)], Bx b5 [(.int .i64 n_), (.slice none 0 0), (g0.1).v, (g0.2).v], E (List Int) s0.1 g0.1, E (List Int) s0.2.1 g0.2]) ([], [], 0) (nilH, nilH) f0 ⟨rfl, rfl, rfl, rfl, trivial⟩ (H.sel [3, 2, 1, 0] rfl) ?_
  ·
   clear H
   rintro T0 ⟨s0_0, s0_1, s0_2⟩ ⟨g0_0, g0_1⟩ w2 o0 (H : Cx w0 fp0 S0 w2 [Bx b2 [(.int .i64 0), (.slice none 0 0), (.slice none 0 0), (.slice none 0 0)], Bx b5 [(.int .i64 n_), (.slice none 0 0), (g0_0).v, (g0_1).v], E (List Int) s0_0 g0_0, E (List Int) s0_1 g0_1]) hrt f2
   refine sq ?_
   obtain ⟨a0, e, f3⟩ := bindS f2; clear f2
   refine boolO e ?_; clear e
   cases a0
   ·
    have f4 := condF f3; clear f3
    have hs := Option.some.inj f4; subst hs; clear f4
    have f5 : some _ = some _ := congrArg some (hrt _ rfl).symm
    exact ⟨((s0_0, s0_1), (g0_0, g0_1)), ⟨rfl, rfl, trivial⟩, Option.some.inj f5, H.sel [0, 1, 2, 3] rfl⟩
   ·
    have f6 := condT f3; clear f3
    refine sq ?_
    refine fld gok rfl rfl rfl rfl ?_
    refine load1 (H.bx 1 rfl (j := 2) rfl) ?_
    refine lit1S (α := Int) gok rfl rfl rfl rfl H ?_; clear H; intro h0 w3 hx H
    clear hx
    obtain ⟨a1, e, f7⟩ := bindS f6; clear f6
    replace H := H.sel [3, 0, 1, 2, 4] rfl
    refine append_ (α := Int) gok rfl rfl rfl rfl H e ?_; clear e H; intro h1 w5 H
    refine fld gok rfl rfl rfl rfl ?_
    replace H := H.sel [2, 0, 1, 3] rfl
    refine stB (j := 2) H rfl rfl ?_; clear H; intro w6 H
    refine fld gok rfl rfl rfl rfl ?_
    refine load1 (H.bx 0 rfl (j := 3) rfl) ?_
    refine lit1S (α := Int) gok rfl rfl rfl rfl H ?_; clear H; intro h2 w8 hx H
    clear hx
    obtain ⟨a2, e, f8⟩ := bindS f7; clear f7
    replace H := H.sel [4, 0, 1, 2, 3] rfl
    refine append_ (α := Int) gok rfl rfl rfl rfl H e ?_; clear e H; intro h3 w9 H
    refine fld gok rfl rfl rfl rfl ?_
    replace H := H.sel [1, 0, 2, 3] rfl
    refine stB (j := 3) H rfl rfl ?_; clear H; intro w10 H
    obtain ⟨a3, e, f9⟩ := bindS f8; clear f8
    refine arO e ?_; clear e
    have hs := Option.some.inj f9; subst hs; clear f9
    exact ⟨(a1, a2, a3), (h1, h3), rfl, ⟨rfl, rfl, rfl, rfl, trivial⟩, H.sel [3, 0, 2, 1] rfl⟩
 ·
  clear f0 H
  rintro T1 ⟨⟨s1_0, s1_1⟩, ⟨g1_0, g1_1⟩⟩ w11 ⟨hr, (H : Cx w0 fp0 S0 w11 [Bx b2 [(.int .i64 0), (.slice none 0 0), (.slice none 0 0), (.slice none 0 0)], Bx b5 [(.int .i64 n_), (.slice none 0 0), (g1_0).v, (g1_1).v], E (List Int) s1_0 g1_0, E (List Int) s1_1 g1_1])⟩
  subst hr
  refine loadN [(.int .i64 n_), (.slice none 0 0), (g1_0).v, (g1_1).v] rfl (fun j u hj => H.bx 1 rfl hj) ?_
  refine stA gok [(.int .i64 n_), (.slice none 0 0), (g1_0).v, (g1_1).v] rfl H rfl rfl rfl ?_; clear H; intro w12 H
  refine loadN [(.int .i64 n_), (.slice none 0 0), (g1_0).v, (g1_1).v] rfl (fun j u hj => H.bx 0 rfl hj) ?_
  replace H := H.nil (α := Int × Int × List Int × List Int)
  cases f1
  exact ⟨_, _, rfl, ⟨nilH, g1_0, g1_1, rfl, rfl⟩, (H.sel [0, 3, 4] rfl).close ⟨cloE, cloE, cloE, trivial⟩⟩

theorem spec_hgLeaf_c (x__0 : Int) (x__1 : Int) (x__2 : ByteArray) (y_0 : Int) (y_1 : List (Int × Int × List Int × List Int)) (y_2 : List Int) (y_3 : List Int) (hF : F_spec_hgLeaf (x__0, x__1, x__2) = some (y_0, y_1, y_2, y_3)) :
  ConF Tryz.prog 52 #[(.agg #[(.int .i64 x__0), (.int .i64 x__1), (.string x__2)])] [] [] (fun v Γ' => ∃ z0 z1 z2 : Hd, v = (.agg #[(.int .i64 y_0), (z0).v, (z1).v, (z2).v]) ∧ Γ' = [E (List (Int × Int × List Int × List Int)) y_1 z0, E (List Int) y_2 z1, E (List Int) y_3 z2]) := by
 intro w0 S0 fp0 hI hS
 have H : Cx w0 fp0 S0 w0 [] := Cx.start hI hS
 clear hI hS
 refine enterC (args := [_]) gok Tryz.func52 rfl _ rfl rfl rfl ?_
 refine box_ H ?_; clear H; intro b2 w1 hx H
 clear hx
 refine alloc_ gok rfl H ?_; clear H; intro b5 w4 hx H
 clear hx
 refine sq ?_
 refine fld gok rfl rfl rfl rfl ?_
 refine load1 (H.bx 1 rfl (j := 0) rfl) ?_
 obtain ⟨a7, e, hF8⟩ := bindS hF; clear hF
 refine boolO e ?_; clear e
 cases a7
 ·
  have hF9 := condF hF8; clear hF8
  obtain ⟨a0, e, f0⟩ := bindS hF9; clear hF9
  refine boolO e ?_; clear e
  cases a0
  ·
   have f1 := condF f0; clear f0
   refine fld gok rfl rfl rfl rfl ?_
   refine load1 (H.bx 1 rfl (j := 0) rfl) ?_
   obtain ⟨y0, e, f2⟩ := bindS f1; clear f1
   obtain ⟨y0_0, y0_1⟩ := y0
   have i0 := e; clear e
   refine callF (spec_tmKind_c x__0 y0_0 y0_1 i0) (Γi := []) H trivial ?_; clear H i0
   rintro _ _ w2 ⟨rfl, rfl⟩ H
   obtain ⟨a1, e, f3⟩ := bindS f2; clear f2
   refine arO e ?_; clear e
   refine build_ (cs := #[(.int .i64 a1), (.slice none 0 0), (.slice none 0 0), (.slice none 0 0)]) gok rfl rfl rfl ?_
   refine alloc_ gok rfl H ?_; clear H; intro b0 w3 hx H
   clear hx
   refine stA gok [(.int .i64 a1), (.slice none 0 0), (.slice none 0 0), (.slice none 0 0)] rfl H rfl rfl rfl ?_; clear H; intro w5 H
   refine fld gok rfl rfl rfl rfl ?_
   refine load1 (H.bx 2 rfl (j := 0) rfl) ?_
   refine fld gok rfl rfl rfl rfl ?_
   refine load1 (H.bx 2 rfl (j := 1) rfl) ?_
   refine build_ (cs := #[(.int .i64 x__0), (.int .i64 x__1), (.slice none 0 0), (.slice none 0 0)]) gok rfl rfl rfl ?_
   refine alloc_ gok rfl H ?_; clear H; intro b1 w6 hx H
   clear hx
   refine stA gok [(.int .i64 x__0), (.int .i64 x__1), (.slice none 0 0), (.slice none 0 0)] rfl H rfl rfl rfl ?_; clear H; intro w7 H
   obtain ⟨r0, f4, f5⟩ := bindS f3; clear f3
   refine cut (fun (q0 : (List Int × List Int × List Int × List Int) × (Hd × Hd × Hd × Hd)) => [(2, (.pointer (some ⟨b5, 0, none⟩))), (5, (.pointer (some ⟨b0, 0, none⟩))), (6, (.pointer (some ⟨b1, 0, none⟩)))]) (fun (q0 : (List Int × List Int × List Int × List Int) × (Hd × Hd × Hd × Hd)) w' => (q0.1.1, q0.1.2.1, q0.1.2.2.1, q0.1.2.2.2) = r0 ∧ Cx w0 fp0 S0 w' [Bx b5 [(.int .i64 0), (.slice none 0 0), (.slice none 0 0), (.slice none 0 0)], Bx b0 [(.int .i64 a1), (.slice none 0 0), (q0.2.1).v, (q0.2.2.1).v], E (List Int) q0.1.1 q0.2.1, E (List Int) q0.1.2.1 q0.2.2.1, Bx b1 [(.int .i64 x__0), (.int .i64 x__1), (q0.2.2.2.1).v, (q0.2.2.2.2).v], E (List Int) q0.1.2.2.1 q0.2.2.2.1, E (List Int) q0.1.2.2.2 q0.2.2.2.2]) ?_ ?_
   ·
    replace H := H.nil (α := Int)
    replace H := H.nil (α := Int)
    replace H := H.nil (α := Int)
    replace H := H.nil (α := Int)
    refine loopW _ (fun (s0 : List Int × List Int × List Int × List Int × Int) (g0 : Hd × Hd × Hd × Hd) => [(2, (.pointer (some ⟨b5, 0, none⟩))), (3, (.int .i64 y0_0)), (4, (.int .i64 y0_1)), (5, (.pointer (some ⟨b0, 0, none⟩))), (6, (.pointer (some ⟨b1, 0, none⟩))), (7, (.int .i64 s0.2.2.2.2))]) (fun (s0 : List Int × List Int × List Int × List Int × Int) (g0 : Hd × Hd × Hd × Hd) w' => Cx w0 fp0 S0 w' [Bx b5 [(.int .i64 0), (.slice none 0 0), (.slice none 0 0), (.slice none 0 0)], Bx b0 [(.int .i64 a1), (.slice none 0 0), (g0.1).v, (g0.2.1).v], E (List Int) s0.1 g0.1, E (List Int) s0.2.1 g0.2.1, Bx b1 [(.int .i64 x__0), (.int .i64 x__1), (g0.2.2.1).v, (g0.2.2.2).v], E (List Int) s0.2.2.1 g0.2.2.1, E (List Int) s0.2.2.2.1 g0.2.2.2]) ([], [], [], [], 0) (nilH, nilH, nilH, nilH) f4 ⟨rfl, rfl, rfl, rfl, rfl, rfl, trivial⟩ (H.sel [6, 5, 3, 2, 4, 1, 0] rfl) ?_
    ·
     clear H
     rintro T0 ⟨s0_0, s0_1, s0_2, s0_3, s0_4⟩ ⟨g0_0, g0_1, g0_2, g0_3⟩ w8 o0 (H : Cx w0 fp0 S0 w8 [Bx b5 [(.int .i64 0), (.slice none 0 0), (.slice none 0 0), (.slice none 0 0)], Bx b0 [(.int .i64 a1), (.slice none 0 0), (g0_0).v, (g0_1).v], E (List Int) s0_0 g0_0, E (List Int) s0_1 g0_1, Bx b1 [(.int .i64 x__0), (.int .i64 x__1), (g0_2).v, (g0_3).v], E (List Int) s0_2 g0_2, E (List Int) s0_3 g0_3]) hrt f6
     refine sq ?_
     obtain ⟨a2, e, f7⟩ := bindS f6; clear f6
     refine arO e ?_; clear e
     obtain ⟨a3, e, f8⟩ := bindS f7; clear f7
     refine boolO e ?_; clear e
     cases a3
     ·
      have f9 := condF f8; clear f8
      have hs := Option.some.inj f9; subst hs; clear f9
      have f10 : some _ = some _ := congrArg some (hrt _ rfl).symm
      exact ⟨((s0_0, s0_1, s0_2, s0_3), (g0_0, g0_1, g0_2, g0_3)), ⟨rfl, rfl, rfl, trivial⟩, Option.some.inj f10, H.sel [0, 1, 2, 3, 4, 5, 6] rfl⟩
     ·
      have f11 := condT f8; clear f8
      refine sq ?_
      obtain ⟨a4, e, f12⟩ := bindS f11; clear f11
      refine boolO e ?_; clear e
      cases a4
      ·
       have f13 := condF f12; clear f12
       refine fld gok rfl rfl rfl rfl ?_
       refine load1 (H.bx 1 rfl (j := 3) rfl) ?_
       refine lit1S (α := Int) gok rfl rfl rfl rfl H ?_; clear H; intro h0 w9 hx H
       clear hx
       obtain ⟨a5, e, f14⟩ := bindS f13; clear f13
       replace H := H.sel [4, 0, 1, 2, 3, 5, 6, 7] rfl
       refine append_ (α := Int) gok rfl rfl rfl rfl H e ?_; clear e H; intro h1 w10 H
       refine fld gok rfl rfl rfl rfl ?_
       replace H := H.sel [2, 0, 1, 3, 4, 5, 6] rfl
       refine stB (j := 3) H rfl rfl ?_; clear H; intro w11 H
       refine fld gok rfl rfl rfl rfl ?_
       refine load1 (H.bx 4 rfl (j := 3) rfl) ?_
       refine lit1S (α := Int) gok rfl rfl rfl rfl H ?_; clear H; intro h2 w12 hx H
       clear hx
       obtain ⟨a6, e, f15⟩ := bindS f14; clear f14
       replace H := H.sel [7, 0, 1, 2, 3, 4, 5, 6] rfl
       refine append_ (α := Int) gok rfl rfl rfl rfl H e ?_; clear e H; intro h3 w13 H
       refine fld gok rfl rfl rfl rfl ?_
       replace H := H.sel [5, 0, 1, 2, 3, 4, 6] rfl
       refine stB (j := 3) H rfl rfl ?_; clear H; intro w14 H
       obtain ⟨a8, e, f16⟩ := bindS f15; clear f15
       refine arO e ?_; clear e
       have hs := Option.some.inj f16; subst hs; clear f16
       exact ⟨(s0_0, a5, s0_2, a6, a8), (g0_0, h1, g0_2, h3), rfl, ⟨rfl, rfl, rfl, rfl, rfl, rfl, trivial⟩, H.sel [4, 2, 5, 3, 0, 6, 1] rfl⟩
      ·
       have f17 := condT f12; clear f12
       refine fld gok rfl rfl rfl rfl ?_
       refine load1 (H.bx 1 rfl (j := 2) rfl) ?_
       refine lit1S (α := Int) gok rfl rfl rfl rfl H ?_; clear H; intro h4 w16 hx H
       clear hx
       obtain ⟨a9, e, f18⟩ := bindS f17; clear f17
       replace H := H.sel [3, 0, 1, 2, 4, 5, 6, 7] rfl
       refine append_ (α := Int) gok rfl rfl rfl rfl H e ?_; clear e H; intro h5 w17 H
       refine fld gok rfl rfl rfl rfl ?_
       replace H := H.sel [2, 0, 1, 3, 4, 5, 6] rfl
       refine stB (j := 2) H rfl rfl ?_; clear H; intro w19 H
       refine fld gok rfl rfl rfl rfl ?_
       refine load1 (H.bx 4 rfl (j := 2) rfl) ?_
       refine lit1S (α := Int) gok rfl rfl rfl rfl H ?_; clear H; intro h6 w20 hx H
       clear hx
       obtain ⟨a11, e, f19⟩ := bindS f18; clear f18
       replace H := H.sel [6, 0, 1, 2, 3, 4, 5, 7] rfl
       refine append_ (α := Int) gok rfl rfl rfl rfl H e ?_; clear e H; intro h7 w23 H
       refine fld gok rfl rfl rfl rfl ?_
       replace H := H.sel [5, 0, 1, 2, 3, 4, 6] rfl
       refine stB (j := 2) H rfl rfl ?_; clear H; intro w24 H
       obtain ⟨a12, e, f20⟩ := bindS f19; clear f19
       refine arO e ?_; clear e
       have hs := Option.some.inj f20; subst hs; clear f20
       exact ⟨(a9, s0_1, a11, s0_3, a12), (h5, g0_1, h7, g0_3), rfl, ⟨rfl, rfl, rfl, rfl, rfl, rfl, trivial⟩, H.sel [4, 2, 3, 5, 0, 1, 6] rfl⟩
   ·
    clear f4 H
    rintro T1 ⟨⟨s1_0, s1_1, s1_2, s1_3⟩, ⟨g1_0, g1_1, g1_2, g1_3⟩⟩ w26 ⟨hr, (H : Cx w0 fp0 S0 w26 [Bx b5 [(.int .i64 0), (.slice none 0 0), (.slice none 0 0), (.slice none 0 0)], Bx b0 [(.int .i64 a1), (.slice none 0 0), (g1_0).v, (g1_1).v], E (List Int) s1_0 g1_0, E (List Int) s1_1 g1_1, Bx b1 [(.int .i64 x__0), (.int .i64 x__1), (g1_2).v, (g1_3).v], E (List Int) s1_2 g1_2, E (List Int) s1_3 g1_3])⟩
    subst hr
    refine loadN [(.int .i64 x__0), (.int .i64 x__1), (g1_2).v, (g1_3).v] rfl (fun j u hj => H.bx 4 rfl hj) ?_
    replace H := H.sel [5, 6, 0, 1, 2, 3, 4] rfl
    replace H := H.join (α := List Int) (β := List Int)
    replace H := H.sc (α := Int) x__1
    replace H := H.join (α := Int) (β := List Int × List Int)
    replace H := H.sc (α := Int) x__0
    replace H := H.join (α := Int) (β := Int × List Int × List Int)
    refine lit1 (α := Int × Int × List Int × List Int) (g := ((), (), g1_2, g1_3)) gok rfl rfl rfl rfl rfl H ?_; clear H; intro h8 w27 hx H
    clear hx
    refine fld gok rfl rfl rfl rfl ?_
    replace H := H.sel [2, 0, 1, 3, 4, 5] rfl
    refine stB (j := 1) H rfl rfl ?_; clear H; intro w28 H
    refine loadN [(.int .i64 a1), (h8).v, (g1_0).v, (g1_1).v] rfl (fun j u hj => H.bx 0 rfl hj) ?_
    replace H := H.sel [2, 0, 1, 3, 4, 5] rfl
    refine stA gok [(.int .i64 a1), (h8).v, (g1_0).v, (g1_1).v] rfl H rfl rfl rfl ?_; clear H; intro w29 H
    refine loadN [(.int .i64 a1), (h8).v, (g1_0).v, (g1_1).v] rfl (fun j u hj => H.bx 0 rfl hj) ?_
    cases f5
    exact ⟨_, _, rfl, ⟨h8, g1_0, g1_1, rfl, rfl⟩, (H.sel [2, 3, 4] rfl).close ⟨cloE, cloE, cloE, trivial⟩⟩
  ·
   have f21 := condT f0; clear f0
   replace H := H.sc (α := Int) 1
   replace H := H.sc (α := Int) 0
   refine litN (α := Int) (us := [(.int .i64 0), (.int .i64 1)]) (xs := [0, 1]) (gs := [(), ()]) gok rfl rfl rfl ⟨rfl, rfl, trivial⟩ rfl rfl H ?_; clear H; intro h9 w30 hx H
   clear hx
   replace H := H.sc (α := Int) 0
   replace H := H.sc (α := Int) 1
   refine litN (α := Int) (us := [(.int .i64 1), (.int .i64 0)]) (xs := [1, 0]) (gs := [(), ()]) gok rfl rfl rfl ⟨rfl, rfl, trivial⟩ rfl rfl H ?_; clear H; intro h10 w31 hx H
   clear hx
   refine build_ (cs := #[(.int .i64 2), (.slice none 0 0), (h9).v, (h10).v]) gok rfl rfl rfl ?_
   replace H := H.sel [2, 0, 1, 3] rfl
   refine stA gok [(.int .i64 2), (.slice none 0 0), (h9).v, (h10).v] rfl H rfl rfl rfl ?_; clear H; intro w32 H
   refine loadN [(.int .i64 2), (.slice none 0 0), (h9).v, (h10).v] rfl (fun j u hj => H.bx 0 rfl hj) ?_
   replace H := H.nil (α := Int × Int × List Int × List Int)
   cases f21
   exact ⟨_, _, rfl, ⟨nilH, h9, h10, rfl, rfl⟩, (H.sel [0, 3, 2] rfl).close ⟨cloE, cloE, cloE, trivial⟩⟩
 ·
  have f22 := condT hF8; clear hF8
  refine fld gok rfl rfl rfl rfl ?_
  refine load1 (H.bx 1 rfl (j := 1) rfl) ?_
  obtain ⟨y1, e, f23⟩ := bindS f22; clear f22
  obtain ⟨y1_0, y1_1, y1_2, y1_3⟩ := y1
  have i1 := e; clear e
  refine callF (spec_hgId_c x__1 y1_0 y1_1 y1_2 y1_3 i1) (Γi := []) H trivial ?_; clear H i1
  rintro _ _ w33 ⟨h11, h12, h13, rfl, rfl⟩ H
  replace H := H.sel [3, 0, 1, 2, 4] rfl
  refine stA gok [(.int .i64 y1_0), (h11).v, (h12).v, (h13).v] rfl H rfl rfl rfl ?_; clear H; intro w34 H
  refine loadN [(.int .i64 y1_0), (h11).v, (h12).v, (h13).v] rfl (fun j u hj => H.bx 0 rfl hj) ?_
  cases f23
  exact ⟨_, _, rfl, ⟨h11, h12, h13, rfl, rfl⟩, (H.sel [1, 2, 3] rfl).close ⟨cloE, cloE, cloE, trivial⟩⟩

theorem spec_tmOwn_c (nodes_ : List (Int × Int × ByteArray)) (nodes_h : Hd) (y_0 : List (Int × Int × ByteArray)) (hF : F_spec_tmOwn nodes_ = some y_0) :
  ConF Tryz.prog 82 #[(nodes_h).v] [Es (List (Int × Int × ByteArray)) nodes_ nodes_h] [] (fun v Γ' => ∃ z0 : Hd, v = (.agg #[(z0).v]) ∧ Γ' = [E (List (Int × Int × ByteArray)) y_0 z0]) := by
 intro w0 S0 fp0 hI hS
 have H : Cx w0 fp0 S0 w0 [Es (List (Int × Int × ByteArray)) nodes_ nodes_h] := Cx.start hI hS
 clear hI hS
 refine enterC (args := [_]) gok Tryz.func82 rfl _ rfl rfl rfl ?_
 refine alloc_ gok rfl H ?_; clear H; intro b3 w2 hx H
 clear hx
 refine lit0 (α := Int × Int × ByteArray) gok rfl rfl H ?_; clear H; intro h6 w5 hx H
 clear hx
 obtain ⟨a8, e, hF9⟩ := bindS hF; clear hF
 replace H := H.frzE (α := Int × Int × ByteArray)
 refine appendSh (α := Int × Int × ByteArray) gok rfl rfl rfl rfl rfl H 1 rfl e ?_; clear e H; intro h0 w1 H
 replace H := H.unSh
 refine build_ (cs := #[(h0).v]) gok rfl rfl rfl ?_
 replace H := H.sel [1, 0, 2] rfl
 refine stA gok [(h0).v] rfl H rfl rfl rfl ?_; clear H; intro w3 H
 refine loadN [(h0).v] rfl (fun j u hj => H.bx 0 rfl hj) ?_
 cases hF9
 exact ⟨_, _, rfl, ⟨h0, rfl, rfl⟩, (H.sel [1] rfl).close ⟨cloE, trivial⟩⟩

theorem spec_tmParts_c (t__0 : List (Int × Int × ByteArray)) (t__0h : Hd) (y0_0 : List (Int × Int × ByteArray)) (y1_0 : List (Int × Int × ByteArray)) (hF : F_spec_tmParts t__0 = some (y0_0, y1_0)) :
  ConF Tryz.prog 53 #[(.agg #[(t__0h).v])] [Es (List (Int × Int × ByteArray)) t__0 t__0h] [] (fun v Γ' => ∃ z0 z1 : Hd, v = (.tuple #[(.agg #[(z0).v]), (.agg #[(z1).v])]) ∧ Γ' = [E (List (Int × Int × ByteArray)) y0_0 z0, E (List (Int × Int × ByteArray)) y1_0 z1]) := by
 intro w0 S0 fp0 hI hS
 have H : Cx w0 fp0 S0 w0 [Es (List (Int × Int × ByteArray)) t__0 t__0h] := Cx.start hI hS
 clear hI hS
 refine enterC (args := [_]) gok Tryz.func53 rfl _ rfl rfl rfl ?_
 refine box_ H ?_; clear H; intro b3 w2 hx H
 clear hx
 refine alloc_ gok rfl H ?_; clear H; intro b6 w5 hx H
 clear hx
 refine alloc_ gok rfl H ?_; clear H; intro b9 w8 hx H
 clear hx
 refine loadN [(t__0h).v] rfl (fun j u hj => H.bx 2 rfl hj) ?_
 obtain ⟨y0, e, f0⟩ := bindS hF; clear hF
 obtain ⟨⟨y0_0_0, y0_0_1, y0_0_2⟩, y0_1⟩ := y0
 have i0 := e; clear e
 refine callF (spec_tmScan_c t__0 t__0h y0_0_0 y0_0_1 y0_0_2 y0_1 i0) (Γi := []) H ⟨Vw.sh 3 rfl, trivial⟩ ?_; clear H i0
 rintro _ _ w1 ⟨h0, h1, h2, rfl, rfl⟩ H
 refine alloc_ gok rfl H ?_; clear H; intro b0 w3 hx H
 clear hx
 refine stA gok [(h0).v, (h1).v, (h2).v] rfl H rfl rfl rfl ?_; clear H; intro w4 H
 refine fld gok rfl rfl rfl rfl ?_
 refine load1 (H.bx 6 rfl (j := 0) rfl) ?_
 refine lenE (H.rs (α := List (Int × Int × ByteArray)) 7 rfl).len ?_
 obtain ⟨a0, e, f1⟩ := bindS f0; clear f0
 refine arO e ?_; clear e
 refine fld gok rfl rfl rfl rfl ?_
 refine load1 (H.bx 0 rfl (j := 0) rfl) ?_
 obtain ⟨a1, e, f2⟩ := bindS f1; clear f1
 refine arO e ?_; clear e
 obtain ⟨a2, e, f3⟩ := bindS f2; clear f2
 obtain ⟨p0, m0, c0, c1, c2, c3⟩ := (H.ro (α := List Int) 1 rfl).at1 e; clear e
 refine idxE c0 c1 c2 ?_; clear c0 c1 c2
 refine load1 c3 ?_; clear c3
 refine heldX H [11, 12] (.fst 0 (.fst 2 (.fst 5 (.fst 7 (.fst 8 (.fst 1 (.fst 3 (.fst 6 (.fst 9 (.act 4 (.act 10 (.act 11 (.act 12 .done))))))))))))) mixed [] trivial (by kernel_rfl) ?_
 clear H; intro w6 H
 have hX : Ext w6 w6 := Upd.refl _ _
 have H0 := H
 refine anyH (fun _ => fld gok rfl rfl rfl rfl ⟨rfl, rfl⟩) ?_
 refine anyH (fun _ => fld gok rfl rfl rfl rfl ⟨rfl, rfl⟩) ?_
 refine load1X (H.bx 6 rfl (j := 0) rfl) ?_
 obtain ⟨a3, e, f4⟩ := bindS f3; clear f3
 refine slSX (α := Int × Int × ByteArray) gok rfl rfl H 7 rfl e rfl rfl ?_; clear e; intro h3 HH; clear H; have H := HH; clear HH
 refine load1X (H.bx 7 rfl (j := 0) rfl) ?_
 obtain ⟨a4, e, f5⟩ := bindS f4; clear f4
 refine slSX (α := Int × Int × ByteArray) gok rfl rfl H 8 rfl e rfl rfl ?_; clear e; intro h4 HH; clear H; have H := HH; clear HH
 obtain ⟨y1, e, f6⟩ := bindS f5; clear f5
 obtain ⟨y1_0, rfl⟩ : ∃ z, z = y1 := ⟨_, rfl⟩
 have i1 := e; clear e
 refine callFx (spec_tmOwn_c a3 h3 y1_0 i1) H ⟨Vw.sh 1 rfl, trivial⟩ ?_; clear H i1
 rintro _ _ w7 ⟨h5, rfl, rfl⟩ hx H
 replace hX := hX.trans0 hx; clear hx
 refine hold hX ?_
 obtain ⟨y2, e, f7⟩ := bindS f6; clear f6
 obtain ⟨y2_0, rfl⟩ : ∃ z, z = y2 := ⟨_, rfl⟩
 have i2 := e; clear e
 refine callFx (spec_tmOwn_c a4 h4 y2_0 i2) H ⟨Vw.sh 1 rfl, trivial⟩ ?_; clear H i2
 rintro _ _ w9 ⟨h6, rfl, rfl⟩ hx H
 replace hX := hX.trans0 hx; clear hx
 refine hold hX ?_
 replace H := H.sel [9, 0, 1, 2, 3, 4, 5, 6, 7, 8, 10, 11] rfl
 refine stA gok [(h5).v] rfl H rfl rfl rfl ?_; clear H; intro w10 H
 refine hold trivial ?_
 replace H := H.sel [9, 0, 1, 2, 3, 4, 5, 6, 7, 8, 10, 11] rfl
 refine stA gok [(h6).v] rfl H rfl rfl rfl ?_; clear H; intro w11 H
 refine hold trivial ?_
 refine loadN [(h5).v] rfl (fun j u hj => H.bx 1 rfl hj) ?_
 refine loadN [(h6).v] rfl (fun j u hj => H.bx 0 rfl hj) ?_
 cases f7
 exact ⟨_, _, rfl, ⟨h5, h6, rfl, rfl⟩, (H.sel [3, 2] rfl).close ⟨cloE, cloE, trivial⟩⟩

theorem spec_hgList_c (l_ : List Int) (l_h : Hd) (to_ : List Int) (to_h : Hd) (y : List Int) (hF : F_spec_hgList l_ to_ = some y) :
  ConF Tryz.prog 124 #[(l_h).v, (to_h).v] [Es (List Int) l_ l_h, Es (List Int) to_ to_h] [] (fun v Γ' => ∃ z0 : Hd, v = (z0).v ∧ Γ' = [E (List Int) y z0]) := by
 intro w0 S0 fp0 hI hS
 have H : Cx w0 fp0 S0 w0 [Es (List Int) l_ l_h, Es (List Int) to_ to_h] := Cx.start hI hS
 clear hI hS
 refine enterC (args := [_, _]) gok Tryz.func124 rfl _ rfl rfl rfl ?_
 refine sq ?_
 refine lenE (H.rs (α := List Int) 0 rfl).len ?_
 have x0 := (H.rs (α := List Int) 0 rfl).max
 obtain ⟨r0, e, f0⟩ := bindS hF; clear hF
 replace H := H.nil (α := Int)
 refine loopS _ l_.length (fun (k3 : Nat) (s0 : List Int) (g0 : Hd) => [(1, (to_h).v), (5, (g0).v), (8, (l_h).v), (9, (.int .i64 ((l_.length : Nat) : Int))), (10, (.int .i64 ((k3 : Nat) : Int)))]) (fun _ (s0 : List Int) (g0 : Hd) w' => Cx w0 fp0 S0 w' [Es (List Int) to_ to_h, E (List Int) s0 g0, Es (List Int) l_ l_h]) [] nilH e ⟨rfl, rfl, rfl, rfl, rfl, trivial⟩ (H.sel [2, 0, 1] rfl) ?_ ?_
 ·
  clear H e
  rintro T0 k3 s0 g0 w1 o0 hk (H : Cx w0 fp0 S0 w1 [Es (List Int) to_ to_h, E (List Int) s0 g0, Es (List Int) l_ l_h]) f1
  refine boolE (z := true) (ltLen hk) ?_
  refine sq ?_
  refine sq ?_
  obtain ⟨a0, e, f2⟩ := bindS f1; clear f1
  obtain ⟨p0, m0, c0, c1, c2, c3⟩ := (H.rs (α := List Int) 2 rfl).at1 e; clear e
  refine idxE c0 c1 c2 ?_; clear c0 c1 c2
  refine load1 c3 ?_; clear c3
  obtain ⟨a1, e, f3⟩ := bindS f2; clear f2
  obtain ⟨p1, m1, c4, c5, c6, c7⟩ := (H.rs (α := List Int) 0 rfl).at1 e; clear e
  refine idxE c4 c5 c6 ?_; clear c4 c5 c6
  refine load1 c7 ?_; clear c7
  refine lit1S (α := Int) gok rfl rfl rfl rfl H ?_; clear H; intro h0 w2 hx H
  clear hx
  obtain ⟨a2, e, f4⟩ := bindS f3; clear f3
  replace H := H.sel [2, 0, 1, 3] rfl
  refine append_ (α := Int) gok rfl rfl rfl rfl H e ?_; clear e H; intro h1 w3 H
  refine arK hk x0 ?_
  have hs := Option.some.inj f4; subst hs; clear f4
  exact ⟨h1, ⟨rfl, rfl, rfl, rfl, rfl, trivial⟩, H.sel [1, 0, 2] rfl⟩
 ·
  clear H e
  rintro T1 g1 w4 (H : Cx w0 fp0 S0 w4 [Es (List Int) to_ to_h, E (List Int) r0 g1, Es (List Int) l_ l_h])
  refine boolE (z := false) geLen ?_
  refine sq ?_
  cases f0
  exact ⟨_, _, rfl, ⟨g1, rfl, rfl⟩, (H.sel [1] rfl).close ⟨cloE, trivial⟩⟩

theorem spec_hgMap_c (g__0 : Int) (g__1 : List (Int × Int × List Int × List Int)) (g__1h : Hd) (g__2 : List Int) (g__2h : Hd) (g__3 : List Int) (g__3h : Hd) (to_ : List Int) (to_h : Hd) (wires_ : Int) (y_0 : Int) (y_1 : List (Int × Int × List Int × List Int)) (y_2 : List Int) (y_3 : List Int) (hF : F_spec_hgMap (g__0, g__1, g__2, g__3) to_ wires_ = some (y_0, y_1, y_2, y_3)) :
  ConF Tryz.prog 113 #[(.agg #[(.int .i64 g__0), (g__1h).v, (g__2h).v, (g__3h).v]), (to_h).v, (.int .i64 wires_)] [Es (List (Int × Int × List Int × List Int)) g__1 g__1h, Es (List Int) g__2 g__2h, Es (List Int) g__3 g__3h, Es (List Int) to_ to_h] [] (fun v Γ' => ∃ z0 z1 z2 : Hd, v = (.agg #[(.int .i64 y_0), (z0).v, (z1).v, (z2).v]) ∧ Γ' = [E (List (Int × Int × List Int × List Int)) y_1 z0, E (List Int) y_2 z1, E (List Int) y_3 z2]) := by
 intro w0 S0 fp0 hI hS
 have H : Cx w0 fp0 S0 w0 [Es (List (Int × Int × List Int × List Int)) g__1 g__1h, Es (List Int) g__2 g__2h, Es (List Int) g__3 g__3h, Es (List Int) to_ to_h] := Cx.start hI hS
 clear hI hS
 refine enterC (args := [_, _, _]) gok Tryz.func113 rfl _ rfl rfl rfl ?_
 refine box_ H ?_; clear H; intro b6 w5 hx H
 clear hx
 refine alloc_ gok rfl H ?_; clear H; intro b9 w8 hx H
 clear hx
 obtain ⟨r0, f0, f1⟩ := bindS hF; clear hF
 refine heldJ H [] (.fst 0 (.fst 1 (.fst 3 (.fst 5 (.fst 7 (.fst 2 (.fst 6 (.alts (.alt 4 (.alts (.alt 8 (.fst 9 (.act 10 (.act 11 .done))) (.alt 10 (.act 8 (.fst 9 (.act 11 .done))) .no))) (.alt 10 (.act 4 (.act 8 (.fst 9 (.act 11 .done)))) .no)))))))))) mixed [] trivial (by kernel_rfl) (fun (q0 : (Int × List Int × List Int) × (Hd × Hd × Nat)) => [(1, (to_h).v), (3, (.pointer (some ⟨b6, 0, none⟩))), (6, (.pointer (some ⟨b9, 0, none⟩))), (7, (.pointer (some ⟨q0.2.2.2, 0, none⟩)))]) (fun (q0 : (Int × List Int × List Int) × (Hd × Hd × Nat)) w' => (q0.1.1, q0.1.2.1, q0.1.2.2) = r0 ∧ Cx w0 fp0 S0 w' [Es (List Int) to_ to_h, Bx b6 [(.int .i64 g__0), (g__1h).v, (g__2h).v, (g__3h).v], Es (List (Int × Int × List Int × List Int)) g__1 g__1h, Es (List Int) g__2 g__2h, Es (List Int) g__3 g__3h, Bx b9 [(.int .i64 0), (.slice none 0 0), (.slice none 0 0), (.slice none 0 0)], Bx q0.2.2.2 [(.int .i64 q0.1.1), (.slice none 0 0), (q0.2.1).v, (q0.2.2.1).v], E (List Int) q0.1.2.1 q0.2.1, E (List Int) q0.1.2.2 q0.2.2.1]) ?_ ?_
 ·
  clear H; intro w1 H
  have hX : Ext w1 w1 := Upd.refl _ _
  have H0 := H
  refine anyH (fun _ => fld gok rfl rfl rfl rfl ⟨rfl, rfl⟩) ?_
  refine anyH (fun _ => fld gok rfl rfl rfl rfl ⟨rfl, rfl⟩) ?_
  refine load1X (H.bx 1 rfl (j := 2) rfl) ?_
  refine load1X (H.bx 1 rfl (j := 3) rfl) ?_
  refine both ?_ ?_
  ·
   obtain ⟨y0, e, f2⟩ := bindS f0; clear f0
   have i0 := e; clear e
   refine callFx (spec_hgList_c g__2 g__2h to_ to_h y0 i0) H ⟨Vw.sh 3 rfl, Vw.sh 5 rfl, trivial⟩ ?_; clear H i0
   rintro _ _ w2 ⟨h0, rfl, rfl⟩ hx H
   replace hX := hX.trans0 hx; clear hx
   refine hold hX ?_
   refine both ?_ ?_
   ·
    obtain ⟨y1, e, f3⟩ := bindS f2; clear f2
    have i1 := e; clear e
    refine callFx (spec_hgList_c g__3 g__3h to_ to_h y1 i1) H ⟨Vw.sh 5 rfl, Vw.sh 6 rfl, trivial⟩ ?_; clear H i1
    rintro _ _ w3 ⟨h1, rfl, rfl⟩ hx H
    replace hX := hX.trans0 hx; clear hx
    refine hold hX ?_
    refine anyH (fun _ => build_ (cs := #[(.int .i64 wires_), (.slice none 0 0), (h0).v, (h1).v]) gok rfl rfl rfl ⟨rfl, rfl⟩) ?_
    refine allocX gok rfl H ?_; clear H; intro b0 w4 hx v0 H; replace v0 := Nat.le_trans hX.size v0
    replace hX := hX.trans0 hx; clear hx
    refine hold hX ?_
    refine stAX gok [(.int .i64 wires_), (.slice none 0 0), (h0).v, (h1).v] rfl H rfl rfl rfl ?_; clear H; intro w6 hu H
    replace hX := hX.fresh hu v0; clear hu
    refine hold hX ?_
    exact ⟨((wires_, y0, y1), (h0, h1, b0)), ⟨rfl, rfl, rfl, rfl, trivial⟩, Option.some.inj f3, H.sel [8, 4, 5, 6, 7, 3, 0, 2, 1] rfl⟩
   ·
    refine both ?_ ?_
    ·
     obtain ⟨a0, o0, f4⟩ := bindS f2; clear f2
     refine allocX gok rfl H ?_; clear H; intro b1 w7 hx v1 H; replace v1 := Nat.le_trans hX.size v1
     replace hX := hX.trans0 hx; clear hx
     refine hold hX ?_
     have e := o0; clear o0
     have i2 := e; clear e
     refine callFx (spec_hgList_c g__3 g__3h to_ to_h a0 i2) H ⟨Vw.sh 6 rfl, Vw.sh 7 rfl, trivial⟩ ?_; clear H i2
     rintro _ _ w9 ⟨h2, rfl, rfl⟩ hx H
     replace hX := hX.trans0 hx; clear hx
     refine hold hX ?_
     refine anyH (fun _ => build_ (cs := #[(.int .i64 wires_), (.slice none 0 0), (h0).v, (h2).v]) gok rfl rfl rfl ⟨rfl, rfl⟩) ?_
     replace H := H.sel [1, 0, 2, 3, 4, 5, 6, 7, 8] rfl
     refine stAX gok [(.int .i64 wires_), (.slice none 0 0), (h0).v, (h2).v] rfl H rfl rfl rfl ?_; clear H; intro w10 hu H
     replace hX := hX.fresh hu v1; clear hu
     refine hold hX ?_
     exact ⟨((wires_, y0, a0), (h0, h2, b1)), ⟨rfl, rfl, rfl, rfl, trivial⟩, Option.some.inj f4, H.sel [8, 4, 5, 6, 7, 3, 0, 2, 1] rfl⟩
    ·
     exact trivial
  ·
   refine both ?_ ?_
   ·
    obtain ⟨a1, o1, f5⟩ := bindS f0; clear f0
    obtain ⟨a2, o2, f6⟩ := bindS f5; clear f5
    refine allocX gok rfl H ?_; clear H; intro b2 w11 hx v2 H; replace v2 := Nat.le_trans hX.size v2
    replace hX := hX.trans0 hx; clear hx
    refine hold hX ?_
    have e := o1; clear o1
    have i3 := e; clear e
    refine callFx (spec_hgList_c g__2 g__2h to_ to_h a1 i3) H ⟨Vw.sh 4 rfl, Vw.sh 6 rfl, trivial⟩ ?_; clear H i3
    rintro _ _ w12 ⟨h3, rfl, rfl⟩ hx H
    replace hX := hX.trans0 hx; clear hx
    refine hold hX ?_
    have e := o2; clear o2
    have i4 := e; clear e
    refine callFx (spec_hgList_c g__3 g__3h to_ to_h a2 i4) H ⟨Vw.sh 6 rfl, Vw.sh 7 rfl, trivial⟩ ?_; clear H i4
    rintro _ _ w13 ⟨h4, rfl, rfl⟩ hx H
    replace hX := hX.trans0 hx; clear hx
    refine hold hX ?_
    refine anyH (fun _ => build_ (cs := #[(.int .i64 wires_), (.slice none 0 0), (h3).v, (h4).v]) gok rfl rfl rfl ⟨rfl, rfl⟩) ?_
    replace H := H.sel [2, 0, 1, 3, 4, 5, 6, 7, 8] rfl
    refine stAX gok [(.int .i64 wires_), (.slice none 0 0), (h3).v, (h4).v] rfl H rfl rfl rfl ?_; clear H; intro w14 hu H
    replace hX := hX.fresh hu v2; clear hu
    refine hold hX ?_
    exact ⟨((wires_, a1, a2), (h3, h4, b2)), ⟨rfl, rfl, rfl, rfl, trivial⟩, Option.some.inj f6, H.sel [8, 4, 5, 6, 7, 3, 0, 2, 1] rfl⟩
   ·
    exact trivial
 ·
  clear f0 H
  rintro T0 ⟨⟨s0_0, s0_1, s0_2⟩, ⟨g0_0, g0_1, g0_2⟩⟩ w15 ⟨hr, (H : Cx w0 fp0 S0 w15 [Es (List Int) to_ to_h, Bx b6 [(.int .i64 g__0), (g__1h).v, (g__2h).v, (g__3h).v], Es (List (Int × Int × List Int × List Int)) g__1 g__1h, Es (List Int) g__2 g__2h, Es (List Int) g__3 g__3h, Bx b9 [(.int .i64 0), (.slice none 0 0), (.slice none 0 0), (.slice none 0 0)], Bx g0_2 [(.int .i64 s0_0), (.slice none 0 0), (g0_0).v, (g0_1).v], E (List Int) s0_1 g0_0, E (List Int) s0_2 g0_1])⟩
  subst hr
  refine sq ?_
  refine fld gok rfl rfl rfl rfl ?_
  refine load1 (H.bx 1 rfl (j := 1) rfl) ?_
  refine lenE (H.rs (α := List (Int × Int × List Int × List Int)) 2 rfl).len ?_
  have x0 := (H.rs (α := List (Int × Int × List Int × List Int)) 2 rfl).max
  obtain ⟨r1, e, f7⟩ := bindS f1; clear f1
  replace H := H.nil (α := Int × Int × List Int × List Int)
  refine loopS _ g__1.length (fun (k0 : Nat) (s1 : List (Int × Int × List Int × List Int)) (g1 : Hd) => [(1, (to_h).v), (6, (.pointer (some ⟨b9, 0, none⟩))), (7, (.pointer (some ⟨g0_2, 0, none⟩))), (21, (g__1h).v), (22, (.int .i64 ((g__1.length : Nat) : Int))), (23, (.int .i64 ((k0 : Nat) : Int)))]) (fun _ (s1 : List (Int × Int × List Int × List Int)) (g1 : Hd) w' => Cx w0 fp0 S0 w' [Es (List Int) to_ to_h, Bx b9 [(.int .i64 0), (.slice none 0 0), (.slice none 0 0), (.slice none 0 0)], Bx g0_2 [(.int .i64 s0_0), (g1).v, (g0_0).v, (g0_1).v], E (List (Int × Int × List Int × List Int)) s1 g1, E (List Int) s0_1 g0_0, E (List Int) s0_2 g0_1, Es (List (Int × Int × List Int × List Int)) g__1 g__1h]) [] nilH e ⟨rfl, rfl, rfl, rfl, rfl, rfl, trivial⟩ (H.sel [1, 6, 7, 0, 8, 9, 3] rfl) ?_ ?_
  ·
   clear H e
   rintro T1 k0 s1 g1 w16 o3 hk (H : Cx w0 fp0 S0 w16 [Es (List Int) to_ to_h, Bx b9 [(.int .i64 0), (.slice none 0 0), (.slice none 0 0), (.slice none 0 0)], Bx g0_2 [(.int .i64 s0_0), (g1).v, (g0_0).v, (g0_1).v], E (List (Int × Int × List Int × List Int)) s1 g1, E (List Int) s0_1 g0_0, E (List Int) s0_2 g0_1, Es (List (Int × Int × List Int × List Int)) g__1 g__1h]) f8
   refine boolE (z := true) (ltLen hk) ?_
   refine sq ?_
   refine sq ?_
   obtain ⟨a3, e, f9⟩ := bindS f8; clear f8
   have HH := H; clear H; obtain ⟨p0, m0, g2, c0, c1, c2, c3, H⟩ := HH.el (α := Int × Int × List Int × List Int) 6 rfl e; clear HH
   clear e
   obtain ⟨a3_0, a3_1, a3_2, a3_3⟩ := a3
   obtain ⟨_, _, h5, h6⟩ := g2
   replace H := H.part (β := List Int) a3_2 (h5 : Hd) 0 rfl (fun S h => (And.left (And.right (And.right h))))
   replace H := H.part (β := List Int) a3_3 (h6 : Hd) 1 rfl (fun S h => (And.right (And.right (And.right h))))
   replace H := H.sel [0, 1, 3, 4, 5, 6, 7, 8, 9] rfl
   refine idxE c0 c1 c2 ?_; clear c0 c1 c2
   refine loadN [(.int .i64 a3_0), (.int .i64 a3_1), (h5).v, (h6).v] rfl c3 ?_; clear c3
   refine alloc_ gok rfl H ?_; clear H; intro b3 w17 hx H
   clear hx
   refine stA gok [(.int .i64 a3_0), (.int .i64 a3_1), (h5).v, (h6).v] rfl H rfl rfl rfl ?_; clear H; intro w18 H
   refine heldX H [16, 18, 17] (.fst 0 (.fst 2 (.fst 4 (.fst 6 (.fst 8 (.fst 10 (.fst 12 (.fst 1 (.fst 3 (.fst 5 (.fst 7 (.fst 11 (.act 9 (.act 13 (.fst 14 (.act 15 (.act 16 (.act 17 (.act 18 .done))))))))))))))))))) mixed [] trivial (by kernel_rfl) ?_
   clear H; intro w19 H
   have hX : Ext w19 w19 := Upd.refl _ _
   have H0 := H
   refine anyH (fun _ => fld gok rfl rfl rfl rfl ⟨rfl, rfl⟩) ?_
   refine anyH (fun _ => fld gok rfl rfl rfl rfl ⟨rfl, rfl⟩) ?_
   refine anyH (fun _ => fld gok rfl rfl rfl rfl ⟨rfl, rfl⟩) ?_
   refine anyH (fun _ => fld gok rfl rfl rfl rfl ⟨rfl, rfl⟩) ?_
   refine anyH (fun _ => fld gok rfl rfl rfl rfl ⟨rfl, rfl⟩) ?_
   refine load1X (H.bx 5 rfl (j := 1) rfl) ?_
   refine load1X (H.bx 0 rfl (j := 0) rfl) ?_
   refine load1X (H.bx 0 rfl (j := 1) rfl) ?_
   refine load1X (H.bx 0 rfl (j := 2) rfl) ?_
   refine load1X (H.bx 0 rfl (j := 3) rfl) ?_
   obtain ⟨y2, e, f10⟩ := bindS f9; clear f9
   have i5 := e; clear e
   refine callFx (spec_hgList_c a3_2 h5 to_ to_h y2 i5) H ⟨Vw.sh 2 rfl, Vw.sh 3 rfl, trivial⟩ ?_; clear H i5
   rintro _ _ w20 ⟨h7, rfl, rfl⟩ hx H
   replace hX := hX.trans0 hx; clear hx
   refine hold hX ?_
   obtain ⟨y3, e, f11⟩ := bindS f10; clear f10
   have i6 := e; clear e
   refine callFx (spec_hgList_c a3_3 h6 to_ to_h y3 i6) H ⟨Vw.sh 2 rfl, Vw.sh 4 rfl, trivial⟩ ?_; clear H i6
   rintro _ _ w21 ⟨h8, rfl, rfl⟩ hx H
   replace hX := hX.trans0 hx; clear hx
   refine hold hX ?_
   refine anyH (fun _ => build_ (cs := #[(.int .i64 a3_0), (.int .i64 a3_1), (h7).v, (h8).v]) gok rfl rfl rfl ⟨rfl, rfl⟩) ?_
   replace H := H.sel [1, 0, 2, 3, 4, 5, 6, 7, 8, 9, 10, 11] rfl
   replace H := H.join (α := List Int) (β := List Int)
   replace H := H.sc (α := Int) a3_1
   replace H := H.join (α := Int) (β := List Int × List Int)
   replace H := H.sc (α := Int) a3_0
   replace H := H.join (α := Int) (β := Int × List Int × List Int)
   refine lit1 (α := Int × Int × List Int × List Int) (g := ((), (), h7, h8)) gok rfl rfl rfl rfl rfl H ?_; clear H; intro h9 w22 hx H
   replace hX := hX.trans0 hx; clear hx
   refine hold hX ?_
   obtain ⟨a4, e, f12⟩ := bindS f11; clear f11
   replace H := H.sel [7, 0, 1, 2, 3, 4, 5, 6, 8, 9, 10] rfl
   refine append_ (α := Int × Int × List Int × List Int) gok rfl rfl rfl rfl H e ?_; clear e H; intro h10 w23 H
   refine hold trivial ?_
   refine fld gok rfl rfl rfl rfl ?_
   refine hold trivial ?_
   replace H := H.sel [6, 0, 1, 2, 3, 4, 5, 7, 8, 9] rfl
   refine stB (j := 1) H rfl rfl ?_; clear H; intro w24 H
   refine hold trivial ?_
   refine arK hk x0 ?_
   have hs := Option.some.inj f12; subst hs; clear f12
   exact ⟨h10, ⟨rfl, rfl, rfl, rfl, rfl, rfl, trivial⟩, H.sel [5, 6, 0, 1, 7, 8, 9] rfl⟩
  ·
   clear H e
   rintro T2 g3 w25 (H : Cx w0 fp0 S0 w25 [Es (List Int) to_ to_h, Bx b9 [(.int .i64 0), (.slice none 0 0), (.slice none 0 0), (.slice none 0 0)], Bx g0_2 [(.int .i64 s0_0), (g3).v, (g0_0).v, (g0_1).v], E (List (Int × Int × List Int × List Int)) r1 g3, E (List Int) s0_1 g0_0, E (List Int) s0_2 g0_1, Es (List (Int × Int × List Int × List Int)) g__1 g__1h])
   refine boolE (z := false) geLen ?_
   refine sq ?_
   refine loadN [(.int .i64 s0_0), (g3).v, (g0_0).v, (g0_1).v] rfl (fun j u hj => H.bx 2 rfl hj) ?_
   replace H := H.sel [1, 0, 2, 3, 4, 5, 6] rfl
   refine stA gok [(.int .i64 s0_0), (g3).v, (g0_0).v, (g0_1).v] rfl H rfl rfl rfl ?_; clear H; intro w26 H
   refine loadN [(.int .i64 s0_0), (g3).v, (g0_0).v, (g0_1).v] rfl (fun j u hj => H.bx 0 rfl hj) ?_
   cases f7
   exact ⟨_, _, rfl, ⟨g3, g0_0, g0_1, rfl, rfl⟩, (H.sel [3, 4, 5] rfl).close ⟨cloE, cloE, cloE, trivial⟩⟩

theorem spec_hgOwn_c (g__0 : Int) (g__1 : List (Int × Int × List Int × List Int)) (g__1h : Hd) (g__2 : List Int) (g__2h : Hd) (g__3 : List Int) (g__3h : Hd) (y_0 : Int) (y_1 : List (Int × Int × List Int × List Int)) (y_2 : List Int) (y_3 : List Int) (hF : F_spec_hgOwn (g__0, g__1, g__2, g__3) = some (y_0, y_1, y_2, y_3)) :
  ConF Tryz.prog 112 #[(.agg #[(.int .i64 g__0), (g__1h).v, (g__2h).v, (g__3h).v])] [Es (List (Int × Int × List Int × List Int)) g__1 g__1h, Es (List Int) g__2 g__2h, Es (List Int) g__3 g__3h] [] (fun v Γ' => ∃ z0 z1 z2 : Hd, v = (.agg #[(.int .i64 y_0), (z0).v, (z1).v, (z2).v]) ∧ Γ' = [E (List (Int × Int × List Int × List Int)) y_1 z0, E (List Int) y_2 z1, E (List Int) y_3 z2]) := by
 intro w0 S0 fp0 hI hS
 have H : Cx w0 fp0 S0 w0 [Es (List (Int × Int × List Int × List Int)) g__1 g__1h, Es (List Int) g__2 g__2h, Es (List Int) g__3 g__3h] := Cx.start hI hS
 clear hI hS
 refine enterC (args := [_]) gok Tryz.func112 rfl _ rfl rfl rfl ?_
 refine box_ H ?_; clear H; intro b5 w4 hx H
 clear hx
 refine alloc_ gok rfl H ?_; clear H; intro b8 w7 hx H
 clear hx
 refine fld gok rfl rfl rfl rfl ?_
 refine load1 (H.bx 1 rfl (j := 0) rfl) ?_
 obtain ⟨a0, e, f0⟩ := bindS hF; clear hF
 refine make_ (α := Int) gok rfl rfl rfl rfl (makeCO_of e) H ?_; clear e H; intro h0 w1 hx H
 clear hx
 refine sq ?_
 refine lenE (H.ro (α := List Int) 0 rfl).len ?_
 have x0 := (H.ro (α := List Int) 0 rfl).max
 obtain ⟨r0, e, f1⟩ := bindS f0; clear f0
 refine loopS _ a0.length (fun (k0 : Nat) (s0 : List Int) (_ : Unit) => [(1, (.pointer (some ⟨b5, 0, none⟩))), (2, (.pointer (some ⟨b8, 0, none⟩))), (3, (h0).v), (9, (.int .i64 ((a0.length : Nat) : Int))), (10, (.int .i64 ((k0 : Nat) : Int)))]) (fun _ (s0 : List Int) (_ : Unit) w' => Cx w0 fp0 S0 w' [Bx b5 [(.int .i64 g__0), (g__1h).v, (g__2h).v, (g__3h).v], Es (List (Int × Int × List Int × List Int)) g__1 g__1h, Es (List Int) g__2 g__2h, Es (List Int) g__3 g__3h, Bx b8 [(.int .i64 0), (.slice none 0 0), (.slice none 0 0), (.slice none 0 0)], E (List Int) s0 h0]) a0 () e ⟨rfl, rfl, rfl, rfl, rfl, trivial⟩ (H.sel [2, 3, 4, 5, 1, 0] rfl) ?_ ?_
 ·
  clear H e
  rintro T0 k0 s0 _ w2 o0 hk (H : Cx w0 fp0 S0 w2 [Bx b5 [(.int .i64 g__0), (g__1h).v, (g__2h).v, (g__3h).v], Es (List (Int × Int × List Int × List Int)) g__1 g__1h, Es (List Int) g__2 g__2h, Es (List Int) g__3 g__3h, Bx b8 [(.int .i64 0), (.slice none 0 0), (.slice none 0 0), (.slice none 0 0)], E (List Int) s0 h0]) f2
  refine boolE (z := true) (ltLen hk) ?_
  refine sq ?_
  refine sq ?_
  obtain ⟨a1, e, f3⟩ := bindS f2; clear f2
  have i0 := e; clear e
  obtain ⟨p0, m0, c0, c1, c2⟩ := (H.ro (α := List Int) 5 rfl).setp i0
  refine idxE c0 c1 c2 ?_
  replace H := H.sel [5, 0, 1, 2, 3, 4] rfl
  refine setS (α := Int) H c0 c1 i0 ?_; clear H c0 c1 c2 i0; intro w3 H
  refine arK hk x0 ?_
  have hs := Option.some.inj f3; subst hs; clear f3
  exact ⟨(), ⟨rfl, rfl, rfl, rfl, rfl, trivial⟩, H.sel [1, 2, 3, 4, 5, 0] rfl⟩
 ·
  clear H e
  rintro T1 _ w5 (H : Cx w0 fp0 S0 w5 [Bx b5 [(.int .i64 g__0), (g__1h).v, (g__2h).v, (g__3h).v], Es (List (Int × Int × List Int × List Int)) g__1 g__1h, Es (List Int) g__2 g__2h, Es (List Int) g__3 g__3h, Bx b8 [(.int .i64 0), (.slice none 0 0), (.slice none 0 0), (.slice none 0 0)], E (List Int) r0 h0])
  refine boolE (z := false) geLen ?_
  refine sq ?_
  refine loadN [(.int .i64 g__0), (g__1h).v, (g__2h).v, (g__3h).v] rfl (fun j u hj => H.bx 0 rfl hj) ?_
  refine fld gok rfl rfl rfl rfl ?_
  refine load1 (H.bx 0 rfl (j := 0) rfl) ?_
  obtain ⟨y0, e, f4⟩ := bindS f1; clear f1
  obtain ⟨y0_0, y0_1, y0_2, y0_3⟩ := y0
  have i1 := e; clear e
  refine callF (spec_hgMap_c g__0 g__1 g__1h g__2 g__2h g__3 g__3h r0 h0 g__0 y0_0 y0_1 y0_2 y0_3 i1) (Γi := []) H ⟨Vw.sh 1 rfl, Vw.sh 2 rfl, Vw.sh 3 rfl, Vw.own 5 rfl, trivial⟩ ?_; clear H i1
  rintro _ _ w6 ⟨h1, h2, h3, rfl, rfl⟩ H
  replace H := H.sel [7, 0, 1, 2, 3, 4, 5, 6, 8] rfl
  refine stA gok [(.int .i64 y0_0), (h1).v, (h2).v, (h3).v] rfl H rfl rfl rfl ?_; clear H; intro w8 H
  refine loadN [(.int .i64 y0_0), (h1).v, (h2).v, (h3).v] rfl (fun j u hj => H.bx 0 rfl hj) ?_
  cases f4
  exact ⟨_, _, rfl, ⟨h1, h2, h3, rfl, rfl⟩, (H.sel [1, 2, 3] rfl).close ⟨cloE, cloE, cloE, trivial⟩⟩

theorem spec_hgBeside_c (a__0 : Int) (a__1 : List (Int × Int × List Int × List Int)) (a__1h : Hd) (a__2 : List Int) (a__2h : Hd) (a__3 : List Int) (a__3h : Hd) (b__0 : Int) (b__1 : List (Int × Int × List Int × List Int)) (b__1h : Hd) (b__2 : List Int) (b__2h : Hd) (b__3 : List Int) (b__3h : Hd) (y_0 : Int) (y_1 : List (Int × Int × List Int × List Int)) (y_2 : List Int) (y_3 : List Int) (hF : F_spec_hgBeside (a__0, a__1, a__2, a__3) (b__0, b__1, b__2, b__3) = some (y_0, y_1, y_2, y_3)) :
  ConF Tryz.prog 84 #[(.agg #[(.int .i64 a__0), (a__1h).v, (a__2h).v, (a__3h).v]), (.agg #[(.int .i64 b__0), (b__1h).v, (b__2h).v, (b__3h).v])] [Es (List (Int × Int × List Int × List Int)) a__1 a__1h, Es (List Int) a__2 a__2h, Es (List Int) a__3 a__3h, Es (List (Int × Int × List Int × List Int)) b__1 b__1h, Es (List Int) b__2 b__2h, Es (List Int) b__3 b__3h] [] (fun v Γ' => ∃ z0 z1 z2 : Hd, v = (.agg #[(.int .i64 y_0), (z0).v, (z1).v, (z2).v]) ∧ Γ' = [E (List (Int × Int × List Int × List Int)) y_1 z0, E (List Int) y_2 z1, E (List Int) y_3 z2]) := by
 intro w0 S0 fp0 hI hS
 have H : Cx w0 fp0 S0 w0 [Es (List (Int × Int × List Int × List Int)) a__1 a__1h, Es (List Int) a__2 a__2h, Es (List Int) a__3 a__3h, Es (List (Int × Int × List Int × List Int)) b__1 b__1h, Es (List Int) b__2 b__2h, Es (List Int) b__3 b__3h] := Cx.start hI hS
 clear hI hS
 refine enterC (args := [_, _]) gok Tryz.func84 rfl _ rfl rfl rfl ?_
 refine box_ H ?_; clear H; intro b8 w7 hx H
 clear hx
 refine box_ H ?_; clear H; intro b0 w1 hx H
 clear hx
 refine alloc_ gok rfl H ?_; clear H; intro b1 w2 hx H
 clear hx
 refine fld gok rfl rfl rfl rfl ?_
 refine load1 (H.bx 1 rfl (j := 0) rfl) ?_
 obtain ⟨a0, e, f0⟩ := bindS hF; clear hF
 refine make_ (α := Int) gok rfl rfl rfl rfl (makeCO_of e) H ?_; clear e H; intro h0 w3 hx H
 clear hx
 refine sq ?_
 refine lenE (H.ro (α := List Int) 0 rfl).len ?_
 have x0 := (H.ro (α := List Int) 0 rfl).max
 obtain ⟨r0, e, f1⟩ := bindS f0; clear f0
 refine loopS _ a0.length (fun (k0 : Nat) (s0 : List Int) (_ : Unit) => [(2, (.pointer (some ⟨b8, 0, none⟩))), (3, (.pointer (some ⟨b0, 0, none⟩))), (4, (.pointer (some ⟨b1, 0, none⟩))), (5, (h0).v), (13, (.int .i64 ((a0.length : Nat) : Int))), (14, (.int .i64 ((k0 : Nat) : Int)))]) (fun _ (s0 : List Int) (_ : Unit) w' => Cx w0 fp0 S0 w' [Bx b8 [(.int .i64 a__0), (a__1h).v, (a__2h).v, (a__3h).v], Es (List (Int × Int × List Int × List Int)) a__1 a__1h, Es (List Int) a__2 a__2h, Es (List Int) a__3 a__3h, Bx b0 [(.int .i64 b__0), (b__1h).v, (b__2h).v, (b__3h).v], Es (List (Int × Int × List Int × List Int)) b__1 b__1h, Es (List Int) b__2 b__2h, Es (List Int) b__3 b__3h, Bx b1 [(.int .i64 0), (.slice none 0 0), (.slice none 0 0), (.slice none 0 0)], E (List Int) s0 h0]) a0 () e ⟨rfl, rfl, rfl, rfl, rfl, rfl, trivial⟩ (H.sel [3, 4, 5, 6, 2, 7, 8, 9, 1, 0] rfl) ?_ ?_
 ·
  clear H e
  rintro T0 k0 s0 _ w4 o0 hk (H : Cx w0 fp0 S0 w4 [Bx b8 [(.int .i64 a__0), (a__1h).v, (a__2h).v, (a__3h).v], Es (List (Int × Int × List Int × List Int)) a__1 a__1h, Es (List Int) a__2 a__2h, Es (List Int) a__3 a__3h, Bx b0 [(.int .i64 b__0), (b__1h).v, (b__2h).v, (b__3h).v], Es (List (Int × Int × List Int × List Int)) b__1 b__1h, Es (List Int) b__2 b__2h, Es (List Int) b__3 b__3h, Bx b1 [(.int .i64 0), (.slice none 0 0), (.slice none 0 0), (.slice none 0 0)], E (List Int) s0 h0]) f2
  refine boolE (z := true) (ltLen hk) ?_
  refine sq ?_
  refine sq ?_
  refine fld gok rfl rfl rfl rfl ?_
  refine load1 (H.bx 0 rfl (j := 0) rfl) ?_
  obtain ⟨a1, e, f3⟩ := bindS f2; clear f2
  refine arO e ?_; clear e
  obtain ⟨a2, e, f4⟩ := bindS f3; clear f3
  have i0 := e; clear e
  obtain ⟨p0, m0, c0, c1, c2⟩ := (H.ro (α := List Int) 9 rfl).setp i0
  refine idxE c0 c1 c2 ?_
  replace H := H.sel [9, 0, 1, 2, 3, 4, 5, 6, 7, 8] rfl
  refine setS (α := Int) H c0 c1 i0 ?_; clear H c0 c1 c2 i0; intro w5 H
  refine arK hk x0 ?_
  have hs := Option.some.inj f4; subst hs; clear f4
  exact ⟨(), ⟨rfl, rfl, rfl, rfl, rfl, rfl, trivial⟩, H.sel [1, 2, 3, 4, 5, 6, 7, 8, 9, 0] rfl⟩
 ·
  clear H e
  rintro T1 _ w6 (H : Cx w0 fp0 S0 w6 [Bx b8 [(.int .i64 a__0), (a__1h).v, (a__2h).v, (a__3h).v], Es (List (Int × Int × List Int × List Int)) a__1 a__1h, Es (List Int) a__2 a__2h, Es (List Int) a__3 a__3h, Bx b0 [(.int .i64 b__0), (b__1h).v, (b__2h).v, (b__3h).v], Es (List (Int × Int × List Int × List Int)) b__1 b__1h, Es (List Int) b__2 b__2h, Es (List Int) b__3 b__3h, Bx b1 [(.int .i64 0), (.slice none 0 0), (.slice none 0 0), (.slice none 0 0)], E (List Int) r0 h0])
  refine boolE (z := false) geLen ?_
  refine sq ?_
  refine loadN [(.int .i64 a__0), (a__1h).v, (a__2h).v, (a__3h).v] rfl (fun j u hj => H.bx 0 rfl hj) ?_
  obtain ⟨y0, e, f5⟩ := bindS f1; clear f1
  obtain ⟨y0_0, y0_1, y0_2, y0_3⟩ := y0
  have i1 := e; clear e
  refine callF (spec_hgOwn_c a__0 a__1 a__1h a__2 a__2h a__3 a__3h y0_0 y0_1 y0_2 y0_3 i1) (Γi := []) H ⟨Vw.sh 1 rfl, Vw.sh 2 rfl, Vw.sh 3 rfl, trivial⟩ ?_; clear H i1
  rintro _ _ w8 ⟨h1, h2, h3, rfl, rfl⟩ H
  refine alloc_ gok rfl H ?_; clear H; intro b2 w9 hx H
  clear hx
  refine stA gok [(.int .i64 y0_0), (h1).v, (h2).v, (h3).v] rfl H rfl rfl rfl ?_; clear H; intro w11 H
  refine loadN [(.int .i64 b__0), (b__1h).v, (b__2h).v, (b__3h).v] rfl (fun j u hj => H.bx 8 rfl hj) ?_
  refine fld gok rfl rfl rfl rfl ?_
  refine load1 (H.bx 8 rfl (j := 0) rfl) ?_
  obtain ⟨y1, e, f6⟩ := bindS f5; clear f5
  obtain ⟨y1_0, y1_1, y1_2, y1_3⟩ := y1
  have i2 := e; clear e
  refine callF (spec_hgMap_c b__0 b__1 b__1h b__2 b__2h b__3 b__3h r0 h0 b__0 y1_0 y1_1 y1_2 y1_3 i2) (Γi := []) H ⟨Vw.sh 9 rfl, Vw.sh 10 rfl, Vw.sh 11 rfl, Vw.own 13 rfl, trivial⟩ ?_; clear H i2
  rintro _ _ w12 ⟨h4, h5, h6, rfl, rfl⟩ H
  refine alloc_ gok rfl H ?_; clear H; intro b3 w14 hx H
  clear hx
  refine stA gok [(.int .i64 y1_0), (h4).v, (h5).v, (h6).v] rfl H rfl rfl rfl ?_; clear H; intro w15 H
  refine fld gok rfl rfl rfl rfl ?_
  refine load1 (H.bx 4 rfl (j := 0) rfl) ?_
  refine fld gok rfl rfl rfl rfl ?_
  refine load1 (H.bx 12 rfl (j := 0) rfl) ?_
  obtain ⟨a3, e, f7⟩ := bindS f6; clear f6
  refine arO e ?_; clear e
  refine fld gok rfl rfl rfl rfl ?_
  replace H := H.sel [4, 0, 1, 2, 3, 5, 6, 7, 8, 9, 10, 11, 12, 13, 14, 15, 16, 17] rfl
  refine stB (j := 0) H rfl rfl ?_; clear H; intro w16 H
  refine fld gok rfl rfl rfl rfl ?_
  refine load1 (H.bx 0 rfl (j := 2) rfl) ?_
  refine fld gok rfl rfl rfl rfl ?_
  refine load1 (H.bx 1 rfl (j := 2) rfl) ?_
  obtain ⟨a4, e, f8⟩ := bindS f7; clear f7
  replace H := H.sel [6, 0, 1, 2, 3, 4, 5, 7, 8, 9, 10, 11, 12, 13, 14, 15, 16, 17] rfl
  refine appendS (α := Int) gok rfl rfl rfl rfl H (Vw.own 3 rfl) e ?_; clear e H; intro h7 w17 H
  refine fld gok rfl rfl rfl rfl ?_
  replace H := H.sel [1, 0, 2, 3, 4, 5, 6, 7, 8, 9, 10, 11, 12, 13, 14, 15, 16, 17] rfl
  refine stB (j := 2) H rfl rfl ?_; clear H; intro w19 H
  refine fld gok rfl rfl rfl rfl ?_
  refine load1 (H.bx 0 rfl (j := 3) rfl) ?_
  refine fld gok rfl rfl rfl rfl ?_
  refine load1 (H.bx 2 rfl (j := 3) rfl) ?_
  obtain ⟨a5, e, f9⟩ := bindS f8; clear f8
  replace H := H.sel [7, 0, 1, 2, 3, 4, 5, 6, 8, 9, 10, 11, 12, 13, 14, 15, 16, 17] rfl
  refine appendS (α := Int) gok rfl rfl rfl rfl H (Vw.own 5 rfl) e ?_; clear e H; intro h8 w20 H
  refine fld gok rfl rfl rfl rfl ?_
  replace H := H.sel [1, 0, 2, 3, 4, 5, 6, 7, 8, 9, 10, 11, 12, 13, 14, 15, 16, 17] rfl
  refine stB (j := 3) H rfl rfl ?_; clear H; intro w21 H
  refine fld gok rfl rfl rfl rfl ?_
  refine load1 (H.bx 0 rfl (j := 1) rfl) ?_
  refine fld gok rfl rfl rfl rfl ?_
  refine load1 (H.bx 3 rfl (j := 1) rfl) ?_
  obtain ⟨a6, e, f10⟩ := bindS f9; clear f9
  replace H := H.sel [7, 4, 0, 1, 2, 3, 5, 6, 8, 9, 10, 11, 12, 13, 14, 15, 16, 17] rfl
  refine append_ (α := Int × Int × List Int × List Int) gok rfl rfl rfl rfl H e ?_; clear e H; intro h9 w22 H
  refine fld gok rfl rfl rfl rfl ?_
  replace H := H.sel [1, 0, 2, 3, 4, 5, 6, 7, 8, 9, 10, 11, 12, 13, 14, 15, 16] rfl
  refine stB (j := 1) H rfl rfl ?_; clear H; intro w23 H
  refine loadN [(.int .i64 a3), (h9).v, (h7).v, (h8).v] rfl (fun j u hj => H.bx 0 rfl hj) ?_
  replace H := H.sel [15, 0, 1, 2, 3, 4, 5, 6, 7, 8, 9, 10, 11, 12, 13, 14, 16] rfl
  refine stA gok [(.int .i64 a3), (h9).v, (h7).v, (h8).v] rfl H rfl rfl rfl ?_; clear H; intro w24 H
  refine loadN [(.int .i64 a3), (h9).v, (h7).v, (h8).v] rfl (fun j u hj => H.bx 0 rfl hj) ?_
  cases f10
  exact ⟨_, _, rfl, ⟨h9, h7, h8, rfl, rfl⟩, (H.sel [2, 4, 3] rfl).close ⟨cloE, cloE, cloE, trivial⟩⟩

theorem spec_l1Own_c (l_ : List Int) (l_h : Hd) (y : List Int) (hF : F_spec_l1Own l_ = some y) :
  ConF Tryz.prog 59 #[(l_h).v] [Es (List Int) l_ l_h] [] (fun v Γ' => ∃ z0 : Hd, v = (z0).v ∧ Γ' = [E (List Int) y z0]) := by
 intro w0 S0 fp0 hI hS
 have H : Cx w0 fp0 S0 w0 [Es (List Int) l_ l_h] := Cx.start hI hS
 clear hI hS
 refine enterC (args := [_]) gok Tryz.func59 rfl _ rfl rfl rfl ?_
 refine lit0 (α := Int) gok rfl rfl H ?_; clear H; intro h3 w2 hx H
 clear hx
 obtain ⟨a5, e, hF6⟩ := bindS hF; clear hF
 refine appendS (α := Int) gok rfl rfl rfl rfl H (Vw.sh 0 rfl) e ?_; clear e H; intro h8 w7 H
 cases hF6
 exact ⟨_, _, rfl, ⟨h8, rfl, rfl⟩, (H.sel [0] rfl).close ⟨cloE, trivial⟩⟩

theorem spec_l1Most_c (a_ : Int) (b_ : Int) (y : Int) (hF : F_spec_l1Most a_ b_ = some y) :
  ConF Tryz.prog 125 #[(.int .i64 a_), (.int .i64 b_)] [] [] (fun v Γ' => v = (.int .i64 y) ∧ Γ' = []) := by
 intro w0 S0 fp0 hI hS
 have H : Cx w0 fp0 S0 w0 [] := Cx.start hI hS
 clear hI hS
 refine enterC (args := [_, _]) gok Tryz.func125 rfl _ rfl rfl rfl ?_
 refine sq ?_
 obtain ⟨a1, e, hF2⟩ := bindS hF; clear hF
 refine boolO e ?_; clear e
 cases a1
 ·
  have hF3 := condF hF2; clear hF2
  cases hF3
  exact ⟨_, _, rfl, ⟨rfl, rfl⟩, (H.sel [] rfl).close trivial⟩
 ·
  have hF4 := condT hF2; clear hF2
  cases hF4
  exact ⟨_, _, rfl, ⟨rfl, rfl⟩, (H.sel [] rfl).close trivial⟩

theorem spec_l1Least_c (a_ : Int) (b_ : Int) (y : Int) (hF : F_spec_l1Least a_ b_ = some y) :
  ConF Tryz.prog 126 #[(.int .i64 a_), (.int .i64 b_)] [] [] (fun v Γ' => v = (.int .i64 y) ∧ Γ' = []) := by
 intro w0 S0 fp0 hI hS
 have H : Cx w0 fp0 S0 w0 [] := Cx.start hI hS
 clear hI hS
 refine enterC (args := [_, _]) gok Tryz.func126 rfl _ rfl rfl rfl ?_
 refine sq ?_
 obtain ⟨a1, e, hF2⟩ := bindS hF; clear hF
 refine boolO e ?_; clear e
 cases a1
 ·
  have hF3 := condF hF2; clear hF2
  cases hF3
  exact ⟨_, _, rfl, ⟨rfl, rfl⟩, (H.sel [] rfl).close trivial⟩
 ·
  have hF4 := condT hF2; clear hF2
  cases hF4
  exact ⟨_, _, rfl, ⟨rfl, rfl⟩, (H.sel [] rfl).close trivial⟩

theorem spec_hgCounts_c (g__0 : Int) (g__1 : List (Int × Int × List Int × List Int)) (g__1h : Hd) (g__2 : List Int) (g__2h : Hd) (g__3 : List Int) (g__3h : Hd) (y0 : List Int) (y1 : List Int) (hF : F_spec_hgCounts (g__0, g__1, g__2, g__3) = some (y0, y1)) :
  ConF Tryz.prog 87 #[(.agg #[(.int .i64 g__0), (g__1h).v, (g__2h).v, (g__3h).v])] [Es (List (Int × Int × List Int × List Int)) g__1 g__1h, Es (List Int) g__2 g__2h, Es (List Int) g__3 g__3h] [] (fun v Γ' => ∃ z0 z1 : Hd, v = (.tuple #[(z0).v, (z1).v]) ∧ Γ' = [E (List Int) y0 z0, E (List Int) y1 z1]) := by
 intro w0 S0 fp0 hI hS
 have H : Cx w0 fp0 S0 w0 [Es (List (Int × Int × List Int × List Int)) g__1 g__1h, Es (List Int) g__2 g__2h, Es (List Int) g__3 g__3h] := Cx.start hI hS
 clear hI hS
 refine enterC (args := [_]) gok Tryz.func87 rfl _ rfl rfl rfl ?_
 refine box_ H ?_; clear H; intro b5 w4 hx H
 clear hx
 refine fld gok rfl rfl rfl rfl ?_
 refine load1 (H.bx 0 rfl (j := 0) rfl) ?_
 obtain ⟨a7, e, hF8⟩ := bindS hF; clear hF
 refine make_ (α := Int) gok rfl rfl rfl rfl (makeCO_of e) H ?_; clear e H; intro h0 w9 hx H
 clear hx
 refine fld gok rfl rfl rfl rfl ?_
 refine load1 (H.bx 1 rfl (j := 0) rfl) ?_
 obtain ⟨a0, e, f0⟩ := bindS hF8; clear hF8
 refine make_ (α := Int) gok rfl rfl rfl rfl (makeCO_of e) H ?_; clear e H; intro h1 w1 hx H
 clear hx
 refine sq ?_
 refine fld gok rfl rfl rfl rfl ?_
 refine load1 (H.bx 2 rfl (j := 2) rfl) ?_
 refine lenE (H.rs (α := List Int) 4 rfl).len ?_
 have x0 := (H.rs (α := List Int) 4 rfl).max
 obtain ⟨r0, e, f1⟩ := bindS f0; clear f0
 refine loopS _ g__2.length (fun (k0 : Nat) (s0 : List Int) (_ : Unit) => [(1, (.pointer (some ⟨b5, 0, none⟩))), (4, (h0).v), (5, (h1).v), (23, (g__2h).v), (24, (.int .i64 ((g__2.length : Nat) : Int))), (25, (.int .i64 ((k0 : Nat) : Int)))]) (fun _ (s0 : List Int) (_ : Unit) w' => Cx w0 fp0 S0 w' [Bx b5 [(.int .i64 g__0), (g__1h).v, (g__2h).v, (g__3h).v], Es (List (Int × Int × List Int × List Int)) g__1 g__1h, Es (List Int) g__2 g__2h, Es (List Int) g__3 g__3h, E (List Int) s0 h0, E (List Int) a0 h1]) a7 () e ⟨rfl, rfl, rfl, rfl, rfl, rfl, trivial⟩ (H.sel [2, 3, 4, 5, 1, 0] rfl) ?_ ?_
 ·
  clear H e
  rintro T0 k0 s0 _ w2 o0 hk (H : Cx w0 fp0 S0 w2 [Bx b5 [(.int .i64 g__0), (g__1h).v, (g__2h).v, (g__3h).v], Es (List (Int × Int × List Int × List Int)) g__1 g__1h, Es (List Int) g__2 g__2h, Es (List Int) g__3 g__3h, E (List Int) s0 h0, E (List Int) a0 h1]) f2
  refine boolE (z := true) (ltLen hk) ?_
  refine sq ?_
  refine sq ?_
  obtain ⟨a1, e, f3⟩ := bindS f2; clear f2
  obtain ⟨p0, m0, c0, c1, c2, c3⟩ := (H.rs (α := List Int) 2 rfl).at1 e; clear e
  refine idxE c0 c1 c2 ?_; clear c0 c1 c2
  refine load1 c3 ?_; clear c3
  obtain ⟨a2, e, f4⟩ := bindS f3; clear f3
  obtain ⟨p1, m1, c4, c5, c6, c7⟩ := (H.ro (α := List Int) 4 rfl).at1 e; clear e
  refine idxE c4 c5 c6 ?_; clear c4 c5 c6
  refine load1 c7 ?_; clear c7
  obtain ⟨a3, e, f5⟩ := bindS f4; clear f4
  refine arO e ?_; clear e
  obtain ⟨a4, e, f6⟩ := bindS f5; clear f5
  have i0 := e; clear e
  obtain ⟨p2, m2, c8, c9, c10⟩ := (H.ro (α := List Int) 4 rfl).setp i0
  refine idxE c8 c9 c10 ?_
  replace H := H.sel [4, 0, 1, 2, 3, 5] rfl
  refine setS (α := Int) H c8 c9 i0 ?_; clear H c8 c9 c10 i0; intro w3 H
  refine arK hk x0 ?_
  have hs := Option.some.inj f6; subst hs; clear f6
  exact ⟨(), ⟨rfl, rfl, rfl, rfl, rfl, rfl, trivial⟩, H.sel [1, 2, 3, 4, 0, 5] rfl⟩
 ·
  clear H e
  rintro T1 _ w5 (H : Cx w0 fp0 S0 w5 [Bx b5 [(.int .i64 g__0), (g__1h).v, (g__2h).v, (g__3h).v], Es (List (Int × Int × List Int × List Int)) g__1 g__1h, Es (List Int) g__2 g__2h, Es (List Int) g__3 g__3h, E (List Int) r0 h0, E (List Int) a0 h1])
  refine boolE (z := false) geLen ?_
  refine sq ?_
  refine sq ?_
  refine fld gok rfl rfl rfl rfl ?_
  refine load1 (H.bx 0 rfl (j := 3) rfl) ?_
  refine lenE (H.rs (α := List Int) 3 rfl).len ?_
  have x1 := (H.rs (α := List Int) 3 rfl).max
  obtain ⟨r1, e, f7⟩ := bindS f1; clear f1
  refine loopS _ g__3.length (fun (k1 : Nat) (s1 : List Int) (_ : Unit) => [(1, (.pointer (some ⟨b5, 0, none⟩))), (4, (h0).v), (5, (h1).v), (37, (g__3h).v), (38, (.int .i64 ((g__3.length : Nat) : Int))), (39, (.int .i64 ((k1 : Nat) : Int)))]) (fun _ (s1 : List Int) (_ : Unit) w' => Cx w0 fp0 S0 w' [Bx b5 [(.int .i64 g__0), (g__1h).v, (g__2h).v, (g__3h).v], Es (List (Int × Int × List Int × List Int)) g__1 g__1h, Es (List Int) g__2 g__2h, Es (List Int) g__3 g__3h, E (List Int) r0 h0, E (List Int) s1 h1]) a0 () e ⟨rfl, rfl, rfl, rfl, rfl, rfl, trivial⟩ (H.sel [0, 1, 2, 3, 4, 5] rfl) ?_ ?_
  ·
   clear H e
   rintro T2 k1 s1 _ w6 o1 hk (H : Cx w0 fp0 S0 w6 [Bx b5 [(.int .i64 g__0), (g__1h).v, (g__2h).v, (g__3h).v], Es (List (Int × Int × List Int × List Int)) g__1 g__1h, Es (List Int) g__2 g__2h, Es (List Int) g__3 g__3h, E (List Int) r0 h0, E (List Int) s1 h1]) f8
   refine boolE (z := true) (ltLen hk) ?_
   refine sq ?_
   refine sq ?_
   obtain ⟨a5, e, f9⟩ := bindS f8; clear f8
   obtain ⟨p3, m3, c11, c12, c13, c14⟩ := (H.rs (α := List Int) 3 rfl).at1 e; clear e
   refine idxE c11 c12 c13 ?_; clear c11 c12 c13
   refine load1 c14 ?_; clear c14
   obtain ⟨a6, e, f10⟩ := bindS f9; clear f9
   obtain ⟨p4, m4, c15, c16, c17, c18⟩ := (H.ro (α := List Int) 5 rfl).at1 e; clear e
   refine idxE c15 c16 c17 ?_; clear c15 c16 c17
   refine load1 c18 ?_; clear c18
   obtain ⟨a8, e, f11⟩ := bindS f10; clear f10
   refine arO e ?_; clear e
   obtain ⟨a9, e, f12⟩ := bindS f11; clear f11
   have i1 := e; clear e
   obtain ⟨p5, m5, c19, c20, c21⟩ := (H.ro (α := List Int) 5 rfl).setp i1
   refine idxE c19 c20 c21 ?_
   replace H := H.sel [5, 0, 1, 2, 3, 4] rfl
   refine setS (α := Int) H c19 c20 i1 ?_; clear H c19 c20 c21 i1; intro w7 H
   refine arK hk x1 ?_
   have hs := Option.some.inj f12; subst hs; clear f12
   exact ⟨(), ⟨rfl, rfl, rfl, rfl, rfl, rfl, trivial⟩, H.sel [1, 2, 3, 4, 5, 0] rfl⟩
  ·
   clear H e
   rintro T3 _ w8 (H : Cx w0 fp0 S0 w8 [Bx b5 [(.int .i64 g__0), (g__1h).v, (g__2h).v, (g__3h).v], Es (List (Int × Int × List Int × List Int)) g__1 g__1h, Es (List Int) g__2 g__2h, Es (List Int) g__3 g__3h, E (List Int) r0 h0, E (List Int) r1 h1])
   refine boolE (z := false) geLen ?_
   refine sq ?_
   refine sq ?_
   refine fld gok rfl rfl rfl rfl ?_
   refine load1 (H.bx 0 rfl (j := 1) rfl) ?_
   refine lenE (H.rs (α := List (Int × Int × List Int × List Int)) 1 rfl).len ?_
   have x2 := (H.rs (α := List (Int × Int × List Int × List Int)) 1 rfl).max
   obtain ⟨r2, e, f13⟩ := bindS f7; clear f7
   refine loopS _ g__1.length (fun (k2 : Nat) (s2 : List Int × List Int) (_ : Unit) => [(4, (h0).v), (5, (h1).v), (51, (g__1h).v), (52, (.int .i64 ((g__1.length : Nat) : Int))), (53, (.int .i64 ((k2 : Nat) : Int)))]) (fun _ (s2 : List Int × List Int) (_ : Unit) w' => Cx w0 fp0 S0 w' [E (List Int) s2.1 h0, E (List Int) s2.2 h1, Es (List (Int × Int × List Int × List Int)) g__1 g__1h]) (r0, r1) () e ⟨rfl, rfl, rfl, rfl, rfl, trivial⟩ (H.sel [4, 5, 1] rfl) ?_ ?_
   ·
    clear H e
    rintro T4 k2 ⟨s2_0, s2_1⟩ _ w10 o2 hk (H : Cx w0 fp0 S0 w10 [E (List Int) s2_0 h0, E (List Int) s2_1 h1, Es (List (Int × Int × List Int × List Int)) g__1 g__1h]) f14
    refine boolE (z := true) (ltLen hk) ?_
    refine sq ?_
    refine sq ?_
    obtain ⟨a10, e, f15⟩ := bindS f14; clear f14
    have HH := H; clear H; obtain ⟨p6, m6, g0, c22, c23, c24, c25, H⟩ := HH.el (α := Int × Int × List Int × List Int) 2 rfl e; clear HH
    clear e
    obtain ⟨a10_0, a10_1, a10_2, a10_3⟩ := a10
    obtain ⟨_, _, h2, h3⟩ := g0
    replace H := H.part (β := List Int) a10_2 (h2 : Hd) 0 rfl (fun S h => (And.left (And.right (And.right h))))
    replace H := H.part (β := List Int) a10_3 (h3 : Hd) 1 rfl (fun S h => (And.right (And.right (And.right h))))
    replace H := H.sel [0, 1, 3, 4, 5] rfl
    refine idxE c22 c23 c24 ?_; clear c22 c23 c24
    refine loadN [(.int .i64 a10_0), (.int .i64 a10_1), (h2).v, (h3).v] rfl c25 ?_; clear c25
    refine alloc_ gok rfl H ?_; clear H; intro b0 w11 hx H
    clear hx
    refine stA gok [(.int .i64 a10_0), (.int .i64 a10_1), (h2).v, (h3).v] rfl H rfl rfl rfl ?_; clear H; intro w12 H
    refine sq ?_
    refine fld gok rfl rfl rfl rfl ?_
    refine load1 (H.bx 0 rfl (j := 3) rfl) ?_
    refine lenE (H.rs (α := List Int) 1 rfl).len ?_
    have x3 := (H.rs (α := List Int) 1 rfl).max
    obtain ⟨r3, e, f16⟩ := bindS f15; clear f15
    refine loopS _ a10_3.length (fun (k3 : Nat) (s3 : List Int) (_ : Unit) => [(4, (h0).v), (5, (h1).v), (11, (.pointer (some ⟨b0, 0, none⟩))), (51, (g__1h).v), (52, (.int .i64 ((g__1.length : Nat) : Int))), (53, (.int .i64 ((k2 : Nat) : Int))), (58, (h3).v), (59, (.int .i64 ((a10_3.length : Nat) : Int))), (60, (.int .i64 ((k3 : Nat) : Int)))]) (fun _ (s3 : List Int) (_ : Unit) w' => Cx w0 fp0 S0 w' [E (List Int) s3 h0, E (List Int) s2_1 h1, Bx b0 [(.int .i64 a10_0), (.int .i64 a10_1), (h2).v, (h3).v], Es (List Int) a10_2 h2, Es (List Int) a10_3 h3, Es (List (Int × Int × List Int × List Int)) g__1 g__1h]) s2_0 () e ⟨rfl, rfl, rfl, rfl, rfl, rfl, rfl, rfl, rfl, trivial⟩ (H.sel [3, 4, 0, 2, 1, 5] rfl) ?_ ?_
    ·
     clear H e
     rintro T5 k3 s3 _ w13 o3 hk (H : Cx w0 fp0 S0 w13 [E (List Int) s3 h0, E (List Int) s2_1 h1, Bx b0 [(.int .i64 a10_0), (.int .i64 a10_1), (h2).v, (h3).v], Es (List Int) a10_2 h2, Es (List Int) a10_3 h3, Es (List (Int × Int × List Int × List Int)) g__1 g__1h]) f17
     refine boolE (z := true) (ltLen hk) ?_
     refine sq ?_
     refine sq ?_
     obtain ⟨a11, e, f18⟩ := bindS f17; clear f17
     obtain ⟨p7, m7, c26, c27, c28, c29⟩ := (H.rs (α := List Int) 4 rfl).at1 e; clear e
     refine idxE c26 c27 c28 ?_; clear c26 c27 c28
     refine load1 c29 ?_; clear c29
     obtain ⟨a13, e, f19⟩ := bindS f18; clear f18
     obtain ⟨p8, m8, c30, c31, c32, c33⟩ := (H.ro (α := List Int) 0 rfl).at1 e; clear e
     refine idxE c30 c31 c32 ?_; clear c30 c31 c32
     refine load1 c33 ?_; clear c33
     obtain ⟨a14, e, f20⟩ := bindS f19; clear f19
     refine arO e ?_; clear e
     obtain ⟨a15, e, f21⟩ := bindS f20; clear f20
     have i2 := e; clear e
     obtain ⟨p9, m9, c34, c35, c36⟩ := (H.ro (α := List Int) 0 rfl).setp i2
     refine idxE c34 c35 c36 ?_
     refine setS (α := Int) H c34 c35 i2 ?_; clear H c34 c35 c36 i2; intro w15 H
     refine arK hk x3 ?_
     have hs := Option.some.inj f21; subst hs; clear f21
     exact ⟨(), ⟨rfl, rfl, rfl, rfl, rfl, rfl, rfl, rfl, rfl, trivial⟩, H.sel [0, 1, 2, 3, 4, 5] rfl⟩
    ·
     clear H e
     rintro T6 _ w16 (H : Cx w0 fp0 S0 w16 [E (List Int) r3 h0, E (List Int) s2_1 h1, Bx b0 [(.int .i64 a10_0), (.int .i64 a10_1), (h2).v, (h3).v], Es (List Int) a10_2 h2, Es (List Int) a10_3 h3, Es (List (Int × Int × List Int × List Int)) g__1 g__1h])
     refine boolE (z := false) geLen ?_
     refine sq ?_
     refine fld gok rfl rfl rfl rfl ?_
     refine load1 (H.bx 2 rfl (j := 2) rfl) ?_
     refine lenE (H.rs (α := List Int) 3 rfl).len ?_
     have x4 := (H.rs (α := List Int) 3 rfl).max
     obtain ⟨r4, e, f22⟩ := bindS f16; clear f16
     refine loopS _ a10_2.length (fun (k4 : Nat) (s4 : List Int) (_ : Unit) => [(4, (h0).v), (5, (h1).v), (51, (g__1h).v), (52, (.int .i64 ((g__1.length : Nat) : Int))), (53, (.int .i64 ((k2 : Nat) : Int))), (72, (h2).v), (73, (.int .i64 ((a10_2.length : Nat) : Int))), (74, (.int .i64 ((k4 : Nat) : Int)))]) (fun _ (s4 : List Int) (_ : Unit) w' => Cx w0 fp0 S0 w' [E (List Int) r3 h0, E (List Int) s4 h1, Es (List (Int × Int × List Int × List Int)) g__1 g__1h, Es (List Int) a10_2 h2]) s2_1 () e ⟨rfl, rfl, rfl, rfl, rfl, rfl, rfl, rfl, trivial⟩ (H.sel [0, 1, 5, 3] rfl) ?_ ?_
     ·
      clear H e
      rintro T7 k4 s4 _ w17 o4 hk (H : Cx w0 fp0 S0 w17 [E (List Int) r3 h0, E (List Int) s4 h1, Es (List (Int × Int × List Int × List Int)) g__1 g__1h, Es (List Int) a10_2 h2]) f23
      refine boolE (z := true) (ltLen hk) ?_
      refine sq ?_
      refine sq ?_
      obtain ⟨a16, e, f24⟩ := bindS f23; clear f23
      obtain ⟨p10, m10, c37, c38, c39, c40⟩ := (H.rs (α := List Int) 3 rfl).at1 e; clear e
      refine idxE c37 c38 c39 ?_; clear c37 c38 c39
      refine load1 c40 ?_; clear c40
      obtain ⟨a17, e, f25⟩ := bindS f24; clear f24
      obtain ⟨p11, m11, c41, c42, c43, c44⟩ := (H.ro (α := List Int) 1 rfl).at1 e; clear e
      refine idxE c41 c42 c43 ?_; clear c41 c42 c43
      refine load1 c44 ?_; clear c44
      obtain ⟨a18, e, f26⟩ := bindS f25; clear f25
      refine arO e ?_; clear e
      obtain ⟨a19, e, f27⟩ := bindS f26; clear f26
      have i3 := e; clear e
      obtain ⟨p12, m12, c45, c46, c47⟩ := (H.ro (α := List Int) 1 rfl).setp i3
      refine idxE c45 c46 c47 ?_
      replace H := H.sel [1, 0, 2, 3] rfl
      refine setS (α := Int) H c45 c46 i3 ?_; clear H c45 c46 c47 i3; intro w18 H
      refine arK hk x4 ?_
      have hs := Option.some.inj f27; subst hs; clear f27
      exact ⟨(), ⟨rfl, rfl, rfl, rfl, rfl, rfl, rfl, rfl, trivial⟩, H.sel [1, 0, 2, 3] rfl⟩
     ·
      clear H e
      rintro T8 _ w19 (H : Cx w0 fp0 S0 w19 [E (List Int) r3 h0, E (List Int) r4 h1, Es (List (Int × Int × List Int × List Int)) g__1 g__1h, Es (List Int) a10_2 h2])
      refine boolE (z := false) geLen ?_
      refine sq ?_
      refine arK hk x2 ?_
      have hs := Option.some.inj f22; subst hs; clear f22
      exact ⟨(), ⟨rfl, rfl, rfl, rfl, rfl, trivial⟩, H.sel [0, 1, 2] rfl⟩
   ·
    clear H e
    obtain ⟨s5_0, s5_1⟩ := r2
    rintro T9 _ w20 (H : Cx w0 fp0 S0 w20 [E (List Int) s5_0 h0, E (List Int) s5_1 h1, Es (List (Int × Int × List Int × List Int)) g__1 g__1h])
    refine boolE (z := false) geLen ?_
    refine sq ?_
    cases f13
    exact ⟨_, _, rfl, ⟨h0, h1, rfl, rfl⟩, (H.sel [0, 1] rfl).close ⟨cloE, cloE, trivial⟩⟩

theorem spec_hgGlued_c (g__0 : Int) (g__1 : List (Int × Int × List Int × List Int)) (g__1h : Hd) (g__2 : List Int) (g__2h : Hd) (g__3 : List Int) (g__3h : Hd) (a_ : List Int) (a_h : Hd) (b_ : List Int) (b_h : Hd) (y0_0 : Int) (y0_1 : List (Int × Int × List Int × List Int)) (y0_2 : List Int) (y0_3 : List Int) (y1 : List Int) (hF : F_spec_hgGlued (g__0, g__1, g__2, g__3) a_ b_ = some ((y0_0, y0_1, y0_2, y0_3), y1)) :
  ConF Tryz.prog 114 #[(.agg #[(.int .i64 g__0), (g__1h).v, (g__2h).v, (g__3h).v]), (a_h).v, (b_h).v] [Es (List (Int × Int × List Int × List Int)) g__1 g__1h, Es (List Int) g__2 g__2h, Es (List Int) g__3 g__3h, Es (List Int) a_ a_h, Es (List Int) b_ b_h] [] (fun v Γ' => ∃ z0 z1 z2 z3 : Hd, v = (.tuple #[(.agg #[(.int .i64 y0_0), (z0).v, (z1).v, (z2).v]), (z3).v]) ∧ Γ' = [E (List (Int × Int × List Int × List Int)) y0_1 z0, E (List Int) y0_2 z1, E (List Int) y0_3 z2, E (List Int) y1 z3]) := by
 intro w0 S0 fp0 hI hS
 have H : Cx w0 fp0 S0 w0 [Es (List (Int × Int × List Int × List Int)) g__1 g__1h, Es (List Int) g__2 g__2h, Es (List Int) g__3 g__3h, Es (List Int) a_ a_h, Es (List Int) b_ b_h] := Cx.start hI hS
 clear hI hS
 refine enterC (args := [_, _, _]) gok Tryz.func114 rfl _ rfl rfl rfl ?_
 refine box_ H ?_; clear H; intro b7 w6 hx H
 clear hx
 refine alloc_ gok rfl H ?_; clear H; intro b0 w9 hx H
 clear hx
 refine fld gok rfl rfl rfl rfl ?_
 refine load1 (H.bx 1 rfl (j := 0) rfl) ?_
 obtain ⟨a0, e, f0⟩ := bindS hF; clear hF
 refine make_ (α := Int) gok rfl rfl rfl rfl (makeCO_of e) H ?_; clear e H; intro h0 w1 hx H
 clear hx
 refine sq ?_
 refine lenE (H.ro (α := List Int) 0 rfl).len ?_
 have x0 := (H.ro (α := List Int) 0 rfl).max
 obtain ⟨r0, e, f1⟩ := bindS f0; clear f0
 refine loopS _ a0.length (fun (k0 : Nat) (s0 : List Int) (_ : Unit) => [(1, (a_h).v), (2, (b_h).v), (3, (.pointer (some ⟨b7, 0, none⟩))), (6, (.pointer (some ⟨b0, 0, none⟩))), (8, (h0).v), (27, (.int .i64 ((a0.length : Nat) : Int))), (28, (.int .i64 ((k0 : Nat) : Int)))]) (fun _ (s0 : List Int) (_ : Unit) w' => Cx w0 fp0 S0 w' [Es (List Int) a_ a_h, Es (List Int) b_ b_h, Bx b7 [(.int .i64 g__0), (g__1h).v, (g__2h).v, (g__3h).v], Es (List (Int × Int × List Int × List Int)) g__1 g__1h, Es (List Int) g__2 g__2h, Es (List Int) g__3 g__3h, Bx b0 [(.int .i64 0), (.slice none 0 0), (.slice none 0 0), (.slice none 0 0)], E (List Int) s0 h0]) a0 () e ⟨rfl, rfl, rfl, rfl, rfl, rfl, rfl, trivial⟩ (H.sel [6, 7, 2, 3, 4, 5, 1, 0] rfl) ?_ ?_
 ·
  clear H e
  rintro T0 k0 s0 _ w2 o0 hk (H : Cx w0 fp0 S0 w2 [Es (List Int) a_ a_h, Es (List Int) b_ b_h, Bx b7 [(.int .i64 g__0), (g__1h).v, (g__2h).v, (g__3h).v], Es (List (Int × Int × List Int × List Int)) g__1 g__1h, Es (List Int) g__2 g__2h, Es (List Int) g__3 g__3h, Bx b0 [(.int .i64 0), (.slice none 0 0), (.slice none 0 0), (.slice none 0 0)], E (List Int) s0 h0]) f2
  refine boolE (z := true) (ltLen hk) ?_
  refine sq ?_
  refine sq ?_
  obtain ⟨a1, e, f3⟩ := bindS f2; clear f2
  have i0 := e; clear e
  obtain ⟨p0, m0, c0, c1, c2⟩ := (H.ro (α := List Int) 7 rfl).setp i0
  refine idxE c0 c1 c2 ?_
  replace H := H.sel [7, 0, 1, 2, 3, 4, 5, 6] rfl
  refine setS (α := Int) H c0 c1 i0 ?_; clear H c0 c1 c2 i0; intro w3 H
  refine arK hk x0 ?_
  have hs := Option.some.inj f3; subst hs; clear f3
  exact ⟨(), ⟨rfl, rfl, rfl, rfl, rfl, rfl, rfl, trivial⟩, H.sel [1, 2, 3, 4, 5, 6, 7, 0] rfl⟩
 ·
  clear H e
  rintro T1 _ w4 (H : Cx w0 fp0 S0 w4 [Es (List Int) a_ a_h, Es (List Int) b_ b_h, Bx b7 [(.int .i64 g__0), (g__1h).v, (g__2h).v, (g__3h).v], Es (List (Int × Int × List Int × List Int)) g__1 g__1h, Es (List Int) g__2 g__2h, Es (List Int) g__3 g__3h, Bx b0 [(.int .i64 0), (.slice none 0 0), (.slice none 0 0), (.slice none 0 0)], E (List Int) r0 h0])
  refine boolE (z := false) geLen ?_
  refine sq ?_
  refine sq ?_
  refine lenE (H.rs (α := List Int) 0 rfl).len ?_
  have x1 := (H.rs (α := List Int) 0 rfl).max
  obtain ⟨r1, e, f4⟩ := bindS f1; clear f1
  refine loopS _ a_.length (fun (k1 : Nat) (s1 : List Int) (_ : Unit) => [(1, (a_h).v), (2, (b_h).v), (3, (.pointer (some ⟨b7, 0, none⟩))), (6, (.pointer (some ⟨b0, 0, none⟩))), (8, (h0).v), (37, (.int .i64 ((a_.length : Nat) : Int))), (38, (.int .i64 ((k1 : Nat) : Int)))]) (fun _ (s1 : List Int) (_ : Unit) w' => Cx w0 fp0 S0 w' [Es (List Int) a_ a_h, Es (List Int) b_ b_h, Bx b7 [(.int .i64 g__0), (g__1h).v, (g__2h).v, (g__3h).v], Es (List (Int × Int × List Int × List Int)) g__1 g__1h, Es (List Int) g__2 g__2h, Es (List Int) g__3 g__3h, Bx b0 [(.int .i64 0), (.slice none 0 0), (.slice none 0 0), (.slice none 0 0)], E (List Int) s1 h0]) r0 () e ⟨rfl, rfl, rfl, rfl, rfl, rfl, rfl, trivial⟩ (H.sel [0, 1, 2, 3, 4, 5, 6, 7] rfl) ?_ ?_
  ·
   clear H e
   rintro T2 k1 s1 _ w5 o1 hk (H : Cx w0 fp0 S0 w5 [Es (List Int) a_ a_h, Es (List Int) b_ b_h, Bx b7 [(.int .i64 g__0), (g__1h).v, (g__2h).v, (g__3h).v], Es (List (Int × Int × List Int × List Int)) g__1 g__1h, Es (List Int) g__2 g__2h, Es (List Int) g__3 g__3h, Bx b0 [(.int .i64 0), (.slice none 0 0), (.slice none 0 0), (.slice none 0 0)], E (List Int) s1 h0]) f5
   refine boolE (z := true) (ltLen hk) ?_
   refine sq ?_
   refine sq ?_
   refine heldX H [] (.fst 0 (.fst 1 (.fst 2 (.fst 3 (.fst 7 (.fst 8 (.fst 9 (.fst 10 (.fst 4 (.fst 5 (.fst 6 (.fst 14 (.fst 11 (.fst 12 (.fst 13 (.fst 15 .done)))))))))))))))) mixed [] trivial (by kernel_rfl) ?_
   clear H; intro w7 H
   have hX : Ext w7 w7 := Upd.refl _ _
   have H0 := H
   obtain ⟨a2, e, f6⟩ := bindS f5; clear f5
   obtain ⟨p1, m1, c3, c4, c5, c6⟩ := (H.rs (α := List Int) 0 rfl).at1 e; clear e
   refine idxE c3 c4 c5 ?_; clear c3 c4 c5
   obtain ⟨a3, e, f7⟩ := bindS f6; clear f6
   obtain ⟨p2, m2, c7, c8, c9, c10⟩ := (H.rs (α := List Int) 1 rfl).at1 e; clear e
   refine idxE c7 c8 c9 ?_; clear c7 c8 c9
   refine load1X c6 ?_; clear c6
   obtain ⟨a4, e, f8⟩ := bindS f7; clear f7
   obtain ⟨p3, m3, c11, c12, c13, c14⟩ := (H.ro (α := List Int) 7 rfl).at1 e; clear e
   refine idxE c11 c12 c13 ?_; clear c11 c12 c13
   refine load1X c14 ?_; clear c14
   refine load1X c10 ?_; clear c10
   obtain ⟨a5, e, f9⟩ := bindS f8; clear f8
   obtain ⟨p4, m4, c15, c16, c17, c18⟩ := (H.ro (α := List Int) 7 rfl).at1 e; clear e
   refine idxE c15 c16 c17 ?_; clear c15 c16 c17
   refine load1X c18 ?_; clear c18
   refine lenE (H.ro (α := List Int) 7 rfl).len ?_
   have x2 := (H.ro (α := List Int) 7 rfl).max
   obtain ⟨r2, e, f10⟩ := bindS f9; clear f9
   refine loopS _ s1.length (fun (k2 : Nat) (s2 : List Int) (_ : Unit) => [(1, (a_h).v), (2, (b_h).v), (3, (.pointer (some ⟨b7, 0, none⟩))), (6, (.pointer (some ⟨b0, 0, none⟩))), (8, (h0).v), (11, (.int .i64 a4)), (12, (.int .i64 a5)), (37, (.int .i64 ((a_.length : Nat) : Int))), (38, (.int .i64 ((k1 : Nat) : Int))), (56, (.int .i64 ((s1.length : Nat) : Int))), (57, (.int .i64 ((k2 : Nat) : Int)))]) (fun _ (s2 : List Int) (_ : Unit) w' => Cx w0 fp0 S0 w' [Es (List Int) a_ a_h, Es (List Int) b_ b_h, Bx b7 [(.int .i64 g__0), (g__1h).v, (g__2h).v, (g__3h).v], Es (List (Int × Int × List Int × List Int)) g__1 g__1h, Es (List Int) g__2 g__2h, Es (List Int) g__3 g__3h, Bx b0 [(.int .i64 0), (.slice none 0 0), (.slice none 0 0), (.slice none 0 0)], E (List Int) s2 h0]) s1 () e ⟨rfl, rfl, rfl, rfl, rfl, rfl, rfl, rfl, rfl, rfl, rfl, trivial⟩ (H.sel [0, 1, 2, 3, 4, 5, 6, 7] rfl) ?_ ?_
   ·
    clear H e
    rintro T3 k2 s2 _ w8 o2 hk (H : Cx w0 fp0 S0 w8 [Es (List Int) a_ a_h, Es (List Int) b_ b_h, Bx b7 [(.int .i64 g__0), (g__1h).v, (g__2h).v, (g__3h).v], Es (List (Int × Int × List Int × List Int)) g__1 g__1h, Es (List Int) g__2 g__2h, Es (List Int) g__3 g__3h, Bx b0 [(.int .i64 0), (.slice none 0 0), (.slice none 0 0), (.slice none 0 0)], E (List Int) s2 h0]) f11
    refine boolE (z := true) (ltLen hk) ?_
    refine sq ?_
    refine sq ?_
    refine heldX H [] (.fst 0 (.fst 1 (.fst 2 (.fst 4 (.fst 5 (.fst 3 (.act 6 (.fst 7 .done)))))))) mixed [] trivial (by kernel_rfl) ?_
    clear H; intro w10 H
    have hX : Ext w10 w10 := Upd.refl _ _
    have H0 := H
    obtain ⟨a6, e, f12⟩ := bindS f11; clear f11
    obtain ⟨p5, m5, c19, c20, c21, c22⟩ := (H.ro (α := List Int) 7 rfl).at1 e; clear e
    refine idxE c19 c20 c21 ?_; clear c19 c20 c21
    refine load1X c22 ?_; clear c22
    obtain ⟨y0, e, f13⟩ := bindS f12; clear f12
    have i1 := e; clear e
    refine callFx (spec_l1Most_c a4 a5 y0 i1) H trivial ?_; clear H i1
    rintro _ _ w11 ⟨rfl, rfl⟩ hx H
    replace hX := hX.trans0 hx; clear hx
    refine hold hX ?_
    obtain ⟨a7, e, f14⟩ := bindS f13; clear f13
    refine boolO e ?_; clear e
    cases a7
    ·
     have f15 := condF f14; clear f14
     refine arK hk x2 ?_
     have hs := Option.some.inj f15; subst hs; clear f15
     exact ⟨(), ⟨rfl, rfl, rfl, rfl, rfl, rfl, rfl, rfl, rfl, rfl, rfl, trivial⟩, H.sel [0, 1, 2, 3, 4, 5, 6, 7] rfl⟩
    ·
     have f16 := condT f14; clear f14
     obtain ⟨y2, e, f17⟩ := bindS f16; clear f16
     have i2 := e; clear e
     refine callF (spec_l1Least_c a4 a5 y2 i2) (Γi := []) H trivial ?_; clear H i2
     rintro _ _ w12 ⟨rfl, rfl⟩ H
     obtain ⟨a8, e, f18⟩ := bindS f17; clear f17
     have i3 := e; clear e
     obtain ⟨p6, m6, c23, c24, c25⟩ := (H.ro (α := List Int) 7 rfl).setp i3
     refine idxE c23 c24 c25 ?_
     replace H := H.sel [7, 0, 1, 2, 3, 4, 5, 6] rfl
     refine setS (α := Int) H c23 c24 i3 ?_; clear H c23 c24 c25 i3; intro w13 H
     refine arK hk x2 ?_
     have hs := Option.some.inj f18; subst hs; clear f18
     exact ⟨(), ⟨rfl, rfl, rfl, rfl, rfl, rfl, rfl, rfl, rfl, rfl, rfl, trivial⟩, H.sel [1, 2, 3, 4, 5, 6, 7, 0] rfl⟩
   ·
    clear H e
    rintro T4 _ w15 (H : Cx w0 fp0 S0 w15 [Es (List Int) a_ a_h, Es (List Int) b_ b_h, Bx b7 [(.int .i64 g__0), (g__1h).v, (g__2h).v, (g__3h).v], Es (List (Int × Int × List Int × List Int)) g__1 g__1h, Es (List Int) g__2 g__2h, Es (List Int) g__3 g__3h, Bx b0 [(.int .i64 0), (.slice none 0 0), (.slice none 0 0), (.slice none 0 0)], E (List Int) r2 h0])
    refine boolE (z := false) geLen ?_
    refine sq ?_
    refine arK hk x1 ?_
    have hs := Option.some.inj f10; subst hs; clear f10
    exact ⟨(), ⟨rfl, rfl, rfl, rfl, rfl, rfl, rfl, trivial⟩, H.sel [0, 1, 2, 3, 4, 5, 6, 7] rfl⟩
  ·
   clear H e
   rintro T5 _ w16 (H : Cx w0 fp0 S0 w16 [Es (List Int) a_ a_h, Es (List Int) b_ b_h, Bx b7 [(.int .i64 g__0), (g__1h).v, (g__2h).v, (g__3h).v], Es (List (Int × Int × List Int × List Int)) g__1 g__1h, Es (List Int) g__2 g__2h, Es (List Int) g__3 g__3h, Bx b0 [(.int .i64 0), (.slice none 0 0), (.slice none 0 0), (.slice none 0 0)], E (List Int) r1 h0])
   refine boolE (z := false) geLen ?_
   refine sq ?_
   refine loadN [(.int .i64 g__0), (g__1h).v, (g__2h).v, (g__3h).v] rfl (fun j u hj => H.bx 2 rfl hj) ?_
   obtain ⟨y3, e, f19⟩ := bindS f4; clear f4
   obtain ⟨y3_0, y3_1⟩ := y3
   have i4 := e; clear e
   refine callF (spec_hgCounts_c g__0 g__1 g__1h g__2 g__2h g__3 g__3h y3_0 y3_1 i4) (Γi := []) H ⟨Vw.sh 3 rfl, Vw.sh 4 rfl, Vw.sh 5 rfl, trivial⟩ ?_; clear H i4
   rintro _ _ w17 ⟨h1, h2, rfl, rfl⟩ H
   refine fld gok rfl rfl rfl rfl ?_
   refine load1 (H.bx 4 rfl (j := 0) rfl) ?_
   obtain ⟨a9, e, f20⟩ := bindS f19; clear f19
   refine make_ (α := Bool) gok rfl rfl rfl rfl (makeCO_of e) H ?_; clear e H; intro h3 w18 hx H
   clear hx
   refine sq ?_
   refine lenE (H.ro (α := List Int) 10 rfl).len ?_
   have x3 := (H.ro (α := List Int) 10 rfl).max
   obtain ⟨r3, e, f21⟩ := bindS f20; clear f20
   refine loopS _ r1.length (fun (k3 : Nat) (s3 : List Bool) (_ : Unit) => [(3, (.pointer (some ⟨b7, 0, none⟩))), (6, (.pointer (some ⟨b0, 0, none⟩))), (8, (h0).v), (14, (h1).v), (15, (h2).v), (16, (h3).v), (84, (h0).v), (85, (.int .i64 ((r1.length : Nat) : Int))), (86, (.int .i64 ((k3 : Nat) : Int)))]) (fun _ (s3 : List Bool) (_ : Unit) w' => Cx w0 fp0 S0 w' [Bx b7 [(.int .i64 g__0), (g__1h).v, (g__2h).v, (g__3h).v], Es (List (Int × Int × List Int × List Int)) g__1 g__1h, Es (List Int) g__2 g__2h, Es (List Int) g__3 g__3h, Bx b0 [(.int .i64 0), (.slice none 0 0), (.slice none 0 0), (.slice none 0 0)], E (List Int) r1 h0, E (List Int) y3_0 h1, E (List Int) y3_1 h2, E (List Bool) s3 h3]) a9 () e ⟨rfl, rfl, rfl, rfl, rfl, rfl, rfl, rfl, rfl, trivial⟩ (H.sel [5, 6, 7, 8, 9, 10, 1, 2, 0] rfl) ?_ ?_
   ·
    clear H e
    rintro T6 k3 s3 _ w19 o3 hk (H : Cx w0 fp0 S0 w19 [Bx b7 [(.int .i64 g__0), (g__1h).v, (g__2h).v, (g__3h).v], Es (List (Int × Int × List Int × List Int)) g__1 g__1h, Es (List Int) g__2 g__2h, Es (List Int) g__3 g__3h, Bx b0 [(.int .i64 0), (.slice none 0 0), (.slice none 0 0), (.slice none 0 0)], E (List Int) r1 h0, E (List Int) y3_0 h1, E (List Int) y3_1 h2, E (List Bool) s3 h3]) f22
    refine boolE (z := true) (ltLen hk) ?_
    refine sq ?_
    refine sq ?_
    obtain ⟨a10, e, f23⟩ := bindS f22; clear f22
    obtain ⟨p7, m7, c26, c27, c28, c29⟩ := (H.ro (α := List Int) 5 rfl).at1 e; clear e
    refine idxE c26 c27 c28 ?_; clear c26 c27 c28
    refine load1 c29 ?_; clear c29
    refine heldX H [] (.fst 0 (.fst 1 (.fst 2 (.fst 4 (.fst 5 (.fst 6 (.fst 3 (.fst 7 (.fst 8 (.fst 9 .done)))))))))) mixed [] trivial (by kernel_rfl) ?_
    clear H; intro w20 H
    have hX : Ext w20 w20 := Upd.refl _ _
    have H0 := H
    obtain ⟨a11, e, f24⟩ := bindS f23; clear f23
    obtain ⟨p8, m8, c30, c31, c32, c33⟩ := (H.ro (α := List Int) 6 rfl).at1 e; clear e
    refine idxE c30 c31 c32 ?_; clear c30 c31 c32
    obtain ⟨a13, e, f25⟩ := bindS f24; clear f24
    obtain ⟨p9, m9, c34, c35, c36, c37⟩ := (H.ro (α := List Int) 7 rfl).at1 e; clear e
    refine idxE c34 c35 c36 ?_; clear c34 c35 c36
    refine load1X c33 ?_; clear c33
    refine load1X c37 ?_; clear c37
    obtain ⟨a14, e, f26⟩ := bindS f25; clear f25
    refine arO e ?_; clear e
    obtain ⟨a15, e, f27⟩ := bindS f26; clear f26
    refine boolO e ?_; clear e
    cases a15
    ·
     have f28 := condF f27; clear f27
     refine arK hk x3 ?_
     have hs := Option.some.inj f28; subst hs; clear f28
     exact ⟨(), ⟨rfl, rfl, rfl, rfl, rfl, rfl, rfl, rfl, rfl, trivial⟩, H.sel [0, 1, 2, 3, 4, 5, 6, 7, 8] rfl⟩
    ·
     have f29 := condT f27; clear f27
     obtain ⟨a16, e, f30⟩ := bindS f29; clear f29
     have i5 := e; clear e
     obtain ⟨p10, m10, c38, c39, c40⟩ := (H.ro (α := List Bool) 8 rfl).setp i5
     refine idxE c38 c39 c40 ?_
     replace H := H.sel [8, 0, 1, 2, 3, 4, 5, 6, 7] rfl
     refine setS (α := Bool) H c38 c39 i5 ?_; clear H c38 c39 c40 i5; intro w21 H
     refine arK hk x3 ?_
     have hs := Option.some.inj f30; subst hs; clear f30
     exact ⟨(), ⟨rfl, rfl, rfl, rfl, rfl, rfl, rfl, rfl, rfl, trivial⟩, H.sel [1, 2, 3, 4, 5, 6, 7, 8, 0] rfl⟩
   ·
    clear H e
    rintro T7 _ w22 (H : Cx w0 fp0 S0 w22 [Bx b7 [(.int .i64 g__0), (g__1h).v, (g__2h).v, (g__3h).v], Es (List (Int × Int × List Int × List Int)) g__1 g__1h, Es (List Int) g__2 g__2h, Es (List Int) g__3 g__3h, Bx b0 [(.int .i64 0), (.slice none 0 0), (.slice none 0 0), (.slice none 0 0)], E (List Int) r1 h0, E (List Int) y3_0 h1, E (List Int) y3_1 h2, E (List Bool) r3 h3])
    refine boolE (z := false) geLen ?_
    refine sq ?_
    refine fld gok rfl rfl rfl rfl ?_
    refine load1 (H.bx 0 rfl (j := 0) rfl) ?_
    obtain ⟨a17, e, f31⟩ := bindS f21; clear f21
    refine make_ (α := Int) gok rfl rfl rfl rfl (makeCO_of e) H ?_; clear e H; intro h4 w23 hx H
    clear hx
    refine sq ?_
    refine lenE (H.ro (α := List Int) 0 rfl).len ?_
    have x4 := (H.ro (α := List Int) 0 rfl).max
    obtain ⟨r4, e, f32⟩ := bindS f31; clear f31
    refine loopS _ a17.length (fun (k4 : Nat) (s4 : List Int × Int) (_ : Unit) => [(3, (.pointer (some ⟨b7, 0, none⟩))), (6, (.pointer (some ⟨b0, 0, none⟩))), (8, (h0).v), (16, (h3).v), (19, (h4).v), (20, (.int .i64 s4.2)), (109, (.int .i64 ((a17.length : Nat) : Int))), (110, (.int .i64 ((k4 : Nat) : Int)))]) (fun _ (s4 : List Int × Int) (_ : Unit) w' => Cx w0 fp0 S0 w' [Bx b7 [(.int .i64 g__0), (g__1h).v, (g__2h).v, (g__3h).v], Es (List (Int × Int × List Int × List Int)) g__1 g__1h, Es (List Int) g__2 g__2h, Es (List Int) g__3 g__3h, Bx b0 [(.int .i64 0), (.slice none 0 0), (.slice none 0 0), (.slice none 0 0)], E (List Int) r1 h0, E (List Bool) r3 h3, E (List Int) s4.1 h4]) (a17, 0) () e ⟨rfl, rfl, rfl, rfl, rfl, rfl, rfl, rfl, trivial⟩ (H.sel [1, 2, 3, 4, 5, 6, 9, 0] rfl) ?_ ?_
    ·
     clear H e
     rintro T8 k4 ⟨s4_0, s4_1⟩ _ w24 o4 hk (H : Cx w0 fp0 S0 w24 [Bx b7 [(.int .i64 g__0), (g__1h).v, (g__2h).v, (g__3h).v], Es (List (Int × Int × List Int × List Int)) g__1 g__1h, Es (List Int) g__2 g__2h, Es (List Int) g__3 g__3h, Bx b0 [(.int .i64 0), (.slice none 0 0), (.slice none 0 0), (.slice none 0 0)], E (List Int) r1 h0, E (List Bool) r3 h3, E (List Int) s4_0 h4]) f33
     refine boolE (z := true) (ltLen hk) ?_
     refine sq ?_
     refine sq ?_
     obtain ⟨r5, f34, f35⟩ := bindS f33; clear f33
     refine cut (fun (q0 : Bool) => [(3, (.pointer (some ⟨b7, 0, none⟩))), (6, (.pointer (some ⟨b0, 0, none⟩))), (8, (h0).v), (16, (h3).v), (19, (h4).v), (20, (.int .i64 s4_1)), (21, (.int .i64 ((k4 : Nat) : Int))), (109, (.int .i64 ((a17.length : Nat) : Int))), (110, (.int .i64 ((k4 : Nat) : Int))), (124, (.bool q0))]) (fun (q0 : Bool) w' => q0 = r5 ∧ Cx w0 fp0 S0 w' [Bx b7 [(.int .i64 g__0), (g__1h).v, (g__2h).v, (g__3h).v], Es (List (Int × Int × List Int × List Int)) g__1 g__1h, Es (List Int) g__2 g__2h, Es (List Int) g__3 g__3h, Bx b0 [(.int .i64 0), (.slice none 0 0), (.slice none 0 0), (.slice none 0 0)], E (List Int) r1 h0, E (List Bool) r3 h3, E (List Int) s4_0 h4]) ?_ ?_
     ·
      obtain ⟨a18, e, f36⟩ := bindS f34; clear f34
      obtain ⟨p11, m11, c41, c42, c43, c44⟩ := (H.ro (α := List Int) 5 rfl).at1 e; clear e
      refine idxE c41 c42 c43 ?_; clear c41 c42 c43
      refine load1 c44 ?_; clear c44
      obtain ⟨a19, e, f37⟩ := bindS f36; clear f36
      refine boolO e ?_; clear e
      cases a19
      ·
       have f38 := condF f37; clear f37
       exact ⟨false, ⟨rfl, rfl, rfl, rfl, rfl, rfl, rfl, rfl, rfl, rfl, trivial⟩, Option.some.inj f38, H.sel [0, 1, 2, 3, 4, 5, 6, 7] rfl⟩
      ·
       have f39 := condT f37; clear f37
       obtain ⟨a20, e, f40⟩ := bindS f39; clear f39
       obtain ⟨p12, m12, c45, c46, c47, c48⟩ := (H.ro (α := List Bool) 6 rfl).at1 e; clear e
       refine idxE c45 c46 c47 ?_; clear c45 c46 c47
       refine load1 c48 ?_; clear c48
       exact ⟨a20, ⟨rfl, rfl, rfl, rfl, rfl, rfl, rfl, rfl, rfl, rfl, trivial⟩, Option.some.inj f40, H.sel [0, 1, 2, 3, 4, 5, 6, 7] rfl⟩
     ·
      clear f34 H
      rintro T9 s5 w25 ⟨hr, (H : Cx w0 fp0 S0 w25 [Bx b7 [(.int .i64 g__0), (g__1h).v, (g__2h).v, (g__3h).v], Es (List (Int × Int × List Int × List Int)) g__1 g__1h, Es (List Int) g__2 g__2h, Es (List Int) g__3 g__3h, Bx b0 [(.int .i64 0), (.slice none 0 0), (.slice none 0 0), (.slice none 0 0)], E (List Int) r1 h0, E (List Bool) r3 h3, E (List Int) s4_0 h4])⟩
      subst hr
      cases s5
      ·
       have f41 := condF f35; clear f35
       refine arK hk x4 ?_
       have hs := Option.some.inj f41; subst hs; clear f41
       exact ⟨(), ⟨rfl, rfl, rfl, rfl, rfl, rfl, rfl, rfl, trivial⟩, H.sel [0, 1, 2, 3, 4, 5, 6, 7] rfl⟩
      ·
       have f42 := condT f35; clear f35
       obtain ⟨a21, e, f43⟩ := bindS f42; clear f42
       have i6 := e; clear e
       obtain ⟨p13, m13, c52, c53, c54⟩ := (H.ro (α := List Int) 7 rfl).setp i6
       refine idxE c52 c53 c54 ?_
       replace H := H.sel [7, 0, 1, 2, 3, 4, 5, 6] rfl
       refine setS (α := Int) H c52 c53 i6 ?_; clear H c52 c53 c54 i6; intro w26 H
       obtain ⟨a22, e, f44⟩ := bindS f43; clear f43
       refine arO e ?_; clear e
       refine arK hk x4 ?_
       have hs := Option.some.inj f44; subst hs; clear f44
       exact ⟨(), ⟨rfl, rfl, rfl, rfl, rfl, rfl, rfl, rfl, trivial⟩, H.sel [1, 2, 3, 4, 5, 6, 7, 0] rfl⟩
    ·
     clear H e
     obtain ⟨s6_0, s6_1⟩ := r4
     rintro T10 _ w27 (H : Cx w0 fp0 S0 w27 [Bx b7 [(.int .i64 g__0), (g__1h).v, (g__2h).v, (g__3h).v], Es (List (Int × Int × List Int × List Int)) g__1 g__1h, Es (List Int) g__2 g__2h, Es (List Int) g__3 g__3h, Bx b0 [(.int .i64 0), (.slice none 0 0), (.slice none 0 0), (.slice none 0 0)], E (List Int) r1 h0, E (List Bool) r3 h3, E (List Int) s6_0 h4])
     refine boolE (z := false) geLen ?_
     refine sq ?_
     refine sq ?_
     refine lenE (H.ro (α := List Int) 7 rfl).len ?_
     have x5 := (H.ro (α := List Int) 7 rfl).max
     obtain ⟨r6, e, f45⟩ := bindS f32; clear f32
     refine loopS _ s6_0.length (fun (k5 : Nat) (s7 : List Int) (_ : Unit) => [(3, (.pointer (some ⟨b7, 0, none⟩))), (6, (.pointer (some ⟨b0, 0, none⟩))), (8, (h0).v), (16, (h3).v), (19, (h4).v), (20, (.int .i64 s6_1)), (133, (.int .i64 ((s6_0.length : Nat) : Int))), (134, (.int .i64 ((k5 : Nat) : Int)))]) (fun _ (s7 : List Int) (_ : Unit) w' => Cx w0 fp0 S0 w' [Bx b7 [(.int .i64 g__0), (g__1h).v, (g__2h).v, (g__3h).v], Es (List (Int × Int × List Int × List Int)) g__1 g__1h, Es (List Int) g__2 g__2h, Es (List Int) g__3 g__3h, Bx b0 [(.int .i64 0), (.slice none 0 0), (.slice none 0 0), (.slice none 0 0)], E (List Int) r1 h0, E (List Bool) r3 h3, E (List Int) s7 h4]) s6_0 () e ⟨rfl, rfl, rfl, rfl, rfl, rfl, rfl, rfl, trivial⟩ (H.sel [0, 1, 2, 3, 4, 5, 6, 7] rfl) ?_ ?_
     ·
      clear H e
      rintro T11 k5 s7 _ w28 o5 hk (H : Cx w0 fp0 S0 w28 [Bx b7 [(.int .i64 g__0), (g__1h).v, (g__2h).v, (g__3h).v], Es (List (Int × Int × List Int × List Int)) g__1 g__1h, Es (List Int) g__2 g__2h, Es (List Int) g__3 g__3h, Bx b0 [(.int .i64 0), (.slice none 0 0), (.slice none 0 0), (.slice none 0 0)], E (List Int) r1 h0, E (List Bool) r3 h3, E (List Int) s7 h4]) f46
      refine boolE (z := true) (ltLen hk) ?_
      refine sq ?_
      refine sq ?_
      obtain ⟨a23, e, f47⟩ := bindS f46; clear f46
      obtain ⟨p14, m14, c55, c56, c57, c58⟩ := (H.ro (α := List Int) 5 rfl).at1 e; clear e
      refine idxE c55 c56 c57 ?_; clear c55 c56 c57
      refine load1 c58 ?_; clear c58
      obtain ⟨a24, e, f48⟩ := bindS f47; clear f47
      obtain ⟨p15, m15, c59, c60, c61, c62⟩ := (H.ro (α := List Int) 7 rfl).at1 e; clear e
      refine idxE c59 c60 c61 ?_; clear c59 c60 c61
      refine load1 c62 ?_; clear c62
      obtain ⟨a25, e, f49⟩ := bindS f48; clear f48
      have i7 := e; clear e
      obtain ⟨p16, m16, c63, c64, c65⟩ := (H.ro (α := List Int) 7 rfl).setp i7
      refine idxE c63 c64 c65 ?_
      replace H := H.sel [7, 0, 1, 2, 3, 4, 5, 6] rfl
      refine setS (α := Int) H c63 c64 i7 ?_; clear H c63 c64 c65 i7; intro w29 H
      obtain ⟨a26, e, f50⟩ := bindS f49; clear f49
      obtain ⟨p17, m17, c66, c67, c68, c69⟩ := (H.ro (α := List Int) 6 rfl).at1 e; clear e
      refine idxE c66 c67 c68 ?_; clear c66 c67 c68
      refine load1 c69 ?_; clear c69
      obtain ⟨a27, e, f51⟩ := bindS f50; clear f50
      obtain ⟨p18, m18, c70, c71, c72, c73⟩ := (H.ro (α := List Bool) 7 rfl).at1 e; clear e
      refine idxE c70 c71 c72 ?_; clear c70 c71 c72
      refine load1 c73 ?_; clear c73
      obtain ⟨a28, e, f52⟩ := bindS f51; clear f51
      refine boolO e ?_; clear e
      cases a28
      ·
       have f53 := condF f52; clear f52
       refine arK hk x5 ?_
       have hs := Option.some.inj f53; subst hs; clear f53
       exact ⟨(), ⟨rfl, rfl, rfl, rfl, rfl, rfl, rfl, rfl, trivial⟩, H.sel [1, 2, 3, 4, 5, 6, 7, 0] rfl⟩
      ·
       have f54 := condT f52; clear f52
       obtain ⟨a29, e, f55⟩ := bindS f54; clear f54
       have i8 := e; clear e
       obtain ⟨p19, m19, c74, c75, c76⟩ := (H.ro (α := List Int) 0 rfl).setp i8
       refine idxE c74 c75 c76 ?_
       refine setS (α := Int) H c74 c75 i8 ?_; clear H c74 c75 c76 i8; intro w30 H
       refine arK hk x5 ?_
       have hs := Option.some.inj f55; subst hs; clear f55
       exact ⟨(), ⟨rfl, rfl, rfl, rfl, rfl, rfl, rfl, rfl, trivial⟩, H.sel [1, 2, 3, 4, 5, 6, 7, 0] rfl⟩
     ·
      clear H e
      rintro T12 _ w31 (H : Cx w0 fp0 S0 w31 [Bx b7 [(.int .i64 g__0), (g__1h).v, (g__2h).v, (g__3h).v], Es (List (Int × Int × List Int × List Int)) g__1 g__1h, Es (List Int) g__2 g__2h, Es (List Int) g__3 g__3h, Bx b0 [(.int .i64 0), (.slice none 0 0), (.slice none 0 0), (.slice none 0 0)], E (List Int) r1 h0, E (List Bool) r3 h3, E (List Int) r6 h4])
      refine boolE (z := false) geLen ?_
      refine sq ?_
      refine loadN [(.int .i64 g__0), (g__1h).v, (g__2h).v, (g__3h).v] rfl (fun j u hj => H.bx 0 rfl hj) ?_
      obtain ⟨y4, e, f56⟩ := bindS f45; clear f45
      obtain ⟨y4_0, y4_1, y4_2, y4_3⟩ := y4
      have i9 := e; clear e
      refine callF (spec_hgMap_c g__0 g__1 g__1h g__2 g__2h g__3 g__3h r6 h4 s6_1 y4_0 y4_1 y4_2 y4_3 i9) (Γi := []) H ⟨Vw.sh 1 rfl, Vw.sh 2 rfl, Vw.sh 3 rfl, Vw.own 7 rfl, trivial⟩ ?_; clear H i9
      rintro _ _ w32 ⟨h5, h6, h7, rfl, rfl⟩ H
      replace H := H.sel [7, 0, 1, 2, 3, 4, 5, 6, 8, 9, 10] rfl
      refine stA gok [(.int .i64 y4_0), (h5).v, (h6).v, (h7).v] rfl H rfl rfl rfl ?_; clear H; intro w33 H
      refine loadN [(.int .i64 y4_0), (h5).v, (h6).v, (h7).v] rfl (fun j u hj => H.bx 0 rfl hj) ?_
      cases f56
      exact ⟨_, _, rfl, ⟨h5, h6, h7, h4, rfl, rfl⟩, (H.sel [1, 2, 3, 10] rfl).close ⟨cloE, cloE, cloE, cloE, trivial⟩⟩

theorem spec_hgGlue_c (g__0 : Int) (g__1 : List (Int × Int × List Int × List Int)) (g__1h : Hd) (g__2 : List Int) (g__2h : Hd) (g__3 : List Int) (g__3h : Hd) (a_ : List Int) (a_h : Hd) (b_ : List Int) (b_h : Hd) (y_0 : Int) (y_1 : List (Int × Int × List Int × List Int)) (y_2 : List Int) (y_3 : List Int) (hF : F_spec_hgGlue (g__0, g__1, g__2, g__3) a_ b_ = some (y_0, y_1, y_2, y_3)) :
  ConF Tryz.prog 85 #[(.agg #[(.int .i64 g__0), (g__1h).v, (g__2h).v, (g__3h).v]), (a_h).v, (b_h).v] [Es (List (Int × Int × List Int × List Int)) g__1 g__1h, Es (List Int) g__2 g__2h, Es (List Int) g__3 g__3h, Es (List Int) a_ a_h, Es (List Int) b_ b_h] [] (fun v Γ' => ∃ z0 z1 z2 : Hd, v = (.agg #[(.int .i64 y_0), (z0).v, (z1).v, (z2).v]) ∧ Γ' = [E (List (Int × Int × List Int × List Int)) y_1 z0, E (List Int) y_2 z1, E (List Int) y_3 z2]) := by
 intro w0 S0 fp0 hI hS
 have H : Cx w0 fp0 S0 w0 [Es (List (Int × Int × List Int × List Int)) g__1 g__1h, Es (List Int) g__2 g__2h, Es (List Int) g__3 g__3h, Es (List Int) a_ a_h, Es (List Int) b_ b_h] := Cx.start hI hS
 clear hI hS
 refine enterC (args := [_, _, _]) gok Tryz.func85 rfl _ rfl rfl rfl ?_
 refine box_ H ?_; clear H; intro b7 w6 hx H
 clear hx
 refine alloc_ gok rfl H ?_; clear H; intro b0 w9 hx H
 clear hx
 refine loadN [(.int .i64 g__0), (g__1h).v, (g__2h).v, (g__3h).v] rfl (fun j u hj => H.bx 1 rfl hj) ?_
 obtain ⟨y0, e, f0⟩ := bindS hF; clear hF
 obtain ⟨⟨y0_0_0, y0_0_1, y0_0_2, y0_0_3⟩, y0_1⟩ := y0
 have i0 := e; clear e
 refine callF (spec_hgGlued_c g__0 g__1 g__1h g__2 g__2h g__3 g__3h a_ a_h b_ b_h y0_0_0 y0_0_1 y0_0_2 y0_0_3 y0_1 i0) (Γi := []) H ⟨Vw.sh 2 rfl, Vw.sh 3 rfl, Vw.sh 4 rfl, Vw.sh 5 rfl, Vw.sh 6 rfl, trivial⟩ ?_; clear H i0
 rintro _ _ w1 ⟨h0, h1, h2, h3, rfl, rfl⟩ H
 refine alloc_ gok rfl H ?_; clear H; intro b1 w2 hx H
 clear hx
 refine stA gok [(.int .i64 y0_0_0), (h0).v, (h1).v, (h2).v] rfl H rfl rfl rfl ?_; clear H; intro w3 H
 refine loadN [(.int .i64 y0_0_0), (h0).v, (h1).v, (h2).v] rfl (fun j u hj => H.bx 0 rfl hj) ?_
 replace H := H.sel [5, 0, 1, 2, 3, 4, 6, 7, 8, 9, 10, 11] rfl
 refine stA gok [(.int .i64 y0_0_0), (h0).v, (h1).v, (h2).v] rfl H rfl rfl rfl ?_; clear H; intro w4 H
 refine loadN [(.int .i64 y0_0_0), (h0).v, (h1).v, (h2).v] rfl (fun j u hj => H.bx 0 rfl hj) ?_
 cases f0
 exact ⟨_, _, rfl, ⟨h0, h1, h2, rfl, rfl⟩, (H.sel [2, 3, 4] rfl).close ⟨cloE, cloE, cloE, trivial⟩⟩

theorem spec_hgSeq_c (a__0 : Int) (a__1 : List (Int × Int × List Int × List Int)) (a__1h : Hd) (a__2 : List Int) (a__2h : Hd) (a__3 : List Int) (a__3h : Hd) (b__0 : Int) (b__1 : List (Int × Int × List Int × List Int)) (b__1h : Hd) (b__2 : List Int) (b__2h : Hd) (b__3 : List Int) (b__3h : Hd) (y_0 : Int) (y_1 : List (Int × Int × List Int × List Int)) (y_2 : List Int) (y_3 : List Int) (hF : F_spec_hgSeq (a__0, a__1, a__2, a__3) (b__0, b__1, b__2, b__3) = some (y_0, y_1, y_2, y_3)) :
  ConF Tryz.prog 55 #[(.agg #[(.int .i64 a__0), (a__1h).v, (a__2h).v, (a__3h).v]), (.agg #[(.int .i64 b__0), (b__1h).v, (b__2h).v, (b__3h).v])] [Es (List (Int × Int × List Int × List Int)) a__1 a__1h, Es (List Int) a__2 a__2h, Es (List Int) a__3 a__3h, Es (List (Int × Int × List Int × List Int)) b__1 b__1h, Es (List Int) b__2 b__2h, Es (List Int) b__3 b__3h] [] (fun v Γ' => ∃ z0 z1 z2 : Hd, v = (.agg #[(.int .i64 y_0), (z0).v, (z1).v, (z2).v]) ∧ Γ' = [E (List (Int × Int × List Int × List Int)) y_1 z0, E (List Int) y_2 z1, E (List Int) y_3 z2]) := by
 intro w0 S0 fp0 hI hS
 have H : Cx w0 fp0 S0 w0 [Es (List (Int × Int × List Int × List Int)) a__1 a__1h, Es (List Int) a__2 a__2h, Es (List Int) a__3 a__3h, Es (List (Int × Int × List Int × List Int)) b__1 b__1h, Es (List Int) b__2 b__2h, Es (List Int) b__3 b__3h] := Cx.start hI hS
 clear hI hS
 refine enterC (args := [_, _]) gok Tryz.func55 rfl _ rfl rfl rfl ?_
 refine box_ H ?_; clear H; intro b8 w7 hx H
 clear hx
 refine box_ H ?_; clear H; intro b0 w1 hx H
 clear hx
 refine alloc_ gok rfl H ?_; clear H; intro b1 w2 hx H
 clear hx
 refine loadN [(.int .i64 a__0), (a__1h).v, (a__2h).v, (a__3h).v] rfl (fun j u hj => H.bx 2 rfl hj) ?_
 refine loadN [(.int .i64 b__0), (b__1h).v, (b__2h).v, (b__3h).v] rfl (fun j u hj => H.bx 1 rfl hj) ?_
 obtain ⟨y0, e, f0⟩ := bindS hF; clear hF
 obtain ⟨y0_0, y0_1, y0_2, y0_3⟩ := y0
 have i0 := e; clear e
 refine callF (spec_hgBeside_c a__0 a__1 a__1h a__2 a__2h a__3 a__3h b__0 b__1 b__1h b__2 b__2h b__3 b__3h y0_0 y0_1 y0_2 y0_3 i0) (Γi := []) H ⟨Vw.sh 3 rfl, Vw.sh 4 rfl, Vw.sh 5 rfl, Vw.sh 6 rfl, Vw.sh 7 rfl, Vw.sh 8 rfl, trivial⟩ ?_; clear H i0
 rintro _ _ w3 ⟨h0, h1, h2, rfl, rfl⟩ H
 refine alloc_ gok rfl H ?_; clear H; intro b2 w4 hx H
 clear hx
 refine stA gok [(.int .i64 y0_0), (h0).v, (h1).v, (h2).v] rfl H rfl rfl rfl ?_; clear H; intro w5 H
 refine heldX H [] (.fst 0 (.fst 3 (.fst 1 (.fst 2 (.fst 6 (.fst 4 (.fst 5 (.fst 7 .done)))))))) mixed [] trivial (by kernel_rfl) ?_
 clear H; intro w6 H
 have hX : Ext w6 w6 := Upd.refl _ _
 have H0 := H
 refine anyH (fun _ => fld gok rfl rfl rfl rfl ⟨rfl, rfl⟩) ?_
 refine anyH (fun _ => fld gok rfl rfl rfl rfl ⟨rfl, rfl⟩) ?_
 refine load1X (H.bx 6 rfl (j := 2) rfl) ?_
 refine lenE (H.rs (α := List Int) 8 rfl).len ?_
 refine load1X (H.bx 6 rfl (j := 3) rfl) ?_
 refine lenE (H.rs (α := List Int) 9 rfl).len ?_
 refine heldX H [] (.fst 0 (.fst 2 (.fst 5 (.fst 7 (.fst 1 (.fst 3 (.fst 6 (.fst 8 (.act 4 (.act 9 (.fst 10 (.fst 11 .done)))))))))))) mixed [] trivial (by kernel_rfl) ?_
 clear H; intro w8 H
 have hX : Ext w8 w8 := Upd.refl _ _
 have H0 := H
 refine anyH (fun _ => fld gok rfl rfl rfl rfl ⟨rfl, rfl⟩) ?_
 refine anyH (fun _ => fld gok rfl rfl rfl rfl ⟨rfl, rfl⟩) ?_
 refine load1X (H.bx 0 rfl (j := 3) rfl) ?_
 obtain ⟨a0, e, f1⟩ := bindS f0; clear f0
 replace H := H.sel [3, 0, 1, 2, 4, 5, 6, 7, 8, 9, 10, 11, 12] rfl
 replace H := H.frz
 refine slSX (α := Int) gok rfl rfl H 0 rfl e rfl rfl ?_; clear e; intro h3 HH; clear H; have H := HH; clear HH
 refine load1X (H.bx 2 rfl (j := 2) rfl) ?_
 obtain ⟨a1, e, f2⟩ := bindS f1; clear f1
 replace H := H.sel [4, 0, 1, 2, 3, 5, 6, 7, 8, 9, 10, 11, 12, 13] rfl
 replace H := H.frz
 refine slSX (α := Int) (hi := none) gok rfl rfl H 0 rfl e rfl (congrArg (fun n : Nat => some (n : Int)) (H.rs (α := List Int) 0 rfl).len) ?_; clear e; intro h4 HH; clear H; have H := HH; clear HH
 obtain ⟨y1, e, f3⟩ := bindS f2; clear f2
 have i1 := e; clear e
 refine callFx (spec_l1Own_c a0 h3 y1 i1) H ⟨Vw.sh 2 rfl, trivial⟩ ?_; clear H i1
 rintro _ _ w9 ⟨h5, rfl, rfl⟩ hx H
 replace hX := hX.trans0 hx; clear hx
 refine hold hX ?_
 obtain ⟨y2, e, f4⟩ := bindS f3; clear f3
 have i2 := e; clear e
 refine callFx (spec_l1Own_c a1 h4 y2 i2) H ⟨Vw.sh 1 rfl, trivial⟩ ?_; clear H i2
 rintro _ _ w11 ⟨h6, rfl, rfl⟩ hx H
 replace hX := hX.trans0 hx; clear hx
 refine hold hX ?_
 refine fld gok rfl rfl rfl rfl ?_
 refine load1 (H.bx 6 rfl (j := 2) rfl) ?_
 obtain ⟨a2, e, f5⟩ := bindS f4; clear f4
 refine slS (α := Int) gok rfl rfl H 3 rfl e rfl rfl ?_; clear e H; intro h7 H
 refine fld gok rfl rfl rfl rfl ?_
 replace H := H.sel [7, 0, 1, 2, 3, 4, 5, 6, 8, 9, 10, 11, 12, 13, 14, 15, 16, 17] rfl
 refine stB (j := 2) H rfl rfl ?_; clear H; intro w12 H
 refine fld gok rfl rfl rfl rfl ?_
 refine load1 (H.bx 0 rfl (j := 3) rfl) ?_
 obtain ⟨a3, e, f6⟩ := bindS f5; clear f5
 refine slS (α := Int) (hi := none) gok rfl rfl H 7 rfl e rfl (congrArg (fun n : Nat => some (n : Int)) (H.rs (α := List Int) 7 rfl).len) ?_; clear e H; intro h8 H
 refine fld gok rfl rfl rfl rfl ?_
 replace H := H.sel [1, 0, 2, 3, 4, 5, 6, 7, 8, 9, 10, 11, 12, 13, 14, 15, 16, 17, 18] rfl
 refine stB (j := 3) H rfl rfl ?_; clear H; intro w14 H
 refine loadN [(.int .i64 y0_0), (h0).v, (h7).v, (h8).v] rfl (fun j u hj => H.bx 0 rfl hj) ?_
 obtain ⟨y3, e, f7⟩ := bindS f6; clear f6
 obtain ⟨y3_0, y3_1, y3_2, y3_3⟩ := y3
 have i3 := e; clear e
 refine callF (spec_hgGlue_c y0_0 y0_1 h0 a2 h7 a3 h8 y1 h5 y2 h6 y3_0 y3_1 y3_2 y3_3 i3) (Γi := []) H ⟨Vw.own 9 rfl, Vw.sh 2 rfl, Vw.sh 1 rfl, Vw.own 4 rfl, Vw.own 3 rfl, trivial⟩ ?_; clear H i3
 rintro _ _ w15 ⟨h9, h10, h11, rfl, rfl⟩ H
 replace H := H.sel [13, 0, 1, 2, 3, 4, 5, 6, 7, 8, 9, 10, 11, 12, 14, 15, 16, 17, 18, 19, 20, 21] rfl
 refine stA gok [(.int .i64 y3_0), (h9).v, (h10).v, (h11).v] rfl H rfl rfl rfl ?_; clear H; intro w16 H
 refine loadN [(.int .i64 y3_0), (h9).v, (h10).v, (h11).v] rfl (fun j u hj => H.bx 0 rfl hj) ?_
 cases f7
 exact ⟨_, _, rfl, ⟨h9, h10, h11, rfl, rfl⟩, (H.sel [1, 2, 3] rfl).close ⟨cloE, cloE, cloE, trivial⟩⟩

theorem spec_l1All_c (l_ : List Int) (l_h : Hd) (lo_ : Int) (hi_ : Int) (y : Bool) (hF : F_spec_l1All l_ lo_ hi_ = some y) :
  ConF Tryz.prog 88 #[(l_h).v, (.int .i64 lo_), (.int .i64 hi_)] [Es (List Int) l_ l_h] [] (fun v Γ' => v = (.bool y) ∧ Γ' = []) := by
 intro w0 S0 fp0 hI hS
 have H : Cx w0 fp0 S0 w0 [Es (List Int) l_ l_h] := Cx.start hI hS
 clear hI hS
 refine enterC (args := [_, _, _]) gok Tryz.func88 rfl _ rfl rfl rfl ?_
 refine sq ?_
 refine lenE (H.rs (α := List Int) 0 rfl).len ?_
 have x0 := (H.rs (α := List Int) 0 rfl).max
 obtain ⟨r0, e, f0⟩ := bindS hF; clear hF
 refine loopO _ l_.length (fun (k2 : Nat) (_ : Unit) (_ : Unit) => [(1, (.int .i64 lo_)), (2, (.int .i64 hi_)), (9, (l_h).v), (10, (.int .i64 ((l_.length : Nat) : Int))), (11, (.int .i64 ((k2 : Nat) : Int)))]) (fun _ (_ : Unit) (_ : Unit) w' => Cx w0 fp0 S0 w' [Es (List Int) l_ l_h]) () () e ⟨rfl, rfl, rfl, rfl, rfl, trivial⟩ (H.sel [0] rfl) ?_ ?_
 ·
  clear H e
  rintro T0 k2 _ _ w1 o0 hk (H : Cx w0 fp0 S0 w1 [Es (List Int) l_ l_h]) hrt f1
  refine boolE (z := true) (ltLen hk) ?_
  refine sq ?_
  refine sq ?_
  obtain ⟨a0, e, f2⟩ := bindS f1; clear f1
  obtain ⟨p0, m0, c0, c1, c2, c3⟩ := (H.rs (α := List Int) 0 rfl).at1 e; clear e
  refine idxE c0 c1 c2 ?_; clear c0 c1 c2
  refine load1 c3 ?_; clear c3
  obtain ⟨y0, e, f3⟩ := bindS f2; clear f2
  have i0 := e; clear e
  refine callF (spec_l1In_c a0 lo_ hi_ y0 i0) (Γi := []) H trivial ?_; clear H i0
  rintro _ _ w2 ⟨rfl, rfl⟩ H
  obtain ⟨a1, e, f4⟩ := bindS f3; clear f3
  refine boolO e ?_; clear e
  cases a1
  ·
   have f5 := condF f4; clear f4
   refine arK hk x0 ?_
   have hs := Option.some.inj f5; subst hs; clear f5
   exact ⟨(), (), rfl, ⟨rfl, rfl, rfl, rfl, rfl, trivial⟩, H.sel [0] rfl⟩
  ·
   have f6 := condT f4; clear f4
   have hs := Option.some.inj f6; subst hs; clear f6
   have hr := hrt _ rfl; subst hr
   have f7 : some _ = some _ := f0
   cases f7
   exact ⟨_, _, rfl, ⟨rfl, rfl⟩, (H.sel [] rfl).close trivial⟩
 ·
  clear H e
  rintro T1 _ _ w3 hr (H : Cx w0 fp0 S0 w3 [Es (List Int) l_ l_h])
  subst hr
  refine boolE (z := false) geLen ?_
  refine sq ?_
  cases f0
  exact ⟨_, _, rfl, ⟨rfl, rfl⟩, (H.sel [] rfl).close trivial⟩
end Go.Proofs.YtmchibapkddniaaGreat
