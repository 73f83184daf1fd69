/-
 Contracts, printed by a program (wip/y/gen.py): each function of Go computes its partial function. Condition of each: its partial function yields a value.
-/
import Derived.Test.YtocpeclcoikdpaaDoorZEng
import Derived.Test.YtocpeclcoikdpaaDoorZFn
namespace Go.Proofs.YtocpeclcoikdpaaDoor
open Go Go.Proofs.YtocpeclcoikdpaaDoor.RW
set_option maxRecDepth 100000
set_option linter.unusedVariables false

theorem laws_toIntS_c (a_ : List Int) (a_h : Hd) (y : List Int) (hF : F_laws_toIntS a_ = some y) :
  ConF Tryd.prog 16 #[(a_h).v] [Es (List Int) a_ a_h] [] (fun v Γ' => ∃ z0 : Hd, v = (z0).v ∧ Γ' = [E (List Int) y z0]) := by
 intro w0 S0 fp0 hI hS
 have H : Cx w0 fp0 S0 w0 [Es (List Int) a_ a_h] := Cx.start hI hS
 clear hI hS
 refine enterC (args := [_]) gok Tryd.func16 rfl _ rfl rfl rfl ?_
 refine lenE (H.rs (α := List Int) 0 rfl).len ?_
 obtain ⟨a2, e, hF3⟩ := bindS hF; clear hF
 refine make_ (α := Int) gok rfl rfl rfl rfl (makeCO_of e) H ?_; clear e H; intro h5 w4 hx H
 clear hx
 obtain ⟨r0, f0, f1⟩ := bindS hF3; clear hF3
 refine cut (fun (q0 : List Int) => [(3, (h5).v)]) (fun (q0 : List Int) w' => q0 = r0 ∧ Cx w0 fp0 S0 w' [E (List Int) q0 h5]) ?_ ?_
 ·
  refine loopW _ (fun (s0 : List Int × Int) (_ : Unit) => [(0, (a_h).v), (3, (h5).v), (4, (.int .i64 s0.2))]) (fun (s0 : List Int × Int) (_ : Unit) w' => Cx w0 fp0 S0 w' [Es (List Int) a_ a_h, E (List Int) s0.1 h5]) (a2, 0) () f0 ⟨rfl, rfl, rfl, trivial⟩ (H.sel [1, 0] rfl) ?_
  ·
   clear H
   rintro T0 ⟨s0_0, s0_1⟩ _ w1 o0 (H : Cx w0 fp0 S0 w1 [Es (List Int) a_ a_h, E (List Int) s0_0 h5]) hrt f2
   refine sq ?_
   refine lenE (H.rs (α := List Int) 0 rfl).len ?_
   obtain ⟨a0, e, f3⟩ := bindS f2; clear f2
   refine boolO e ?_; clear e
   cases a0
   ·
    have f4 := condF f3; clear f3
    have hs := Option.some.inj f4; subst hs; clear f4
    have f5 : some _ = some _ := congrArg some (hrt _ rfl).symm
    exact ⟨s0_0, ⟨rfl, trivial⟩, Option.some.inj f5, H.sel [1] rfl⟩
   ·
    have f6 := condT f3; clear f3
    refine sq ?_
    obtain ⟨a1, e, f7⟩ := bindS f6; clear f6
    obtain ⟨p0, m0, c0, c1, c2, c3⟩ := (H.rs (α := List Int) 0 rfl).at1 e; clear e
    refine idxE c0 c1 c2 ?_; clear c0 c1 c2
    refine load1 c3 ?_; clear c3
    obtain ⟨a3, e, f8⟩ := bindS f7; clear f7
    have ea174 := e; clear e
    obtain ⟨p1, m1, c4, c5, c6⟩ := (H.ro (α := List Int) 1 rfl).setp ea174
    refine idxE c4 c5 c6 ?_
    replace H := H.sel [1, 0] rfl
    refine setS (α := Int) H c4 c5 ea174 ?_; clear H c4 c5 c6 ea174; intro w2 H
    obtain ⟨a4, e, f9⟩ := bindS f8; clear f8
    refine arO e ?_; clear e
    have hs := Option.some.inj f9; subst hs; clear f9
    exact ⟨(a3, a4), (), rfl, ⟨rfl, rfl, rfl, trivial⟩, H.sel [1, 0] rfl⟩
 ·
  clear f0 H
  rintro T1 s1 w3 ⟨hr, (H : Cx w0 fp0 S0 w3 [E (List Int) s1 h5])⟩
  subst hr
  cases f1
  exact ⟨_, _, rfl, ⟨h5, rfl, rfl⟩, (H.sel [0] rfl).close ⟨cloE, trivial⟩⟩

theorem spec_l1In_c (n_ : Int) (lo_ : Int) (hi_ : Int) (y : Bool) (hF : F_spec_l1In n_ lo_ hi_ = some y) :
  ConF Tryd.prog 78 #[(.int .i64 n_), (.int .i64 lo_), (.int .i64 hi_)] [] [] (fun v Γ' => v = (.bool y) ∧ Γ' = []) := by
 intro w0 S0 fp0 hI hS
 have H : Cx w0 fp0 S0 w0 [] := Cx.start hI hS
 clear hI hS
 refine enterC (args := [_, _, _]) gok Tryd.func78 rfl _ rfl rfl rfl ?_
 obtain ⟨r9, f0, f1⟩ := bindS hF; clear hF
 refine cut (fun (q0 : Bool) => [(6, (.bool q0))]) (fun (q0 : Bool) w' => q0 = r9 ∧ Cx w0 fp0 S0 w' []) ?_ ?_
 ·
  obtain ⟨a0, e, f2⟩ := bindS f0; clear f0
  refine boolO e ?_; clear e
  cases a0
  ·
   have f3 := condF f2; clear f2
   exact ⟨false, ⟨rfl, trivial⟩, Option.some.inj f3, H.sel [] rfl⟩
  ·
   have f4 := condT f2; clear f2
   obtain ⟨a1, e, f5⟩ := bindS f4; clear f4
   refine boolO e ?_; clear e
   exact ⟨a1, ⟨rfl, trivial⟩, Option.some.inj f5, H.sel [] rfl⟩
 ·
  clear f0 H
  rintro T0 s7 w1 ⟨hr, (H : Cx w0 fp0 S0 w1 [])⟩
  subst hr
  cases f1
  exact ⟨_, _, rfl, ⟨rfl, rfl⟩, (H.sel [] rfl).close trivial⟩

theorem spec_fdGood_c (p_ : Int) (y : Bool) (hF : F_spec_fdGood p_ = some y) :
  ConF Tryd.prog 76 #[(.int .i64 p_)] [] [] (fun v Γ' => v = (.bool y) ∧ Γ' = []) := by
 intro w0 S0 fp0 hI hS
 have H : Cx w0 fp0 S0 w0 [] := Cx.start hI hS
 clear hI hS
 refine enterC (args := [_]) gok Tryd.func76 rfl _ rfl rfl rfl ?_
 refine sq ?_
 obtain ⟨y1, e, hF2⟩ := bindS hF; clear hF
 have ey1 := e; clear e
 refine callF (spec_l1In_c p_ 2 97 y1 ey1) (Γi := []) H trivial ?_; clear H ey1
 rintro _ _ w3 ⟨rfl, rfl⟩ H
 obtain ⟨a4, e, hF5⟩ := bindS hF2; clear hF2
 refine boolO e ?_; clear e
 cases a4
 ·
  have hF6 := condF hF5; clear hF5
  obtain ⟨r0, f0, f1⟩ := bindS hF6; clear hF6
  refine cut (fun (q0 : Unit) => []) (fun (q0 : Unit) w' => .inl () = r0 ∧ Cx w0 fp0 S0 w' []) ?_ ?_
  ·
   refine loopW _ (fun (s0 : Int) (_ : Unit) => [(0, (.int .i64 p_)), (3, (.int .i64 s0))]) (fun (s0 : Int) (_ : Unit) w' => Cx w0 fp0 S0 w' []) 2 () f0 ⟨rfl, rfl, trivial⟩ (H.sel [] rfl) ?_
   ·
    clear H
    rintro T0 s0 _ w1 o0 (H : Cx w0 fp0 S0 w1 []) hrt f2
    refine sq ?_
    obtain ⟨a0, e, f3⟩ := bindS f2; clear f2
    refine arO e ?_; clear e
    obtain ⟨a1, e, f4⟩ := bindS f3; clear f3
    refine boolO e ?_; clear e
    cases a1
    ·
     have f5 := condF f4; clear f4
     have hs := Option.some.inj f5; subst hs; clear f5
     have f6 : some _ = some _ := congrArg some (hrt _ rfl).symm
     exact ⟨(), trivial, Option.some.inj f6, H.sel [] rfl⟩
    ·
     have f7 := condT f4; clear f4
     refine sq ?_
     obtain ⟨a2, e, f8⟩ := bindS f7; clear f7
     refine remO_ e ?_; clear e
     obtain ⟨a3, e, f9⟩ := bindS f8; clear f8
     refine boolO e ?_; clear e
     cases a3
     ·
      have f10 := condF f9; clear f9
      obtain ⟨a5, e, f11⟩ := bindS f10; clear f10
      refine arO e ?_; clear e
      have hs := Option.some.inj f11; subst hs; clear f11
      exact ⟨a5, (), rfl, ⟨rfl, rfl, trivial⟩, H.sel [] rfl⟩
     ·
      have f12 := condT f9; clear f9
      have hs := Option.some.inj f12; subst hs; clear f12
      have f13 : some _ = some _ := congrArg some (hrt _ rfl).symm
      have hs := Option.some.inj f13; subst hs; clear f13
      have f14 : some _ = some _ := f1; clear f1
      cases f14
      exact ⟨_, _, rfl, ⟨rfl, rfl⟩, (H.sel [] rfl).close trivial⟩
  ·
   clear f0 H
   rintro T1 _ w2 ⟨hr, (H : Cx w0 fp0 S0 w2 [])⟩
   subst hr
   cases f1
   exact ⟨_, _, rfl, ⟨rfl, rfl⟩, (H.sel [] rfl).close trivial⟩
 ·
  have f15 := condT hF5; clear hF5
  cases f15
  exact ⟨_, _, rfl, ⟨rfl, rfl⟩, (H.sel [] rfl).close trivial⟩

theorem spec_l1All_c (l_ : List Int) (l_h : Hd) (lo_ : Int) (hi_ : Int) (y : Bool) (hF : F_spec_l1All l_ lo_ hi_ = some y) :
  ConF Tryd.prog 105 #[(l_h).v, (.int .i64 lo_), (.int .i64 hi_)] [Es (List Int) l_ l_h] [] (fun v Γ' => v = (.bool y) ∧ Γ' = []) := by
 intro w0 S0 fp0 hI hS
 have H : Cx w0 fp0 S0 w0 [Es (List Int) l_ l_h] := Cx.start hI hS
 clear hI hS
 refine enterC (args := [_, _, _]) gok Tryd.func105 rfl _ rfl rfl rfl ?_
 refine sq ?_
 refine lenE (H.rs (α := List Int) 0 rfl).len ?_
 have x0 := (H.rs (α := List Int) 0 rfl).max
 obtain ⟨r0, e, f0⟩ := bindS hF; clear hF
 refine loopO _ l_.length (fun (k2 : Nat) (_ : Unit) (_ : Unit) => [(1, (.int .i64 lo_)), (2, (.int .i64 hi_)), (9, (l_h).v), (10, (.int .i64 ((l_.length : Nat) : Int))), (11, (.int .i64 ((k2 : Nat) : Int)))]) (fun _ (_ : Unit) (_ : Unit) w' => Cx w0 fp0 S0 w' [Es (List Int) l_ l_h]) () () e ⟨rfl, rfl, rfl, rfl, rfl, trivial⟩ (H.sel [0] rfl) ?_ ?_
 ·
  clear H e
  rintro T0 k2 _ _ w1 o0 hk (H : Cx w0 fp0 S0 w1 [Es (List Int) l_ l_h]) hrt f1
  refine boolE (z := true) (ltLen hk) ?_
  refine sq ?_
  refine sq ?_
  obtain ⟨a0, e, f2⟩ := bindS f1; clear f1
  obtain ⟨p0, m0, c0, c1, c2, c3⟩ := (H.rs (α := List Int) 0 rfl).at1 e; clear e
  refine idxE c0 c1 c2 ?_; clear c0 c1 c2
  refine load1 c3 ?_; clear c3
  obtain ⟨y0, e, f3⟩ := bindS f2; clear f2
  have ey37 := e; clear e
  refine callF (spec_l1In_c a0 lo_ hi_ y0 ey37) (Γi := []) H trivial ?_; clear H ey37
  rintro _ _ w2 ⟨rfl, rfl⟩ H
  obtain ⟨a1, e, f4⟩ := bindS f3; clear f3
  refine boolO e ?_; clear e
  cases a1
  ·
   have f5 := condF f4; clear f4
   refine arK hk x0 ?_
   have hs := Option.some.inj f5; subst hs; clear f5
   exact ⟨(), (), rfl, ⟨rfl, rfl, rfl, rfl, rfl, trivial⟩, H.sel [0] rfl⟩
  ·
   have f6 := condT f4; clear f4
   have hs := Option.some.inj f6; subst hs; clear f6
   have hr := hrt _ rfl; subst hr
   have f7 : some _ = some _ := f0
   cases f7
   exact ⟨_, _, rfl, ⟨rfl, rfl⟩, (H.sel [] rfl).close trivial⟩
 ·
  clear H e
  rintro T1 _ _ w3 hr (H : Cx w0 fp0 S0 w3 [Es (List Int) l_ l_h])
  subst hr
  refine boolE (z := false) geLen ?_
  refine sq ?_
  cases f0
  exact ⟨_, _, rfl, ⟨rfl, rfl⟩, (H.sel [] rfl).close trivial⟩

theorem spec_fdIn_c (p_ : Int) (l_ : List Int) (l_h : Hd) (y : Bool) (hF : F_spec_fdIn p_ l_ = some y) :
  ConF Tryd.prog 77 #[(.int .i64 p_), (l_h).v] [Es (List Int) l_ l_h] [] (fun v Γ' => v = (.bool y) ∧ Γ' = []) := by
 intro w0 S0 fp0 hI hS
 have H : Cx w0 fp0 S0 w0 [Es (List Int) l_ l_h] := Cx.start hI hS
 clear hI hS
 refine enterC (args := [_, _]) gok Tryd.func77 rfl _ rfl rfl rfl ?_
 obtain ⟨a2, e, hF3⟩ := bindS hF; clear hF
 refine arO e ?_; clear e
 obtain ⟨y4, e, hF5⟩ := bindS hF3; clear hF3
 have ey4 := e; clear e
 refine callF (spec_l1All_c l_ l_h 0 a2 y4 ey4) (Γi := []) H ⟨Vw.sh 0 rfl, trivial⟩ ?_; clear H ey4
 rintro _ _ w6 ⟨rfl, rfl⟩ H
 cases hF5
 exact ⟨_, _, rfl, ⟨rfl, rfl⟩, (H.sel [] rfl).close trivial⟩

theorem spec_rzList_c (p_ : Int) (s_ : List Int) (s_h : Hd) (y : Bool) (hF : F_spec_rzList p_ s_ = some y) :
  ConF Tryd.prog 44 #[(.int .i64 p_), (s_h).v] [Es (List Int) s_ s_h] [] (fun v Γ' => v = (.bool y) ∧ Γ' = []) := by
 intro w0 S0 fp0 hI hS
 have H : Cx w0 fp0 S0 w0 [Es (List Int) s_ s_h] := Cx.start hI hS
 clear hI hS
 refine enterC (args := [_, _]) gok Tryd.func44 rfl _ rfl rfl rfl ?_
 obtain ⟨r0, f0, f1⟩ := bindS hF; clear hF
 refine cut (fun (q0 : Bool) => [(4, (.bool q0))]) (fun (q0 : Bool) w' => q0 = r0 ∧ Cx w0 fp0 S0 w' []) ?_ ?_
 ·
  obtain ⟨y0, e, f2⟩ := bindS f0; clear f0
  have ey20 := e; clear e
  refine callF (spec_fdGood_c p_ y0 ey20) (Γi := []) H trivial ?_; clear H ey20
  rintro _ _ w1 ⟨rfl, rfl⟩ H
  cases y0
  ·
   have f3 := condF f2; clear f2
   exact ⟨false, ⟨rfl, trivial⟩, Option.some.inj f3, H.sel [] rfl⟩
  ·
   have f4 := condT f2; clear f2
   refine lenE (H.rs (α := List Int) 0 rfl).len ?_
   obtain ⟨a0, e, f5⟩ := bindS f4; clear f4
   refine boolO e ?_; clear e
   cases a0
   ·
    have f6 := condF f5; clear f5
    exact ⟨false, ⟨rfl, trivial⟩, Option.some.inj f6, H.sel [] rfl⟩
   ·
    have f7 := condT f5; clear f5
    obtain ⟨y1, e, f8⟩ := bindS f7; clear f7
    have ey29 := e; clear e
    refine callF (spec_fdIn_c p_ s_ s_h y1 ey29) (Γi := []) H ⟨Vw.sh 0 rfl, trivial⟩ ?_; clear H ey29
    rintro _ _ w2 ⟨rfl, rfl⟩ H
    exact ⟨y1, ⟨rfl, trivial⟩, Option.some.inj f8, H.sel [] rfl⟩
 ·
  clear f0 H
  rintro T0 s0 w3 ⟨hr, (H : Cx w0 fp0 S0 w3 [])⟩
  subst hr
  cases f1
  exact ⟨_, _, rfl, ⟨rfl, rfl⟩, (H.sel [] rfl).close trivial⟩

theorem spec_mxGood_c (p_ : Int) (m__0 : Int) (m__1 : List (List Int)) (m__1h : Hd) (y : Bool) (hF : F_spec_mxGood p_ (m__0, m__1) = some y) :
  ConF Tryd.prog 79 #[(.int .i64 p_), (.agg #[(.int .i64 m__0), (m__1h).v])] [Es (List (List Int)) m__1 m__1h] [] (fun v Γ' => v = (.bool y) ∧ Γ' = []) := by
 intro w0 S0 fp0 hI hS
 have H : Cx w0 fp0 S0 w0 [Es (List (List Int)) m__1 m__1h] := Cx.start hI hS
 clear hI hS
 refine enterC (args := [_, _]) gok Tryd.func79 rfl _ rfl rfl rfl ?_
 refine box_ H ?_; clear H; intro b3 w2 hx H
 clear hx
 refine sq ?_
 obtain ⟨r0, f0, f1⟩ := bindS hF; clear hF
 refine cut (fun (q0 : Bool) => [(0, (.int .i64 p_)), (3, (.pointer (some ⟨b3, 0, none⟩))), (21, (.bool q0))]) (fun (q0 : Bool) w' => q0 = r0 ∧ Cx w0 fp0 S0 w' [Bx b3 [(.int .i64 m__0), (m__1h).v], Es (List (List Int)) m__1 m__1h]) ?_ ?_
 ·
  obtain ⟨y0, e, f2⟩ := bindS f0; clear f0
  have ey27 := e; clear e
  refine callF (spec_fdGood_c p_ y0 ey27) (Γi := []) H trivial ?_; clear H ey27
  rintro _ _ w1 ⟨rfl, rfl⟩ H
  obtain ⟨a0, e, f3⟩ := bindS f2; clear f2
  refine boolO e ?_; clear e
  cases a0
  ·
   have f4 := condF f3; clear f3
   refine fld gok rfl rfl rfl rfl ?_
   refine load1 (H.bx 0 rfl (j := 0) rfl) ?_
   obtain ⟨y1, e, f5⟩ := bindS f4; clear f4
   have ey33 := e; clear e
   refine callF (spec_l1In_c m__0 0 24 y1 ey33) (Γi := []) H trivial ?_; clear H ey33
   rintro _ _ w3 ⟨rfl, rfl⟩ H
   obtain ⟨a1, e, f6⟩ := bindS f5; clear f5
   refine boolO e ?_; clear e
   cases a1
   ·
    have f7 := condF f6; clear f6
    refine fld gok rfl rfl rfl rfl ?_
    refine load1 (H.bx 0 rfl (j := 1) rfl) ?_
    refine lenE (H.rs (α := List (List Int)) 1 rfl).len ?_
    obtain ⟨a2, e, f8⟩ := bindS f7; clear f7
    refine boolO e ?_; clear e
    exact ⟨a2, ⟨rfl, rfl, rfl, trivial⟩, Option.some.inj f8, H.sel [0, 1] rfl⟩
   ·
    have f9 := condT f6; clear f6
    exact ⟨true, ⟨rfl, rfl, rfl, trivial⟩, Option.some.inj f9, H.sel [0, 1] rfl⟩
  ·
   have f10 := condT f3; clear f3
   exact ⟨true, ⟨rfl, rfl, rfl, trivial⟩, Option.some.inj f10, H.sel [0, 1] rfl⟩
 ·
  clear f0 H
  rintro T0 s0 w4 ⟨hr, (H : Cx w0 fp0 S0 w4 [Bx b3 [(.int .i64 m__0), (m__1h).v], Es (List (List Int)) m__1 m__1h])⟩
  subst hr
  cases s0
  ·
   have f11 := condF f1; clear f1
   refine sq ?_
   refine fld gok rfl rfl rfl rfl ?_
   refine load1 (H.bx 0 rfl (j := 1) rfl) ?_
   refine lenE (H.rs (α := List (List Int)) 1 rfl).len ?_
   have x0 := (H.rs (α := List (List Int)) 1 rfl).max
   obtain ⟨r1, e, f12⟩ := bindS f11; clear f11
   refine loopO _ m__1.length (fun (k0 : Nat) (_ : Unit) (_ : Unit) => [(0, (.int .i64 p_)), (3, (.pointer (some ⟨b3, 0, none⟩))), (23, (m__1h).v), (24, (.int .i64 ((m__1.length : Nat) : Int))), (25, (.int .i64 ((k0 : Nat) : Int)))]) (fun _ (_ : Unit) (_ : Unit) w' => Cx w0 fp0 S0 w' [Bx b3 [(.int .i64 m__0), (m__1h).v], Es (List (List Int)) m__1 m__1h]) () () e ⟨rfl, rfl, rfl, rfl, rfl, trivial⟩ (H.sel [0, 1] rfl) ?_ ?_
   ·
    clear H e
    rintro T1 k0 _ _ w5 o0 hk (H : Cx w0 fp0 S0 w5 [Bx b3 [(.int .i64 m__0), (m__1h).v], Es (List (List Int)) m__1 m__1h]) hrt f13
    refine boolE (z := true) (ltLen hk) ?_
    refine sq ?_
    refine sq ?_
    obtain ⟨a3, e, f14⟩ := bindS f13; clear f13
    have HH := H; clear H; obtain ⟨p0, m0, h0, c0, c1, c2, c3, H⟩ := HH.elL 1 rfl e; clear HH
    clear e
    refine idxE c0 c1 c2 ?_; clear c0 c1 c2
    refine load1 c3 ?_; clear c3
    obtain ⟨r2, f15, f16⟩ := bindS f14; clear f14
    refine cut (fun (q1 : Bool) => [(0, (.int .i64 p_)), (3, (.pointer (some ⟨b3, 0, none⟩))), (23, (m__1h).v), (24, (.int .i64 ((m__1.length : Nat) : Int))), (25, (.int .i64 ((k0 : Nat) : Int))), (39, (.bool q1))]) (fun (q1 : Bool) w' => q1 = r2 ∧ Cx w0 fp0 S0 w' [Bx b3 [(.int .i64 m__0), (m__1h).v], Es (List (List Int)) m__1 m__1h]) ?_ ?_
    ·
     refine lenE (H.rs (α := List Int) 0 rfl).len ?_
     refine fld gok rfl rfl rfl rfl ?_
     refine load1 (H.bx 1 rfl (j := 0) rfl) ?_
     obtain ⟨a4, e, f17⟩ := bindS f15; clear f15
     refine boolO e ?_; clear e
     cases a4
     ·
      have f18 := condF f17; clear f17
      obtain ⟨y2, e, f19⟩ := bindS f18; clear f18
      have ey124 := e; clear e
      refine callF (spec_fdIn_c p_ a3 h0 y2 ey124) (Γi := []) H ⟨Vw.sh 0 rfl, trivial⟩ ?_; clear H ey124
      rintro _ _ w6 ⟨rfl, rfl⟩ H
      obtain ⟨a5, e, f20⟩ := bindS f19; clear f19
      refine boolO e ?_; clear e
      exact ⟨a5, ⟨rfl, rfl, rfl, rfl, rfl, rfl, trivial⟩, Option.some.inj f20, H.sel [1, 2] rfl⟩
     ·
      have f21 := condT f17; clear f17
      exact ⟨true, ⟨rfl, rfl, rfl, rfl, rfl, rfl, trivial⟩, Option.some.inj f21, H.sel [1, 2] rfl⟩
    ·
     clear f15 H
     rintro T2 s1 w7 ⟨hr, (H : Cx w0 fp0 S0 w7 [Bx b3 [(.int .i64 m__0), (m__1h).v], Es (List (List Int)) m__1 m__1h])⟩
     subst hr
     cases s1
     ·
      have f22 := condF f16; clear f16
      refine arK hk x0 ?_
      have hs := Option.some.inj f22; subst hs; clear f22
      exact ⟨(), (), rfl, ⟨rfl, rfl, rfl, rfl, rfl, trivial⟩, H.sel [0, 1] rfl⟩
     ·
      have f23 := condT f16; clear f16
      have hs := Option.some.inj f23; subst hs; clear f23
      have hr := hrt _ rfl; subst hr
      have f24 : some _ = some _ := f12
      cases f24
      exact ⟨_, _, rfl, ⟨rfl, rfl⟩, (H.sel [] rfl).close trivial⟩
   ·
    clear H e
    rintro T3 _ _ w8 hr (H : Cx w0 fp0 S0 w8 [Bx b3 [(.int .i64 m__0), (m__1h).v], Es (List (List Int)) m__1 m__1h])
    subst hr
    refine boolE (z := false) geLen ?_
    refine sq ?_
    cases f12
    exact ⟨_, _, rfl, ⟨rfl, rfl⟩, (H.sel [] rfl).close trivial⟩
  ·
   have f25 := condT f1; clear f1
   cases f25
   exact ⟨_, _, rfl, ⟨rfl, rfl⟩, (H.sel [] rfl).close trivial⟩

theorem spec_rzResponse_c (p_ : Int) (m_ : List (Int × List (List Int))) (m_h : Hd) (y : Bool) (hF : F_spec_rzResponse p_ m_ = some y) :
  ConF Tryd.prog 46 #[(.int .i64 p_), (m_h).v] [Es (List (Int × List (List Int))) m_ m_h] [] (fun v Γ' => v = (.bool y) ∧ Γ' = []) := by
 intro w0 S0 fp0 hI hS
 have H : Cx w0 fp0 S0 w0 [Es (List (Int × List (List Int))) m_ m_h] := Cx.start hI hS
 clear hI hS
 refine enterC (args := [_, _]) gok Tryd.func46 rfl _ rfl rfl rfl ?_
 refine sq ?_
 obtain ⟨r0, f0, f1⟩ := bindS hF; clear hF
 refine cut (fun (q0 : Bool) => [(0, (.int .i64 p_)), (1, (m_h).v), (15, (.bool q0))]) (fun (q0 : Bool) w' => q0 = r0 ∧ Cx w0 fp0 S0 w' [Es (List (Int × List (List Int))) m_ m_h]) ?_ ?_
 ·
  obtain ⟨y0, e, f2⟩ := bindS f0; clear f0
  have ey20 := e; clear e
  refine callF (spec_fdGood_c p_ y0 ey20) (Γi := []) H trivial ?_; clear H ey20
  rintro _ _ w1 ⟨rfl, rfl⟩ H
  obtain ⟨a0, e, f3⟩ := bindS f2; clear f2
  refine boolO e ?_; clear e
  cases a0
  ·
   have f4 := condF f3; clear f3
   refine lenE (H.rs (α := List (Int × List (List Int))) 0 rfl).len ?_
   obtain ⟨y1, e, f5⟩ := bindS f4; clear f4
   have ey26 := e; clear e
   refine callF (spec_l1In_c ((m_.length : Nat) : Int) 1 60 y1 ey26) (Γi := []) H trivial ?_; clear H ey26
   rintro _ _ w2 ⟨rfl, rfl⟩ H
   obtain ⟨a1, e, f6⟩ := bindS f5; clear f5
   refine boolO e ?_; clear e
   exact ⟨a1, ⟨rfl, rfl, rfl, trivial⟩, Option.some.inj f6, H.sel [0] rfl⟩
  ·
   have f7 := condT f3; clear f3
   exact ⟨true, ⟨rfl, rfl, rfl, trivial⟩, Option.some.inj f7, H.sel [0] rfl⟩
 ·
  clear f0 H
  rintro T0 s0 w3 ⟨hr, (H : Cx w0 fp0 S0 w3 [Es (List (Int × List (List Int))) m_ m_h])⟩
  subst hr
  cases s0
  ·
   have f8 := condF f1; clear f1
   refine sq ?_
   refine lenE (H.rs (α := List (Int × List (List Int))) 0 rfl).len ?_
   have x0 := (H.rs (α := List (Int × List (List Int))) 0 rfl).max
   obtain ⟨r1, e, f9⟩ := bindS f8; clear f8
   refine loopO _ m_.length (fun (k0 : Nat) (_ : Unit) (_ : Unit) => [(0, (.int .i64 p_)), (1, (m_h).v), (16, (m_h).v), (17, (.int .i64 ((m_.length : Nat) : Int))), (18, (.int .i64 ((k0 : Nat) : Int)))]) (fun _ (_ : Unit) (_ : Unit) w' => Cx w0 fp0 S0 w' [Es (List (Int × List (List Int))) m_ m_h]) () () e ⟨rfl, rfl, rfl, rfl, rfl, trivial⟩ (H.sel [0] rfl) ?_ ?_
   ·
    clear H e
    rintro T1 k0 _ _ w4 o0 hk (H : Cx w0 fp0 S0 w4 [Es (List (Int × List (List Int))) m_ m_h]) hrt f10
    refine boolE (z := true) (ltLen hk) ?_
    refine sq ?_
    refine sq ?_
    obtain ⟨a2, e, f11⟩ := bindS f10; clear f10
    have HH := H; clear H; obtain ⟨p0, m0, g0, c0, c1, c2, c3, H⟩ := HH.el (α := Int × List (List Int)) 0 rfl e; clear HH
    clear e
    obtain ⟨a2_0, a2_1⟩ := a2
    obtain ⟨_, h0⟩ := g0
    replace H := H.part (β := List (List Int)) a2_1 (h0 : Hd) 0 rfl (fun S h => (And.right h))
    replace H := H.sel [0, 2] rfl
    refine idxE c0 c1 c2 ?_; clear c0 c1 c2
    refine loadN [(.int .i64 a2_0), (h0).v] rfl c3 ?_; clear c3
    refine alloc_ gok rfl H ?_; clear H; intro b0 w5 hx H
    clear hx
    refine stA gok [(.int .i64 a2_0), (h0).v] rfl H rfl rfl rfl ?_; clear H; intro w6 H
    obtain ⟨r2, f12, f13⟩ := bindS f11; clear f11
    refine cut (fun (q1 : Bool) => [(0, (.int .i64 p_)), (1, (m_h).v), (16, (m_h).v), (17, (.int .i64 ((m_.length : Nat) : Int))), (18, (.int .i64 ((k0 : Nat) : Int))), (45, (.bool q1))]) (fun (q1 : Bool) w' => q1 = r2 ∧ Cx w0 fp0 S0 w' [Es (List (Int × List (List Int))) m_ m_h]) ?_ ?_
    ·
     refine heldX H [] (.fst 0 (.fst 1 (.act 2 (.fst 3 (.fst 4 (.fst 5 (.fst 8 (.fst 9 (.fst 10 (.fst 6 (.fst 7 (.fst 11 (.fst 12 (.fst 13 (.fst 14 (.fst 15 (.fst 16 (.fst 18 (.fst 19 (.fst 20 (.fst 17 (.fst 21 (.fst 22 (.fst 23 .done)))))))))))))))))))))))) mixed [] trivial (by kernel_rfl) ?_
     clear H; intro w7 H
     have hX : Ext w7 w7 := Upd.refl _ _
     have H0 := H
     refine loadNX [(.int .i64 a2_0), (h0).v] rfl (fun j u hj => H.bx 0 rfl hj) ?_
     obtain ⟨y2, e, f14⟩ := bindS f12; clear f12
     have ey210 := e; clear e
     refine callFx (spec_mxGood_c p_ a2_0 a2_1 h0 y2 ey210) H ⟨Vw.sh 1 rfl, trivial⟩ ?_; clear H ey210
     rintro _ _ w8 ⟨rfl, rfl⟩ hx H
     replace hX := hX.trans0 hx; clear hx
     refine hold hX ?_
     obtain ⟨a3, e, f15⟩ := bindS f14; clear f14
     refine boolO e ?_; clear e
     cases a3
     ·
      have f16 := condF f15; clear f15
      refine anyH (fun _ => fld gok rfl rfl rfl rfl ⟨rfl, rfl⟩) ?_
      obtain ⟨a4, e, f17⟩ := bindS f16; clear f16
      have HH := H; clear H; obtain ⟨p1, m1, g1, c4, c5, c6, c7, H⟩ := HH.el (α := Int × List (List Int)) 2 rfl e; clear HH
      replace c7 := lateN hX (H0.rs (α := List (Int × List (List Int))) 2 rfl) rfl e c4 c7; clear e
      obtain ⟨a4_0, a4_1⟩ := a4
      obtain ⟨_, h1⟩ := g1
      replace H := H.part (β := List (List Int)) a4_1 (h1 : Hd) 0 rfl (fun S h => (And.right h))
      replace H := H.sel [0, 2, 3, 4] rfl
      refine idxE c4 c5 c6 ?_; clear c4 c5 c6
      refine anyH (fun _ => fld gok rfl rfl rfl rfl ⟨rfl, rfl⟩) ?_
      refine load1X (H0.bx 0 rfl (j := 1) rfl) ?_
      refine lenE (H.rs (α := List (List Int)) 2 rfl).len ?_
      refine load1X (c7 1 _ rfl) ?_
      refine lenE (H.rs (α := List (List Int)) 0 rfl).len ?_
      obtain ⟨a5, e, f18⟩ := bindS f17; clear f17
      refine boolO e ?_; clear e
      cases a5
      ·
       have f19 := condF f18; clear f18
       refine anyH (fun _ => fld gok rfl rfl rfl rfl ⟨rfl, rfl⟩) ?_
       obtain ⟨a6, e, f20⟩ := bindS f19; clear f19
       have HH := H; clear H; obtain ⟨p2, m2, g2, c8, c9, c10, c11, H⟩ := HH.el (α := Int × List (List Int)) 3 rfl e; clear HH
       replace c11 := lateN hX (H0.rs (α := List (Int × List (List Int))) 2 rfl) rfl e c8 c11; clear e
       obtain ⟨a6_0, a6_1⟩ := a6
       obtain ⟨_, h2⟩ := g2
       replace H := H.part (β := List (List Int)) a6_1 (h2 : Hd) 0 rfl (fun S h => (And.right h))
       replace H := H.sel [0, 2, 3, 4, 5] rfl
       refine idxE c8 c9 c10 ?_; clear c8 c9 c10
       refine anyH (fun _ => fld gok rfl rfl rfl rfl ⟨rfl, rfl⟩) ?_
       refine load1X (H0.bx 0 rfl (j := 0) rfl) ?_
       refine load1X (c11 0 _ rfl) ?_
       obtain ⟨a7, e, f21⟩ := bindS f20; clear f20
       refine boolO e ?_; clear e
       exact ⟨a7, ⟨rfl, rfl, rfl, rfl, rfl, rfl, trivial⟩, Option.some.inj f21, H.sel [4] rfl⟩
      ·
       have f22 := condT f18; clear f18
       exact ⟨true, ⟨rfl, rfl, rfl, rfl, rfl, rfl, trivial⟩, Option.some.inj f22, H.sel [3] rfl⟩
     ·
      have f23 := condT f15; clear f15
      exact ⟨true, ⟨rfl, rfl, rfl, rfl, rfl, rfl, trivial⟩, Option.some.inj f23, H.sel [2] rfl⟩
    ·
     clear f12 H
     rintro T2 s1 w9 ⟨hr, (H : Cx w0 fp0 S0 w9 [Es (List (Int × List (List Int))) m_ m_h])⟩
     subst hr
     cases s1
     ·
      have f24 := condF f13; clear f13
      refine arK hk x0 ?_
      have hs := Option.some.inj f24; subst hs; clear f24
      exact ⟨(), (), rfl, ⟨rfl, rfl, rfl, rfl, rfl, trivial⟩, H.sel [0] rfl⟩
     ·
      have f25 := condT f13; clear f13
      have hs := Option.some.inj f25; subst hs; clear f25
      have hr := hrt _ rfl; subst hr
      have f26 : some _ = some _ := f9
      cases f26
      exact ⟨_, _, rfl, ⟨rfl, rfl⟩, (H.sel [] rfl).close trivial⟩
   ·
    clear H e
    rintro T3 _ _ w10 hr (H : Cx w0 fp0 S0 w10 [Es (List (Int × List (List Int))) m_ m_h])
    subst hr
    refine boolE (z := false) geLen ?_
    refine sq ?_
    obtain ⟨r3, f27, f28⟩ := bindS f9; clear f9
    refine cut (fun (q2 : Bool) => [(4, (.bool q2))]) (fun (q2 : Bool) w' => q2 = r3 ∧ Cx w0 fp0 S0 w' []) ?_ ?_
    ·
     obtain ⟨a8, e, f29⟩ := bindS f27; clear f27
     have HH := H; clear H; obtain ⟨p3, m3, g3, c12, c13, c14, c15, H⟩ := HH.el (α := Int × List (List Int)) 0 rfl e; clear HH
     clear e
     obtain ⟨a8_0, a8_1⟩ := a8
     obtain ⟨_, h3⟩ := g3
     replace H := H.part (β := List (List Int)) a8_1 (h3 : Hd) 0 rfl (fun S h => (And.right h))
     replace H := H.sel [0, 2] rfl
     refine idxE c12 c13 c14 ?_; clear c12 c13 c14
     refine fld gok rfl rfl rfl rfl ?_
     refine load1 (c15 1 _ rfl) ?_
     refine lenE (H.rs (α := List (List Int)) 0 rfl).len ?_
     obtain ⟨a9, e, f30⟩ := bindS f29; clear f29
     refine boolO e ?_; clear e
     cases a9
     ·
      have f31 := condF f30; clear f30
      exact ⟨false, ⟨rfl, trivial⟩, Option.some.inj f31, H.sel [] rfl⟩
     ·
      have f32 := condT f30; clear f30
      obtain ⟨a10, e, f33⟩ := bindS f32; clear f32
      have HH := H; clear H; obtain ⟨p4, m4, g4, c16, c17, c18, c19, H⟩ := HH.el (α := Int × List (List Int)) 1 rfl e; clear HH
      clear e
      obtain ⟨a10_0, a10_1⟩ := a10
      obtain ⟨_, h4⟩ := g4
      replace H := H.part (β := List (List Int)) a10_1 (h4 : Hd) 0 rfl (fun S h => (And.right h))
      replace H := H.sel [0, 2, 3] rfl
      refine idxE c16 c17 c18 ?_; clear c16 c17 c18
      refine fld gok rfl rfl rfl rfl ?_
      refine load1 (c19 0 _ rfl) ?_
      obtain ⟨a11, e, f34⟩ := bindS f33; clear f33
      refine boolO e ?_; clear e
      exact ⟨a11, ⟨rfl, trivial⟩, Option.some.inj f34, H.sel [] rfl⟩
    ·
     clear f27 H
     rintro T4 s2 w11 ⟨hr, (H : Cx w0 fp0 S0 w11 [])⟩
     subst hr
     cases f28
     exact ⟨_, _, rfl, ⟨rfl, rfl⟩, (H.sel [] rfl).close trivial⟩
  ·
   have f35 := condT f1; clear f1
   cases f35
   exact ⟨_, _, rfl, ⟨rfl, rfl⟩, (H.sel [] rfl).close trivial⟩

theorem spec_l1Own_c (l_ : List Int) (l_h : Hd) (y : List Int) (hF : F_spec_l1Own l_ = some y) :
  ConF Tryd.prog 58 #[(l_h).v] [Es (List Int) l_ l_h] [] (fun v Γ' => ∃ z0 : Hd, v = (z0).v ∧ Γ' = [E (List Int) y z0]) := by
 intro w0 S0 fp0 hI hS
 have H : Cx w0 fp0 S0 w0 [Es (List Int) l_ l_h] := Cx.start hI hS
 clear hI hS
 refine enterC (args := [_]) gok Tryd.func58 rfl _ rfl rfl rfl ?_
 refine lit0 (α := Int) gok rfl rfl H ?_; clear H; intro h3 w2 hx H
 clear hx
 obtain ⟨a5, e, hF6⟩ := bindS hF; clear hF
 refine appendS (α := Int) gok rfl rfl rfl rfl H (Vw.sh 0 rfl) e ?_; clear e H; intro h8 w7 H
 cases hF6
 exact ⟨_, _, rfl, ⟨h8, rfl, rfl⟩, (H.sel [0] rfl).close ⟨cloE, trivial⟩⟩

theorem spec_mxCopy_c (m__0 : Int) (m__1 : List (List Int)) (m__1h : Hd) (y_0 : Int) (y_1 : List (List Int)) (hF : F_spec_mxCopy (m__0, m__1) = some (y_0, y_1)) :
  ConF Tryd.prog 80 #[(.agg #[(.int .i64 m__0), (m__1h).v])] [Es (List (List Int)) m__1 m__1h] [] (fun v Γ' => ∃ z0 : Hd, v = (.agg #[(.int .i64 y_0), (z0).v]) ∧ Γ' = [E (List (List Int)) y_1 z0]) := by
 intro w0 S0 fp0 hI hS
 have H : Cx w0 fp0 S0 w0 [Es (List (List Int)) m__1 m__1h] := Cx.start hI hS
 clear hI hS
 refine enterC (args := [_]) gok Tryd.func80 rfl _ rfl rfl rfl ?_
 refine box_ H ?_; clear H; intro b3 w2 hx H
 clear hx
 refine alloc_ gok rfl H ?_; clear H; intro b6 w5 hx H
 clear hx
 refine fld gok rfl rfl rfl rfl ?_
 refine load1 (H.bx 1 rfl (j := 0) rfl) ?_
 refine build_ (cs := #[(.int .i64 m__0), (.slice none 0 0)]) gok rfl rfl rfl ?_
 refine alloc_ gok rfl H ?_; clear H; intro b9 w8 hx H
 clear hx
 refine stA gok [(.int .i64 m__0), (.slice none 0 0)] rfl H rfl rfl rfl ?_; clear H; intro w1 H
 refine sq ?_
 refine fld gok rfl rfl rfl rfl ?_
 refine load1 (H.bx 2 rfl (j := 1) rfl) ?_
 refine lenE (H.rs (α := List (List Int)) 3 rfl).len ?_
 have x0 := (H.rs (α := List (List Int)) 3 rfl).max
 obtain ⟨r0, e, f0⟩ := bindS hF; clear hF
 replace H := H.nil (α := List Int)
 refine loopS _ m__1.length (fun (k0 : Nat) (s0 : List (List Int)) (g0 : Hd) => [(2, (.pointer (some ⟨b6, 0, none⟩))), (3, (.pointer (some ⟨b9, 0, none⟩))), (10, (m__1h).v), (11, (.int .i64 ((m__1.length : Nat) : Int))), (12, (.int .i64 ((k0 : Nat) : Int)))]) (fun _ (s0 : List (List Int)) (g0 : Hd) w' => Cx w0 fp0 S0 w' [Bx b6 [(.int .i64 0), (.slice none 0 0)], Bx b9 [(.int .i64 m__0), (g0).v], E (List (List Int)) s0 g0, Es (List (List Int)) m__1 m__1h]) [] nilH e ⟨rfl, rfl, rfl, rfl, rfl, trivial⟩ (H.sel [2, 1, 0, 4] rfl) ?_ ?_
 ·
  clear H e
  rintro T0 k0 s0 g0 w3 o0 hk (H : Cx w0 fp0 S0 w3 [Bx b6 [(.int .i64 0), (.slice none 0 0)], Bx b9 [(.int .i64 m__0), (g0).v], E (List (List Int)) s0 g0, Es (List (List Int)) m__1 m__1h]) f1
  refine boolE (z := true) (ltLen hk) ?_
  refine sq ?_
  refine sq ?_
  obtain ⟨a0, e, f2⟩ := bindS f1; clear f1
  have HH := H; clear H; obtain ⟨p0, m0, h0, c0, c1, c2, c3, H⟩ := HH.elL 3 rfl e; clear HH
  clear e
  refine idxE c0 c1 c2 ?_; clear c0 c1 c2
  refine load1 c3 ?_; clear c3
  refine heldX H [5, 7, 6] (.fst 0 (.fst 2 (.fst 1 (.act 3 (.act 4 (.act 5 (.act 6 (.act 7 .done)))))))) mixed [] trivial (by kernel_rfl) ?_
  clear H; intro w4 H
  have hX : Ext w4 w4 := Upd.refl _ _
  have H0 := H
  refine anyH (fun _ => fld gok rfl rfl rfl rfl ⟨rfl, rfl⟩) ?_
  refine load1X (H.bx 2 rfl (j := 1) rfl) ?_
  obtain ⟨y0, e, f3⟩ := bindS f2; clear f2
  have ey91 := e; clear e
  refine callFx (spec_l1Own_c a0 h0 y0 ey91) H ⟨Vw.sh 0 rfl, trivial⟩ ?_; clear H ey91
  rintro _ _ w6 ⟨h1, rfl, rfl⟩ hx H
  replace hX := hX.trans0 hx; clear hx
  refine hold hX ?_
  refine lit1 (α := List Int) (g := h1) gok rfl rfl rfl rfl rfl H ?_; clear H; intro h2 w7 hx H
  replace hX := hX.trans0 hx; clear hx
  refine hold hX ?_
  obtain ⟨a1, e, f4⟩ := bindS f3; clear f3
  replace H := H.sel [4, 0, 1, 2, 3, 5] rfl
  refine append_ (α := List Int) gok rfl rfl rfl rfl H e ?_; clear e H; intro h3 w9 H
  refine hold trivial ?_
  refine fld gok rfl rfl rfl rfl ?_
  refine hold trivial ?_
  replace H := H.sel [3, 0, 1, 2, 4] rfl
  refine stB (j := 1) H rfl rfl ?_; clear H; intro w10 H
  refine hold trivial ?_
  refine arK hk x0 ?_
  have hs := Option.some.inj f4; subst hs; clear f4
  exact ⟨h3, ⟨rfl, rfl, rfl, rfl, rfl, trivial⟩, H.sel [3, 0, 1, 4] rfl⟩
 ·
  clear H e
  rintro T1 g1 w12 (H : Cx w0 fp0 S0 w12 [Bx b6 [(.int .i64 0), (.slice none 0 0)], Bx b9 [(.int .i64 m__0), (g1).v], E (List (List Int)) r0 g1, Es (List (List Int)) m__1 m__1h])
  refine boolE (z := false) geLen ?_
  refine sq ?_
  refine loadN [(.int .i64 m__0), (g1).v] rfl (fun j u hj => H.bx 1 rfl hj) ?_
  refine stA gok [(.int .i64 m__0), (g1).v] rfl H rfl rfl rfl ?_; clear H; intro w13 H
  refine loadN [(.int .i64 m__0), (g1).v] rfl (fun j u hj => H.bx 0 rfl hj) ?_
  cases f0
  exact ⟨_, _, rfl, ⟨g1, rfl, rfl⟩, (H.sel [2] rfl).close ⟨cloE, trivial⟩⟩

theorem spec_rzHankel_c (m_ : List (Int × List (List Int))) (m_h : Hd) (rows_ : Int) (cols_ : Int) (y : List (List Int)) (hF : F_spec_rzHankel m_ rows_ cols_ = some y) :
  ConF Tryd.prog 81 #[(m_h).v, (.int .i64 rows_), (.int .i64 cols_)] [Es (List (Int × List (List Int))) m_ m_h] [] (fun v Γ' => ∃ z0 : Hd, v = (z0).v ∧ Γ' = [E (List (List Int)) y z0]) := by
 intro w0 S0 fp0 hI hS
 have H : Cx w0 fp0 S0 w0 [Es (List (Int × List (List Int))) m_ m_h] := Cx.start hI hS
 clear hI hS
 refine enterC (args := [_, _, _]) gok Tryd.func81 rfl _ rfl rfl rfl ?_
 obtain ⟨r0, f0, f1⟩ := bindS hF; clear hF
 refine cut (fun (q0 : List (List Int) × Hd) => [(7, (q0.2).v)]) (fun (q0 : List (List Int) × Hd) w' => q0.1 = r0 ∧ Cx w0 fp0 S0 w' [E (List (List Int)) q0.1 q0.2]) ?_ ?_
 ·
  replace H := H.nil (α := List Int)
  refine loopW _ (fun (s0 : List (List Int) × Int) (g0 : Hd) => [(0, (m_h).v), (1, (.int .i64 rows_)), (2, (.int .i64 cols_)), (7, (g0).v), (8, (.int .i64 s0.2))]) (fun (s0 : List (List Int) × Int) (g0 : Hd) w' => Cx w0 fp0 S0 w' [Es (List (Int × List (List Int))) m_ m_h, E (List (List Int)) s0.1 g0]) ([], 0) nilH f0 ⟨rfl, rfl, rfl, rfl, rfl, trivial⟩ (H.sel [1, 0] rfl) ?_
  ·
   clear H
   rintro T0 ⟨s0_0, s0_1⟩ g0 w1 o0 (H : Cx w0 fp0 S0 w1 [Es (List (Int × List (List Int))) m_ m_h, E (List (List Int)) s0_0 g0]) hrt f2
   refine sq ?_
   obtain ⟨a0, e, f3⟩ := bindS f2; clear f2
   refine boolO e ?_; clear e
   cases a0
   ·
    have f4 := condF f3; clear f3
    have hs := Option.some.inj f4; subst hs; clear f4
    have f5 : some _ = some _ := congrArg some (hrt _ rfl).symm
    exact ⟨(s0_0, g0), ⟨rfl, trivial⟩, Option.some.inj f5, H.sel [1] rfl⟩
   ·
    have f6 := condT f3; clear f3
    refine sq ?_
    obtain ⟨a1, e, f7⟩ := bindS f6; clear f6
    have HH := H; clear H; obtain ⟨p0, m0, g1, c0, c1, c2, c3, H⟩ := HH.el (α := Int × List (List Int)) 0 rfl e; clear HH
    clear e
    obtain ⟨a1_0, a1_1⟩ := a1
    obtain ⟨_, h0⟩ := g1
    replace H := H.part (β := List (List Int)) a1_1 (h0 : Hd) 0 rfl (fun S h => (And.right h))
    replace H := H.sel [0, 2, 3] rfl
    refine idxE c0 c1 c2 ?_; clear c0 c1 c2
    refine fld gok rfl rfl rfl rfl ?_
    refine load1 (c3 1 _ rfl) ?_
    refine lenE (H.rs (α := List (List Int)) 0 rfl).len ?_
    have x0 := (H.rs (α := List (List Int)) 0 rfl).max
    obtain ⟨r1, e, f8⟩ := bindS f7; clear f7
    refine loopS _ a1_1.length (fun (k0 : Nat) (s1 : List (List Int)) (g2 : Hd) => [(0, (m_h).v), (1, (.int .i64 rows_)), (2, (.int .i64 cols_)), (7, (g2).v), (8, (.int .i64 s0_1)), (21, (.int .i64 ((a1_1.length : Nat) : Int))), (22, (.int .i64 ((k0 : Nat) : Int)))]) (fun _ (s1 : List (List Int)) (g2 : Hd) w' => Cx w0 fp0 S0 w' [Es (List (Int × List (List Int))) m_ m_h, E (List (List Int)) s1 g2]) s0_0 g0 e ⟨rfl, rfl, rfl, rfl, rfl, rfl, rfl, trivial⟩ (H.sel [1, 2] rfl) ?_ ?_
    ·
     clear H e
     rintro T1 k0 s1 g2 w2 o1 hk (H : Cx w0 fp0 S0 w2 [Es (List (Int × List (List Int))) m_ m_h, E (List (List Int)) s1 g2]) f9
     refine boolE (z := true) (ltLen hk) ?_
     refine sq ?_
     refine sq ?_
     obtain ⟨r2, f10, f11⟩ := bindS f9; clear f9
     refine cut (fun (q1 : List Int × Hd) => [(0, (m_h).v), (1, (.int .i64 rows_)), (2, (.int .i64 cols_)), (7, (g2).v), (8, (.int .i64 s0_1)), (10, (q1.2).v), (21, (.int .i64 ((a1_1.length : Nat) : Int))), (22, (.int .i64 ((k0 : Nat) : Int)))]) (fun (q1 : List Int × Hd) w' => q1.1 = r2 ∧ Cx w0 fp0 S0 w' [Es (List (Int × List (List Int))) m_ m_h, E (List (List Int)) s1 g2, E (List Int) q1.1 q1.2]) ?_ ?_
     ·
      replace H := H.nil (α := Int)
      refine loopW _ (fun (s2 : List Int × Int) (g3 : Hd) => [(0, (m_h).v), (1, (.int .i64 rows_)), (2, (.int .i64 cols_)), (7, (g2).v), (8, (.int .i64 s0_1)), (9, (.int .i64 ((k0 : Nat) : Int))), (10, (g3).v), (11, (.int .i64 s2.2)), (21, (.int .i64 ((a1_1.length : Nat) : Int))), (22, (.int .i64 ((k0 : Nat) : Int)))]) (fun (s2 : List Int × Int) (g3 : Hd) w' => Cx w0 fp0 S0 w' [Es (List (Int × List (List Int))) m_ m_h, E (List (List Int)) s1 g2, E (List Int) s2.1 g3]) ([], 0) nilH f10 ⟨rfl, rfl, rfl, rfl, rfl, rfl, rfl, rfl, rfl, rfl, trivial⟩ (H.sel [1, 2, 0] rfl) ?_
      ·
       clear H
       rintro T2 ⟨s2_0, s2_1⟩ g3 w3 o2 (H : Cx w0 fp0 S0 w3 [Es (List (Int × List (List Int))) m_ m_h, E (List (List Int)) s1 g2, E (List Int) s2_0 g3]) hrt f12
       refine sq ?_
       obtain ⟨a2, e, f13⟩ := bindS f12; clear f12
       refine boolO e ?_; clear e
       cases a2
       ·
        have f14 := condF f13; clear f13
        have hs := Option.some.inj f14; subst hs; clear f14
        have f15 : some _ = some _ := congrArg some (hrt _ rfl).symm
        exact ⟨(s2_0, g3), ⟨rfl, rfl, rfl, rfl, rfl, rfl, rfl, rfl, trivial⟩, Option.some.inj f15, H.sel [0, 1, 2] rfl⟩
       ·
        have f16 := condT f13; clear f13
        refine sq ?_
        obtain ⟨a3, e, f17⟩ := bindS f16; clear f16
        refine arO e ?_; clear e
        obtain ⟨a4, e, f18⟩ := bindS f17; clear f17
        refine arO e ?_; clear e
        obtain ⟨a5, e, f19⟩ := bindS f18; clear f18
        have HH := H; clear H; obtain ⟨p1, m1, g4, c4, c5, c6, c7, H⟩ := HH.el (α := Int × List (List Int)) 0 rfl e; clear HH
        clear e
        obtain ⟨a5_0, a5_1⟩ := a5
        obtain ⟨_, h1⟩ := g4
        replace H := H.part (β := List (List Int)) a5_1 (h1 : Hd) 0 rfl (fun S h => (And.right h))
        replace H := H.sel [0, 2, 3, 4] rfl
        refine idxE c4 c5 c6 ?_; clear c4 c5 c6
        refine fld gok rfl rfl rfl rfl ?_
        refine load1 (c7 1 _ rfl) ?_
        obtain ⟨a6, e, f20⟩ := bindS f19; clear f19
        have HH := H; clear H; obtain ⟨p2, m2, h2, c8, c9, c10, c11, H⟩ := HH.elL 0 rfl e; clear HH
        clear e
        refine idxE c8 c9 c10 ?_; clear c8 c9 c10
        refine load1 c11 ?_; clear c11
        obtain ⟨a7, e, f21⟩ := bindS f20; clear f20
        replace H := H.sel [4, 0, 1, 2, 3] rfl
        refine appendS (α := Int) gok rfl rfl rfl rfl H (Vw.sh 0 rfl) e ?_; clear e H; intro h3 w4 H
        obtain ⟨a8, e, f22⟩ := bindS f21; clear f21
        refine arO e ?_; clear e
        have hs := Option.some.inj f22; subst hs; clear f22
        exact ⟨(a7, a8), h3, rfl, ⟨rfl, rfl, rfl, rfl, rfl, rfl, rfl, rfl, rfl, rfl, trivial⟩, H.sel [3, 4, 0] rfl⟩
     ·
      clear f10 H
      rintro T3 ⟨s3, g5⟩ w5 ⟨hr, (H : Cx w0 fp0 S0 w5 [Es (List (Int × List (List Int))) m_ m_h, E (List (List Int)) s1 g2, E (List Int) s3 g5])⟩
      subst hr
      replace H := H.sel [2, 0, 1] rfl
      refine lit1 (α := List Int) (g := g5) gok rfl rfl rfl rfl rfl H ?_; clear H; intro h4 w6 hx H
      clear hx
      obtain ⟨a9, e, f23⟩ := bindS f11; clear f11
      replace H := H.sel [2, 0, 1] rfl
      refine append_ (α := List Int) gok rfl rfl rfl rfl H e ?_; clear e H; intro h5 w7 H
      refine arK hk x0 ?_
      have hs := Option.some.inj f23; subst hs; clear f23
      exact ⟨h5, ⟨rfl, rfl, rfl, rfl, rfl, rfl, rfl, trivial⟩, H.sel [1, 0] rfl⟩
    ·
     clear H e
     rintro T4 g6 w8 (H : Cx w0 fp0 S0 w8 [Es (List (Int × List (List Int))) m_ m_h, E (List (List Int)) r1 g6])
     refine boolE (z := false) geLen ?_
     refine sq ?_
     obtain ⟨a10, e, f24⟩ := bindS f8; clear f8
     refine arO e ?_; clear e
     have hs := Option.some.inj f24; subst hs; clear f24
     exact ⟨(r1, a10), g6, rfl, ⟨rfl, rfl, rfl, rfl, rfl, trivial⟩, H.sel [0, 1] rfl⟩
 ·
  clear f0 H
  rintro T5 ⟨s4, g7⟩ w9 ⟨hr, (H : Cx w0 fp0 S0 w9 [E (List (List Int)) s4 g7])⟩
  subst hr
  cases f1
  exact ⟨_, _, rfl, ⟨g7, rfl, rfl⟩, (H.sel [0] rfl).close ⟨cloE, trivial⟩⟩

theorem spec_fdInv_c (p_ : Int) (a_ : Int) (y : Int) (hF : F_spec_fdInv p_ a_ = some y) :
  ConF Tryd.prog 59 #[(.int .i64 p_), (.int .i64 a_)] [] [] (fun v Γ' => v = (.int .i64 y) ∧ Γ' = []) := by
 intro w0 S0 fp0 hI hS
 have H : Cx w0 fp0 S0 w0 [] := Cx.start hI hS
 clear hI hS
 refine enterC (args := [_, _]) gok Tryd.func59 rfl _ rfl rfl rfl ?_
 obtain ⟨r0, f0, f1⟩ := bindS hF; clear hF
 refine cut (fun (q0 : Unit) => []) (fun (q0 : Unit) w' => .inl () = r0 ∧ Cx w0 fp0 S0 w' []) ?_ ?_
 ·
  refine loopW _ (fun (s0 : Int) (_ : Unit) => [(0, (.int .i64 p_)), (1, (.int .i64 a_)), (5, (.int .i64 s0))]) (fun (s0 : Int) (_ : Unit) w' => Cx w0 fp0 S0 w' []) 1 () f0 ⟨rfl, rfl, rfl, trivial⟩ (H.sel [] rfl) ?_
  ·
   clear H
   rintro T0 s0 _ w1 o0 (H : Cx w0 fp0 S0 w1 []) hrt f2
   refine sq ?_
   obtain ⟨a0, e, f3⟩ := bindS f2; clear f2
   refine boolO e ?_; clear e
   cases a0
   ·
    have f4 := condF f3; clear f3
    have hs := Option.some.inj f4; subst hs; clear f4
    have f5 : some _ = some _ := congrArg some (hrt _ rfl).symm
    exact ⟨(), trivial, Option.some.inj f5, H.sel [] rfl⟩
   ·
    have f6 := condT f3; clear f3
    refine sq ?_
    obtain ⟨a1, e, f7⟩ := bindS f6; clear f6
    refine arO e ?_; clear e
    obtain ⟨a2, e, f8⟩ := bindS f7; clear f7
    refine remO_ e ?_; clear e
    obtain ⟨a3, e, f9⟩ := bindS f8; clear f8
    refine boolO e ?_; clear e
    cases a3
    ·
     have f10 := condF f9; clear f9
     obtain ⟨a4, e, f11⟩ := bindS f10; clear f10
     refine arO e ?_; clear e
     have hs := Option.some.inj f11; subst hs; clear f11
     exact ⟨a4, (), rfl, ⟨rfl, rfl, rfl, trivial⟩, H.sel [] rfl⟩
    ·
     have f12 := condT f9; clear f9
     have hs := Option.some.inj f12; subst hs; clear f12
     have f13 : some _ = some _ := congrArg some (hrt _ rfl).symm
     have hs := Option.some.inj f13; subst hs; clear f13
     have f14 : some _ = some _ := f1; clear f1
     cases f14
     exact ⟨_, _, rfl, ⟨rfl, rfl⟩, (H.sel [] rfl).close trivial⟩
 ·
  clear f0 H
  rintro T1 _ w2 ⟨hr, (H : Cx w0 fp0 S0 w2 [])⟩
  subst hr
  cases f1
  exact ⟨_, _, rfl, ⟨rfl, rfl⟩, (H.sel [] rfl).close trivial⟩

theorem spec_fdMul_c (p_ : Int) (a_ : Int) (b_ : Int) (y : Int) (hF : F_spec_fdMul p_ a_ b_ = some y) :
  ConF Tryd.prog 60 #[(.int .i64 p_), (.int .i64 a_), (.int .i64 b_)] [] [] (fun v Γ' => v = (.int .i64 y) ∧ Γ' = []) := by
 intro w0 S0 fp0 hI hS
 have H : Cx w0 fp0 S0 w0 [] := Cx.start hI hS
 clear hI hS
 refine enterC (args := [_, _, _]) gok Tryd.func60 rfl _ rfl rfl rfl ?_
 obtain ⟨a1, e, hF2⟩ := bindS hF; clear hF
 refine arO e ?_; clear e
 obtain ⟨a3, e, hF4⟩ := bindS hF2; clear hF2
 refine remO_ e ?_; clear e
 cases hF4
 exact ⟨_, _, rfl, ⟨rfl, rfl⟩, (H.sel [] rfl).close trivial⟩

theorem spec_fdSub_c (p_ : Int) (a_ : Int) (b_ : Int) (y : Int) (hF : F_spec_fdSub p_ a_ b_ = some y) :
  ConF Tryd.prog 61 #[(.int .i64 p_), (.int .i64 a_), (.int .i64 b_)] [] [] (fun v Γ' => v = (.int .i64 y) ∧ Γ' = []) := by
 intro w0 S0 fp0 hI hS
 have H : Cx w0 fp0 S0 w0 [] := Cx.start hI hS
 clear hI hS
 refine enterC (args := [_, _, _]) gok Tryd.func61 rfl _ rfl rfl rfl ?_
 obtain ⟨a1, e, hF2⟩ := bindS hF; clear hF
 refine arO e ?_; clear e
 obtain ⟨a3, e, hF4⟩ := bindS hF2; clear hF2
 refine arO e ?_; clear e
 obtain ⟨a5, e, hF6⟩ := bindS hF4; clear hF4
 refine remO_ e ?_; clear e
 cases hF6
 exact ⟨_, _, rfl, ⟨rfl, rfl⟩, (H.sel [] rfl).close trivial⟩

theorem spec_spReduce_c (p_ : Int) (size_ : Int) (rows_ : List (List Int)) (rows_h : Hd) (y : List (List Int)) (hF : F_spec_spReduce p_ size_ rows_ = some y) :
  ConF Tryd.prog 32 #[(.int .i64 p_), (.int .i64 size_), (rows_h).v] [Es (List (List Int)) rows_ rows_h] [] (fun v Γ' => ∃ z0 : Hd, v = (z0).v ∧ Γ' = [E (List (List Int)) y z0]) := by
 intro w0 S0 fp0 hI hS
 have H : Cx w0 fp0 S0 w0 [Es (List (List Int)) rows_ rows_h] := Cx.start hI hS
 clear hI hS
 refine enterC (args := [_, _, _]) gok Tryd.func32 rfl _ rfl rfl rfl ?_
 refine sq ?_
 refine lenE (H.rs (α := List (List Int)) 0 rfl).len ?_
 have x0 := (H.rs (α := List (List Int)) 0 rfl).max
 obtain ⟨r0, e, f0⟩ := bindS hF; clear hF
 replace H := H.nil (α := List Int)
 refine loopS _ rows_.length (fun (k2 : Nat) (s0 : List (List Int)) (g0 : Hd) => [(0, (.int .i64 p_)), (1, (.int .i64 size_)), (7, (g0).v), (19, (rows_h).v), (20, (.int .i64 ((rows_.length : Nat) : Int))), (21, (.int .i64 ((k2 : Nat) : Int)))]) (fun _ (s0 : List (List Int)) (g0 : Hd) w' => Cx w0 fp0 S0 w' [E (List (List Int)) s0 g0, Es (List (List Int)) rows_ rows_h]) [] nilH e ⟨rfl, rfl, rfl, rfl, rfl, rfl, trivial⟩ (H.sel [0, 1] rfl) ?_ ?_
 ·
  clear H e
  rintro T0 k2 s0 g0 w1 o0 hk (H : Cx w0 fp0 S0 w1 [E (List (List Int)) s0 g0, Es (List (List Int)) rows_ rows_h]) f1
  refine boolE (z := true) (ltLen hk) ?_
  refine sq ?_
  refine sq ?_
  obtain ⟨a0, e, f2⟩ := bindS f1; clear f1
  have HH := H; clear H; obtain ⟨p0, m0, h0, c0, c1, c2, c3, H⟩ := HH.elL 1 rfl e; clear HH
  clear e
  refine idxE c0 c1 c2 ?_; clear c0 c1 c2
  refine load1 c3 ?_; clear c3
  obtain ⟨y0, e, f3⟩ := bindS f2; clear f2
  have ey76 := e; clear e
  refine callF (spec_l1Own_c a0 h0 y0 ey76) (Γi := []) H ⟨Vw.sh 0 rfl, trivial⟩ ?_; clear H ey76
  rintro _ _ w2 ⟨h1, rfl, rfl⟩ H
  refine lit1 (α := List Int) (g := h1) gok rfl rfl rfl rfl rfl H ?_; clear H; intro h2 w3 hx H
  clear hx
  obtain ⟨a1, e, f4⟩ := bindS f3; clear f3
  replace H := H.sel [2, 0, 1, 3] rfl
  refine append_ (α := List Int) gok rfl rfl rfl rfl H e ?_; clear e H; intro h3 w4 H
  refine arK hk x0 ?_
  have hs := Option.some.inj f4; subst hs; clear f4
  exact ⟨h3, ⟨rfl, rfl, rfl, rfl, rfl, rfl, trivial⟩, H.sel [0, 2] rfl⟩
 ·
  clear H e
  rintro T1 g1 w5 (H : Cx w0 fp0 S0 w5 [E (List (List Int)) r0 g1, Es (List (List Int)) rows_ rows_h])
  refine boolE (z := false) geLen ?_
  refine sq ?_
  obtain ⟨r1, f5, f6⟩ := bindS f0; clear f0
  refine cut (fun (q0 : List (List Int) × Int) => [(7, (g1).v), (10, (.int .i64 q0.2))]) (fun (q0 : List (List Int) × Int) w' => (q0.1, q0.2) = r1 ∧ Cx w0 fp0 S0 w' [E (List (List Int)) q0.1 g1]) ?_ ?_
  ·
   refine loopW _ (fun (s1 : List (List Int) × Int × Int) (_ : Unit) => [(0, (.int .i64 p_)), (1, (.int .i64 size_)), (7, (g1).v), (10, (.int .i64 s1.2.1)), (11, (.int .i64 s1.2.2))]) (fun (s1 : List (List Int) × Int × Int) (_ : Unit) w' => Cx w0 fp0 S0 w' [E (List (List Int)) s1.1 g1]) (r0, 0, 0) () f5 ⟨rfl, rfl, rfl, rfl, rfl, trivial⟩ (H.sel [0] rfl) ?_
   ·
    clear H
    rintro T2 ⟨s1_0, s1_1, s1_2⟩ _ w6 o1 (H : Cx w0 fp0 S0 w6 [E (List (List Int)) s1_0 g1]) hrt f7
    refine sq ?_
    obtain ⟨r2, f8, f9⟩ := bindS f7; clear f7
    refine cut (fun (q1 : Bool) => [(0, (.int .i64 p_)), (1, (.int .i64 size_)), (7, (g1).v), (10, (.int .i64 s1_1)), (11, (.int .i64 s1_2)), (39, (.bool q1))]) (fun (q1 : Bool) w' => q1 = r2 ∧ Cx w0 fp0 S0 w' [E (List (List Int)) s1_0 g1]) ?_ ?_
    ·
     obtain ⟨a2, e, f10⟩ := bindS f8; clear f8
     refine boolO e ?_; clear e
     cases a2
     ·
      have f11 := condF f10; clear f10
      exact ⟨false, ⟨rfl, rfl, rfl, rfl, rfl, rfl, trivial⟩, Option.some.inj f11, H.sel [0] rfl⟩
     ·
      have f12 := condT f10; clear f10
      refine lenE (H.ro (α := List (List Int)) 0 rfl).len ?_
      obtain ⟨a3, e, f13⟩ := bindS f12; clear f12
      refine boolO e ?_; clear e
      exact ⟨a3, ⟨rfl, rfl, rfl, rfl, rfl, rfl, trivial⟩, Option.some.inj f13, H.sel [0] rfl⟩
    ·
     clear f8 H
     rintro T3 s2 w7 ⟨hr, (H : Cx w0 fp0 S0 w7 [E (List (List Int)) s1_0 g1])⟩
     subst hr
     cases s2
     ·
      have f14 := condF f9; clear f9
      have hs := Option.some.inj f14; subst hs; clear f14
      have f15 : some _ = some _ := congrArg some (hrt _ rfl).symm
      exact ⟨(s1_0, s1_1), ⟨rfl, rfl, trivial⟩, Option.some.inj f15, H.sel [0] rfl⟩
     ·
      have f16 := condT f9; clear f9
      obtain ⟨r3, f17, f18⟩ := bindS f16; clear f16
      refine cut (fun (q2 : List (List Int) × Int) => [(0, (.int .i64 p_)), (1, (.int .i64 size_)), (7, (g1).v), (10, (.int .i64 q2.2)), (11, (.int .i64 s1_2))]) (fun (q2 : List (List Int) × Int) w' => (q2.1, q2.2) = r3 ∧ Cx w0 fp0 S0 w' [E (List (List Int)) q2.1 g1]) ?_ ?_
      ·
       obtain ⟨r4, f19, f20⟩ := bindS f17; clear f17
       refine cut (fun (q3 : Int) => [(0, (.int .i64 p_)), (1, (.int .i64 size_)), (7, (g1).v), (10, (.int .i64 s1_1)), (11, (.int .i64 s1_2)), (12, (.int .i64 q3))]) (fun (q3 : Int) w' => q3 = r4 ∧ Cx w0 fp0 S0 w' [E (List (List Int)) s1_0 g1]) ?_ ?_
       ·
        refine loopW _ (fun (s3 : Int) (_ : Unit) => [(0, (.int .i64 p_)), (1, (.int .i64 size_)), (7, (g1).v), (10, (.int .i64 s1_1)), (11, (.int .i64 s1_2)), (12, (.int .i64 s3))]) (fun (s3 : Int) (_ : Unit) w' => Cx w0 fp0 S0 w' [E (List (List Int)) s1_0 g1]) s1_1 () f19 ⟨rfl, rfl, rfl, rfl, rfl, rfl, trivial⟩ (H.sel [0] rfl) ?_
        ·
         clear H
         rintro T4 s3 _ w8 o2 (H : Cx w0 fp0 S0 w8 [E (List (List Int)) s1_0 g1]) hrt f21
         refine sq ?_
         obtain ⟨r5, f22, f23⟩ := bindS f21; clear f21
         refine cut (fun (q4 : Bool) => [(0, (.int .i64 p_)), (1, (.int .i64 size_)), (7, (g1).v), (10, (.int .i64 s1_1)), (11, (.int .i64 s1_2)), (12, (.int .i64 s3)), (56, (.bool q4))]) (fun (q4 : Bool) w' => q4 = r5 ∧ Cx w0 fp0 S0 w' [E (List (List Int)) s1_0 g1]) ?_ ?_
         ·
          refine lenE (H.ro (α := List (List Int)) 0 rfl).len ?_
          obtain ⟨a4, e, f24⟩ := bindS f22; clear f22
          refine boolO e ?_; clear e
          cases a4
          ·
           have f25 := condF f24; clear f24
           exact ⟨false, ⟨rfl, rfl, rfl, rfl, rfl, rfl, rfl, trivial⟩, Option.some.inj f25, H.sel [0] rfl⟩
          ·
           have f26 := condT f24; clear f24
           obtain ⟨a5, e, f27⟩ := bindS f26; clear f26
           replace H := H.toEH (α := List Int)
           have HH := H; clear H; obtain ⟨p1, m1, h4, c4, c5, c6, c7, H⟩ := HH.peekL e; clear HH
           clear e
           refine idxE c4 c5 c6 ?_
           refine load1 c7 ?_; clear c7
           obtain ⟨a6, e, f28⟩ := bindS f27; clear f27
           obtain ⟨p2, m2, c8, c9, c10, c11⟩ := (H.rh (α := List Int) 0 rfl 0 rfl).at1 e; clear e
           refine idxE c8 c9 c10 ?_; clear c8 c9 c10
           refine load1 c11 ?_; clear c11
           obtain ⟨a7, e, f29⟩ := bindS f28; clear f28
           refine boolO e ?_; clear e
           replace H := H.ofEH
           exact ⟨a7, ⟨rfl, rfl, rfl, rfl, rfl, rfl, rfl, trivial⟩, Option.some.inj f29, H.sel [0] rfl⟩
         ·
          clear f22 H
          rintro T5 s4 w9 ⟨hr, (H : Cx w0 fp0 S0 w9 [E (List (List Int)) s1_0 g1])⟩
          subst hr
          cases s4
          ·
           have f30 := condF f23; clear f23
           have hs := Option.some.inj f30; subst hs; clear f30
           have f31 : some _ = some _ := congrArg some (hrt _ rfl).symm
           exact ⟨s3, ⟨rfl, rfl, rfl, rfl, rfl, rfl, trivial⟩, Option.some.inj f31, H.sel [0] rfl⟩
          ·
           have f32 := condT f23; clear f23
           obtain ⟨a8, e, f33⟩ := bindS f32; clear f32
           refine arO e ?_; clear e
           have hs := Option.some.inj f33; subst hs; clear f33
           exact ⟨a8, (), rfl, ⟨rfl, rfl, rfl, rfl, rfl, rfl, trivial⟩, H.sel [0] rfl⟩
       ·
        clear f19 H
        rintro T6 s5 w10 ⟨hr, (H : Cx w0 fp0 S0 w10 [E (List (List Int)) s1_0 g1])⟩
        subst hr
        refine sq ?_
        refine lenE (H.ro (α := List (List Int)) 0 rfl).len ?_
        obtain ⟨a9, e, f34⟩ := bindS f20; clear f20
        refine boolO e ?_; clear e
        cases a9
        ·
         have f35 := condF f34; clear f34
         obtain ⟨a10, e, f36⟩ := bindS f35; clear f35
         replace H := H.toEH (α := List Int)
         have HH := H; clear H; obtain ⟨p3, m3, h5, c12, c13, c14, c15, H⟩ := HH.peekL e; clear HH
         clear e
         refine idxE c12 c13 c14 ?_
         refine load1 c15 ?_; clear c15
         obtain ⟨a11, e, f37⟩ := bindS f36; clear f36
         have HH := H; clear H; obtain ⟨p4, m4, h6, c16, c17, c18, c19, H⟩ := HH.peekL e; clear HH
         clear e
         refine idxE c16 c17 c18 ?_
         refine load1 c19 ?_; clear c19
         refine idxE c12 c13 c14 ?_
         refine stZ1 (ki := 1) (kj := 0) H rfl rfl c12 ?_; clear H; intro w11 H
         refine idxE c16 c17 c18 ?_
         obtain ⟨a12, e, f38⟩ := bindS f37; clear f37
         refine stZ2 H c13 c17 c16 e ?_; clear H e; intro w12 H
         obtain ⟨a13, e, f39⟩ := bindS f38; clear f38
         replace H := H.toEH (α := List Int)
         have HH := H; clear H; obtain ⟨p5, m5, h7, c20, c21, c22, c23, H⟩ := HH.peekL e; clear HH
         clear e
         refine idxE c20 c21 c22 ?_
         refine load1 c23 ?_; clear c23
         obtain ⟨a14, e, f40⟩ := bindS f39; clear f39
         obtain ⟨p6, m6, c24, c25, c26, c27⟩ := (H.rh (α := List Int) 0 rfl 0 rfl).at1 e; clear e
         refine idxE c24 c25 c26 ?_; clear c24 c25 c26
         refine load1 c27 ?_; clear c27
         obtain ⟨y1, e, f41⟩ := bindS f40; clear f40
         have ey26736 := e; clear e
         refine callF (spec_fdInv_c p_ a14 y1 ey26736) (Γi := []) H trivial ?_; clear H ey26736
         rintro _ _ w13 ⟨rfl, rfl⟩ H
         refine sq ?_
         obtain ⟨a15, e, f42⟩ := bindS f41; clear f41
         have HH := H; clear H; obtain ⟨p7, m7, h8, c28, c29, c30, c31, H⟩ := HH.peekL e; clear HH
         clear e
         refine idxE c28 c29 c30 ?_
         refine load1 c31 ?_; clear c31
         have x1 := (H.rh (α := List Int) 0 rfl 0 rfl).max
         refine lenE (H.rh (α := List Int) 0 rfl 0 rfl).len ?_
         replace H := H.ofEH
         obtain ⟨r6, e, f43⟩ := bindS f42; clear f42
         refine loopS _ a15.length (fun (k0 : Nat) (s6 : List (List Int)) (_ : Unit) => [(0, (.int .i64 p_)), (1, (.int .i64 size_)), (7, (g1).v), (10, (.int .i64 s1_1)), (11, (.int .i64 s1_2)), (14, (.int .i64 y1)), (91, (.int .i64 ((a15.length : Nat) : Int))), (92, (.int .i64 ((k0 : Nat) : Int)))]) (fun _ (s6 : List (List Int)) (_ : Unit) w' => Cx w0 fp0 S0 w' [E (List (List Int)) s6 g1]) a12 () e ⟨rfl, rfl, rfl, rfl, rfl, rfl, rfl, rfl, trivial⟩ (H.sel [0] rfl) ?_ ?_
         ·
          clear H e
          rintro T7 k0 s6 _ w14 o3 hk (H : Cx w0 fp0 S0 w14 [E (List (List Int)) s6 g1]) f44
          refine boolE (z := true) (ltLen hk) ?_
          refine sq ?_
          refine sq ?_
          refine heldX H [16] (.fst 0 (.fst 1 (.fst 2 (.fst 4 (.fst 5 (.fst 6 (.fst 7 (.fst 8 (.fst 10 (.fst 13 (.fst 3 (.fst 9 (.fst 11 (.fst 12 (.act 14 (.fst 15 (.act 16 .done))))))))))))))))) mixed [] trivial (by kernel_rfl) ?_
          clear H; intro w15 H
          have hX : Ext w15 w15 := Upd.refl _ _
          have H0 := H
          obtain ⟨a16, e, f45⟩ := bindS f44; clear f44
          replace H := H.toEH (α := List Int)
          have HH := H; clear H; obtain ⟨p8, m8, h9, c32, c33, c34, c35, H⟩ := HH.peekL e; clear HH
          clear e
          refine idxE c32 c33 c34 ?_
          obtain ⟨a17, e, f46⟩ := bindS f45; clear f45
          have HH := H; clear H; obtain ⟨p9, m9, h10, c36, c37, c38, c39, H⟩ := HH.peekL e; clear HH
          clear e
          refine idxE c36 c37 c38 ?_
          refine load1X c35 ?_; clear c35
          refine load1X c39 ?_; clear c39
          obtain ⟨a18, e, f47⟩ := bindS f46; clear f46
          obtain ⟨p10, m10, c40, c41, c42, c43⟩ := (H.rh (α := List Int) 0 rfl 0 rfl).at1 e; clear e
          refine idxE c40 c41 c42 ?_; clear c40 c41 c42
          refine load1X c43 ?_; clear c43
          obtain ⟨y2, e, f48⟩ := bindS f47; clear f47
          have ey26874 := e; clear e
          refine callFx (spec_fdMul_c p_ a18 y1 y2 ey26874) H trivial ?_; clear H ey26874
          rintro _ _ w16 ⟨rfl, rfl⟩ hx H
          replace hX := hX.trans0 hx; clear hx
          refine hold hX ?_
          replace H := H.takeK 1 rfl
          obtain ⟨a19, e, f49⟩ := bindS f48; clear f48
          have ea26884 := e; clear e
          obtain ⟨p11, m11, c44, c45, c46⟩ := (H.ro (α := List Int) 0 rfl).setp ea26884
          refine idxE c44 c45 c46 ?_
          refine setS (α := Int) H c44 c45 ea26884 ?_; clear H c44 c45 c46 ea26884; intro w17 H
          obtain ⟨a20, e, f50⟩ := bindS f49; clear f49
          replace H := H.put c33 e; clear e
          refine hold trivial ?_
          refine arK hk x1 ?_
          have hs := Option.some.inj f50; subst hs; clear f50
          exact ⟨(), ⟨rfl, rfl, rfl, rfl, rfl, rfl, rfl, rfl, trivial⟩, H.sel [0] rfl⟩
         ·
          clear H e
          rintro T8 _ w18 (H : Cx w0 fp0 S0 w18 [E (List (List Int)) r6 g1])
          refine boolE (z := false) geLen ?_
          refine sq ?_
          refine sq ?_
          refine lenE (H.ro (α := List (List Int)) 0 rfl).len ?_
          have x2 := (H.ro (α := List (List Int)) 0 rfl).max
          obtain ⟨r7, e, f51⟩ := bindS f43; clear f43
          refine loopS _ r6.length (fun (k1 : Nat) (s7 : List (List Int)) (_ : Unit) => [(0, (.int .i64 p_)), (1, (.int .i64 size_)), (7, (g1).v), (10, (.int .i64 s1_1)), (11, (.int .i64 s1_2)), (113, (.int .i64 ((r6.length : Nat) : Int))), (114, (.int .i64 ((k1 : Nat) : Int)))]) (fun _ (s7 : List (List Int)) (_ : Unit) w' => Cx w0 fp0 S0 w' [E (List (List Int)) s7 g1]) r6 () e ⟨rfl, rfl, rfl, rfl, rfl, rfl, rfl, trivial⟩ (H.sel [0] rfl) ?_ ?_
          ·
           clear H e
           rintro T9 k1 s7 _ w19 o4 hk (H : Cx w0 fp0 S0 w19 [E (List (List Int)) s7 g1]) f52
           refine boolE (z := true) (ltLen hk) ?_
           refine sq ?_
           obtain ⟨r8, f53, f54⟩ := bindS f52; clear f52
           refine cut (fun (q5 : List (List Int)) => [(0, (.int .i64 p_)), (1, (.int .i64 size_)), (7, (g1).v), (10, (.int .i64 s1_1)), (11, (.int .i64 s1_2)), (113, (.int .i64 ((r6.length : Nat) : Int))), (114, (.int .i64 ((k1 : Nat) : Int)))]) (fun (q5 : List (List Int)) w' => q5 = r8 ∧ Cx w0 fp0 S0 w' [E (List (List Int)) q5 g1]) ?_ ?_
           ·
            refine sq ?_
            obtain ⟨r9, f55, f56⟩ := bindS f53; clear f53
            refine cut (fun (q6 : Bool) => [(0, (.int .i64 p_)), (1, (.int .i64 size_)), (7, (g1).v), (10, (.int .i64 s1_1)), (11, (.int .i64 s1_2)), (16, (.int .i64 ((k1 : Nat) : Int))), (113, (.int .i64 ((r6.length : Nat) : Int))), (114, (.int .i64 ((k1 : Nat) : Int))), (129, (.bool q6))]) (fun (q6 : Bool) w' => q6 = r9 ∧ Cx w0 fp0 S0 w' [E (List (List Int)) s7 g1]) ?_ ?_
            ·
             obtain ⟨a21, e, f57⟩ := bindS f55; clear f55
             refine boolO e ?_; clear e
             cases a21
             ·
              have f58 := condF f57; clear f57
              obtain ⟨a22, e, f59⟩ := bindS f58; clear f58
              replace H := H.toEH (α := List Int)
              have HH := H; clear H; obtain ⟨p12, m12, h11, c47, c48, c49, c50, H⟩ := HH.peekL e; clear HH
              clear e
              refine idxE c47 c48 c49 ?_
              refine load1 c50 ?_; clear c50
              obtain ⟨a23, e, f60⟩ := bindS f59; clear f59
              obtain ⟨p13, m13, c51, c52, c53, c54⟩ := (H.rh (α := List Int) 0 rfl 0 rfl).at1 e; clear e
              refine idxE c51 c52 c53 ?_; clear c51 c52 c53
              refine load1 c54 ?_; clear c54
              obtain ⟨a24, e, f61⟩ := bindS f60; clear f60
              refine boolO e ?_; clear e
              replace H := H.ofEH
              exact ⟨a24, ⟨rfl, rfl, rfl, rfl, rfl, rfl, rfl, rfl, rfl, trivial⟩, Option.some.inj f61, H.sel [0] rfl⟩
             ·
              have f62 := condT f57; clear f57
              exact ⟨true, ⟨rfl, rfl, rfl, rfl, rfl, rfl, rfl, rfl, rfl, trivial⟩, Option.some.inj f62, H.sel [0] rfl⟩
            ·
             clear f55 H
             rintro T10 s8 w20 ⟨hr, (H : Cx w0 fp0 S0 w20 [E (List (List Int)) s7 g1])⟩
             subst hr
             cases s8
             ·
              have f63 := condF f56; clear f56
              obtain ⟨a25, e, f64⟩ := bindS f63; clear f63
              replace H := H.toEH (α := List Int)
              have HH := H; clear H; obtain ⟨p14, m14, h12, c55, c56, c57, c58, H⟩ := HH.peekL e; clear HH
              clear e
              refine idxE c55 c56 c57 ?_
              refine load1 c58 ?_; clear c58
              obtain ⟨a26, e, f65⟩ := bindS f64; clear f64
              obtain ⟨p15, m15, c59, c60, c61, c62⟩ := (H.rh (α := List Int) 0 rfl 0 rfl).at1 e; clear e
              refine idxE c59 c60 c61 ?_; clear c59 c60 c61
              refine load1 c62 ?_; clear c62
              replace H := H.ofEH
              obtain ⟨a27, e, f66⟩ := bindS f65; clear f65
              replace H := H.toEH (α := List Int)
              have HH := H; clear H; obtain ⟨p16, m16, h13, c63, c64, c65, c70, H⟩ := HH.peekL e; clear HH
              clear e
              refine idxE c63 c64 c65 ?_
              refine load1 c70 ?_; clear c70
              have x3 := (H.rh (α := List Int) 0 rfl 0 rfl).max
              refine lenE (H.rh (α := List Int) 0 rfl 0 rfl).len ?_
              replace H := H.ofEH
              obtain ⟨r10, e, f67⟩ := bindS f66; clear f66
              refine loopS _ a27.length (fun (k3 : Nat) (s9 : List (List Int)) (_ : Unit) => [(0, (.int .i64 p_)), (1, (.int .i64 size_)), (7, (g1).v), (10, (.int .i64 s1_1)), (11, (.int .i64 s1_2)), (16, (.int .i64 ((k1 : Nat) : Int))), (17, (.int .i64 a26)), (113, (.int .i64 ((r6.length : Nat) : Int))), (114, (.int .i64 ((k1 : Nat) : Int))), (141, (.int .i64 ((a27.length : Nat) : Int))), (142, (.int .i64 ((k3 : Nat) : Int)))]) (fun _ (s9 : List (List Int)) (_ : Unit) w' => Cx w0 fp0 S0 w' [E (List (List Int)) s9 g1]) s7 () e ⟨rfl, rfl, rfl, rfl, rfl, rfl, rfl, rfl, rfl, rfl, rfl, trivial⟩ (H.sel [0] rfl) ?_ ?_
              ·
               clear H e
               rintro T11 k3 s9 _ w21 o5 hk (H : Cx w0 fp0 S0 w21 [E (List (List Int)) s9 g1]) f68
               refine boolE (z := true) (ltLen hk) ?_
               refine sq ?_
               refine sq ?_
               refine heldX H [25] (.fst 0 (.fst 1 (.fst 2 (.fst 4 (.fst 5 (.fst 6 (.fst 7 (.fst 8 (.fst 10 (.fst 13 (.fst 14 (.fst 15 (.fst 16 (.fst 17 (.fst 19 (.fst 3 (.fst 9 (.fst 11 (.fst 12 (.fst 18 (.fst 20 (.fst 21 (.act 22 (.act 23 (.fst 24 (.act 25 .done)))))))))))))))))))))))))) mixed [] trivial (by kernel_rfl) ?_
               clear H; intro w22 H
               have hX : Ext w22 w22 := Upd.refl _ _
               have H0 := H
               obtain ⟨a28, e, f69⟩ := bindS f68; clear f68
               replace H := H.toEH (α := List Int)
               have HH := H; clear H; obtain ⟨p17, m17, h14, c71, c72, c73, c74, H⟩ := HH.peekL e; clear HH
               clear e
               refine idxE c71 c72 c73 ?_
               obtain ⟨a29, e, f70⟩ := bindS f69; clear f69
               have HH := H; clear H; obtain ⟨p18, m18, h15, c75, c76, c77, c78, H⟩ := HH.peekL e; clear HH
               clear e
               refine idxE c75 c76 c77 ?_
               obtain ⟨a30, e, f71⟩ := bindS f70; clear f70
               have HH := H; clear H; obtain ⟨p19, m19, h16, c79, c80, c81, c82, H⟩ := HH.peekL e; clear HH
               clear e
               refine idxE c79 c80 c81 ?_
               refine load1X c74 ?_; clear c74
               refine load1X c78 ?_; clear c78
               obtain ⟨a31, e, f72⟩ := bindS f71; clear f71
               obtain ⟨p20, m20, c83, c84, c85, c86⟩ := (H.rh (α := List Int) 0 rfl 1 rfl).at1 e; clear e
               refine idxE c83 c84 c85 ?_; clear c83 c84 c85
               refine load1X c86 ?_; clear c86
               refine load1X c82 ?_; clear c82
               obtain ⟨a32, e, f73⟩ := bindS f72; clear f72
               obtain ⟨p21, m21, c87, c88, c89, c90⟩ := (H.rh (α := List Int) 0 rfl 0 rfl).at1 e; clear e
               refine idxE c87 c88 c89 ?_; clear c87 c88 c89
               refine load1X c90 ?_; clear c90
               obtain ⟨y3, e, f74⟩ := bindS f73; clear f73
               have ey28628 := e; clear e
               refine callFx (spec_fdMul_c p_ a26 a32 y3 ey28628) H trivial ?_; clear H ey28628
               rintro _ _ w23 ⟨rfl, rfl⟩ hx H
               replace hX := hX.trans0 hx; clear hx
               refine hold hX ?_
               obtain ⟨y4, e, f75⟩ := bindS f74; clear f74
               have ey28631 := e; clear e
               refine callFx (spec_fdSub_c p_ a31 y3 y4 ey28631) H trivial ?_; clear H ey28631
               rintro _ _ w24 ⟨rfl, rfl⟩ hx H
               replace hX := hX.trans0 hx; clear hx
               refine hold hX ?_
               replace H := H.takeK 2 rfl
               obtain ⟨a33, e, f76⟩ := bindS f75; clear f75
               have ea28641 := e; clear e
               obtain ⟨p22, m22, c91, c92, c93⟩ := (H.ro (α := List Int) 0 rfl).setp ea28641
               refine idxE c91 c92 c93 ?_
               refine setS (α := Int) H c91 c92 ea28641 ?_; clear H c91 c92 c93 ea28641; intro w25 H
               obtain ⟨a34, e, f77⟩ := bindS f76; clear f76
               replace H := H.put c72 e; clear e
               refine hold trivial ?_
               refine arK hk x3 ?_
               have hs := Option.some.inj f77; subst hs; clear f77
               exact ⟨(), ⟨rfl, rfl, rfl, rfl, rfl, rfl, rfl, rfl, rfl, rfl, rfl, trivial⟩, H.sel [0] rfl⟩
              ·
               clear H e
               rintro T12 _ w26 (H : Cx w0 fp0 S0 w26 [E (List (List Int)) r10 g1])
               refine boolE (z := false) geLen ?_
               refine sq ?_
               exact ⟨r10, ⟨rfl, rfl, rfl, rfl, rfl, rfl, rfl, trivial⟩, Option.some.inj f67, H.sel [0] rfl⟩
             ·
              have f78 := condT f56; clear f56
              exact ⟨s7, ⟨rfl, rfl, rfl, rfl, rfl, rfl, rfl, trivial⟩, Option.some.inj f78, H.sel [0] rfl⟩
           ·
            clear f53 H
            rintro T13 s10 w27 ⟨hr, (H : Cx w0 fp0 S0 w27 [E (List (List Int)) s10 g1])⟩
            subst hr
            refine arK hk x2 ?_
            have hs := Option.some.inj f54; subst hs; clear f54
            exact ⟨(), ⟨rfl, rfl, rfl, rfl, rfl, rfl, rfl, trivial⟩, H.sel [0] rfl⟩
          ·
           clear H e
           rintro T14 _ w28 (H : Cx w0 fp0 S0 w28 [E (List (List Int)) r7 g1])
           refine boolE (z := false) geLen ?_
           refine sq ?_
           obtain ⟨a35, e, f79⟩ := bindS f51; clear f51
           refine arO e ?_; clear e
           exact ⟨(r7, a35), ⟨rfl, rfl, rfl, rfl, rfl, trivial⟩, Option.some.inj f79, H.sel [0] rfl⟩
        ·
         have f80 := condT f34; clear f34
         exact ⟨(s1_0, s1_1), ⟨rfl, rfl, rfl, rfl, rfl, trivial⟩, Option.some.inj f80, H.sel [0] rfl⟩
      ·
       clear f17 H
       rintro T15 ⟨s11_0, s11_1⟩ w29 ⟨hr, (H : Cx w0 fp0 S0 w29 [E (List (List Int)) s11_0 g1])⟩
       subst hr
       obtain ⟨a36, e, f81⟩ := bindS f18; clear f18
       refine arO e ?_; clear e
       have hs := Option.some.inj f81; subst hs; clear f81
       exact ⟨(s11_0, s11_1, a36), (), rfl, ⟨rfl, rfl, rfl, rfl, rfl, trivial⟩, H.sel [0] rfl⟩
  ·
   clear f5 H
   rintro T16 ⟨s12_0, s12_1⟩ w30 ⟨hr, (H : Cx w0 fp0 S0 w30 [E (List (List Int)) s12_0 g1])⟩
   subst hr
   obtain ⟨a37, e, f82⟩ := bindS f6; clear f6
   refine slO (α := List Int) gok rfl rfl H e rfl rfl ?_; clear e H; intro h17 H
   cases f82
   exact ⟨_, _, rfl, ⟨h17, rfl, rfl⟩, (H.sel [0] rfl).close ⟨cloE, trivial⟩⟩

theorem spec_rzChosen_c (p_ : Int) (size_ : Int) (rows_ : List (List Int)) (rows_h : Hd) (y : List Int) (hF : F_spec_rzChosen p_ size_ rows_ = some y) :
  ConF Tryd.prog 82 #[(.int .i64 p_), (.int .i64 size_), (rows_h).v] [Es (List (List Int)) rows_ rows_h] [] (fun v Γ' => ∃ z0 : Hd, v = (z0).v ∧ Γ' = [E (List Int) y z0]) := by
 intro w0 S0 fp0 hI hS
 have H : Cx w0 fp0 S0 w0 [Es (List (List Int)) rows_ rows_h] := Cx.start hI hS
 clear hI hS
 refine enterC (args := [_, _, _]) gok Tryd.func82 rfl _ rfl rfl rfl ?_
 refine sq ?_
 refine lenE (H.rs (α := List (List Int)) 0 rfl).len ?_
 have x0 := (H.rs (α := List (List Int)) 0 rfl).max
 obtain ⟨r0, e, f0⟩ := bindS hF; clear hF
 replace H := H.nil (α := Int)
 refine loopS _ rows_.length (fun (k2 : Nat) (s0 : List Int × Int) (g0 : Hd) => [(0, (.int .i64 p_)), (1, (.int .i64 size_)), (2, (rows_h).v), (7, (g0).v), (8, (.int .i64 s0.2)), (12, (.int .i64 ((rows_.length : Nat) : Int))), (13, (.int .i64 ((k2 : Nat) : Int)))]) (fun _ (s0 : List Int × Int) (g0 : Hd) w' => Cx w0 fp0 S0 w' [Es (List (List Int)) rows_ rows_h, E (List Int) s0.1 g0]) ([], 0) nilH e ⟨rfl, rfl, rfl, rfl, rfl, rfl, rfl, trivial⟩ (H.sel [1, 0] rfl) ?_ ?_
 ·
  clear H e
  rintro T0 k2 ⟨s0_0, s0_1⟩ g0 w1 o0 hk (H : Cx w0 fp0 S0 w1 [Es (List (List Int)) rows_ rows_h, E (List Int) s0_0 g0]) f1
  refine boolE (z := true) (ltLen hk) ?_
  refine sq ?_
  refine sq ?_
  obtain ⟨a0, e, f2⟩ := bindS f1; clear f1
  refine arO e ?_; clear e
  obtain ⟨a1, e, f3⟩ := bindS f2; clear f2
  refine slS (α := List Int) gok rfl rfl H 0 rfl e rfl rfl ?_; clear e H; intro h0 H
  obtain ⟨y0, e, f4⟩ := bindS f3; clear f3
  have ey72 := e; clear e
  refine callF (spec_spReduce_c p_ size_ a1 h0 y0 ey72) (Γi := []) H ⟨Vw.sh 0 rfl, trivial⟩ ?_; clear H ey72
  rintro _ _ w2 ⟨h1, rfl, rfl⟩ H
  refine lenE (H.ro (α := List (List Int)) 0 rfl).len ?_
  obtain ⟨a2, e, f5⟩ := bindS f4; clear f4
  refine boolO e ?_; clear e
  cases a2
  ·
   have f6 := condF f5; clear f5
   refine arK hk x0 ?_
   have hs := Option.some.inj f6; subst hs; clear f6
   exact ⟨g0, ⟨rfl, rfl, rfl, rfl, rfl, rfl, rfl, trivial⟩, H.sel [2, 3] rfl⟩
  ·
   have f7 := condT f5; clear f5
   refine lit1S (α := Int) gok rfl rfl rfl rfl H ?_; clear H; intro h2 w3 hx H
   clear hx
   obtain ⟨a3, e, f8⟩ := bindS f7; clear f7
   replace H := H.sel [4, 0, 1, 2, 3] rfl
   refine append_ (α := Int) gok rfl rfl rfl rfl H e ?_; clear e H; intro h3 w4 H
   refine arK hk x0 ?_
   have hs := Option.some.inj f8; subst hs; clear f8
   exact ⟨h3, ⟨rfl, rfl, rfl, rfl, rfl, rfl, rfl, trivial⟩, H.sel [3, 0] rfl⟩
 ·
  clear H e
  obtain ⟨s1_0, s1_1⟩ := r0
  rintro T1 g1 w5 (H : Cx w0 fp0 S0 w5 [Es (List (List Int)) rows_ rows_h, E (List Int) s1_0 g1])
  refine boolE (z := false) geLen ?_
  refine sq ?_
  cases f0
  exact ⟨_, _, rfl, ⟨g1, rfl, rfl⟩, (H.sel [1] rfl).close ⟨cloE, trivial⟩⟩

theorem spec_mxZero_c (rows_ : Int) (cols_ : Int) (y_0 : Int) (y_1 : List (List Int)) (hF : F_spec_mxZero rows_ cols_ = some (y_0, y_1)) :
  ConF Tryd.prog 127 #[(.int .i64 rows_), (.int .i64 cols_)] [] [] (fun v Γ' => ∃ z0 : Hd, v = (.agg #[(.int .i64 y_0), (z0).v]) ∧ Γ' = [E (List (List Int)) y_1 z0]) := by
 intro w0 S0 fp0 hI hS
 have H : Cx w0 fp0 S0 w0 [] := Cx.start hI hS
 clear hI hS
 refine enterC (args := [_, _]) gok Tryd.func127 rfl _ rfl rfl rfl ?_
 refine alloc_ gok rfl H ?_; clear H; intro b2 w1 hx H
 clear hx
 obtain ⟨a4, e, hF5⟩ := bindS hF; clear hF
 refine make_ (α := List Int) gok rfl rfl rfl rfl (makeCO_of e) H ?_; clear e H; intro h7 w6 hx H
 clear hx
 refine build_ (cs := #[(.int .i64 cols_), (h7).v]) gok rfl rfl rfl ?_
 refine alloc_ gok rfl H ?_; clear H; intro b0 w9 hx H
 clear hx
 refine stA gok [(.int .i64 cols_), (h7).v] rfl H rfl rfl rfl ?_; clear H; intro w2 H
 refine sq ?_
 refine fld gok rfl rfl rfl rfl ?_
 refine load1 (H.bx 0 rfl (j := 1) rfl) ?_
 refine lenE (H.ro (α := List (List Int)) 1 rfl).len ?_
 have x0 := (H.ro (α := List (List Int)) 1 rfl).max
 obtain ⟨r0, e, f0⟩ := bindS hF5; clear hF5
 refine loopS _ a4.length (fun (k0 : Nat) (s0 : List (List Int)) (_ : Unit) => [(1, (.int .i64 cols_)), (4, (.pointer (some ⟨b2, 0, none⟩))), (5, (.pointer (some ⟨b0, 0, none⟩))), (13, (.int .i64 ((a4.length : Nat) : Int))), (14, (.int .i64 ((k0 : Nat) : Int)))]) (fun _ (s0 : List (List Int)) (_ : Unit) w' => Cx w0 fp0 S0 w' [Bx b2 [(.int .i64 0), (.slice none 0 0)], Bx b0 [(.int .i64 cols_), (h7).v], E (List (List Int)) s0 h7]) a4 () e ⟨rfl, rfl, rfl, rfl, rfl, trivial⟩ (H.sel [2, 0, 1] rfl) ?_ ?_
 ·
  clear H e
  rintro T0 k0 s0 _ w3 o0 hk (H : Cx w0 fp0 S0 w3 [Bx b2 [(.int .i64 0), (.slice none 0 0)], Bx b0 [(.int .i64 cols_), (h7).v], E (List (List Int)) s0 h7]) f1
  refine boolE (z := true) (ltLen hk) ?_
  refine sq ?_
  refine sq ?_
  refine heldX H [6] (.fst 0 (.fst 2 (.fst 3 (.fst 1 (.act 4 (.fst 5 (.act 6 .done))))))) mixed [] trivial (by kernel_rfl) ?_
  clear H; intro w4 H
  have hX : Ext w4 w4 := Upd.refl _ _
  have H0 := H
  refine anyH (fun _ => fld gok rfl rfl rfl rfl ⟨rfl, rfl⟩) ?_
  refine load1X (H.bx 1 rfl (j := 1) rfl) ?_
  obtain ⟨a0, e, f2⟩ := bindS f1; clear f1
  refine make_ (α := Int) gok rfl rfl rfl rfl (makeCO_of e) H ?_; clear e H; intro h0 w5 hx H
  replace hX := hX.trans0 hx; clear hx
  refine hold hX ?_
  obtain ⟨a1, e, f3⟩ := bindS f2; clear f2
  have ea69 := e; clear e
  obtain ⟨p0, m0, c0, c1, c2⟩ := (H.ro (α := List (List Int)) 3 rfl).setp ea69
  refine idxE c0 c1 c2 ?_
  replace H := H.sel [3, 0, 1, 2] rfl
  refine setL H c0 c1 ea69 ?_; clear H c0 c1 c2 ea69; intro w7 H
  refine hold trivial ?_
  refine arK hk x0 ?_
  have hs := Option.some.inj f3; subst hs; clear f3
  exact ⟨(), ⟨rfl, rfl, rfl, rfl, rfl, trivial⟩, H.sel [1, 2, 0] rfl⟩
 ·
  clear H e
  rintro T1 _ w8 (H : Cx w0 fp0 S0 w8 [Bx b2 [(.int .i64 0), (.slice none 0 0)], Bx b0 [(.int .i64 cols_), (h7).v], E (List (List Int)) r0 h7])
  refine boolE (z := false) geLen ?_
  refine sq ?_
  refine loadN [(.int .i64 cols_), (h7).v] rfl (fun j u hj => H.bx 1 rfl hj) ?_
  refine stA gok [(.int .i64 cols_), (h7).v] rfl H rfl rfl rfl ?_; clear H; intro w10 H
  refine loadN [(.int .i64 cols_), (h7).v] rfl (fun j u hj => H.bx 0 rfl hj) ?_
  cases f0
  exact ⟨_, _, rfl, ⟨h7, rfl, rfl⟩, (H.sel [2] rfl).close ⟨cloE, trivial⟩⟩

theorem spec_mxId_c (n_ : Int) (y_0 : Int) (y_1 : List (List Int)) (hF : F_spec_mxId n_ = some (y_0, y_1)) :
  ConF Tryd.prog 121 #[(.int .i64 n_)] [] [] (fun v Γ' => ∃ z0 : Hd, v = (.agg #[(.int .i64 y_0), (z0).v]) ∧ Γ' = [E (List (List Int)) y_1 z0]) := by
 intro w0 S0 fp0 hI hS
 have H : Cx w0 fp0 S0 w0 [] := Cx.start hI hS
 clear hI hS
 refine enterC (args := [_]) gok Tryd.func121 rfl _ rfl rfl rfl ?_
 refine alloc_ gok rfl H ?_; clear H; intro b2 w1 hx H
 clear hx
 obtain ⟨y4, e, hF5⟩ := bindS hF; clear hF
 obtain ⟨y4_0, y4_1⟩ := y4
 have ey4 := e; clear e
 refine callF (spec_mxZero_c n_ n_ y4_0 y4_1 ey4) (Γi := []) H trivial ?_; clear H ey4
 rintro _ _ w6 ⟨h7, rfl, rfl⟩ H
 refine alloc_ gok rfl H ?_; clear H; intro b0 w9 hx H
 clear hx
 refine stA gok [(.int .i64 y4_0), (h7).v] rfl H rfl rfl rfl ?_; clear H; intro w2 H
 obtain ⟨r0, f0, f1⟩ := bindS hF5; clear hF5
 refine cut (fun (q0 : List (List Int)) => [(2, (.pointer (some ⟨b2, 0, none⟩))), (3, (.pointer (some ⟨b0, 0, none⟩)))]) (fun (q0 : List (List Int)) w' => q0 = r0 ∧ Cx w0 fp0 S0 w' [Bx b2 [(.int .i64 0), (.slice none 0 0)], Bx b0 [(.int .i64 y4_0), (h7).v], E (List (List Int)) q0 h7]) ?_ ?_
 ·
  refine loopW _ (fun (s0 : List (List Int) × Int) (_ : Unit) => [(0, (.int .i64 n_)), (2, (.pointer (some ⟨b2, 0, none⟩))), (3, (.pointer (some ⟨b0, 0, none⟩))), (4, (.int .i64 s0.2))]) (fun (s0 : List (List Int) × Int) (_ : Unit) w' => Cx w0 fp0 S0 w' [Bx b2 [(.int .i64 0), (.slice none 0 0)], Bx b0 [(.int .i64 y4_0), (h7).v], E (List (List Int)) s0.1 h7]) (y4_1, 0) () f0 ⟨rfl, rfl, rfl, rfl, trivial⟩ (H.sel [2, 0, 1] rfl) ?_
  ·
   clear H
   rintro T0 ⟨s0_0, s0_1⟩ _ w3 o0 (H : Cx w0 fp0 S0 w3 [Bx b2 [(.int .i64 0), (.slice none 0 0)], Bx b0 [(.int .i64 y4_0), (h7).v], E (List (List Int)) s0_0 h7]) hrt f2
   refine sq ?_
   obtain ⟨a0, e, f3⟩ := bindS f2; clear f2
   refine boolO e ?_; clear e
   cases a0
   ·
    have f4 := condF f3; clear f3
    have hs := Option.some.inj f4; subst hs; clear f4
    have f5 : some _ = some _ := congrArg some (hrt _ rfl).symm
    exact ⟨s0_0, ⟨rfl, rfl, trivial⟩, Option.some.inj f5, H.sel [0, 1, 2] rfl⟩
   ·
    have f6 := condT f3; clear f3
    refine sq ?_
    refine fld gok rfl rfl rfl rfl ?_
    refine load1 (H.bx 1 rfl (j := 1) rfl) ?_
    obtain ⟨a1, e, f7⟩ := bindS f6; clear f6
    replace H := H.sel [2, 0, 1] rfl
    replace H := H.toEH (α := List Int)
    have HH := H; clear H; obtain ⟨p0, m0, h0, c0, c1, c2, c3, H⟩ := HH.peekL e; clear HH
    clear e
    refine idxE c0 c1 c2 ?_
    refine load1 c3 ?_; clear c3
    replace H := H.takeK 0 rfl
    obtain ⟨a2, e, f8⟩ := bindS f7; clear f7
    have ea202 := e; clear e
    obtain ⟨p1, m1, c4, c5, c6⟩ := (H.ro (α := List Int) 0 rfl).setp ea202
    refine idxE c4 c5 c6 ?_
    refine setS (α := Int) H c4 c5 ea202 ?_; clear H c4 c5 c6 ea202; intro w4 H
    obtain ⟨a3, e, f9⟩ := bindS f8; clear f8
    replace H := H.put c1 e; clear e
    obtain ⟨a4, e, f10⟩ := bindS f9; clear f9
    refine arO e ?_; clear e
    have hs := Option.some.inj f10; subst hs; clear f10
    exact ⟨(a3, a4), (), rfl, ⟨rfl, rfl, rfl, rfl, trivial⟩, H.sel [1, 2, 0] rfl⟩
 ·
  clear f0 H
  rintro T1 s1 w5 ⟨hr, (H : Cx w0 fp0 S0 w5 [Bx b2 [(.int .i64 0), (.slice none 0 0)], Bx b0 [(.int .i64 y4_0), (h7).v], E (List (List Int)) s1 h7])⟩
  subst hr
  refine loadN [(.int .i64 y4_0), (h7).v] rfl (fun j u hj => H.bx 1 rfl hj) ?_
  refine stA gok [(.int .i64 y4_0), (h7).v] rfl H rfl rfl rfl ?_; clear H; intro w7 H
  refine loadN [(.int .i64 y4_0), (h7).v] rfl (fun j u hj => H.bx 0 rfl hj) ?_
  cases f1
  exact ⟨_, _, rfl, ⟨h7, rfl, rfl⟩, (H.sel [2] rfl).close ⟨cloE, trivial⟩⟩

theorem spec_fdNeg_c (p_ : Int) (a_ : Int) (y : Int) (hF : F_spec_fdNeg p_ a_ = some y) :
  ConF Tryd.prog 108 #[(.int .i64 p_), (.int .i64 a_)] [] [] (fun v Γ' => v = (.int .i64 y) ∧ Γ' = []) := by
 intro w0 S0 fp0 hI hS
 have H : Cx w0 fp0 S0 w0 [] := Cx.start hI hS
 clear hI hS
 refine enterC (args := [_, _]) gok Tryd.func108 rfl _ rfl rfl rfl ?_
 obtain ⟨a1, e, hF2⟩ := bindS hF; clear hF
 refine arO e ?_; clear e
 obtain ⟨a3, e, hF4⟩ := bindS hF2; clear hF2
 refine remO_ e ?_; clear e
 cases hF4
 exact ⟨_, _, rfl, ⟨rfl, rfl⟩, (H.sel [] rfl).close trivial⟩

theorem spec_mxScale_c (p_ : Int) (r_ : List Int) (r_h : Hd) (k_ : Int) (y : List Int) (hF : F_spec_mxScale p_ r_ k_ = some y) :
  ConF Tryd.prog 122 #[(.int .i64 p_), (r_h).v, (.int .i64 k_)] [] [E (List Int) r_ r_h] (fun v Γ' => v = (.tuple #[]) ∧ Γ' = [E (List Int) y r_h]) := by
 intro w0 S0 fp0 hI hS
 have H : Cx w0 fp0 S0 w0 [E (List Int) r_ r_h] := Cx.start hI hS
 clear hI hS
 refine enterC (args := [_, _, _]) gok Tryd.func122 rfl _ rfl rfl rfl ?_
 refine lenE (H.ro (α := List Int) 0 rfl).len ?_
 have x0 := (H.ro (α := List Int) 0 rfl).max
 obtain ⟨r0, e, f0⟩ := bindS hF; clear hF
 refine loopS _ r_.length (fun (k2 : Nat) (s0 : List Int) (_ : Unit) => [(0, (.int .i64 p_)), (1, (r_h).v), (2, (.int .i64 k_)), (8, (.int .i64 ((r_.length : Nat) : Int))), (9, (.int .i64 ((k2 : Nat) : Int)))]) (fun _ (s0 : List Int) (_ : Unit) w' => Cx w0 fp0 S0 w' [E (List Int) s0 r_h]) r_ () e ⟨rfl, rfl, rfl, rfl, rfl, trivial⟩ (H.sel [0] rfl) ?_ ?_
 ·
  clear H e
  rintro T0 k2 s0 _ w1 o0 hk (H : Cx w0 fp0 S0 w1 [E (List Int) s0 r_h]) f1
  refine boolE (z := true) (ltLen hk) ?_
  refine sq ?_
  refine sq ?_
  obtain ⟨a0, e, f2⟩ := bindS f1; clear f1
  obtain ⟨p0, m0, c0, c1, c2, c3⟩ := (H.ro (α := List Int) 0 rfl).at1 e; clear e
  refine idxE c0 c1 c2 ?_; clear c0 c1 c2
  refine load1 c3 ?_; clear c3
  obtain ⟨y0, e, f3⟩ := bindS f2; clear f2
  have ey64 := e; clear e
  refine callF (spec_fdMul_c p_ a0 k_ y0 ey64) (Γi := []) H trivial ?_; clear H ey64
  rintro _ _ w2 ⟨rfl, rfl⟩ H
  obtain ⟨a1, e, f4⟩ := bindS f3; clear f3
  have ea73 := e; clear e
  obtain ⟨p1, m1, c4, c5, c6⟩ := (H.ro (α := List Int) 0 rfl).setp ea73
  refine idxE c4 c5 c6 ?_
  refine setS (α := Int) H c4 c5 ea73 ?_; clear H c4 c5 c6 ea73; intro w3 H
  refine arK hk x0 ?_
  have hs := Option.some.inj f4; subst hs; clear f4
  exact ⟨(), ⟨rfl, rfl, rfl, rfl, rfl, trivial⟩, H.sel [0] rfl⟩
 ·
  clear H e
  rintro T1 _ w4 (H : Cx w0 fp0 S0 w4 [E (List Int) r0 r_h])
  refine boolE (z := false) geLen ?_
  refine sq ?_
  cases f0
  exact ⟨_, _, rfl, ⟨rfl, rfl⟩, (H.sel [0] rfl).close ⟨cloE, trivial⟩⟩

theorem spec_mxLess_c (p_ : Int) (r_ : List Int) (r_h : Hd) (s_ : List Int) (s_h : Hd) (k_ : Int) (y : List Int) (hF : F_spec_mxLess p_ r_ s_ k_ = some y) :
  ConF Tryd.prog 107 #[(.int .i64 p_), (r_h).v, (s_h).v, (.int .i64 k_)] [Es (List Int) s_ s_h] [E (List Int) r_ r_h] (fun v Γ' => v = (.tuple #[]) ∧ Γ' = [E (List Int) y r_h]) := by
 intro w0 S0 fp0 hI hS
 have H : Cx w0 fp0 S0 w0 [Es (List Int) s_ s_h, E (List Int) r_ r_h] := Cx.start hI hS
 clear hI hS
 refine enterC (args := [_, _, _, _]) gok Tryd.func107 rfl _ rfl rfl rfl ?_
 refine lenE (H.ro (α := List Int) 1 rfl).len ?_
 have x0 := (H.ro (α := List Int) 1 rfl).max
 obtain ⟨r0, e, f0⟩ := bindS hF; clear hF
 refine loopS _ r_.length (fun (k3 : Nat) (s0 : List Int) (_ : Unit) => [(0, (.int .i64 p_)), (1, (r_h).v), (2, (s_h).v), (3, (.int .i64 k_)), (10, (.int .i64 ((r_.length : Nat) : Int))), (11, (.int .i64 ((k3 : Nat) : Int)))]) (fun _ (s0 : List Int) (_ : Unit) w' => Cx w0 fp0 S0 w' [E (List Int) s0 r_h, Es (List Int) s_ s_h]) r_ () e ⟨rfl, rfl, rfl, rfl, rfl, rfl, trivial⟩ (H.sel [1, 0] rfl) ?_ ?_
 ·
  clear H e
  rintro T0 k3 s0 _ w1 o0 hk (H : Cx w0 fp0 S0 w1 [E (List Int) s0 r_h, Es (List Int) s_ s_h]) f1
  refine boolE (z := true) (ltLen hk) ?_
  refine sq ?_
  refine sq ?_
  refine heldX H [16] (.fst 0 (.fst 1 (.fst 2 (.fst 3 (.fst 4 (.fst 5 (.fst 7 (.fst 8 (.fst 9 (.fst 10 (.fst 11 (.fst 6 (.fst 12 (.act 13 (.act 14 (.fst 15 (.act 16 .done))))))))))))))))) mixed [] trivial (by kernel_rfl) ?_
  clear H; intro w2 H
  have hX : Ext w2 w2 := Upd.refl _ _
  have H0 := H
  obtain ⟨a0, e, f2⟩ := bindS f1; clear f1
  obtain ⟨p0, m0, c0, c1, c2, c3⟩ := (H.ro (α := List Int) 0 rfl).at1 e; clear e
  refine idxE c0 c1 c2 ?_; clear c0 c1 c2
  obtain ⟨a1, e, f3⟩ := bindS f2; clear f2
  obtain ⟨p1, m1, c4, c5, c6, c7⟩ := (H.rs (α := List Int) 1 rfl).at1 e; clear e
  refine idxE c4 c5 c6 ?_; clear c4 c5 c6
  refine load1X c3 ?_; clear c3
  refine load1X c7 ?_; clear c7
  obtain ⟨y0, e, f4⟩ := bindS f3; clear f3
  have ey98 := e; clear e
  refine callFx (spec_fdMul_c p_ k_ a1 y0 ey98) H trivial ?_; clear H ey98
  rintro _ _ w3 ⟨rfl, rfl⟩ hx H
  replace hX := hX.trans0 hx; clear hx
  refine hold hX ?_
  obtain ⟨y1, e, f5⟩ := bindS f4; clear f4
  have ey101 := e; clear e
  refine callFx (spec_fdSub_c p_ a0 y0 y1 ey101) H trivial ?_; clear H ey101
  rintro _ _ w4 ⟨rfl, rfl⟩ hx H
  replace hX := hX.trans0 hx; clear hx
  refine hold hX ?_
  obtain ⟨a2, e, f6⟩ := bindS f5; clear f5
  have ea110 := e; clear e
  obtain ⟨p2, m2, c8, c9, c10⟩ := (H.ro (α := List Int) 0 rfl).setp ea110
  refine idxE c8 c9 c10 ?_
  refine setS (α := Int) H c8 c9 ea110 ?_; clear H c8 c9 c10 ea110; intro w5 H
  refine hold trivial ?_
  refine arK hk x0 ?_
  have hs := Option.some.inj f6; subst hs; clear f6
  exact ⟨(), ⟨rfl, rfl, rfl, rfl, rfl, rfl, trivial⟩, H.sel [0, 1] rfl⟩
 ·
  clear H e
  rintro T1 _ w6 (H : Cx w0 fp0 S0 w6 [E (List Int) r0 r_h, Es (List Int) s_ s_h])
  refine boolE (z := false) geLen ?_
  refine sq ?_
  cases f0
  exact ⟨_, _, rfl, ⟨rfl, rfl⟩, (H.sel [0] rfl).close ⟨cloE, trivial⟩⟩

theorem spec_mxReduce_c (p_ : Int) (m__0 : Int) (m__1 : List (List Int)) (m__1h : Hd) (y0_0 : Int) (y0_1 : List (List Int)) (y1_0 : Int) (y1_1 : List (List Int)) (y2 : Int) (y3 : Int) (hF : F_spec_mxReduce p_ (m__0, m__1) = some ((y0_0, y0_1), (y1_0, y1_1), y2, y3)) :
  ConF Tryd.prog 106 #[(.int .i64 p_), (.agg #[(.int .i64 m__0), (m__1h).v])] [Es (List (List Int)) m__1 m__1h] [] (fun v Γ' => ∃ z0 z1 : Hd, v = (.tuple #[(.agg #[(.int .i64 y0_0), (z0).v]), (.agg #[(.int .i64 y1_0), (z1).v]), (.int .i64 y2), (.int .i64 y3)]) ∧ Γ' = [E (List (List Int)) y0_1 z0, E (List (List Int)) y1_1 z1]) := by
 intro w0 S0 fp0 hI hS
 have H : Cx w0 fp0 S0 w0 [Es (List (List Int)) m__1 m__1h] := Cx.start hI hS
 clear hI hS
 refine enterC (args := [_, _]) gok Tryd.func106 rfl _ rfl rfl rfl ?_
 refine box_ H ?_; clear H; intro b3 w2 hx H
 clear hx
 refine alloc_ gok rfl H ?_; clear H; intro b6 w5 hx H
 clear hx
 refine alloc_ gok rfl H ?_; clear H; intro b9 w8 hx H
 clear hx
 obtain ⟨r0, f0, f1⟩ := bindS hF; clear hF
 refine heldJ H [] (.fst 2 (.fst 0 (.fst 3 (.fst 4 (.alts (.alt 1 (.alts (.alt 5 (.alts (.alt 6 (.act 7 (.act 8 (.act 9 .done))) (.alt 7 (.act 6 (.act 8 (.act 9 .done))) .no))) (.alt 6 (.alts (.alt 5 (.act 7 (.act 8 (.act 9 .done))) (.alt 7 (.act 5 (.act 8 (.act 9 .done))) .no))) (.alt 7 (.alts (.alt 5 (.act 6 (.act 8 (.act 9 .done))) (.alt 6 (.act 5 (.act 8 (.act 9 .done))) .no))) .no)))) (.alt 6 (.alts (.alt 1 (.alts (.alt 5 (.act 7 (.act 8 (.act 9 .done))) (.alt 7 (.act 5 (.act 8 (.act 9 .done))) .no))) (.alt 7 (.act 1 (.act 5 (.act 8 (.act 9 .done)))) .no))) (.alt 7 (.alts (.alt 1 (.alts (.alt 5 (.act 6 (.act 8 (.act 9 .done))) (.alt 6 (.act 5 (.act 8 (.act 9 .done))) .no))) (.alt 6 (.act 1 (.act 5 (.act 8 (.act 9 .done)))) .no))) .no)))))))) mixed [] trivial (by kernel_rfl) (fun (q0 : (Int × List (List Int) × Int × List (List Int)) × (Hd × Hd × Nat × Nat)) => [(0, (.int .i64 p_)), (3, (.pointer (some ⟨b3, 0, none⟩))), (4, (.pointer (some ⟨b6, 0, none⟩))), (5, (.pointer (some ⟨b9, 0, none⟩))), (8, (.pointer (some ⟨q0.2.2.2.1, 0, none⟩))), (9, (.pointer (some ⟨q0.2.2.2.2, 0, none⟩)))]) (fun (q0 : (Int × List (List Int) × Int × List (List Int)) × (Hd × Hd × Nat × Nat)) w' => (q0.1.1, q0.1.2.1, q0.1.2.2.1, q0.1.2.2.2) = r0 ∧ Cx w0 fp0 S0 w' [Bx b3 [(.int .i64 m__0), (m__1h).v], Es (List (List Int)) m__1 m__1h, Bx b6 [(.int .i64 0), (.slice none 0 0)], Bx b9 [(.int .i64 0), (.slice none 0 0)], Bx q0.2.2.2.1 [(.int .i64 q0.1.1), (q0.2.1).v], E (List (List Int)) q0.1.2.1 q0.2.1, Bx q0.2.2.2.2 [(.int .i64 q0.1.2.2.1), (q0.2.2.1).v], E (List (List Int)) q0.1.2.2.2 q0.2.2.1]) ?_ ?_
 ·
  clear H; intro w1 H
  have hX : Ext w1 w1 := Upd.refl _ _
  have H0 := H
  refine anyH (fun _ => fld gok rfl rfl rfl rfl ⟨rfl, rfl⟩) ?_
  refine loadNX [(.int .i64 m__0), (m__1h).v] rfl (fun j u hj => H.bx 2 rfl hj) ?_
  refine load1X (H.bx 2 rfl (j := 1) rfl) ?_
  refine lenE (H.rs (α := List (List Int)) 3 rfl).len ?_
  refine both ?_ ?_
  ·
   obtain ⟨y0, e, f2⟩ := bindS f0; clear f0
   obtain ⟨y0_0, y0_1⟩ := y0
   have ey254 := e; clear e
   refine callFx (spec_mxCopy_c m__0 m__1 m__1h y0_0 y0_1 ey254) H ⟨Vw.sh 3 rfl, trivial⟩ ?_; clear H ey254
   rintro _ _ w3 ⟨h0, rfl, rfl⟩ hx H
   replace hX := hX.trans0 hx; clear hx
   refine hold hX ?_
   refine both ?_ ?_
   ·
    obtain ⟨y1, e, f3⟩ := bindS f2; clear f2
    obtain ⟨y1_0, y1_1⟩ := y1
    have ey274 := e; clear e
    refine callFx (spec_mxId_c ((m__1.length : Nat) : Int) y1_0 y1_1 ey274) H trivial ?_; clear H ey274
    rintro _ _ w4 ⟨h1, rfl, rfl⟩ hx H
    replace hX := hX.trans0 hx; clear hx
    refine hold hX ?_
    refine both ?_ ?_
    ·
     refine allocX gok rfl H ?_; clear H; intro b0 w6 hx v0 H; replace v0 := Nat.le_trans hX.size v0
     replace hX := hX.trans0 hx; clear hx
     refine hold hX ?_
     refine allocX gok rfl H ?_; clear H; intro b1 w7 hx v1 H; replace v1 := Nat.le_trans hX.size v1
     replace hX := hX.trans0 hx; clear hx
     refine hold hX ?_
     replace H := H.sel [1, 0, 2, 3, 4, 5, 6, 7] rfl
     refine stAX gok [(.int .i64 y0_0), (h0).v] rfl H rfl rfl rfl ?_; clear H; intro w9 hu H
     replace hX := hX.fresh hu v0; clear hu
     refine hold hX ?_
     replace H := H.sel [1, 0, 2, 3, 4, 5, 6, 7] rfl
     refine stAX gok [(.int .i64 y1_0), (h1).v] rfl H rfl rfl rfl ?_; clear H; intro w10 hu H
     replace hX := hX.fresh hu v1; clear hu
     refine hold hX ?_
     exact ⟨((y0_0, y0_1, y1_0, y1_1), (h0, h1, b0, b1)), ⟨rfl, rfl, rfl, rfl, rfl, rfl, trivial⟩, Option.some.inj f3, H.sel [6, 7, 5, 4, 1, 3, 0, 2] rfl⟩
    ·
     refine both ?_ ?_
     ·
      refine allocX gok rfl H ?_; clear H; intro b2 w11 hx v2 H; replace v2 := Nat.le_trans hX.size v2
      replace hX := hX.trans0 hx; clear hx
      refine hold hX ?_
      refine allocX gok rfl H ?_; clear H; intro b4 w12 hx v3 H; replace v3 := Nat.le_trans hX.size v3
      replace hX := hX.trans0 hx; clear hx
      refine hold hX ?_
      refine stAX gok [(.int .i64 y0_0), (h0).v] rfl H rfl rfl rfl ?_; clear H; intro w13 hu H
      replace hX := hX.fresh hu v3; clear hu
      refine hold hX ?_
      replace H := H.sel [1, 0, 2, 3, 4, 5, 6, 7] rfl
      refine stAX gok [(.int .i64 y1_0), (h1).v] rfl H rfl rfl rfl ?_; clear H; intro w14 hu H
      replace hX := hX.fresh hu v2; clear hu
      refine hold hX ?_
      exact ⟨((y0_0, y0_1, y1_0, y1_1), (h0, h1, b4, b2)), ⟨rfl, rfl, rfl, rfl, rfl, rfl, trivial⟩, Option.some.inj f3, H.sel [6, 7, 5, 4, 1, 3, 0, 2] rfl⟩
     ·
      exact trivial
   ·
    refine both ?_ ?_
    ·
     obtain ⟨a0, o0, f4⟩ := bindS f2; clear f2
     refine allocX gok rfl H ?_; clear H; intro b5 w15 hx v4 H; replace v4 := Nat.le_trans hX.size v4
     replace hX := hX.trans0 hx; clear hx
     refine hold hX ?_
     refine both ?_ ?_
     ·
      have e := o0; clear o0
      obtain ⟨a0_0, a0_1⟩ := a0
      have ea309 := e; clear e
      refine callFx (spec_mxId_c ((m__1.length : Nat) : Int) a0_0 a0_1 ea309) H trivial ?_; clear H ea309
      rintro _ _ w16 ⟨h2, rfl, rfl⟩ hx H
      replace hX := hX.trans0 hx; clear hx
      refine hold hX ?_
      refine allocX gok rfl H ?_; clear H; intro b7 w17 hx v5 H; replace v5 := Nat.le_trans hX.size v5
      replace hX := hX.trans0 hx; clear hx
      refine hold hX ?_
      replace H := H.sel [2, 0, 1, 3, 4, 5, 6, 7] rfl
      refine stAX gok [(.int .i64 y0_0), (h0).v] rfl H rfl rfl rfl ?_; clear H; intro w18 hu H
      replace hX := hX.fresh hu v4; clear hu
      refine hold hX ?_
      replace H := H.sel [1, 0, 2, 3, 4, 5, 6, 7] rfl
      refine stAX gok [(.int .i64 a0_0), (h2).v] rfl H rfl rfl rfl ?_; clear H; intro w19 hu H
      replace hX := hX.fresh hu v5; clear hu
      refine hold hX ?_
      exact ⟨((y0_0, y0_1, a0_0, a0_1), (h0, h2, b5, b7)), ⟨rfl, rfl, rfl, rfl, rfl, rfl, trivial⟩, Option.some.inj f4, H.sel [6, 7, 5, 4, 1, 3, 0, 2] rfl⟩
     ·
      refine both ?_ ?_
      ·
       refine allocX gok rfl H ?_; clear H; intro b8 w20 hx v6 H; replace v6 := Nat.le_trans hX.size v6
       replace hX := hX.trans0 hx; clear hx
       refine hold hX ?_
       have e := o0; clear o0
       obtain ⟨a0_0, a0_1⟩ := a0
       have ea309 := e; clear e
       refine callFx (spec_mxId_c ((m__1.length : Nat) : Int) a0_0 a0_1 ea309) H trivial ?_; clear H ea309
       rintro _ _ w21 ⟨h3, rfl, rfl⟩ hx H
       replace hX := hX.trans0 hx; clear hx
       refine hold hX ?_
       replace H := H.sel [2, 0, 1, 3, 4, 5, 6, 7] rfl
       refine stAX gok [(.int .i64 y0_0), (h0).v] rfl H rfl rfl rfl ?_; clear H; intro w22 hu H
       replace hX := hX.fresh hu v4; clear hu
       refine hold hX ?_
       replace H := H.sel [2, 0, 1, 3, 4, 5, 6, 7] rfl
       refine stAX gok [(.int .i64 a0_0), (h3).v] rfl H rfl rfl rfl ?_; clear H; intro w23 hu H
       replace hX := hX.fresh hu v6; clear hu
       refine hold hX ?_
       exact ⟨((y0_0, y0_1, a0_0, a0_1), (h0, h3, b5, b8)), ⟨rfl, rfl, rfl, rfl, rfl, rfl, trivial⟩, Option.some.inj f4, H.sel [6, 7, 5, 4, 1, 3, 0, 2] rfl⟩
      ·
       exact trivial
    ·
     refine both ?_ ?_
     ·
      obtain ⟨a1, o1, f5⟩ := bindS f2; clear f2
      refine allocX gok rfl H ?_; clear H; intro b10 w24 hx v7 H; replace v7 := Nat.le_trans hX.size v7
      replace hX := hX.trans0 hx; clear hx
      refine hold hX ?_
      refine both ?_ ?_
      ·
       have e := o1; clear o1
       obtain ⟨a1_0, a1_1⟩ := a1
       have ea334 := e; clear e
       refine callFx (spec_mxId_c ((m__1.length : Nat) : Int) a1_0 a1_1 ea334) H trivial ?_; clear H ea334
       rintro _ _ w25 ⟨h4, rfl, rfl⟩ hx H
       replace hX := hX.trans0 hx; clear hx
       refine hold hX ?_
       refine allocX gok rfl H ?_; clear H; intro b11 w26 hx v8 H; replace v8 := Nat.le_trans hX.size v8
       replace hX := hX.trans0 hx; clear hx
       refine hold hX ?_
       refine stAX gok [(.int .i64 y0_0), (h0).v] rfl H rfl rfl rfl ?_; clear H; intro w27 hu H
       replace hX := hX.fresh hu v8; clear hu
       refine hold hX ?_
       replace H := H.sel [2, 0, 1, 3, 4, 5, 6, 7] rfl
       refine stAX gok [(.int .i64 a1_0), (h4).v] rfl H rfl rfl rfl ?_; clear H; intro w28 hu H
       replace hX := hX.fresh hu v7; clear hu
       refine hold hX ?_
       exact ⟨((y0_0, y0_1, a1_0, a1_1), (h0, h4, b11, b10)), ⟨rfl, rfl, rfl, rfl, rfl, rfl, trivial⟩, Option.some.inj f5, H.sel [6, 7, 5, 4, 1, 3, 0, 2] rfl⟩
      ·
       refine both ?_ ?_
       ·
        refine allocX gok rfl H ?_; clear H; intro b12 w29 hx v9 H; replace v9 := Nat.le_trans hX.size v9
        replace hX := hX.trans0 hx; clear hx
        refine hold hX ?_
        have e := o1; clear o1
        obtain ⟨a1_0, a1_1⟩ := a1
        have ea334 := e; clear e
        refine callFx (spec_mxId_c ((m__1.length : Nat) : Int) a1_0 a1_1 ea334) H trivial ?_; clear H ea334
        rintro _ _ w30 ⟨h5, rfl, rfl⟩ hx H
        replace hX := hX.trans0 hx; clear hx
        refine hold hX ?_
        replace H := H.sel [1, 0, 2, 3, 4, 5, 6, 7] rfl
        refine stAX gok [(.int .i64 y0_0), (h0).v] rfl H rfl rfl rfl ?_; clear H; intro w31 hu H
        replace hX := hX.fresh hu v9; clear hu
        refine hold hX ?_
        replace H := H.sel [2, 0, 1, 3, 4, 5, 6, 7] rfl
        refine stAX gok [(.int .i64 a1_0), (h5).v] rfl H rfl rfl rfl ?_; clear H; intro w32 hu H
        replace hX := hX.fresh hu v7; clear hu
        refine hold hX ?_
        exact ⟨((y0_0, y0_1, a1_0, a1_1), (h0, h5, b12, b10)), ⟨rfl, rfl, rfl, rfl, rfl, rfl, trivial⟩, Option.some.inj f5, H.sel [6, 7, 5, 4, 1, 3, 0, 2] rfl⟩
       ·
        exact trivial
     ·
      exact trivial
  ·
   refine both ?_ ?_
   ·
    obtain ⟨a2, o2, f6⟩ := bindS f0; clear f0
    obtain ⟨a3, o3, f7⟩ := bindS f6; clear f6
    refine allocX gok rfl H ?_; clear H; intro b13 w33 hx v10 H; replace v10 := Nat.le_trans hX.size v10
    replace hX := hX.trans0 hx; clear hx
    refine hold hX ?_
    refine both ?_ ?_
    ·
     have e := o2; clear o2
     obtain ⟨a2_0, a2_1⟩ := a2
     have ea359 := e; clear e
     refine callFx (spec_mxCopy_c m__0 m__1 m__1h a2_0 a2_1 ea359) H ⟨Vw.sh 4 rfl, trivial⟩ ?_; clear H ea359
     rintro _ _ w34 ⟨h6, rfl, rfl⟩ hx H
     replace hX := hX.trans0 hx; clear hx
     refine hold hX ?_
     refine both ?_ ?_
     ·
      have e := o3; clear o3
      obtain ⟨a3_0, a3_1⟩ := a3
      have ea362 := e; clear e
      refine callFx (spec_mxId_c ((m__1.length : Nat) : Int) a3_0 a3_1 ea362) H trivial ?_; clear H ea362
      rintro _ _ w35 ⟨h7, rfl, rfl⟩ hx H
      replace hX := hX.trans0 hx; clear hx
      refine hold hX ?_
      refine allocX gok rfl H ?_; clear H; intro b14 w36 hx v11 H; replace v11 := Nat.le_trans hX.size v11
      replace hX := hX.trans0 hx; clear hx
      refine hold hX ?_
      replace H := H.sel [3, 0, 1, 2, 4, 5, 6, 7] rfl
      refine stAX gok [(.int .i64 a2_0), (h6).v] rfl H rfl rfl rfl ?_; clear H; intro w37 hu H
      replace hX := hX.fresh hu v10; clear hu
      refine hold hX ?_
      replace H := H.sel [1, 0, 2, 3, 4, 5, 6, 7] rfl
      refine stAX gok [(.int .i64 a3_0), (h7).v] rfl H rfl rfl rfl ?_; clear H; intro w38 hu H
      replace hX := hX.fresh hu v11; clear hu
      refine hold hX ?_
      exact ⟨((a2_0, a2_1, a3_0, a3_1), (h6, h7, b13, b14)), ⟨rfl, rfl, rfl, rfl, rfl, rfl, trivial⟩, Option.some.inj f7, H.sel [6, 7, 5, 4, 1, 3, 0, 2] rfl⟩
     ·
      refine both ?_ ?_
      ·
       refine allocX gok rfl H ?_; clear H; intro b15 w39 hx v12 H; replace v12 := Nat.le_trans hX.size v12
       replace hX := hX.trans0 hx; clear hx
       refine hold hX ?_
       have e := o3; clear o3
       obtain ⟨a3_0, a3_1⟩ := a3
       have ea362 := e; clear e
       refine callFx (spec_mxId_c ((m__1.length : Nat) : Int) a3_0 a3_1 ea362) H trivial ?_; clear H ea362
       rintro _ _ w40 ⟨h8, rfl, rfl⟩ hx H
       replace hX := hX.trans0 hx; clear hx
       refine hold hX ?_
       replace H := H.sel [3, 0, 1, 2, 4, 5, 6, 7] rfl
       refine stAX gok [(.int .i64 a2_0), (h6).v] rfl H rfl rfl rfl ?_; clear H; intro w41 hu H
       replace hX := hX.fresh hu v10; clear hu
       refine hold hX ?_
       replace H := H.sel [2, 0, 1, 3, 4, 5, 6, 7] rfl
       refine stAX gok [(.int .i64 a3_0), (h8).v] rfl H rfl rfl rfl ?_; clear H; intro w42 hu H
       replace hX := hX.fresh hu v12; clear hu
       refine hold hX ?_
       exact ⟨((a2_0, a2_1, a3_0, a3_1), (h6, h8, b13, b15)), ⟨rfl, rfl, rfl, rfl, rfl, rfl, trivial⟩, Option.some.inj f7, H.sel [6, 7, 5, 4, 1, 3, 0, 2] rfl⟩
      ·
       exact trivial
    ·
     refine both ?_ ?_
     ·
      refine allocX gok rfl H ?_; clear H; intro b16 w43 hx v13 H; replace v13 := Nat.le_trans hX.size v13
      replace hX := hX.trans0 hx; clear hx
      refine hold hX ?_
      have e := o2; clear o2
      obtain ⟨a2_0, a2_1⟩ := a2
      have ea359 := e; clear e
      refine callFx (spec_mxCopy_c m__0 m__1 m__1h a2_0 a2_1 ea359) H ⟨Vw.sh 5 rfl, trivial⟩ ?_; clear H ea359
      rintro _ _ w44 ⟨h9, rfl, rfl⟩ hx H
      replace hX := hX.trans0 hx; clear hx
      refine hold hX ?_
      have e := o3; clear o3
      obtain ⟨a3_0, a3_1⟩ := a3
      have ea362 := e; clear e
      refine callFx (spec_mxId_c ((m__1.length : Nat) : Int) a3_0 a3_1 ea362) H trivial ?_; clear H ea362
      rintro _ _ w45 ⟨h10, rfl, rfl⟩ hx H
      replace hX := hX.trans0 hx; clear hx
      refine hold hX ?_
      replace H := H.sel [3, 0, 1, 2, 4, 5, 6, 7] rfl
      refine stAX gok [(.int .i64 a2_0), (h9).v] rfl H rfl rfl rfl ?_; clear H; intro w46 hu H
      replace hX := hX.fresh hu v10; clear hu
      refine hold hX ?_
      replace H := H.sel [3, 0, 1, 2, 4, 5, 6, 7] rfl
      refine stAX gok [(.int .i64 a3_0), (h10).v] rfl H rfl rfl rfl ?_; clear H; intro w47 hu H
      replace hX := hX.fresh hu v13; clear hu
      refine hold hX ?_
      exact ⟨((a2_0, a2_1, a3_0, a3_1), (h9, h10, b13, b16)), ⟨rfl, rfl, rfl, rfl, rfl, rfl, trivial⟩, Option.some.inj f7, H.sel [6, 7, 5, 4, 1, 3, 0, 2] rfl⟩
     ·
      exact trivial
   ·
    refine both ?_ ?_
    ·
     obtain ⟨a4, o4, f8⟩ := bindS f0; clear f0
     obtain ⟨a5, o5, f9⟩ := bindS f8; clear f8
     refine allocX gok rfl H ?_; clear H; intro b17 w48 hx v14 H; replace v14 := Nat.le_trans hX.size v14
     replace hX := hX.trans0 hx; clear hx
     refine hold hX ?_
     refine both ?_ ?_
     ·
      have e := o4; clear o4
      obtain ⟨a4_0, a4_1⟩ := a4
      have ea402 := e; clear e
      refine callFx (spec_mxCopy_c m__0 m__1 m__1h a4_0 a4_1 ea402) H ⟨Vw.sh 4 rfl, trivial⟩ ?_; clear H ea402
      rintro _ _ w49 ⟨h11, rfl, rfl⟩ hx H
      replace hX := hX.trans0 hx; clear hx
      refine hold hX ?_
      refine both ?_ ?_
      ·
       have e := o5; clear o5
       obtain ⟨a5_0, a5_1⟩ := a5
       have ea405 := e; clear e
       refine callFx (spec_mxId_c ((m__1.length : Nat) : Int) a5_0 a5_1 ea405) H trivial ?_; clear H ea405
       rintro _ _ w50 ⟨h12, rfl, rfl⟩ hx H
       replace hX := hX.trans0 hx; clear hx
       refine hold hX ?_
       refine allocX gok rfl H ?_; clear H; intro b18 w51 hx v15 H; replace v15 := Nat.le_trans hX.size v15
       replace hX := hX.trans0 hx; clear hx
       refine hold hX ?_
       refine stAX gok [(.int .i64 a4_0), (h11).v] rfl H rfl rfl rfl ?_; clear H; intro w52 hu H
       replace hX := hX.fresh hu v15; clear hu
       refine hold hX ?_
       replace H := H.sel [3, 0, 1, 2, 4, 5, 6, 7] rfl
       refine stAX gok [(.int .i64 a5_0), (h12).v] rfl H rfl rfl rfl ?_; clear H; intro w53 hu H
       replace hX := hX.fresh hu v14; clear hu
       refine hold hX ?_
       exact ⟨((a4_0, a4_1, a5_0, a5_1), (h11, h12, b18, b17)), ⟨rfl, rfl, rfl, rfl, rfl, rfl, trivial⟩, Option.some.inj f9, H.sel [6, 7, 5, 4, 1, 3, 0, 2] rfl⟩
      ·
       refine both ?_ ?_
       ·
        refine allocX gok rfl H ?_; clear H; intro b19 w54 hx v16 H; replace v16 := Nat.le_trans hX.size v16
        replace hX := hX.trans0 hx; clear hx
        refine hold hX ?_
        have e := o5; clear o5
        obtain ⟨a5_0, a5_1⟩ := a5
        have ea405 := e; clear e
        refine callFx (spec_mxId_c ((m__1.length : Nat) : Int) a5_0 a5_1 ea405) H trivial ?_; clear H ea405
        rintro _ _ w55 ⟨h13, rfl, rfl⟩ hx H
        replace hX := hX.trans0 hx; clear hx
        refine hold hX ?_
        replace H := H.sel [1, 0, 2, 3, 4, 5, 6, 7] rfl
        refine stAX gok [(.int .i64 a4_0), (h11).v] rfl H rfl rfl rfl ?_; clear H; intro w56 hu H
        replace hX := hX.fresh hu v16; clear hu
        refine hold hX ?_
        replace H := H.sel [3, 0, 1, 2, 4, 5, 6, 7] rfl
        refine stAX gok [(.int .i64 a5_0), (h13).v] rfl H rfl rfl rfl ?_; clear H; intro w57 hu H
        replace hX := hX.fresh hu v14; clear hu
        refine hold hX ?_
        exact ⟨((a4_0, a4_1, a5_0, a5_1), (h11, h13, b19, b17)), ⟨rfl, rfl, rfl, rfl, rfl, rfl, trivial⟩, Option.some.inj f9, H.sel [6, 7, 5, 4, 1, 3, 0, 2] rfl⟩
       ·
        exact trivial
     ·
      refine both ?_ ?_
      ·
       refine allocX gok rfl H ?_; clear H; intro b20 w58 hx v17 H; replace v17 := Nat.le_trans hX.size v17
       replace hX := hX.trans0 hx; clear hx
       refine hold hX ?_
       have e := o4; clear o4
       obtain ⟨a4_0, a4_1⟩ := a4
       have ea402 := e; clear e
       refine callFx (spec_mxCopy_c m__0 m__1 m__1h a4_0 a4_1 ea402) H ⟨Vw.sh 5 rfl, trivial⟩ ?_; clear H ea402
       rintro _ _ w59 ⟨h14, rfl, rfl⟩ hx H
       replace hX := hX.trans0 hx; clear hx
       refine hold hX ?_
       have e := o5; clear o5
       obtain ⟨a5_0, a5_1⟩ := a5
       have ea405 := e; clear e
       refine callFx (spec_mxId_c ((m__1.length : Nat) : Int) a5_0 a5_1 ea405) H trivial ?_; clear H ea405
       rintro _ _ w60 ⟨h15, rfl, rfl⟩ hx H
       replace hX := hX.trans0 hx; clear hx
       refine hold hX ?_
       replace H := H.sel [2, 0, 1, 3, 4, 5, 6, 7] rfl
       refine stAX gok [(.int .i64 a4_0), (h14).v] rfl H rfl rfl rfl ?_; clear H; intro w61 hu H
       replace hX := hX.fresh hu v17; clear hu
       refine hold hX ?_
       replace H := H.sel [3, 0, 1, 2, 4, 5, 6, 7] rfl
       refine stAX gok [(.int .i64 a5_0), (h15).v] rfl H rfl rfl rfl ?_; clear H; intro w62 hu H
       replace hX := hX.fresh hu v14; clear hu
       refine hold hX ?_
       exact ⟨((a4_0, a4_1, a5_0, a5_1), (h14, h15, b20, b17)), ⟨rfl, rfl, rfl, rfl, rfl, rfl, trivial⟩, Option.some.inj f9, H.sel [6, 7, 5, 4, 1, 3, 0, 2] rfl⟩
      ·
       exact trivial
    ·
     exact trivial
 ·
  clear f0 H
  rintro T0 ⟨⟨s0_0, s0_1, s0_2, s0_3⟩, ⟨g0_0, g0_1, g0_2, g0_3⟩⟩ w63 ⟨hr, (H : Cx w0 fp0 S0 w63 [Bx b3 [(.int .i64 m__0), (m__1h).v], Es (List (List Int)) m__1 m__1h, Bx b6 [(.int .i64 0), (.slice none 0 0)], Bx b9 [(.int .i64 0), (.slice none 0 0)], Bx g0_2 [(.int .i64 s0_0), (g0_0).v], E (List (List Int)) s0_1 g0_0, Bx g0_3 [(.int .i64 s0_2), (g0_1).v], E (List (List Int)) s0_3 g0_1])⟩
  subst hr
  obtain ⟨r1, f10, f11⟩ := bindS f1; clear f1
  refine cut (fun (q1 : List (List Int) × List (List Int) × Int × Int) => [(4, (.pointer (some ⟨b6, 0, none⟩))), (5, (.pointer (some ⟨b9, 0, none⟩))), (8, (.pointer (some ⟨g0_2, 0, none⟩))), (9, (.pointer (some ⟨g0_3, 0, none⟩))), (10, (.int .i64 q1.2.2.1)), (11, (.int .i64 q1.2.2.2))]) (fun (q1 : List (List Int) × List (List Int) × Int × Int) w' => (q1.1, q1.2.1, q1.2.2.1, q1.2.2.2) = r1 ∧ Cx w0 fp0 S0 w' [Bx b6 [(.int .i64 0), (.slice none 0 0)], Bx b9 [(.int .i64 0), (.slice none 0 0)], Bx g0_2 [(.int .i64 s0_0), (g0_0).v], E (List (List Int)) q1.1 g0_0, Bx g0_3 [(.int .i64 s0_2), (g0_1).v], E (List (List Int)) q1.2.1 g0_1]) ?_ ?_
  ·
   refine loopW _ (fun (s1 : List (List Int) × List (List Int) × Int × Int × Int) (_ : Unit) => [(0, (.int .i64 p_)), (3, (.pointer (some ⟨b3, 0, none⟩))), (4, (.pointer (some ⟨b6, 0, none⟩))), (5, (.pointer (some ⟨b9, 0, none⟩))), (8, (.pointer (some ⟨g0_2, 0, none⟩))), (9, (.pointer (some ⟨g0_3, 0, none⟩))), (10, (.int .i64 s1.2.2.1)), (11, (.int .i64 s1.2.2.2.1)), (12, (.int .i64 s1.2.2.2.2))]) (fun (s1 : List (List Int) × List (List Int) × Int × Int × Int) (_ : Unit) w' => Cx w0 fp0 S0 w' [Bx b3 [(.int .i64 m__0), (m__1h).v], Es (List (List Int)) m__1 m__1h, Bx b6 [(.int .i64 0), (.slice none 0 0)], Bx b9 [(.int .i64 0), (.slice none 0 0)], Bx g0_2 [(.int .i64 s0_0), (g0_0).v], E (List (List Int)) s1.1 g0_0, Bx g0_3 [(.int .i64 s0_2), (g0_1).v], E (List (List Int)) s1.2.1 g0_1]) (s0_1, s0_3, 0, 1, 0) () f10 ⟨rfl, rfl, rfl, rfl, rfl, rfl, rfl, rfl, rfl, trivial⟩ (H.sel [0, 1, 2, 3, 4, 5, 6, 7] rfl) ?_
   ·
    clear H
    rintro T1 ⟨s1_0, s1_1, s1_2, s1_3, s1_4⟩ _ w64 o6 (H : Cx w0 fp0 S0 w64 [Bx b3 [(.int .i64 m__0), (m__1h).v], Es (List (List Int)) m__1 m__1h, Bx b6 [(.int .i64 0), (.slice none 0 0)], Bx b9 [(.int .i64 0), (.slice none 0 0)], Bx g0_2 [(.int .i64 s0_0), (g0_0).v], E (List (List Int)) s1_0 g0_0, Bx g0_3 [(.int .i64 s0_2), (g0_1).v], E (List (List Int)) s1_1 g0_1]) hrt f12
    refine sq ?_
    refine fld gok rfl rfl rfl rfl ?_
    refine load1 (H.bx 0 rfl (j := 0) rfl) ?_
    obtain ⟨a6, e, f13⟩ := bindS f12; clear f12
    refine boolO e ?_; clear e
    cases a6
    ·
     have f14 := condF f13; clear f13
     have hs := Option.some.inj f14; subst hs; clear f14
     have f15 : some _ = some _ := congrArg some (hrt _ rfl).symm
     exact ⟨(s1_0, s1_1, s1_2, s1_3), ⟨rfl, rfl, rfl, rfl, rfl, rfl, trivial⟩, Option.some.inj f15, H.sel [2, 3, 4, 5, 6, 7] rfl⟩
    ·
     have f16 := condT f13; clear f13
     obtain ⟨r2, f17, f18⟩ := bindS f16; clear f16
     refine cut (fun (q2 : List (List Int) × List (List Int) × Int × Int) => [(0, (.int .i64 p_)), (3, (.pointer (some ⟨b3, 0, none⟩))), (4, (.pointer (some ⟨b6, 0, none⟩))), (5, (.pointer (some ⟨b9, 0, none⟩))), (8, (.pointer (some ⟨g0_2, 0, none⟩))), (9, (.pointer (some ⟨g0_3, 0, none⟩))), (10, (.int .i64 q2.2.2.1)), (11, (.int .i64 q2.2.2.2)), (12, (.int .i64 s1_4))]) (fun (q2 : List (List Int) × List (List Int) × Int × Int) w' => (q2.1, q2.2.1, q2.2.2.1, q2.2.2.2) = r2 ∧ Cx w0 fp0 S0 w' [Bx b3 [(.int .i64 m__0), (m__1h).v], Es (List (List Int)) m__1 m__1h, Bx b6 [(.int .i64 0), (.slice none 0 0)], Bx b9 [(.int .i64 0), (.slice none 0 0)], Bx g0_2 [(.int .i64 s0_0), (g0_0).v], E (List (List Int)) q2.1 g0_0, Bx g0_3 [(.int .i64 s0_2), (g0_1).v], E (List (List Int)) q2.2.1 g0_1]) ?_ ?_
     ·
      obtain ⟨r3, f19, f20⟩ := bindS f17; clear f17
      refine cut (fun (q3 : Int) => [(0, (.int .i64 p_)), (3, (.pointer (some ⟨b3, 0, none⟩))), (4, (.pointer (some ⟨b6, 0, none⟩))), (5, (.pointer (some ⟨b9, 0, none⟩))), (8, (.pointer (some ⟨g0_2, 0, none⟩))), (9, (.pointer (some ⟨g0_3, 0, none⟩))), (10, (.int .i64 s1_2)), (11, (.int .i64 s1_3)), (12, (.int .i64 s1_4)), (13, (.int .i64 q3))]) (fun (q3 : Int) w' => q3 = r3 ∧ Cx w0 fp0 S0 w' [Bx b3 [(.int .i64 m__0), (m__1h).v], Es (List (List Int)) m__1 m__1h, Bx b6 [(.int .i64 0), (.slice none 0 0)], Bx b9 [(.int .i64 0), (.slice none 0 0)], Bx g0_2 [(.int .i64 s0_0), (g0_0).v], E (List (List Int)) s1_0 g0_0, Bx g0_3 [(.int .i64 s0_2), (g0_1).v], E (List (List Int)) s1_1 g0_1]) ?_ ?_
      ·
       refine loopW _ (fun (s2 : Int) (_ : Unit) => [(0, (.int .i64 p_)), (3, (.pointer (some ⟨b3, 0, none⟩))), (4, (.pointer (some ⟨b6, 0, none⟩))), (5, (.pointer (some ⟨b9, 0, none⟩))), (8, (.pointer (some ⟨g0_2, 0, none⟩))), (9, (.pointer (some ⟨g0_3, 0, none⟩))), (10, (.int .i64 s1_2)), (11, (.int .i64 s1_3)), (12, (.int .i64 s1_4)), (13, (.int .i64 s2))]) (fun (s2 : Int) (_ : Unit) w' => Cx w0 fp0 S0 w' [Bx b3 [(.int .i64 m__0), (m__1h).v], Es (List (List Int)) m__1 m__1h, Bx b6 [(.int .i64 0), (.slice none 0 0)], Bx b9 [(.int .i64 0), (.slice none 0 0)], Bx g0_2 [(.int .i64 s0_0), (g0_0).v], E (List (List Int)) s1_0 g0_0, Bx g0_3 [(.int .i64 s0_2), (g0_1).v], E (List (List Int)) s1_1 g0_1]) s1_2 () f19 ⟨rfl, rfl, rfl, rfl, rfl, rfl, rfl, rfl, rfl, rfl, trivial⟩ (H.sel [0, 1, 2, 3, 4, 5, 6, 7] rfl) ?_
       ·
        clear H
        rintro T2 s2 _ w65 o7 (H : Cx w0 fp0 S0 w65 [Bx b3 [(.int .i64 m__0), (m__1h).v], Es (List (List Int)) m__1 m__1h, Bx b6 [(.int .i64 0), (.slice none 0 0)], Bx b9 [(.int .i64 0), (.slice none 0 0)], Bx g0_2 [(.int .i64 s0_0), (g0_0).v], E (List (List Int)) s1_0 g0_0, Bx g0_3 [(.int .i64 s0_2), (g0_1).v], E (List (List Int)) s1_1 g0_1]) hrt f21
        refine sq ?_
        obtain ⟨r4, f22, f23⟩ := bindS f21; clear f21
        refine cut (fun (q4 : Bool) => [(0, (.int .i64 p_)), (3, (.pointer (some ⟨b3, 0, none⟩))), (4, (.pointer (some ⟨b6, 0, none⟩))), (5, (.pointer (some ⟨b9, 0, none⟩))), (8, (.pointer (some ⟨g0_2, 0, none⟩))), (9, (.pointer (some ⟨g0_3, 0, none⟩))), (10, (.int .i64 s1_2)), (11, (.int .i64 s1_3)), (12, (.int .i64 s1_4)), (13, (.int .i64 s2)), (47, (.bool q4))]) (fun (q4 : Bool) w' => q4 = r4 ∧ Cx w0 fp0 S0 w' [Bx b3 [(.int .i64 m__0), (m__1h).v], Es (List (List Int)) m__1 m__1h, Bx b6 [(.int .i64 0), (.slice none 0 0)], Bx b9 [(.int .i64 0), (.slice none 0 0)], Bx g0_2 [(.int .i64 s0_0), (g0_0).v], E (List (List Int)) s1_0 g0_0, Bx g0_3 [(.int .i64 s0_2), (g0_1).v], E (List (List Int)) s1_1 g0_1]) ?_ ?_
        ·
         refine fld gok rfl rfl rfl rfl ?_
         refine load1 (H.bx 4 rfl (j := 1) rfl) ?_
         refine lenE (H.ro (α := List (List Int)) 5 rfl).len ?_
         obtain ⟨a7, e, f24⟩ := bindS f22; clear f22
         refine boolO e ?_; clear e
         cases a7
         ·
          have f25 := condF f24; clear f24
          exact ⟨false, ⟨rfl, rfl, rfl, rfl, rfl, rfl, rfl, rfl, rfl, rfl, rfl, trivial⟩, Option.some.inj f25, H.sel [0, 1, 2, 3, 4, 5, 6, 7] rfl⟩
         ·
          have f26 := condT f24; clear f24
          refine fld gok rfl rfl rfl rfl ?_
          refine load1 (H.bx 4 rfl (j := 1) rfl) ?_
          obtain ⟨a8, e, f27⟩ := bindS f26; clear f26
          replace H := H.sel [5, 0, 1, 2, 3, 4, 6, 7] rfl
          replace H := H.toEH (α := List Int)
          have HH := H; clear H; obtain ⟨p0, m0, h16, c0, c1, c2, c3, H⟩ := HH.peekL e; clear HH
          clear e
          refine idxE c0 c1 c2 ?_
          refine load1 c3 ?_; clear c3
          obtain ⟨a9, e, f28⟩ := bindS f27; clear f27
          obtain ⟨p1, m1, c4, c5, c6, c7⟩ := (H.rh (α := List Int) 0 rfl 0 rfl).at1 e; clear e
          refine idxE c4 c5 c6 ?_; clear c4 c5 c6
          refine load1 c7 ?_; clear c7
          obtain ⟨a10, e, f29⟩ := bindS f28; clear f28
          refine boolO e ?_; clear e
          replace H := H.ofEH
          exact ⟨a10, ⟨rfl, rfl, rfl, rfl, rfl, rfl, rfl, rfl, rfl, rfl, rfl, trivial⟩, Option.some.inj f29, H.sel [1, 2, 3, 4, 5, 0, 6, 7] rfl⟩
        ·
         clear f22 H
         rintro T3 s3 w66 ⟨hr, (H : Cx w0 fp0 S0 w66 [Bx b3 [(.int .i64 m__0), (m__1h).v], Es (List (List Int)) m__1 m__1h, Bx b6 [(.int .i64 0), (.slice none 0 0)], Bx b9 [(.int .i64 0), (.slice none 0 0)], Bx g0_2 [(.int .i64 s0_0), (g0_0).v], E (List (List Int)) s1_0 g0_0, Bx g0_3 [(.int .i64 s0_2), (g0_1).v], E (List (List Int)) s1_1 g0_1])⟩
         subst hr
         cases s3
         ·
          have f30 := condF f23; clear f23
          have hs := Option.some.inj f30; subst hs; clear f30
          have f31 : some _ = some _ := congrArg some (hrt _ rfl).symm
          exact ⟨s2, ⟨rfl, rfl, rfl, rfl, rfl, rfl, rfl, rfl, rfl, rfl, trivial⟩, Option.some.inj f31, H.sel [0, 1, 2, 3, 4, 5, 6, 7] rfl⟩
         ·
          have f32 := condT f23; clear f23
          obtain ⟨a11, e, f33⟩ := bindS f32; clear f32
          refine arO e ?_; clear e
          have hs := Option.some.inj f33; subst hs; clear f33
          exact ⟨a11, (), rfl, ⟨rfl, rfl, rfl, rfl, rfl, rfl, rfl, rfl, rfl, rfl, trivial⟩, H.sel [0, 1, 2, 3, 4, 5, 6, 7] rfl⟩
      ·
       clear f19 H
       rintro T4 s4 w67 ⟨hr, (H : Cx w0 fp0 S0 w67 [Bx b3 [(.int .i64 m__0), (m__1h).v], Es (List (List Int)) m__1 m__1h, Bx b6 [(.int .i64 0), (.slice none 0 0)], Bx b9 [(.int .i64 0), (.slice none 0 0)], Bx g0_2 [(.int .i64 s0_0), (g0_0).v], E (List (List Int)) s1_0 g0_0, Bx g0_3 [(.int .i64 s0_2), (g0_1).v], E (List (List Int)) s1_1 g0_1])⟩
       subst hr
       refine sq ?_
       refine fld gok rfl rfl rfl rfl ?_
       refine load1 (H.bx 4 rfl (j := 1) rfl) ?_
       refine lenE (H.ro (α := List (List Int)) 5 rfl).len ?_
       obtain ⟨a12, e, f34⟩ := bindS f20; clear f20
       refine boolO e ?_; clear e
       cases a12
       ·
        have f35 := condF f34; clear f34
        obtain ⟨r5, f36, f37⟩ := bindS f35; clear f35
        refine cut (fun (q5 : List (List Int) × List (List Int) × Int) => [(0, (.int .i64 p_)), (3, (.pointer (some ⟨b3, 0, none⟩))), (4, (.pointer (some ⟨b6, 0, none⟩))), (5, (.pointer (some ⟨b9, 0, none⟩))), (8, (.pointer (some ⟨g0_2, 0, none⟩))), (9, (.pointer (some ⟨g0_3, 0, none⟩))), (10, (.int .i64 s1_2)), (11, (.int .i64 q5.2.2)), (12, (.int .i64 s1_4))]) (fun (q5 : List (List Int) × List (List Int) × Int) w' => (q5.1, q5.2.1, q5.2.2) = r5 ∧ Cx w0 fp0 S0 w' [Bx b3 [(.int .i64 m__0), (m__1h).v], Es (List (List Int)) m__1 m__1h, Bx b6 [(.int .i64 0), (.slice none 0 0)], Bx b9 [(.int .i64 0), (.slice none 0 0)], Bx g0_2 [(.int .i64 s0_0), (g0_0).v], E (List (List Int)) q5.1 g0_0, Bx g0_3 [(.int .i64 s0_2), (g0_1).v], E (List (List Int)) q5.2.1 g0_1]) ?_ ?_
        ·
         obtain ⟨a13, e, f38⟩ := bindS f36; clear f36
         refine boolO e ?_; clear e
         cases a13
         ·
          have f39 := condF f38; clear f38
          exact ⟨(s1_0, s1_1, s1_3), ⟨rfl, rfl, rfl, rfl, rfl, rfl, rfl, rfl, rfl, trivial⟩, Option.some.inj f39, H.sel [0, 1, 2, 3, 4, 5, 6, 7] rfl⟩
         ·
          have f40 := condT f38; clear f38
          refine heldX H [] (.fst 0 (.fst 2 (.fst 5 (.fst 7 (.fst 1 (.fst 3 (.fst 4 (.fst 10 (.fst 6 (.fst 8 (.fst 9 (.fst 11 .done)))))))))))) mixed [] trivial (by kernel_rfl) ?_
          clear H; intro w68 H
          have hX : Ext w68 w68 := Upd.refl _ _
          have H0 := H
          refine anyH (fun _ => fld gok rfl rfl rfl rfl ⟨rfl, rfl⟩) ?_
          refine anyH (fun _ => fld gok rfl rfl rfl rfl ⟨rfl, rfl⟩) ?_
          refine load1X (H.bx 4 rfl (j := 1) rfl) ?_
          obtain ⟨a14, e, f41⟩ := bindS f40; clear f40
          replace H := H.sel [5, 0, 1, 2, 3, 4, 6, 7] rfl
          replace H := H.toEH (α := List Int)
          have HH := H; clear H; obtain ⟨p2, m2, h17, c8, c9, c10, c11, H⟩ := HH.peekL e; clear HH
          clear e
          refine idxE c8 c9 c10 ?_
          refine load1X c11 ?_; clear c11
          refine load1X (H.bx 6 rfl (j := 1) rfl) ?_
          obtain ⟨a15, e, f42⟩ := bindS f41; clear f41
          replace H := H.sel [7, 0, 1, 2, 3, 4, 5, 6] rfl
          replace H := H.toEH (α := List Int)
          have HH := H; clear H; obtain ⟨p3, m3, h18, c12, c13, c14, c15, H⟩ := HH.peekL e; clear HH
          clear e
          refine idxE c12 c13 c14 ?_
          refine load1X c15 ?_; clear c15
          refine heldX H [9] (.fst 0 (.fst 2 (.fst 3 (.fst 5 (.fst 1 (.fst 4 (.fst 6 (.fst 7 (.fst 8 (.act 9 .done)))))))))) mixed [] trivial (by kernel_rfl) ?_
          clear H; intro w69 H
          have hX : Ext w69 w69 := Upd.refl _ _
          have H0 := H
          refine anyH (fun _ => fld gok rfl rfl rfl rfl ⟨rfl, rfl⟩) ?_
          refine anyH (fun _ => fld gok rfl rfl rfl rfl ⟨rfl, rfl⟩) ?_
          refine load1X (H.bx 6 rfl (j := 1) rfl) ?_
          refine load1X (H.bx 6 rfl (j := 1) rfl) ?_
          obtain ⟨a16, e, f43⟩ := bindS f42; clear f42
          replace H := H.sel [1, 0, 2, 3, 4, 5, 6, 7] rfl
          have HH := H; clear H; obtain ⟨p4, m4, h19, c16, c17, c18, c19, H⟩ := HH.peekL e; clear HH
          clear e
          refine idxE c16 c17 c18 ?_
          refine load1X c19 ?_; clear c19
          refine idxE c8 c9 c10 ?_
          refine stZ1 (ki := 1) (kj := 0) H rfl rfl c8 ?_; clear H; intro w70 H
          refine hold trivial ?_
          refine heldX H [9] (.fst 0 (.fst 2 (.fst 3 (.fst 5 (.fst 1 (.fst 4 (.fst 6 (.fst 7 (.fst 8 (.act 9 .done)))))))))) mixed [] trivial (by kernel_rfl) ?_
          clear H; intro w71 H
          have hX : Ext w71 w71 := Upd.refl _ _
          have H0 := H
          refine anyH (fun _ => fld gok rfl rfl rfl rfl ⟨rfl, rfl⟩) ?_
          refine anyH (fun _ => fld gok rfl rfl rfl rfl ⟨rfl, rfl⟩) ?_
          refine load1X (H.bx 7 rfl (j := 1) rfl) ?_
          refine load1X (H.bx 7 rfl (j := 1) rfl) ?_
          obtain ⟨a17, e, f44⟩ := bindS f43; clear f43
          replace H := H.sel [1, 0, 2, 3, 4, 5, 6, 7] rfl
          have HH := H; clear H; obtain ⟨p5, m5, h20, c20, c21, c22, c23, H⟩ := HH.peekL e; clear HH
          clear e
          refine idxE c20 c21 c22 ?_
          refine load1X c23 ?_; clear c23
          refine idxE c12 c13 c14 ?_
          refine stZ1 (ki := 1) (kj := 0) H rfl rfl c12 ?_; clear H; intro w72 H
          refine hold trivial ?_
          refine fld gok rfl rfl rfl rfl ?_
          refine load1 (H.bx 6 rfl (j := 1) rfl) ?_
          refine idxE c16 c17 c18 ?_
          replace H := H.sel [1, 0, 2, 3, 4, 5, 6, 7] rfl
          obtain ⟨a18, e, f45⟩ := bindS f44; clear f44
          refine stZ2 H c9 c17 c16 e ?_; clear H e; intro w73 H
          refine fld gok rfl rfl rfl rfl ?_
          refine load1 (H.bx 7 rfl (j := 1) rfl) ?_
          refine idxE c20 c21 c22 ?_
          replace H := H.sel [1, 0, 2, 3, 4, 5, 6, 7] rfl
          obtain ⟨a19, e, f46⟩ := bindS f45; clear f45
          refine stZ2 H c13 c21 c20 e ?_; clear H e; intro w74 H
          obtain ⟨y4, e, f47⟩ := bindS f46; clear f46
          have ey11304 := e; clear e
          refine callF (spec_fdNeg_c p_ s1_3 y4 ey11304) (Γi := []) H trivial ?_; clear H ey11304
          rintro _ _ w75 ⟨rfl, rfl⟩ H
          exact ⟨(a18, a19, y4), ⟨rfl, rfl, rfl, rfl, rfl, rfl, rfl, rfl, rfl, trivial⟩, Option.some.inj f47, H.sel [2, 3, 4, 5, 6, 1, 7, 0] rfl⟩
        ·
         clear f36 H
         rintro T5 ⟨s5_0, s5_1, s5_2⟩ w76 ⟨hr, (H : Cx w0 fp0 S0 w76 [Bx b3 [(.int .i64 m__0), (m__1h).v], Es (List (List Int)) m__1 m__1h, Bx b6 [(.int .i64 0), (.slice none 0 0)], Bx b9 [(.int .i64 0), (.slice none 0 0)], Bx g0_2 [(.int .i64 s0_0), (g0_0).v], E (List (List Int)) s5_0 g0_0, Bx g0_3 [(.int .i64 s0_2), (g0_1).v], E (List (List Int)) s5_1 g0_1])⟩
         subst hr
         refine fld gok rfl rfl rfl rfl ?_
         refine load1 (H.bx 4 rfl (j := 1) rfl) ?_
         obtain ⟨a20, e, f48⟩ := bindS f37; clear f37
         replace H := H.sel [5, 0, 1, 2, 3, 4, 6, 7] rfl
         replace H := H.toEH (α := List Int)
         have HH := H; clear H; obtain ⟨p6, m6, h21, c24, c25, c26, c27, H⟩ := HH.peekL e; clear HH
         clear e
         refine idxE c24 c25 c26 ?_
         refine load1 c27 ?_; clear c27
         obtain ⟨a21, e, f49⟩ := bindS f48; clear f48
         obtain ⟨p7, m7, c28, c29, c30, c31⟩ := (H.rh (α := List Int) 0 rfl 0 rfl).at1 e; clear e
         refine idxE c28 c29 c30 ?_; clear c28 c29 c30
         refine load1 c31 ?_; clear c31
         replace H := H.ofEH
         obtain ⟨y5, e, f50⟩ := bindS f49; clear f49
         have ey11326 := e; clear e
         refine callF (spec_fdMul_c p_ s5_2 a21 y5 ey11326) (Γi := []) H trivial ?_; clear H ey11326
         rintro _ _ w77 ⟨rfl, rfl⟩ H
         refine heldX H [9] (.fst 0 (.fst 1 (.fst 3 (.fst 6 (.fst 7 (.fst 2 (.fst 4 (.fst 5 (.act 8 (.act 9 .done)))))))))) mixed [] trivial (by kernel_rfl) ?_
         clear H; intro w78 H
         have hX : Ext w78 w78 := Upd.refl _ _
         have H0 := H
         refine anyH (fun _ => fld gok rfl rfl rfl rfl ⟨rfl, rfl⟩) ?_
         refine load1X (H.bx 5 rfl (j := 1) rfl) ?_
         obtain ⟨a22, e, f51⟩ := bindS f50; clear f50
         replace H := H.toEH (α := List Int)
         have HH := H; clear H; obtain ⟨p8, m8, h22, c32, c33, c34, c35, H⟩ := HH.peekL e; clear HH
         clear e
         refine idxE c32 c33 c34 ?_
         refine load1X c35 ?_; clear c35
         obtain ⟨y6, e, f52⟩ := bindS f51; clear f51
         have ey11339 := e; clear e
         refine callFx (spec_fdInv_c p_ a21 y6 ey11339) H trivial ?_; clear H ey11339
         rintro _ _ w79 ⟨rfl, rfl⟩ hx H
         replace hX := hX.trans0 hx; clear hx
         refine hold hX ?_
         obtain ⟨y7, e, f53⟩ := bindS f52; clear f52
         have ey11342 := e; clear e
         replace H := H.takeK 0 rfl
         refine callF (spec_mxScale_c p_ a22 h22 y6 y7 ey11342) (Γi := [E (List Int) a22 h22]) H trivial ?_; clear H ey11342
         rintro _ _ w80 ⟨rfl, rfl⟩ H
         obtain ⟨a23, e, f54⟩ := bindS f53; clear f53
         replace H := H.put c33 e; clear e
         refine hold trivial ?_
         refine heldX H [9] (.fst 0 (.fst 1 (.fst 3 (.fst 6 (.fst 7 (.fst 2 (.fst 4 (.fst 5 (.act 8 (.act 9 .done)))))))))) mixed [] trivial (by kernel_rfl) ?_
         clear H; intro w81 H
         have hX : Ext w81 w81 := Upd.refl _ _
         have H0 := H
         refine anyH (fun _ => fld gok rfl rfl rfl rfl ⟨rfl, rfl⟩) ?_
         refine load1X (H.bx 6 rfl (j := 1) rfl) ?_
         obtain ⟨a24, e, f55⟩ := bindS f54; clear f54
         replace H := H.sel [7, 0, 1, 2, 3, 4, 5, 6] rfl
         replace H := H.toEH (α := List Int)
         have HH := H; clear H; obtain ⟨p9, m9, h23, c36, c37, c38, c39, H⟩ := HH.peekL e; clear HH
         clear e
         refine idxE c36 c37 c38 ?_
         refine load1X c39 ?_; clear c39
         obtain ⟨y8, e, f56⟩ := bindS f55; clear f55
         have ey11358 := e; clear e
         refine callFx (spec_fdInv_c p_ a21 y8 ey11358) H trivial ?_; clear H ey11358
         rintro _ _ w82 ⟨rfl, rfl⟩ hx H
         replace hX := hX.trans0 hx; clear hx
         refine hold hX ?_
         obtain ⟨y9, e, f57⟩ := bindS f56; clear f56
         have ey11361 := e; clear e
         replace H := H.takeK 0 rfl
         refine callF (spec_mxScale_c p_ a24 h23 y8 y9 ey11361) (Γi := [E (List Int) a24 h23]) H trivial ?_; clear H ey11361
         rintro _ _ w83 ⟨rfl, rfl⟩ H
         obtain ⟨a25, e, f58⟩ := bindS f57; clear f57
         replace H := H.put c37 e; clear e
         refine hold trivial ?_
         refine sq ?_
         refine fld gok rfl rfl rfl rfl ?_
         refine load1 (H.bx 6 rfl (j := 1) rfl) ?_
         refine lenE (H.ro (α := List (List Int)) 1 rfl).len ?_
         have x0 := (H.ro (α := List (List Int)) 1 rfl).max
         obtain ⟨r6, e, f59⟩ := bindS f58; clear f58
         refine loopS _ a23.length (fun (k0 : Nat) (s6 : List (List Int) × List (List Int)) (_ : Unit) => [(0, (.int .i64 p_)), (3, (.pointer (some ⟨b3, 0, none⟩))), (4, (.pointer (some ⟨b6, 0, none⟩))), (5, (.pointer (some ⟨b9, 0, none⟩))), (8, (.pointer (some ⟨g0_2, 0, none⟩))), (9, (.pointer (some ⟨g0_3, 0, none⟩))), (10, (.int .i64 s1_2)), (11, (.int .i64 y5)), (12, (.int .i64 s1_4)), (133, (.int .i64 ((a23.length : Nat) : Int))), (134, (.int .i64 ((k0 : Nat) : Int)))]) (fun _ (s6 : List (List Int) × List (List Int)) (_ : Unit) w' => Cx w0 fp0 S0 w' [Bx b3 [(.int .i64 m__0), (m__1h).v], Es (List (List Int)) m__1 m__1h, Bx b6 [(.int .i64 0), (.slice none 0 0)], Bx b9 [(.int .i64 0), (.slice none 0 0)], Bx g0_2 [(.int .i64 s0_0), (g0_0).v], E (List (List Int)) s6.1 g0_0, Bx g0_3 [(.int .i64 s0_2), (g0_1).v], E (List (List Int)) s6.2 g0_1]) (a23, a25) () e ⟨rfl, rfl, rfl, rfl, rfl, rfl, rfl, rfl, rfl, rfl, rfl, trivial⟩ (H.sel [2, 3, 4, 5, 6, 1, 7, 0] rfl) ?_ ?_
         ·
          clear H e
          rintro T6 k0 ⟨s6_0, s6_1⟩ _ w84 o8 hk (H : Cx w0 fp0 S0 w84 [Bx b3 [(.int .i64 m__0), (m__1h).v], Es (List (List Int)) m__1 m__1h, Bx b6 [(.int .i64 0), (.slice none 0 0)], Bx b9 [(.int .i64 0), (.slice none 0 0)], Bx g0_2 [(.int .i64 s0_0), (g0_0).v], E (List (List Int)) s6_0 g0_0, Bx g0_3 [(.int .i64 s0_2), (g0_1).v], E (List (List Int)) s6_1 g0_1]) f60
          refine boolE (z := true) (ltLen hk) ?_
          refine sq ?_
          refine sq ?_
          refine fld gok rfl rfl rfl rfl ?_
          refine load1 (H.bx 4 rfl (j := 1) rfl) ?_
          obtain ⟨a26, e, f61⟩ := bindS f60; clear f60
          replace H := H.sel [5, 0, 1, 2, 3, 4, 6, 7] rfl
          replace H := H.toEH (α := List Int)
          have HH := H; clear H; obtain ⟨p10, m10, h24, c40, c41, c42, c43, H⟩ := HH.peekL e; clear HH
          clear e
          refine idxE c40 c41 c42 ?_
          refine load1 c43 ?_; clear c43
          obtain ⟨a27, e, f62⟩ := bindS f61; clear f61
          obtain ⟨p11, m11, c44, c45, c46, c47⟩ := (H.rh (α := List Int) 0 rfl 0 rfl).at1 e; clear e
          refine idxE c44 c45 c46 ?_; clear c44 c45 c46
          refine load1 c47 ?_; clear c47
          replace H := H.ofEH
          obtain ⟨r7, f63, f64⟩ := bindS f62; clear f62
          refine cut (fun (q6 : Bool) => [(0, (.int .i64 p_)), (3, (.pointer (some ⟨b3, 0, none⟩))), (4, (.pointer (some ⟨b6, 0, none⟩))), (5, (.pointer (some ⟨b9, 0, none⟩))), (8, (.pointer (some ⟨g0_2, 0, none⟩))), (9, (.pointer (some ⟨g0_3, 0, none⟩))), (10, (.int .i64 s1_2)), (11, (.int .i64 y5)), (12, (.int .i64 s1_4)), (17, (.int .i64 ((k0 : Nat) : Int))), (18, (.int .i64 a27)), (133, (.int .i64 ((a23.length : Nat) : Int))), (134, (.int .i64 ((k0 : Nat) : Int))), (151, (.bool q6))]) (fun (q6 : Bool) w' => q6 = r7 ∧ Cx w0 fp0 S0 w' [Bx b3 [(.int .i64 m__0), (m__1h).v], Es (List (List Int)) m__1 m__1h, Bx b6 [(.int .i64 0), (.slice none 0 0)], Bx b9 [(.int .i64 0), (.slice none 0 0)], Bx g0_2 [(.int .i64 s0_0), (g0_0).v], E (List (List Int)) s6_0 g0_0, Bx g0_3 [(.int .i64 s0_2), (g0_1).v], E (List (List Int)) s6_1 g0_1]) ?_ ?_
          ·
           obtain ⟨a28, e, f65⟩ := bindS f63; clear f63
           refine boolO e ?_; clear e
           cases a28
           ·
            have f66 := condF f65; clear f65
            exact ⟨false, ⟨rfl, rfl, rfl, rfl, rfl, rfl, rfl, rfl, rfl, rfl, rfl, rfl, rfl, rfl, trivial⟩, Option.some.inj f66, H.sel [1, 2, 3, 4, 5, 0, 6, 7] rfl⟩
           ·
            have f67 := condT f65; clear f65
            obtain ⟨a29, e, f68⟩ := bindS f67; clear f67
            refine boolO e ?_; clear e
            exact ⟨a29, ⟨rfl, rfl, rfl, rfl, rfl, rfl, rfl, rfl, rfl, rfl, rfl, rfl, rfl, rfl, trivial⟩, Option.some.inj f68, H.sel [1, 2, 3, 4, 5, 0, 6, 7] rfl⟩
          ·
           clear f63 H
           rintro T7 s7 w85 ⟨hr, (H : Cx w0 fp0 S0 w85 [Bx b3 [(.int .i64 m__0), (m__1h).v], Es (List (List Int)) m__1 m__1h, Bx b6 [(.int .i64 0), (.slice none 0 0)], Bx b9 [(.int .i64 0), (.slice none 0 0)], Bx g0_2 [(.int .i64 s0_0), (g0_0).v], E (List (List Int)) s6_0 g0_0, Bx g0_3 [(.int .i64 s0_2), (g0_1).v], E (List (List Int)) s6_1 g0_1])⟩
           subst hr
           cases s7
           ·
            have f69 := condF f64; clear f64
            refine arK hk x0 ?_
            have hs := Option.some.inj f69; subst hs; clear f69
            exact ⟨(), ⟨rfl, rfl, rfl, rfl, rfl, rfl, rfl, rfl, rfl, rfl, rfl, trivial⟩, H.sel [0, 1, 2, 3, 4, 5, 6, 7] rfl⟩
           ·
            have f70 := condT f64; clear f64
            refine heldX H [12] (.fst 0 (.fst 1 (.fst 3 (.fst 6 (.fst 8 (.fst 11 (.fst 2 (.fst 4 (.fst 5 (.fst 7 (.fst 9 (.fst 10 (.act 12 .done))))))))))))) mixed [] trivial (by kernel_rfl) ?_
            clear H; intro w86 H
            have hX : Ext w86 w86 := Upd.refl _ _
            have H0 := H
            refine anyH (fun _ => fld gok rfl rfl rfl rfl ⟨rfl, rfl⟩) ?_
            refine anyH (fun _ => fld gok rfl rfl rfl rfl ⟨rfl, rfl⟩) ?_
            refine load1X (H.bx 4 rfl (j := 1) rfl) ?_
            obtain ⟨a30, e, f71⟩ := bindS f70; clear f70
            replace H := H.sel [5, 0, 1, 2, 3, 4, 6, 7] rfl
            replace H := H.toEH (α := List Int)
            have HH := H; clear H; obtain ⟨p12, m12, h25, c48, c49, c50, c51, H⟩ := HH.peekL e; clear HH
            clear e
            refine idxE c48 c49 c50 ?_
            refine load1X c51 ?_; clear c51
            refine load1X (H.bx 5 rfl (j := 1) rfl) ?_
            obtain ⟨a31, e, f72⟩ := bindS f71; clear f71
            have HH := H; clear H; obtain ⟨p13, m13, h26, c52, c53, c54, c55, H⟩ := HH.peekL e; clear HH
            clear e
            refine idxE c52 c53 c54 ?_
            refine load1X c55 ?_; clear c55
            obtain ⟨y10, e, f73⟩ := bindS f72; clear f72
            have ey11637 := e; clear e
            have u0 := H.kn 0 rfl 0 rfl
            obtain ⟨u1, n0, f74⟩ := bindS f73; clear f73
            have q7 : m13 ≠ m12 := fun q => neqO_some n0 (by omega)
            replace H := H.takeK 1 rfl
            refine callF (spec_mxLess_c p_ a30 h25 a31 h26 a27 y10 ey11637) (Γi := [E (List Int) a30 h25]) H ⟨Vw.ex (α := List Int) (k := ⟨m13, a31, h26⟩) 0 rfl u0 q7, trivial⟩ ?_; clear H ey11637
            rintro _ _ w87 ⟨rfl, rfl⟩ H
            obtain ⟨a32, e, f75⟩ := bindS f74; clear f74
            replace H := H.put c49 e; clear e
            refine hold trivial ?_
            refine heldX H [12] (.fst 0 (.fst 1 (.fst 3 (.fst 6 (.fst 8 (.fst 11 (.fst 2 (.fst 4 (.fst 5 (.fst 7 (.fst 9 (.fst 10 (.act 12 .done))))))))))))) mixed [] trivial (by kernel_rfl) ?_
            clear H; intro w88 H
            have hX : Ext w88 w88 := Upd.refl _ _
            have H0 := H
            refine anyH (fun _ => fld gok rfl rfl rfl rfl ⟨rfl, rfl⟩) ?_
            refine anyH (fun _ => fld gok rfl rfl rfl rfl ⟨rfl, rfl⟩) ?_
            refine load1X (H.bx 6 rfl (j := 1) rfl) ?_
            obtain ⟨a33, e, f76⟩ := bindS f75; clear f75
            replace H := H.sel [7, 0, 1, 2, 3, 4, 5, 6] rfl
            replace H := H.toEH (α := List Int)
            have HH := H; clear H; obtain ⟨p14, m14, h27, c56, c57, c58, c59, H⟩ := HH.peekL e; clear HH
            clear e
            refine idxE c56 c57 c58 ?_
            refine load1X c59 ?_; clear c59
            refine load1X (H.bx 7 rfl (j := 1) rfl) ?_
            obtain ⟨a34, e, f77⟩ := bindS f76; clear f76
            have HH := H; clear H; obtain ⟨p15, m15, h28, c60, c61, c62, c63, H⟩ := HH.peekL e; clear HH
            clear e
            refine idxE c60 c61 c62 ?_
            refine load1X c63 ?_; clear c63
            obtain ⟨y11, e, f78⟩ := bindS f77; clear f77
            have ey11667 := e; clear e
            have u2 := H.kn 0 rfl 0 rfl
            obtain ⟨u3, n1, f79⟩ := bindS f78; clear f78
            have q8 : m15 ≠ m14 := fun q => neqO_some n1 (by omega)
            replace H := H.takeK 1 rfl
            refine callF (spec_mxLess_c p_ a33 h27 a34 h28 a27 y11 ey11667) (Γi := [E (List Int) a33 h27]) H ⟨Vw.ex (α := List Int) (k := ⟨m15, a34, h28⟩) 0 rfl u2 q8, trivial⟩ ?_; clear H ey11667
            rintro _ _ w89 ⟨rfl, rfl⟩ H
            obtain ⟨a35, e, f80⟩ := bindS f79; clear f79
            replace H := H.put c57 e; clear e
            refine hold trivial ?_
            refine arK hk x0 ?_
            have hs := Option.some.inj f80; subst hs; clear f80
            exact ⟨(), ⟨rfl, rfl, rfl, rfl, rfl, rfl, rfl, rfl, rfl, rfl, rfl, trivial⟩, H.sel [2, 3, 4, 5, 6, 1, 7, 0] rfl⟩
         ·
          clear H e
          obtain ⟨s8_0, s8_1⟩ := r6
          rintro T8 _ w90 (H : Cx w0 fp0 S0 w90 [Bx b3 [(.int .i64 m__0), (m__1h).v], Es (List (List Int)) m__1 m__1h, Bx b6 [(.int .i64 0), (.slice none 0 0)], Bx b9 [(.int .i64 0), (.slice none 0 0)], Bx g0_2 [(.int .i64 s0_0), (g0_0).v], E (List (List Int)) s8_0 g0_0, Bx g0_3 [(.int .i64 s0_2), (g0_1).v], E (List (List Int)) s8_1 g0_1])
          refine boolE (z := false) geLen ?_
          refine sq ?_
          obtain ⟨a36, e, f81⟩ := bindS f59; clear f59
          refine arO e ?_; clear e
          exact ⟨(s8_0, s8_1, a36, y5), ⟨rfl, rfl, rfl, rfl, rfl, rfl, rfl, rfl, rfl, trivial⟩, Option.some.inj f81, H.sel [0, 1, 2, 3, 4, 5, 6, 7] rfl⟩
       ·
        have f82 := condT f34; clear f34
        exact ⟨(s1_0, s1_1, s1_2, s1_3), ⟨rfl, rfl, rfl, rfl, rfl, rfl, rfl, rfl, rfl, trivial⟩, Option.some.inj f82, H.sel [0, 1, 2, 3, 4, 5, 6, 7] rfl⟩
     ·
      clear f17 H
      rintro T9 ⟨s9_0, s9_1, s9_2, s9_3⟩ w91 ⟨hr, (H : Cx w0 fp0 S0 w91 [Bx b3 [(.int .i64 m__0), (m__1h).v], Es (List (List Int)) m__1 m__1h, Bx b6 [(.int .i64 0), (.slice none 0 0)], Bx b9 [(.int .i64 0), (.slice none 0 0)], Bx g0_2 [(.int .i64 s0_0), (g0_0).v], E (List (List Int)) s9_0 g0_0, Bx g0_3 [(.int .i64 s0_2), (g0_1).v], E (List (List Int)) s9_1 g0_1])⟩
      subst hr
      obtain ⟨a37, e, f83⟩ := bindS f18; clear f18
      refine arO e ?_; clear e
      have hs := Option.some.inj f83; subst hs; clear f83
      exact ⟨(s9_0, s9_1, s9_2, s9_3, a37), (), rfl, ⟨rfl, rfl, rfl, rfl, rfl, rfl, rfl, rfl, rfl, trivial⟩, H.sel [0, 1, 2, 3, 4, 5, 6, 7] rfl⟩
  ·
   clear f10 H
   rintro T10 ⟨s10_0, s10_1, s10_2, s10_3⟩ w92 ⟨hr, (H : Cx w0 fp0 S0 w92 [Bx b6 [(.int .i64 0), (.slice none 0 0)], Bx b9 [(.int .i64 0), (.slice none 0 0)], Bx g0_2 [(.int .i64 s0_0), (g0_0).v], E (List (List Int)) s10_0 g0_0, Bx g0_3 [(.int .i64 s0_2), (g0_1).v], E (List (List Int)) s10_1 g0_1])⟩
   subst hr
   refine heldX H [4, 5, 6, 7, 0, 1, 2, 3] (.pure 0 (.pure 1 (.pure 2 (.pure 3 (.act 4 (.act 5 (.act 6 (.act 7 .done)))))))) mixed [((Addr.add ⟨g0_2, 0, none⟩ 0), (.int .i64 s0_0)), ((Addr.add ⟨g0_2, 0, none⟩ 1), (g0_0).v), ((Addr.add ⟨g0_3, 0, none⟩ 0), (.int .i64 s0_2)), ((Addr.add ⟨g0_3, 0, none⟩ 1), (g0_1).v)] ⟨H.bx 2 rfl (j := 0) rfl, H.bx 2 rfl (j := 1) rfl, H.bx 4 rfl (j := 0) rfl, H.bx 4 rfl (j := 1) rfl, trivial⟩ (by kernel_rfl) ?_
   clear H; intro w93 H
   have hX : Ext w93 w93 := Upd.refl _ _
   have H0 := H
   refine loadNW 0 [(.int .i64 s0_0), (g0_0).v] rfl ⟨rfl, rfl, trivial⟩ ?_
   refine loadNW 2 [(.int .i64 s0_2), (g0_1).v] rfl ⟨rfl, rfl, trivial⟩ ?_
   refine stA gok [(.int .i64 s0_0), (g0_0).v] rfl H rfl rfl rfl ?_; clear H; intro w94 H
   refine hold ⟨H.bx 2 rfl (j := 0) rfl, H.bx 2 rfl (j := 1) rfl, H.bx 4 rfl (j := 0) rfl, H.bx 4 rfl (j := 1) rfl, trivial⟩ ?_
   replace H := H.sel [1, 0, 2, 3, 4, 5] rfl
   refine stA gok [(.int .i64 s0_2), (g0_1).v] rfl H rfl rfl rfl ?_; clear H; intro w95 H
   refine hold ⟨H.bx 2 rfl (j := 0) rfl, H.bx 2 rfl (j := 1) rfl, H.bx 4 rfl (j := 0) rfl, H.bx 4 rfl (j := 1) rfl, trivial⟩ ?_
   refine hold ⟨H.bx 2 rfl (j := 0) rfl, H.bx 2 rfl (j := 1) rfl, H.bx 4 rfl (j := 0) rfl, H.bx 4 rfl (j := 1) rfl, trivial⟩ ?_
   refine hold ⟨H.bx 2 rfl (j := 0) rfl, H.bx 2 rfl (j := 1) rfl, H.bx 4 rfl (j := 0) rfl, H.bx 4 rfl (j := 1) rfl, trivial⟩ ?_
   refine loadN [(.int .i64 s0_0), (g0_0).v] rfl (fun j u hj => H.bx 1 rfl hj) ?_
   refine loadN [(.int .i64 s0_2), (g0_1).v] rfl (fun j u hj => H.bx 0 rfl hj) ?_
   cases f11
   exact ⟨_, _, rfl, ⟨g0_0, g0_1, rfl, rfl⟩, (H.sel [3, 5] rfl).close ⟨cloE, cloE, trivial⟩⟩

theorem spec_spLead_c (v_ : List Int) (v_h : Hd) (y : Int) (hF : F_spec_spLead v_ = some y) :
  ConF Tryd.prog 64 #[(v_h).v] [Es (List Int) v_ v_h] [] (fun v Γ' => v = (.int .i64 y) ∧ Γ' = []) := by
 intro w0 S0 fp0 hI hS
 have H : Cx w0 fp0 S0 w0 [Es (List Int) v_ v_h] := Cx.start hI hS
 clear hI hS
 refine enterC (args := [_]) gok Tryd.func64 rfl _ rfl rfl rfl ?_
 obtain ⟨r0, f0, f1⟩ := bindS hF; clear hF
 refine cut (fun (q0 : Int) => [(3, (.int .i64 q0))]) (fun (q0 : Int) w' => q0 = r0 ∧ Cx w0 fp0 S0 w' []) ?_ ?_
 ·
  refine loopW _ (fun (s0 : Int) (_ : Unit) => [(0, (v_h).v), (3, (.int .i64 s0))]) (fun (s0 : Int) (_ : Unit) w' => Cx w0 fp0 S0 w' [Es (List Int) v_ v_h]) 0 () f0 ⟨rfl, rfl, trivial⟩ (H.sel [0] rfl) ?_
  ·
   clear H
   rintro T0 s0 _ w1 o0 (H : Cx w0 fp0 S0 w1 [Es (List Int) v_ v_h]) hrt f2
   refine sq ?_
   obtain ⟨r1, f3, f4⟩ := bindS f2; clear f2
   refine cut (fun (q1 : Bool) => [(0, (v_h).v), (3, (.int .i64 s0)), (14, (.bool q1))]) (fun (q1 : Bool) w' => q1 = r1 ∧ Cx w0 fp0 S0 w' [Es (List Int) v_ v_h]) ?_ ?_
   ·
    refine lenE (H.rs (α := List Int) 0 rfl).len ?_
    obtain ⟨a0, e, f5⟩ := bindS f3; clear f3
    refine boolO e ?_; clear e
    cases a0
    ·
     have f6 := condF f5; clear f5
     exact ⟨false, ⟨rfl, rfl, rfl, trivial⟩, Option.some.inj f6, H.sel [0] rfl⟩
    ·
     have f7 := condT f5; clear f5
     obtain ⟨a1, e, f8⟩ := bindS f7; clear f7
     obtain ⟨p0, m0, c0, c1, c2, c3⟩ := (H.rs (α := List Int) 0 rfl).at1 e; clear e
     refine idxE c0 c1 c2 ?_; clear c0 c1 c2
     refine load1 c3 ?_; clear c3
     obtain ⟨a2, e, f9⟩ := bindS f8; clear f8
     refine boolO e ?_; clear e
     exact ⟨a2, ⟨rfl, rfl, rfl, trivial⟩, Option.some.inj f9, H.sel [0] rfl⟩
   ·
    clear f3 H
    rintro T1 s1 w2 ⟨hr, (H : Cx w0 fp0 S0 w2 [Es (List Int) v_ v_h])⟩
    subst hr
    cases s1
    ·
     have f10 := condF f4; clear f4
     have hs := Option.some.inj f10; subst hs; clear f10
     have f11 : some _ = some _ := congrArg some (hrt _ rfl).symm
     exact ⟨s0, ⟨rfl, trivial⟩, Option.some.inj f11, H.sel [] rfl⟩
    ·
     have f12 := condT f4; clear f4
     obtain ⟨a3, e, f13⟩ := bindS f12; clear f12
     refine arO e ?_; clear e
     have hs := Option.some.inj f13; subst hs; clear f13
     exact ⟨a3, (), rfl, ⟨rfl, rfl, trivial⟩, H.sel [0] rfl⟩
 ·
  clear f0 H
  rintro T2 s2 w3 ⟨hr, (H : Cx w0 fp0 S0 w3 [])⟩
  subst hr
  cases f1
  exact ⟨_, _, rfl, ⟨rfl, rfl⟩, (H.sel [] rfl).close trivial⟩

theorem spec_mxSolve_c (p_ : Int) (m__0 : Int) (m__1 : List (List Int)) (m__1h : Hd) (b_ : List Int) (b_h : Hd) (y0 : List Int) (y1 : Bool) (hF : F_spec_mxSolve p_ (m__0, m__1) b_ = some (y0, y1)) :
  ConF Tryd.prog 83 #[(.int .i64 p_), (.agg #[(.int .i64 m__0), (m__1h).v]), (b_h).v] [Es (List (List Int)) m__1 m__1h, Es (List Int) b_ b_h] [] (fun v Γ' => ∃ z0 : Hd, v = (.tuple #[(z0).v, (.bool y1)]) ∧ Γ' = [E (List Int) y0 z0]) := by
 intro w0 S0 fp0 hI hS
 have H : Cx w0 fp0 S0 w0 [Es (List (List Int)) m__1 m__1h, Es (List Int) b_ b_h] := Cx.start hI hS
 clear hI hS
 refine enterC (args := [_, _, _]) gok Tryd.func83 rfl _ rfl rfl rfl ?_
 refine box_ H ?_; clear H; intro b4 w3 hx H
 clear hx
 refine loadN [(.int .i64 m__0), (m__1h).v] rfl (fun j u hj => H.bx 0 rfl hj) ?_
 obtain ⟨y6, e, hF7⟩ := bindS hF; clear hF
 obtain ⟨⟨y6_0_0, y6_0_1⟩, ⟨y6_1_0, y6_1_1⟩, y6_2, y6_3⟩ := y6
 have ey6 := e; clear e
 refine callF (spec_mxReduce_c p_ m__0 m__1 m__1h y6_0_0 y6_0_1 y6_1_0 y6_1_1 y6_2 y6_3 ey6) (Γi := []) H ⟨Vw.sh 1 rfl, trivial⟩ ?_; clear H ey6
 rintro _ _ w8 ⟨h9, h0, rfl, rfl⟩ H
 refine alloc_ gok rfl H ?_; clear H; intro b0 w1 hx H
 clear hx
 refine alloc_ gok rfl H ?_; clear H; intro b1 w2 hx H
 clear hx
 replace H := H.sel [1, 0, 2, 3, 4, 5, 6] rfl
 refine stA gok [(.int .i64 y6_0_0), (h9).v] rfl H rfl rfl rfl ?_; clear H; intro w4 H
 replace H := H.sel [1, 0, 2, 3, 4, 5, 6] rfl
 refine stA gok [(.int .i64 y6_1_0), (h0).v] rfl H rfl rfl rfl ?_; clear H; intro w5 H
 obtain ⟨r0, f0, f1⟩ := bindS hF7; clear hF7
 refine heldJ H [] (.fst 0 (.fst 4 (.fst 1 (.fst 2 (.alts (.alt 3 (.act 5 (.fst 6 (.fst 7 .done))) (.alt 5 (.act 3 (.fst 6 (.fst 7 .done))) .no))))))) mixed [] trivial (by kernel_rfl) (fun (q0 : (List Int × List Int) × (Hd × Hd)) => [(0, (.int .i64 p_)), (8, (.pointer (some ⟨b0, 0, none⟩))), (9, (.pointer (some ⟨b1, 0, none⟩))), (10, (.int .i64 y6_2)), (12, (q0.2.1).v), (13, (q0.2.2).v)]) (fun (q0 : (List Int × List Int) × (Hd × Hd)) w' => (q0.1.1, q0.1.2) = r0 ∧ Cx w0 fp0 S0 w' [Bx b0 [(.int .i64 y6_0_0), (h9).v], E (List (List Int)) y6_0_1 h9, Bx b1 [(.int .i64 y6_1_0), (h0).v], E (List (List Int)) y6_1_1 h0, E (List Int) q0.1.1 q0.2.1, E (List Int) q0.1.2 q0.2.2]) ?_ ?_
 ·
  clear H; intro w6 H
  have hX : Ext w6 w6 := Upd.refl _ _
  have H0 := H
  refine anyH (fun _ => fld gok rfl rfl rfl rfl ⟨rfl, rfl⟩) ?_
  refine load1X (H.bx 4 rfl (j := 1) rfl) ?_
  refine lenE (H.rs (α := List (List Int)) 5 rfl).len ?_
  refine both ?_ ?_
  ·
   obtain ⟨a0, e, f2⟩ := bindS f0; clear f0
   refine make_ (α := Int) gok rfl rfl rfl rfl (makeCO_of e) H ?_; clear e H; intro h1 w7 hx H
   replace hX := hX.trans0 hx; clear hx
   refine hold hX ?_
   obtain ⟨y2, e, f3⟩ := bindS f2; clear f2
   have ey78 := e; clear e
   refine callFx (spec_l1Own_c b_ b_h y2 ey78) H ⟨Vw.sh 7 rfl, trivial⟩ ?_; clear H ey78
   rintro _ _ w9 ⟨h2, rfl, rfl⟩ hx H
   replace hX := hX.trans0 hx; clear hx
   refine hold hX ?_
   exact ⟨((a0, y2), (h1, h2)), ⟨rfl, rfl, rfl, rfl, rfl, rfl, trivial⟩, Option.some.inj f3, H.sel [3, 4, 2, 5, 1, 0] rfl⟩
  ·
   refine both ?_ ?_
   ·
    obtain ⟨a1, o0, f4⟩ := bindS f0; clear f0
    obtain ⟨a2, o1, f5⟩ := bindS f4; clear f4
    have e := o1; clear o1
    have ea86 := e; clear e
    refine callFx (spec_l1Own_c b_ b_h a2 ea86) H ⟨Vw.sh 6 rfl, trivial⟩ ?_; clear H ea86
    rintro _ _ w10 ⟨h3, rfl, rfl⟩ hx H
    replace hX := hX.trans0 hx; clear hx
    refine hold hX ?_
    have e := o0; clear o0
    refine make_ (α := Int) gok rfl rfl rfl rfl (makeCO_of e) H ?_; clear e H; intro h4 w11 hx H
    replace hX := hX.trans0 hx; clear hx
    refine hold hX ?_
    exact ⟨((a1, a2), (h4, h3)), ⟨rfl, rfl, rfl, rfl, rfl, rfl, trivial⟩, Option.some.inj f5, H.sel [3, 4, 2, 5, 0, 1] rfl⟩
   ·
    exact trivial
 ·
  clear f0 H
  rintro T0 ⟨⟨s0_0, s0_1⟩, ⟨g0_0, g0_1⟩⟩ w12 ⟨hr, (H : Cx w0 fp0 S0 w12 [Bx b0 [(.int .i64 y6_0_0), (h9).v], E (List (List Int)) y6_0_1 h9, Bx b1 [(.int .i64 y6_1_0), (h0).v], E (List (List Int)) y6_1_1 h0, E (List Int) s0_0 g0_0, E (List Int) s0_1 g0_1])⟩
  subst hr
  obtain ⟨r1, f6, f7⟩ := bindS f1; clear f1
  refine cut (fun (q1 : List Int × List Int) => [(12, (g0_0).v), (13, (g0_1).v)]) (fun (q1 : List Int × List Int) w' => (q1.1, q1.2) = r1 ∧ Cx w0 fp0 S0 w' [E (List Int) q1.1 g0_0, E (List Int) q1.2 g0_1]) ?_ ?_
  ·
   refine loopW _ (fun (s1 : List Int × List Int × Int) (_ : Unit) => [(0, (.int .i64 p_)), (8, (.pointer (some ⟨b0, 0, none⟩))), (9, (.pointer (some ⟨b1, 0, none⟩))), (10, (.int .i64 y6_2)), (12, (g0_0).v), (13, (g0_1).v), (14, (.int .i64 s1.2.2))]) (fun (s1 : List Int × List Int × Int) (_ : Unit) w' => Cx w0 fp0 S0 w' [Bx b0 [(.int .i64 y6_0_0), (h9).v], E (List (List Int)) y6_0_1 h9, Bx b1 [(.int .i64 y6_1_0), (h0).v], E (List (List Int)) y6_1_1 h0, E (List Int) s1.1 g0_0, E (List Int) s1.2.1 g0_1]) (s0_0, s0_1, 0) () f6 ⟨rfl, rfl, rfl, rfl, rfl, rfl, rfl, trivial⟩ (H.sel [0, 1, 2, 3, 4, 5] rfl) ?_
   ·
    clear H
    rintro T1 ⟨s1_0, s1_1, s1_2⟩ _ w14 o2 (H : Cx w0 fp0 S0 w14 [Bx b0 [(.int .i64 y6_0_0), (h9).v], E (List (List Int)) y6_0_1 h9, Bx b1 [(.int .i64 y6_1_0), (h0).v], E (List (List Int)) y6_1_1 h0, E (List Int) s1_0 g0_0, E (List Int) s1_1 g0_1]) hrt f8
    refine sq ?_
    obtain ⟨a3, e, f9⟩ := bindS f8; clear f8
    refine boolO e ?_; clear e
    cases a3
    ·
     have f10 := condF f9; clear f9
     have hs := Option.some.inj f10; subst hs; clear f10
     have f11 : some _ = some _ := congrArg some (hrt _ rfl).symm
     exact ⟨(s1_0, s1_1), ⟨rfl, rfl, trivial⟩, Option.some.inj f11, H.sel [4, 5] rfl⟩
    ·
     have f12 := condT f9; clear f9
     refine sq ?_
     refine fld gok rfl rfl rfl rfl ?_
     refine load1 (H.bx 0 rfl (j := 1) rfl) ?_
     obtain ⟨a4, e, f13⟩ := bindS f12; clear f12
     replace H := H.sel [1, 0, 2, 3, 4, 5] rfl
     replace H := H.toEH (α := List Int)
     have HH := H; clear H; obtain ⟨p0, m0, h5, c0, c1, c2, c3, H⟩ := HH.peekL e; clear HH
     clear e
     refine idxE c0 c1 c2 ?_
     refine load1 c3 ?_; clear c3
     obtain ⟨y3, e, f14⟩ := bindS f13; clear f13
     have ey414 := e; clear e
     refine callF (spec_spLead_c a4 h5 y3 ey414) (Γi := []) H ⟨Vw.eh (α := List Int) (k := ⟨m0, a4, h5⟩) 0 rfl 0 rfl, trivial⟩ ?_; clear H ey414
     rintro _ _ w15 ⟨rfl, rfl⟩ H
     obtain ⟨a5, e, f15⟩ := bindS f14; clear f14
     obtain ⟨p1, m1, c4, c5, c6, c7⟩ := (H.ro (α := List Int) 5 rfl).at1 e; clear e
     refine idxE c4 c5 c6 ?_; clear c4 c5 c6
     refine load1 c7 ?_; clear c7
     replace H := H.ofEH
     refine fld gok rfl rfl rfl rfl ?_
     refine load1 (H.bx 1 rfl (j := 1) rfl) ?_
     obtain ⟨a6, e, f16⟩ := bindS f15; clear f15
     replace H := H.toEH (α := List Int)
     have HH := H; clear H; obtain ⟨p2, m2, h6, c8, c9, c10, c11, H⟩ := HH.peekL e; clear HH
     clear e
     refine idxE c8 c9 c10 ?_
     refine load1 c11 ?_; clear c11
     obtain ⟨y4, e, f17⟩ := bindS f16; clear f16
     have ey434 := e; clear e
     replace H := H.sel [5, 0, 1, 2, 3, 4] rfl
     refine callF (spec_mxLess_c p_ s1_1 g0_1 a6 h6 a5 y4 ey434) (Γi := [E (List Int) s1_1 g0_1]) H ⟨Vw.eh (α := List Int) (k := ⟨m2, a6, h6⟩) 0 rfl 0 rfl, trivial⟩ ?_; clear H ey434
     rintro _ _ w17 ⟨rfl, rfl⟩ H
     replace H := H.sel [1, 0, 2, 3, 4, 5] rfl
     replace H := H.ofEH
     refine heldX H [10] (.fst 0 (.fst 1 (.fst 2 (.fst 4 (.fst 7 (.fst 8 (.fst 3 (.fst 5 (.fst 6 (.act 9 (.act 10 .done))))))))))) mixed [] trivial (by kernel_rfl) ?_
     clear H; intro w18 H
     have hX : Ext w18 w18 := Upd.refl _ _
     have H0 := H
     refine anyH (fun _ => fld gok rfl rfl rfl rfl ⟨rfl, rfl⟩) ?_
     refine load1X (H.bx 3 rfl (j := 1) rfl) ?_
     obtain ⟨a7, e, f18⟩ := bindS f17; clear f17
     replace H := H.sel [4, 0, 1, 2, 3, 5] rfl
     replace H := H.toEH (α := List Int)
     have HH := H; clear H; obtain ⟨p3, m3, h7, c12, c13, c14, c15, H⟩ := HH.peekL e; clear HH
     clear e
     refine idxE c12 c13 c14 ?_
     refine load1X c15 ?_; clear c15
     obtain ⟨y5, e, f19⟩ := bindS f18; clear f18
     have ey447 := e; clear e
     refine callFx (spec_fdNeg_c p_ a5 y5 ey447) H trivial ?_; clear H ey447
     rintro _ _ w21 ⟨rfl, rfl⟩ hx H
     replace hX := hX.trans0 hx; clear hx
     refine hold hX ?_
     obtain ⟨y7, e, f20⟩ := bindS f19; clear f19
     have ey450 := e; clear e
     replace H := H.sel [5, 0, 1, 2, 3, 4] rfl
     refine callF (spec_mxLess_c p_ s1_0 g0_0 a7 h7 y5 y7 ey450) (Γi := [E (List Int) s1_0 g0_0]) H ⟨Vw.eh (α := List Int) (k := ⟨m3, a7, h7⟩) 0 rfl 0 rfl, trivial⟩ ?_; clear H ey450
     rintro _ _ w22 ⟨rfl, rfl⟩ H
     refine hold trivial ?_
     replace H := H.sel [1, 0, 2, 3, 4, 5] rfl
     replace H := H.ofEH
     obtain ⟨a8, e, f21⟩ := bindS f20; clear f20
     refine arO e ?_; clear e
     have hs := Option.some.inj f21; subst hs; clear f21
     exact ⟨(y7, y4, a8), (), rfl, ⟨rfl, rfl, rfl, rfl, rfl, rfl, rfl, trivial⟩, H.sel [4, 2, 5, 0, 1, 3] rfl⟩
  ·
   clear f6 H
   rintro T2 ⟨s2_0, s2_1⟩ w23 ⟨hr, (H : Cx w0 fp0 S0 w23 [E (List Int) s2_0 g0_0, E (List Int) s2_1 g0_1])⟩
   subst hr
   obtain ⟨y8, e, f22⟩ := bindS f7; clear f7
   have ey457 := e; clear e
   refine callF (spec_l1All_c s2_1 g0_1 0 0 y8 ey457) (Γi := []) H ⟨Vw.own 1 rfl, trivial⟩ ?_; clear H ey457
   rintro _ _ w24 ⟨rfl, rfl⟩ H
   cases f22
   exact ⟨_, _, rfl, ⟨g0_0, rfl, rfl⟩, (H.sel [0] rfl).close ⟨cloE, trivial⟩⟩

theorem spec_rzRealize_c (p_ : Int) (m_ : List (Int × List (List Int))) (m_h : Hd) (y0_0 : Int) (y0_1 : Int) (y0_2 : Int) (y0_3 : List (List Int)) (y0_4 : List (List Int)) (y0_5 : List (List Int)) (y0_6 : List (List Int)) (y1 : Bool) (hF : F_spec_rzRealize p_ m_ = some ((y0_0, y0_1, y0_2, y0_3, y0_4, y0_5, y0_6), y1)) :
  ConF Tryd.prog 47 #[(.int .i64 p_), (m_h).v] [Es (List (Int × List (List Int))) m_ m_h] [] (fun v Γ' => ∃ z0 z1 z2 z3 : Hd, v = (.tuple #[(.agg #[(.int .i64 y0_0), (.int .i64 y0_1), (.int .i64 y0_2), (z0).v, (z1).v, (z2).v, (z3).v]), (.bool y1)]) ∧ Γ' = [E (List (List Int)) y0_3 z0, E (List (List Int)) y0_4 z1, E (List (List Int)) y0_5 z2, E (List (List Int)) y0_6 z3]) := by
 intro w0 S0 fp0 hI hS
 have H : Cx w0 fp0 S0 w0 [Es (List (Int × List (List Int))) m_ m_h] := Cx.start hI hS
 clear hI hS
 refine enterC (args := [_, _]) gok Tryd.func47 rfl _ rfl rfl rfl ?_
 refine alloc_ gok rfl H ?_; clear H; intro b3 w2 hx H
 clear hx
 refine lenE (H.rs (α := List (Int × List (List Int))) 1 rfl).len ?_
 obtain ⟨a5, e, hF6⟩ := bindS hF; clear hF
 refine arO e ?_; clear e
 obtain ⟨a7, e, hF8⟩ := bindS hF6; clear hF6
 refine quoO_ e ?_; clear e
 refine heldX H [] (.fst 0 (.fst 1 (.fst 2 (.fst 5 (.fst 6 (.fst 7 (.fst 3 (.fst 4 (.fst 9 (.fst 8 (.fst 10 .done))))))))))) mixed [] trivial (by kernel_rfl) ?_
 clear H; intro w9 H
 have hX : Ext w9 w9 := Upd.refl _ _
 have H0 := H
 obtain ⟨a0, e, f0⟩ := bindS hF8; clear hF8
 have HH := H; clear H; obtain ⟨p0, m0, g0, c0, c1, c2, c3, H⟩ := HH.el (α := Int × List (List Int)) 1 rfl e; clear HH
 clear e
 obtain ⟨a0_0, a0_1⟩ := a0
 obtain ⟨_, h0⟩ := g0
 replace H := H.part (β := List (List Int)) a0_1 (h0 : Hd) 0 rfl (fun S h => (And.right h))
 replace H := H.sel [0, 2, 3] rfl
 refine idxE c0 c1 c2 ?_; clear c0 c1 c2
 refine anyH (fun _ => fld gok rfl rfl rfl rfl ⟨rfl, rfl⟩) ?_
 obtain ⟨a1, e, f1⟩ := bindS f0; clear f0
 have HH := H; clear H; obtain ⟨p1, m1, g1, c4, c5, c6, c7, H⟩ := HH.el (α := Int × List (List Int)) 2 rfl e; clear HH
 clear e
 obtain ⟨a1_0, a1_1⟩ := a1
 obtain ⟨_, h1⟩ := g1
 replace H := H.part (β := List (List Int)) a1_1 (h1 : Hd) 0 rfl (fun S h => (And.right h))
 replace H := H.sel [0, 2, 3, 4] rfl
 refine idxE c4 c5 c6 ?_; clear c4 c5 c6
 refine anyH (fun _ => fld gok rfl rfl rfl rfl ⟨rfl, rfl⟩) ?_
 refine load1X (c3 1 _ rfl) ?_
 refine lenE (H.rs (α := List (List Int)) 1 rfl).len ?_
 refine load1X (c7 0 _ rfl) ?_
 obtain ⟨a2, e, f2⟩ := bindS f1; clear f1
 have HH := H; clear H; obtain ⟨p2, m2, g2, c8, c9, c14, c15, H⟩ := HH.el (α := Int × List (List Int)) 3 rfl e; clear HH
 clear e
 obtain ⟨a2_0, a2_1⟩ := a2
 obtain ⟨_, h2⟩ := g2
 replace H := H.part (β := List (List Int)) a2_1 (h2 : Hd) 0 rfl (fun S h => (And.right h))
 replace H := H.sel [0, 2, 3, 4, 5] rfl
 refine idxE c8 c9 c14 ?_; clear c8 c9 c14
 refine loadN [(.int .i64 a2_0), (h2).v] rfl c15 ?_; clear c15
 obtain ⟨y0, e, f3⟩ := bindS f2; clear f2
 obtain ⟨y0_0, y0_1⟩ := y0
 have ey46 := e; clear e
 refine callF (spec_mxCopy_c a2_0 a2_1 h2 y0_0 y0_1 ey46) (Γi := []) H ⟨Vw.sh 0 rfl, trivial⟩ ?_; clear H ey46
 rintro _ _ w1 ⟨h3, rfl, rfl⟩ H
 refine build_ (cs := #[(.int .i64 0), (.int .i64 ((a0_1.length : Nat) : Int)), (.int .i64 a1_0), (.slice none 0 0), (.slice none 0 0), (.slice none 0 0), (h3).v]) gok rfl rfl rfl ?_
 refine alloc_ gok rfl H ?_; clear H; intro b0 w3 hx H
 clear hx
 refine stA gok [(.int .i64 0), (.int .i64 ((a0_1.length : Nat) : Int)), (.int .i64 a1_0), (.slice none 0 0), (.slice none 0 0), (.slice none 0 0), (h3).v] rfl H rfl rfl rfl ?_; clear H; intro w4 H
 obtain ⟨y2, e, f4⟩ := bindS f3; clear f3
 have ey55 := e; clear e
 refine callF (spec_rzHankel_c m_ m_h a7 a7 y2 ey55) (Γi := []) H ⟨Vw.sh 6 rfl, trivial⟩ ?_; clear H ey55
 rintro _ _ w5 ⟨h4, rfl, rfl⟩ H
 obtain ⟨r0, f5, f6⟩ := bindS f4; clear f4
 refine cut (fun (q0 : List (List Int) × Hd) => [(0, (.int .i64 p_)), (4, (.pointer (some ⟨b3, 0, none⟩))), (6, (.int .i64 a7)), (7, (.int .i64 ((a0_1.length : Nat) : Int))), (8, (.int .i64 a1_0)), (9, (.pointer (some ⟨b0, 0, none⟩))), (10, (q0.2).v)]) (fun (q0 : List (List Int) × Hd) w' => q0.1 = r0 ∧ Cx w0 fp0 S0 w' [Bx b3 [(.int .i64 0), (.int .i64 0), (.int .i64 0), (.slice none 0 0), (.slice none 0 0), (.slice none 0 0), (.slice none 0 0)], Bx b0 [(.int .i64 0), (.int .i64 ((a0_1.length : Nat) : Int)), (.int .i64 a1_0), (.slice none 0 0), (.slice none 0 0), (.slice none 0 0), (h3).v], E (List (List Int)) y0_1 h3, E (List (List Int)) q0.1 q0.2]) ?_ ?_
 ·
  obtain ⟨a3, e, f7⟩ := bindS f5; clear f5
  refine boolO e ?_; clear e
  cases a3
  ·
   have f8 := condF f7; clear f7
   exact ⟨(y2, h4), ⟨rfl, rfl, rfl, rfl, rfl, rfl, rfl, trivial⟩, Option.some.inj f8, H.sel [6, 1, 2, 0] rfl⟩
  ·
   have f9 := condT f7; clear f7
   obtain ⟨a4, e, f10⟩ := bindS f9; clear f9
   refine arO e ?_; clear e
   obtain ⟨y3, e, f11⟩ := bindS f10; clear f10
   have ey84 := e; clear e
   refine callF (spec_rzHankel_c m_ m_h a4 a7 y3 ey84) (Γi := []) H ⟨Vw.sh 7 rfl, trivial⟩ ?_; clear H ey84
   rintro _ _ w6 ⟨h5, rfl, rfl⟩ H
   exact ⟨(y3, h5), ⟨rfl, rfl, rfl, rfl, rfl, rfl, rfl, trivial⟩, Option.some.inj f11, H.sel [7, 2, 3, 0] rfl⟩
 ·
  clear f5 H
  rintro T0 ⟨s0, g3⟩ w7 ⟨hr, (H : Cx w0 fp0 S0 w7 [Bx b3 [(.int .i64 0), (.int .i64 0), (.int .i64 0), (.slice none 0 0), (.slice none 0 0), (.slice none 0 0), (.slice none 0 0)], Bx b0 [(.int .i64 0), (.int .i64 ((a0_1.length : Nat) : Int)), (.int .i64 a1_0), (.slice none 0 0), (.slice none 0 0), (.slice none 0 0), (h3).v], E (List (List Int)) y0_1 h3, E (List (List Int)) s0 g3])⟩
  subst hr
  obtain ⟨a6, e, f12⟩ := bindS f6; clear f6
  refine arO e ?_; clear e
  obtain ⟨a8, e, f13⟩ := bindS f12; clear f12
  refine arO e ?_; clear e
  obtain ⟨a9, e, f14⟩ := bindS f13; clear f13
  replace H := H.sel [3, 0, 1, 2] rfl
  replace H := H.frz
  refine slS (α := List Int) gok rfl rfl H 0 rfl e rfl rfl ?_; clear e H; intro h6 H
  obtain ⟨y4, e, f15⟩ := bindS f14; clear f14
  have ey99 := e; clear e
  refine callF (spec_rzChosen_c p_ a6 a9 h6 y4 ey99) (Γi := []) H ⟨Vw.sh 0 rfl, trivial⟩ ?_; clear H ey99
  rintro _ _ w8 ⟨h7, rfl, rfl⟩ H
  obtain ⟨a10, e, f16⟩ := bindS f15; clear f15
  refine arO e ?_; clear e
  refine build_ (cs := #[(.int .i64 a10), (.slice none 0 0)]) gok rfl rfl rfl ?_
  refine alloc_ gok rfl H ?_; clear H; intro b1 w10 hx H
  clear hx
  refine stA gok [(.int .i64 a10), (.slice none 0 0)] rfl H rfl rfl rfl ?_; clear H; intro w11 H
  refine sq ?_
  refine lenE (H.ro (α := List Int) 1 rfl).len ?_
  have x0 := (H.ro (α := List Int) 1 rfl).max
  obtain ⟨r1, e, f17⟩ := bindS f16; clear f16
  replace H := H.nil (α := Sh (List Int))
  refine loopS _ y4.length (fun (k0 : Nat) (s1 : List (List Int)) (g4 : Hd) => [(0, (.int .i64 p_)), (4, (.pointer (some ⟨b3, 0, none⟩))), (6, (.int .i64 a7)), (7, (.int .i64 ((a0_1.length : Nat) : Int))), (8, (.int .i64 a1_0)), (9, (.pointer (some ⟨b0, 0, none⟩))), (10, (g3).v), (11, (h7).v), (12, (.pointer (some ⟨b1, 0, none⟩))), (68, (h7).v), (69, (.int .i64 ((y4.length : Nat) : Int))), (70, (.int .i64 ((k0 : Nat) : Int)))]) (fun _ (s1 : List (List Int)) (g4 : Hd) w' => Cx w0 fp0 S0 w' [Bx b3 [(.int .i64 0), (.int .i64 0), (.int .i64 0), (.slice none 0 0), (.slice none 0 0), (.slice none 0 0), (.slice none 0 0)], Bx b0 [(.int .i64 0), (.int .i64 ((a0_1.length : Nat) : Int)), (.int .i64 a1_0), (.slice none 0 0), (.slice none 0 0), (.slice none 0 0), (h3).v], E (List (List Int)) y0_1 h3, Es (List (List Int)) s0 g3, E (List Int) y4 h7, Bx b1 [(.int .i64 a10), (g4).v], E (List (Sh (List Int))) s1 g4]) [] nilH e ⟨rfl, rfl, rfl, rfl, rfl, rfl, rfl, rfl, rfl, rfl, rfl, rfl, trivial⟩ (H.sel [5, 6, 7, 4, 2, 1, 0] rfl) ?_ ?_
  ·
   clear H e
   rintro T1 k0 s1 g4 w12 o0 hk (H : Cx w0 fp0 S0 w12 [Bx b3 [(.int .i64 0), (.int .i64 0), (.int .i64 0), (.slice none 0 0), (.slice none 0 0), (.slice none 0 0), (.slice none 0 0)], Bx b0 [(.int .i64 0), (.int .i64 ((a0_1.length : Nat) : Int)), (.int .i64 a1_0), (.slice none 0 0), (.slice none 0 0), (.slice none 0 0), (h3).v], E (List (List Int)) y0_1 h3, Es (List (List Int)) s0 g3, E (List Int) y4 h7, Bx b1 [(.int .i64 a10), (g4).v], E (List (Sh (List Int))) s1 g4]) f18
   refine boolE (z := true) (ltLen hk) ?_
   refine sq ?_
   refine sq ?_
   obtain ⟨a11, e, f19⟩ := bindS f18; clear f18
   obtain ⟨p3, m3, c16, c17, c18, c19⟩ := (H.ro (α := List Int) 4 rfl).at1 e; clear e
   refine idxE c16 c17 c18 ?_; clear c16 c17 c18
   refine load1 c19 ?_; clear c19
   refine heldX H [7, 9, 8] (.fst 0 (.fst 2 (.fst 3 (.fst 4 (.fst 1 (.fst 5 (.act 6 (.act 7 (.act 8 (.act 9 .done)))))))))) mixed [] trivial (by kernel_rfl) ?_
   clear H; intro w13 H
   have hX : Ext w13 w13 := Upd.refl _ _
   have H0 := H
   refine anyH (fun _ => fld gok rfl rfl rfl rfl ⟨rfl, rfl⟩) ?_
   obtain ⟨a12, e, f20⟩ := bindS f19; clear f19
   have HH := H; clear H; obtain ⟨p4, m4, h8, c20, c21, c26, c27, H⟩ := HH.elL 3 rfl e; clear HH
   clear e
   refine idxE c20 c21 c26 ?_; clear c20 c21 c26
   refine load1X (H.bx 6 rfl (j := 1) rfl) ?_
   refine load1X c27 ?_; clear c27
   replace H := H.dup 0 rfl persS
   refine lit1 (α := Sh (List Int)) (g := h8) gok rfl rfl rfl rfl rfl H ?_; clear H; intro h9 w14 hx H
   replace hX := hX.trans0 hx; clear hx
   refine hold hX ?_
   obtain ⟨a13, e, f21⟩ := bindS f20; clear f20
   replace H := H.sel [8, 0, 1, 2, 3, 4, 5, 6, 7] rfl
   refine append_ (α := Sh (List Int)) gok rfl rfl rfl rfl H e ?_; clear e H; intro h10 w15 H
   refine hold trivial ?_
   refine fld gok rfl rfl rfl rfl ?_
   refine hold trivial ?_
   replace H := H.sel [7, 0, 1, 2, 3, 4, 5, 6] rfl
   refine stB (j := 1) H rfl rfl ?_; clear H; intro w16 H
   refine hold trivial ?_
   refine arK hk x0 ?_
   have hs := Option.some.inj f21; subst hs; clear f21
   exact ⟨h10, ⟨rfl, rfl, rfl, rfl, rfl, rfl, rfl, rfl, rfl, rfl, rfl, rfl, trivial⟩, H.sel [3, 4, 5, 6, 7, 0, 1] rfl⟩
  ·
   clear H e
   rintro T2 g5 w17 (H : Cx w0 fp0 S0 w17 [Bx b3 [(.int .i64 0), (.int .i64 0), (.int .i64 0), (.slice none 0 0), (.slice none 0 0), (.slice none 0 0), (.slice none 0 0)], Bx b0 [(.int .i64 0), (.int .i64 ((a0_1.length : Nat) : Int)), (.int .i64 a1_0), (.slice none 0 0), (.slice none 0 0), (.slice none 0 0), (h3).v], E (List (List Int)) y0_1 h3, Es (List (List Int)) s0 g3, E (List Int) y4 h7, Bx b1 [(.int .i64 a10), (g5).v], E (List (Sh (List Int))) r1 g5])
   refine boolE (z := false) geLen ?_
   refine sq ?_
   refine lenE (H.ro (α := List Int) 4 rfl).len ?_
   refine fld gok rfl rfl rfl rfl ?_
   replace H := H.sel [1, 0, 2, 3, 4, 5, 6] rfl
   refine stB (j := 0) H rfl rfl ?_; clear H; intro w18 H
   refine sq ?_
   refine lenE (H.ro (α := List Int) 4 rfl).len ?_
   have x1 := (H.ro (α := List Int) 4 rfl).max
   obtain ⟨r2, e, f22⟩ := bindS f17; clear f17
   replace H := H.nil (α := List Int)
   replace H := H.nil (α := List Int)
   refine loopO _ y4.length (fun (k1 : Nat) (s2 : List (List Int) × List (List Int)) (g6 : Hd × Hd) => [(0, (.int .i64 p_)), (4, (.pointer (some ⟨b3, 0, none⟩))), (6, (.int .i64 a7)), (7, (.int .i64 ((a0_1.length : Nat) : Int))), (8, (.int .i64 a1_0)), (9, (.pointer (some ⟨b0, 0, none⟩))), (10, (g3).v), (12, (.pointer (some ⟨b1, 0, none⟩))), (87, (h7).v), (88, (.int .i64 ((y4.length : Nat) : Int))), (89, (.int .i64 ((k1 : Nat) : Int)))]) (fun _ (s2 : List (List Int) × List (List Int)) (g6 : Hd × Hd) w' => Cx w0 fp0 S0 w' [Bx b3 [(.int .i64 0), (.int .i64 0), (.int .i64 0), (.slice none 0 0), (.slice none 0 0), (.slice none 0 0), (.slice none 0 0)], Bx b0 [(.int .i64 ((y4.length : Nat) : Int)), (.int .i64 ((a0_1.length : Nat) : Int)), (.int .i64 a1_0), (g6.1).v, (.slice none 0 0), (g6.2).v, (h3).v], E (List (List Int)) s2.1 g6.1, E (List (List Int)) s2.2 g6.2, E (List (List Int)) y0_1 h3, Es (List (List Int)) s0 g3, Bx b1 [(.int .i64 a10), (g5).v], E (List (Sh (List Int))) r1 g5, E (List Int) y4 h7]) ([], []) (nilH, nilH) e ⟨rfl, rfl, rfl, rfl, rfl, rfl, rfl, rfl, rfl, rfl, rfl, trivial⟩ (H.sel [3, 2, 1, 0, 4, 5, 7, 8, 6] rfl) ?_ ?_
   ·
    clear H e
    rintro T3 k1 ⟨s2_0, s2_1⟩ ⟨g6_0, g6_1⟩ w19 o1 hk (H : Cx w0 fp0 S0 w19 [Bx b3 [(.int .i64 0), (.int .i64 0), (.int .i64 0), (.slice none 0 0), (.slice none 0 0), (.slice none 0 0), (.slice none 0 0)], Bx b0 [(.int .i64 ((y4.length : Nat) : Int)), (.int .i64 ((a0_1.length : Nat) : Int)), (.int .i64 a1_0), (g6_0).v, (.slice none 0 0), (g6_1).v, (h3).v], E (List (List Int)) s2_0 g6_0, E (List (List Int)) s2_1 g6_1, E (List (List Int)) y0_1 h3, Es (List (List Int)) s0 g3, Bx b1 [(.int .i64 a10), (g5).v], E (List (Sh (List Int))) r1 g5, E (List Int) y4 h7]) hrt f23
    refine boolE (z := true) (ltLen hk) ?_
    refine sq ?_
    refine sq ?_
    obtain ⟨a14, e, f24⟩ := bindS f23; clear f23
    obtain ⟨p5, m5, c28, c29, c30, c31⟩ := (H.ro (α := List Int) 8 rfl).at1 e; clear e
    refine idxE c28 c29 c30 ?_; clear c28 c29 c30
    refine load1 c31 ?_; clear c31
    refine heldX H [] (.fst 0 (.fst 2 (.fst 3 (.fst 4 (.fst 5 (.fst 6 (.fst 1 (.fst 7 (.act 8 (.fst 9 (.fst 10 (.fst 11 (.fst 12 (.fst 13 .done)))))))))))))) mixed [] trivial (by kernel_rfl) ?_
    clear H; intro w20 H
    have hX : Ext w20 w20 := Upd.refl _ _
    have H0 := H
    obtain ⟨a15, e, f25⟩ := bindS f24; clear f24
    refine arO e ?_; clear e
    obtain ⟨a17, e, f26⟩ := bindS f25; clear f25
    have HH := H; clear H; obtain ⟨p6, m6, h11, c32, c33, c38, c39, H⟩ := HH.elL 5 rfl e; clear HH
    clear e
    refine idxE c32 c33 c38 ?_; clear c32 c33 c38
    refine loadNX [(.int .i64 a10), (g5).v] rfl (fun j u hj => H.bx 7 rfl hj) ?_
    refine load1X c39 ?_; clear c39
    obtain ⟨y5, e, f27⟩ := bindS f26; clear f26
    obtain ⟨y5_0, y5_1⟩ := y5
    have ey402 := e; clear e
    refine callFx (spec_mxSolve_c p_ a10 r1 g5 a17 h11 y5_0 y5_1 ey402) H ⟨Vw.part (β := List (List Int)) (Vw.own (α := List (Sh (List Int))) 8 rfl) r1 g5 (fun S h => h), Vw.sh 0 rfl, trivial⟩ ?_; clear H ey402
    rintro _ _ w21 ⟨h12, rfl, rfl⟩ hx H
    replace hX := hX.trans0 hx; clear hx
    refine hold hX ?_
    refine sq ?_
    obtain ⟨a18, e, f28⟩ := bindS f27; clear f27
    refine boolO e ?_; clear e
    cases a18
    ·
     have f29 := condF f28; clear f28
     refine fld gok rfl rfl rfl rfl ?_
     refine load1 (H.bx 3 rfl (j := 3) rfl) ?_
     refine lit1 (α := List Int) (g := h12) gok rfl rfl rfl rfl rfl H ?_; clear H; intro h13 w22 hx H
     clear hx
     obtain ⟨a19, e, f30⟩ := bindS f29; clear f29
     replace H := H.sel [4, 0, 1, 2, 3, 5, 6, 7, 8, 9, 10] rfl
     refine append_ (α := List Int) gok rfl rfl rfl rfl H e ?_; clear e H; intro h14 w23 H
     refine fld gok rfl rfl rfl rfl ?_
     replace H := H.sel [3, 0, 1, 2, 4, 5, 6, 7, 8, 9] rfl
     refine stB (j := 3) H rfl rfl ?_; clear H; intro w24 H
     refine heldX H [10, 12, 11] (.fst 0 (.fst 2 (.fst 3 (.fst 4 (.fst 6 (.fst 1 (.fst 5 (.fst 7 (.act 8 (.act 9 (.act 10 (.act 11 (.act 12 .done))))))))))))) mixed [] trivial (by kernel_rfl) ?_
     clear H; intro w25 H
     have hX : Ext w25 w25 := Upd.refl _ _
     have H0 := H
     refine anyH (fun _ => fld gok rfl rfl rfl rfl ⟨rfl, rfl⟩) ?_
     obtain ⟨a20, e, f31⟩ := bindS f30; clear f30
     have HH := H; clear H; obtain ⟨p7, m7, h15, c40, c41, c42, c43, H⟩ := HH.elL 6 rfl e; clear HH
     clear e
     refine idxE c40 c41 c42 ?_; clear c40 c41 c42
     refine load1X (H.bx 1 rfl (j := 5) rfl) ?_
     refine load1X c43 ?_; clear c43
     obtain ⟨a21, e, f32⟩ := bindS f31; clear f31
     refine slSX (α := Int) gok rfl rfl H 0 rfl e rfl rfl ?_; clear e; intro h16 HH; clear H; have H := HH; clear HH
     obtain ⟨y6, e, f33⟩ := bindS f32; clear f32
     have ey434 := e; clear e
     refine callFx (spec_l1Own_c a21 h16 y6 ey434) H ⟨Vw.sh 0 rfl, trivial⟩ ?_; clear H ey434
     rintro _ _ w26 ⟨h17, rfl, rfl⟩ hx H
     replace hX := hX.trans0 hx; clear hx
     refine hold hX ?_
     refine lit1 (α := List Int) (g := h17) gok rfl rfl rfl rfl rfl H ?_; clear H; intro h18 w27 hx H
     replace hX := hX.trans0 hx; clear hx
     refine hold hX ?_
     obtain ⟨a22, e, f34⟩ := bindS f33; clear f33
     replace H := H.sel [7, 0, 1, 2, 3, 4, 5, 6, 8, 9, 10, 11, 12] rfl
     refine append_ (α := List Int) gok rfl rfl rfl rfl H e ?_; clear e H; intro h19 w28 H
     refine hold trivial ?_
     refine fld gok rfl rfl rfl rfl ?_
     refine hold trivial ?_
     replace H := H.sel [3, 0, 1, 2, 4, 5, 6, 7, 8, 9, 10, 11] rfl
     refine stB (j := 5) H rfl rfl ?_; clear H; intro w29 H
     refine hold trivial ?_
     refine arK hk x1 ?_
     have hs := Option.some.inj f34; subst hs; clear f34
     exact ⟨(a19, a22), (h14, h19), rfl, ⟨rfl, rfl, rfl, rfl, rfl, rfl, rfl, rfl, rfl, rfl, rfl, trivial⟩, H.sel [6, 0, 4, 1, 7, 8, 9, 10, 11] rfl⟩
    ·
     have f35 := condT f28; clear f28
     refine build_ (cs := #[(.int .i64 0), (.int .i64 0), (.int .i64 0), (.slice none 0 0), (.slice none 0 0), (.slice none 0 0), (.slice none 0 0)]) gok rfl rfl rfl ?_
     replace H := H.sel [2, 0, 1, 3, 4, 5, 6, 7, 8, 9, 10] rfl
     refine stA gok [(.int .i64 0), (.int .i64 0), (.int .i64 0), (.slice none 0 0), (.slice none 0 0), (.slice none 0 0), (.slice none 0 0)] rfl H rfl rfl rfl ?_; clear H; intro w30 H
     have hs := Option.some.inj f35; subst hs; clear f35
     have hr := hrt _ rfl; subst hr
     have f36 : some _ = some _ := f22
     refine loadN [(.int .i64 0), (.int .i64 0), (.int .i64 0), (.slice none 0 0), (.slice none 0 0), (.slice none 0 0), (.slice none 0 0)] rfl (fun j u hj => H.bx 0 rfl hj) ?_
     replace H := H.nil (α := List Int)
     replace H := H.nil (α := List Int)
     replace H := H.nil (α := List Int)
     replace H := H.nil (α := List Int)
     cases f36
     exact ⟨_, _, rfl, ⟨nilH, nilH, nilH, nilH, rfl, rfl⟩, (H.sel [3, 2, 1, 0] rfl).close ⟨cloE, cloE, cloE, cloE, trivial⟩⟩
   ·
    clear H e
    rintro T4 ⟨s3_0, s3_1⟩ ⟨g7_0, g7_1⟩ w31 hr (H : Cx w0 fp0 S0 w31 [Bx b3 [(.int .i64 0), (.int .i64 0), (.int .i64 0), (.slice none 0 0), (.slice none 0 0), (.slice none 0 0), (.slice none 0 0)], Bx b0 [(.int .i64 ((y4.length : Nat) : Int)), (.int .i64 ((a0_1.length : Nat) : Int)), (.int .i64 a1_0), (g7_0).v, (.slice none 0 0), (g7_1).v, (h3).v], E (List (List Int)) s3_0 g7_0, E (List (List Int)) s3_1 g7_1, E (List (List Int)) y0_1 h3, Es (List (List Int)) s0 g3, Bx b1 [(.int .i64 a10), (g5).v], E (List (Sh (List Int))) r1 g5, E (List Int) y4 h7])
    subst hr
    refine boolE (z := false) geLen ?_
    refine sq ?_
    obtain ⟨r3, f37, f38⟩ := bindS f22; clear f22
    refine cut (fun (q1 : List (List Int) × Hd) => [(4, (.pointer (some ⟨b3, 0, none⟩))), (9, (.pointer (some ⟨b0, 0, none⟩)))]) (fun (q1 : List (List Int) × Hd) w' => .inl q1.1 = r3 ∧ Cx w0 fp0 S0 w' [Bx b3 [(.int .i64 0), (.int .i64 0), (.int .i64 0), (.slice none 0 0), (.slice none 0 0), (.slice none 0 0), (.slice none 0 0)], Bx b0 [(.int .i64 ((y4.length : Nat) : Int)), (.int .i64 ((a0_1.length : Nat) : Int)), (.int .i64 a1_0), (g7_0).v, (q1.2).v, (g7_1).v, (h3).v], E (List (List Int)) s3_0 g7_0, E (List (List Int)) q1.1 q1.2, E (List (List Int)) s3_1 g7_1, E (List (List Int)) y0_1 h3]) ?_ ?_
    ·
     replace H := H.nil (α := List Int)
     refine loopW _ (fun (s4 : List (List Int) × Int) (g8 : Hd) => [(0, (.int .i64 p_)), (4, (.pointer (some ⟨b3, 0, none⟩))), (6, (.int .i64 a7)), (7, (.int .i64 ((a0_1.length : Nat) : Int))), (9, (.pointer (some ⟨b0, 0, none⟩))), (10, (g3).v), (12, (.pointer (some ⟨b1, 0, none⟩))), (19, (.int .i64 s4.2))]) (fun (s4 : List (List Int) × Int) (g8 : Hd) w' => Cx w0 fp0 S0 w' [Bx b3 [(.int .i64 0), (.int .i64 0), (.int .i64 0), (.slice none 0 0), (.slice none 0 0), (.slice none 0 0), (.slice none 0 0)], Bx b0 [(.int .i64 ((y4.length : Nat) : Int)), (.int .i64 ((a0_1.length : Nat) : Int)), (.int .i64 a1_0), (g7_0).v, (g8).v, (g7_1).v, (h3).v], E (List (List Int)) s3_0 g7_0, E (List (List Int)) s4.1 g8, E (List (List Int)) s3_1 g7_1, E (List (List Int)) y0_1 h3, Es (List (List Int)) s0 g3, Bx b1 [(.int .i64 a10), (g5).v], E (List (Sh (List Int))) r1 g5]) ([], 0) nilH f37 ⟨rfl, rfl, rfl, rfl, rfl, rfl, rfl, rfl, trivial⟩ (H.sel [1, 2, 3, 0, 4, 5, 6, 7, 8] rfl) ?_
     ·
      clear H
      rintro T5 ⟨s4_0, s4_1⟩ g8 w32 o2 (H : Cx w0 fp0 S0 w32 [Bx b3 [(.int .i64 0), (.int .i64 0), (.int .i64 0), (.slice none 0 0), (.slice none 0 0), (.slice none 0 0), (.slice none 0 0)], Bx b0 [(.int .i64 ((y4.length : Nat) : Int)), (.int .i64 ((a0_1.length : Nat) : Int)), (.int .i64 a1_0), (g7_0).v, (g8).v, (g7_1).v, (h3).v], E (List (List Int)) s3_0 g7_0, E (List (List Int)) s4_0 g8, E (List (List Int)) s3_1 g7_1, E (List (List Int)) y0_1 h3, Es (List (List Int)) s0 g3, Bx b1 [(.int .i64 a10), (g5).v], E (List (Sh (List Int))) r1 g5]) hrt f39
      refine sq ?_
      obtain ⟨a23, e, f40⟩ := bindS f39; clear f39
      refine boolO e ?_; clear e
      cases a23
      ·
       have f41 := condF f40; clear f40
       have hs := Option.some.inj f41; subst hs; clear f41
       have f42 : some _ = some _ := congrArg some (hrt _ rfl).symm
       exact ⟨(s4_0, g8), ⟨rfl, rfl, trivial⟩, Option.some.inj f42, H.sel [0, 1, 2, 3, 4, 5] rfl⟩
      ·
       have f43 := condT f40; clear f40
       obtain ⟨r4, f44, f45⟩ := bindS f43; clear f43
       refine cut (fun (q2 : List (List Int) × Hd) => [(0, (.int .i64 p_)), (4, (.pointer (some ⟨b3, 0, none⟩))), (6, (.int .i64 a7)), (7, (.int .i64 ((a0_1.length : Nat) : Int))), (9, (.pointer (some ⟨b0, 0, none⟩))), (10, (g3).v), (12, (.pointer (some ⟨b1, 0, none⟩))), (19, (.int .i64 s4_1))]) (fun (q2 : List (List Int) × Hd) w' => .inl q2.1 = r4 ∧ Cx w0 fp0 S0 w' [Bx b3 [(.int .i64 0), (.int .i64 0), (.int .i64 0), (.slice none 0 0), (.slice none 0 0), (.slice none 0 0), (.slice none 0 0)], Bx b0 [(.int .i64 ((y4.length : Nat) : Int)), (.int .i64 ((a0_1.length : Nat) : Int)), (.int .i64 a1_0), (g7_0).v, (q2.2).v, (g7_1).v, (h3).v], E (List (List Int)) s3_0 g7_0, E (List (List Int)) q2.1 q2.2, E (List (List Int)) s3_1 g7_1, E (List (List Int)) y0_1 h3, Es (List (List Int)) s0 g3, Bx b1 [(.int .i64 a10), (g5).v], E (List (Sh (List Int))) r1 g5]) ?_ ?_
       ·
        refine sq ?_
        obtain ⟨a24, e, f46⟩ := bindS f44; clear f44
        refine boolO e ?_; clear e
        cases a24
        ·
         have f47 := condF f46; clear f46
         refine heldX H [] (.fst 0 (.fst 2 (.fst 3 (.fst 4 (.fst 1 (.fst 5 (.act 6 (.fst 7 (.fst 8 (.fst 9 (.fst 10 (.fst 11 .done)))))))))))) mixed [] trivial (by kernel_rfl) ?_
         clear H; intro w33 H
         have hX : Ext w33 w33 := Upd.refl _ _
         have H0 := H
         obtain ⟨a25, e, f48⟩ := bindS f47; clear f47
         have HH := H; clear H; obtain ⟨p8, m8, h21, c44, c45, c46, c47, H⟩ := HH.elL 6 rfl e; clear HH
         clear e
         refine idxE c44 c45 c46 ?_; clear c44 c45 c46
         refine loadNX [(.int .i64 a10), (g5).v] rfl (fun j u hj => H.bx 8 rfl hj) ?_
         refine load1X c47 ?_; clear c47
         obtain ⟨y7, e, f49⟩ := bindS f48; clear f48
         obtain ⟨y7_0, y7_1⟩ := y7
         have ey1100 := e; clear e
         refine callFx (spec_mxSolve_c p_ a10 r1 g5 a25 h21 y7_0 y7_1 ey1100) H ⟨Vw.part (β := List (List Int)) (Vw.own (α := List (Sh (List Int))) 9 rfl) r1 g5 (fun S h => h), Vw.sh 0 rfl, trivial⟩ ?_; clear H ey1100
         rintro _ _ w34 ⟨h22, rfl, rfl⟩ hx H
         replace hX := hX.trans0 hx; clear hx
         refine hold hX ?_
         refine sq ?_
         obtain ⟨a26, e, f50⟩ := bindS f49; clear f49
         refine boolO e ?_; clear e
         cases a26
         ·
          have f51 := condF f50; clear f50
          refine fld gok rfl rfl rfl rfl ?_
          refine load1 (H.bx 3 rfl (j := 4) rfl) ?_
          refine lit1 (α := List Int) (g := h22) gok rfl rfl rfl rfl rfl H ?_; clear H; intro h23 w35 hx H
          clear hx
          obtain ⟨a27, e, f52⟩ := bindS f51; clear f51
          replace H := H.sel [5, 0, 1, 2, 3, 4, 6, 7, 8, 9, 10] rfl
          refine append_ (α := List Int) gok rfl rfl rfl rfl H e ?_; clear e H; intro h24 w36 H
          refine fld gok rfl rfl rfl rfl ?_
          replace H := H.sel [3, 0, 1, 2, 4, 5, 6, 7, 8, 9] rfl
          refine stB (j := 4) H rfl rfl ?_; clear H; intro w37 H
          exact ⟨(a27, h24), ⟨rfl, rfl, rfl, rfl, rfl, rfl, rfl, rfl, trivial⟩, Option.some.inj f52, H.sel [3, 0, 4, 1, 5, 6, 7, 8, 9] rfl⟩
         ·
          have f53 := condT f50; clear f50
          refine build_ (cs := #[(.int .i64 0), (.int .i64 0), (.int .i64 0), (.slice none 0 0), (.slice none 0 0), (.slice none 0 0), (.slice none 0 0)]) gok rfl rfl rfl ?_
          replace H := H.sel [2, 0, 1, 3, 4, 5, 6, 7, 8, 9, 10] rfl
          refine stA gok [(.int .i64 0), (.int .i64 0), (.int .i64 0), (.slice none 0 0), (.slice none 0 0), (.slice none 0 0), (.slice none 0 0)] rfl H rfl rfl rfl ?_; clear H; intro w38 H
          have hs := Option.some.inj f53; subst hs; clear f53
          have f54 : some _ = some _ := f45; clear f45
          have hs := Option.some.inj f54; subst hs; clear f54
          have f55 : some _ = some _ := congrArg some (hrt _ rfl).symm
          have hs := Option.some.inj f55; subst hs; clear f55
          have f56 : some _ = some _ := f38; clear f38
          refine loadN [(.int .i64 0), (.int .i64 0), (.int .i64 0), (.slice none 0 0), (.slice none 0 0), (.slice none 0 0), (.slice none 0 0)] rfl (fun j u hj => H.bx 0 rfl hj) ?_
          replace H := H.nil (α := List Int)
          replace H := H.nil (α := List Int)
          replace H := H.nil (α := List Int)
          replace H := H.nil (α := List Int)
          cases f56
          exact ⟨_, _, rfl, ⟨nilH, nilH, nilH, nilH, rfl, rfl⟩, (H.sel [3, 2, 1, 0] rfl).close ⟨cloE, cloE, cloE, cloE, trivial⟩⟩
        ·
         have f57 := condT f46; clear f46
         refine fld gok rfl rfl rfl rfl ?_
         refine load1 (H.bx 1 rfl (j := 4) rfl) ?_
         replace H := H.nil (α := Int)
         refine lit1 (α := List Int) (g := nilH) gok rfl rfl rfl rfl rfl H ?_; clear H; intro h25 w39 hx H
         clear hx
         obtain ⟨a29, e, f58⟩ := bindS f57; clear f57
         replace H := H.sel [4, 0, 1, 2, 3, 5, 6, 7, 8, 9] rfl
         refine append_ (α := List Int) gok rfl rfl rfl rfl H e ?_; clear e H; intro h26 w40 H
         refine fld gok rfl rfl rfl rfl ?_
         replace H := H.sel [2, 0, 1, 3, 4, 5, 6, 7, 8] rfl
         refine stB (j := 4) H rfl rfl ?_; clear H; intro w41 H
         exact ⟨(a29, h26), ⟨rfl, rfl, rfl, rfl, rfl, rfl, rfl, rfl, trivial⟩, Option.some.inj f58, H.sel [2, 0, 3, 1, 4, 5, 6, 7, 8] rfl⟩
       ·
        clear f44 H
        rintro T6 ⟨s5, g9⟩ w42 ⟨hr, (H : Cx w0 fp0 S0 w42 [Bx b3 [(.int .i64 0), (.int .i64 0), (.int .i64 0), (.slice none 0 0), (.slice none 0 0), (.slice none 0 0), (.slice none 0 0)], Bx b0 [(.int .i64 ((y4.length : Nat) : Int)), (.int .i64 ((a0_1.length : Nat) : Int)), (.int .i64 a1_0), (g7_0).v, (g9).v, (g7_1).v, (h3).v], E (List (List Int)) s3_0 g7_0, E (List (List Int)) s5 g9, E (List (List Int)) s3_1 g7_1, E (List (List Int)) y0_1 h3, Es (List (List Int)) s0 g3, Bx b1 [(.int .i64 a10), (g5).v], E (List (Sh (List Int))) r1 g5])⟩
        subst hr
        obtain ⟨a30, e, f59⟩ := bindS f45; clear f45
        refine arO e ?_; clear e
        have hs := Option.some.inj f59; subst hs; clear f59
        exact ⟨(s5, a30), g9, rfl, ⟨rfl, rfl, rfl, rfl, rfl, rfl, rfl, rfl, trivial⟩, H.sel [0, 1, 2, 3, 4, 5, 6, 7, 8] rfl⟩
    ·
     clear f37 H
     rintro T7 ⟨s6, g10⟩ w43 ⟨hr, (H : Cx w0 fp0 S0 w43 [Bx b3 [(.int .i64 0), (.int .i64 0), (.int .i64 0), (.slice none 0 0), (.slice none 0 0), (.slice none 0 0), (.slice none 0 0)], Bx b0 [(.int .i64 ((y4.length : Nat) : Int)), (.int .i64 ((a0_1.length : Nat) : Int)), (.int .i64 a1_0), (g7_0).v, (g10).v, (g7_1).v, (h3).v], E (List (List Int)) s3_0 g7_0, E (List (List Int)) s6 g10, E (List (List Int)) s3_1 g7_1, E (List (List Int)) y0_1 h3])⟩
     subst hr
     refine loadN [(.int .i64 ((y4.length : Nat) : Int)), (.int .i64 ((a0_1.length : Nat) : Int)), (.int .i64 a1_0), (g7_0).v, (g10).v, (g7_1).v, (h3).v] rfl (fun j u hj => H.bx 1 rfl hj) ?_
     refine stA gok [(.int .i64 ((y4.length : Nat) : Int)), (.int .i64 ((a0_1.length : Nat) : Int)), (.int .i64 a1_0), (g7_0).v, (g10).v, (g7_1).v, (h3).v] rfl H rfl rfl rfl ?_; clear H; intro w44 H
     refine loadN [(.int .i64 ((y4.length : Nat) : Int)), (.int .i64 ((a0_1.length : Nat) : Int)), (.int .i64 a1_0), (g7_0).v, (g10).v, (g7_1).v, (h3).v] rfl (fun j u hj => H.bx 0 rfl hj) ?_
     cases f38
     exact ⟨_, _, rfl, ⟨g7_0, g10, g7_1, h3, rfl, rfl⟩, (H.sel [2, 3, 4, 5] rfl).close ⟨cloE, cloE, cloE, cloE, trivial⟩⟩

theorem spec_spRows_c (p_ : Int) (size_ : Int) (rows_ : List (List Int)) (rows_h : Hd) (y : Bool) (hF : F_spec_spRows p_ size_ rows_ = some y) :
  ConF Tryd.prog 109 #[(.int .i64 p_), (.int .i64 size_), (rows_h).v] [Es (List (List Int)) rows_ rows_h] [] (fun v Γ' => v = (.bool y) ∧ Γ' = []) := by
 intro w0 S0 fp0 hI hS
 have H : Cx w0 fp0 S0 w0 [Es (List (List Int)) rows_ rows_h] := Cx.start hI hS
 clear hI hS
 refine enterC (args := [_, _, _]) gok Tryd.func109 rfl _ rfl rfl rfl ?_
 refine sq ?_
 refine lenE (H.rs (α := List (List Int)) 0 rfl).len ?_
 have x0 := (H.rs (α := List (List Int)) 0 rfl).max
 obtain ⟨r0, e, f0⟩ := bindS hF; clear hF
 refine loopO _ rows_.length (fun (k2 : Nat) (_ : Unit) (_ : Unit) => [(0, (.int .i64 p_)), (1, (.int .i64 size_)), (9, (rows_h).v), (10, (.int .i64 ((rows_.length : Nat) : Int))), (11, (.int .i64 ((k2 : Nat) : Int)))]) (fun _ (_ : Unit) (_ : Unit) w' => Cx w0 fp0 S0 w' [Es (List (List Int)) rows_ rows_h]) () () e ⟨rfl, rfl, rfl, rfl, rfl, trivial⟩ (H.sel [0] rfl) ?_ ?_
 ·
  clear H e
  rintro T0 k2 _ _ w1 o0 hk (H : Cx w0 fp0 S0 w1 [Es (List (List Int)) rows_ rows_h]) hrt f1
  refine boolE (z := true) (ltLen hk) ?_
  refine sq ?_
  refine sq ?_
  obtain ⟨a0, e, f2⟩ := bindS f1; clear f1
  have HH := H; clear H; obtain ⟨p0, m0, h0, c0, c1, c2, c3, H⟩ := HH.elL 0 rfl e; clear HH
  clear e
  refine idxE c0 c1 c2 ?_; clear c0 c1 c2
  refine load1 c3 ?_; clear c3
  obtain ⟨r1, f3, f4⟩ := bindS f2; clear f2
  refine cut (fun (q0 : Bool) => [(0, (.int .i64 p_)), (1, (.int .i64 size_)), (9, (rows_h).v), (10, (.int .i64 ((rows_.length : Nat) : Int))), (11, (.int .i64 ((k2 : Nat) : Int))), (24, (.bool q0))]) (fun (q0 : Bool) w' => q0 = r1 ∧ Cx w0 fp0 S0 w' [Es (List (List Int)) rows_ rows_h]) ?_ ?_
  ·
   refine lenE (H.rs (α := List Int) 0 rfl).len ?_
   obtain ⟨a1, e, f5⟩ := bindS f3; clear f3
   refine boolO e ?_; clear e
   cases a1
   ·
    have f6 := condF f5; clear f5
    obtain ⟨y0, e, f7⟩ := bindS f6; clear f6
    have ey80 := e; clear e
    refine callF (spec_fdIn_c p_ a0 h0 y0 ey80) (Γi := []) H ⟨Vw.sh 0 rfl, trivial⟩ ?_; clear H ey80
    rintro _ _ w2 ⟨rfl, rfl⟩ H
    obtain ⟨a2, e, f8⟩ := bindS f7; clear f7
    refine boolO e ?_; clear e
    exact ⟨a2, ⟨rfl, rfl, rfl, rfl, rfl, rfl, trivial⟩, Option.some.inj f8, H.sel [1] rfl⟩
   ·
    have f9 := condT f5; clear f5
    exact ⟨true, ⟨rfl, rfl, rfl, rfl, rfl, rfl, trivial⟩, Option.some.inj f9, H.sel [1] rfl⟩
  ·
   clear f3 H
   rintro T1 s0 w3 ⟨hr, (H : Cx w0 fp0 S0 w3 [Es (List (List Int)) rows_ rows_h])⟩
   subst hr
   cases s0
   ·
    have f10 := condF f4; clear f4
    refine arK hk x0 ?_
    have hs := Option.some.inj f10; subst hs; clear f10
    exact ⟨(), (), rfl, ⟨rfl, rfl, rfl, rfl, rfl, trivial⟩, H.sel [0] rfl⟩
   ·
    have f11 := condT f4; clear f4
    have hs := Option.some.inj f11; subst hs; clear f11
    have hr := hrt _ rfl; subst hr
    have f12 : some _ = some _ := f0
    cases f12
    exact ⟨_, _, rfl, ⟨rfl, rfl⟩, (H.sel [] rfl).close trivial⟩
 ·
  clear H e
  rintro T2 _ _ w4 hr (H : Cx w0 fp0 S0 w4 [Es (List (List Int)) rows_ rows_h])
  subst hr
  refine boolE (z := false) geLen ?_
  refine sq ?_
  cases f0
  exact ⟨_, _, rfl, ⟨rfl, rfl⟩, (H.sel [] rfl).close trivial⟩

theorem spec_ssTable_c (p_ : Int) (rows_ : Int) (cols_ : Int) (m_ : List (List Int)) (m_h : Hd) (y : Bool) (hF : F_spec_ssTable p_ rows_ cols_ m_ = some y) :
  ConF Tryd.prog 84 #[(.int .i64 p_), (.int .i64 rows_), (.int .i64 cols_), (m_h).v] [Es (List (List Int)) m_ m_h] [] (fun v Γ' => v = (.bool y) ∧ Γ' = []) := by
 intro w0 S0 fp0 hI hS
 have H : Cx w0 fp0 S0 w0 [Es (List (List Int)) m_ m_h] := Cx.start hI hS
 clear hI hS
 refine enterC (args := [_, _, _, _]) gok Tryd.func84 rfl _ rfl rfl rfl ?_
 obtain ⟨r0, f0, f1⟩ := bindS hF; clear hF
 refine cut (fun (q0 : Bool) => [(8, (.bool q0))]) (fun (q0 : Bool) w' => q0 = r0 ∧ Cx w0 fp0 S0 w' []) ?_ ?_
 ·
  refine lenE (H.rs (α := List (List Int)) 0 rfl).len ?_
  obtain ⟨a0, e, f2⟩ := bindS f0; clear f0
  refine boolO e ?_; clear e
  cases a0
  ·
   have f3 := condF f2; clear f2
   exact ⟨false, ⟨rfl, trivial⟩, Option.some.inj f3, H.sel [] rfl⟩
  ·
   have f4 := condT f2; clear f2
   obtain ⟨y0, e, f5⟩ := bindS f4; clear f4
   have ey19 := e; clear e
   refine callF (spec_spRows_c p_ cols_ m_ m_h y0 ey19) (Γi := []) H ⟨Vw.sh 0 rfl, trivial⟩ ?_; clear H ey19
   rintro _ _ w1 ⟨rfl, rfl⟩ H
   exact ⟨y0, ⟨rfl, trivial⟩, Option.some.inj f5, H.sel [] rfl⟩
 ·
  clear f0 H
  rintro T0 s9 w2 ⟨hr, (H : Cx w0 fp0 S0 w2 [])⟩
  subst hr
  cases f1
  exact ⟨_, _, rfl, ⟨rfl, rfl⟩, (H.sel [] rfl).close trivial⟩
end Go.Proofs.YtocpeclcoikdpaaDoor
