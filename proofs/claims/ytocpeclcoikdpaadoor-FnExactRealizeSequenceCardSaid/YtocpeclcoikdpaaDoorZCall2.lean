/-
 Contracts, printed by a program (wip/y/gen.py): each function of Go computes its partial function. Condition of each: its partial function yields a value.
-/
import Derived.Test.YtocpeclcoikdpaaDoorZCall
namespace Go.Proofs.YtocpeclcoikdpaaDoor
open Go Go.Proofs.YtocpeclcoikdpaaDoor.RW
set_option maxRecDepth 100000
set_option linter.unusedVariables false

theorem spec_ssGood_c (p_ : Int) (s__0 : Int) (s__1 : Int) (s__2 : Int) (s__3 : List (List Int)) (s__3h : Hd) (s__4 : List (List Int)) (s__4h : Hd) (s__5 : List (List Int)) (s__5h : Hd) (s__6 : List (List Int)) (s__6h : Hd) (y : Bool) (hF : F_spec_ssGood p_ (s__0, s__1, s__2, s__3, s__4, s__5, s__6) = some y) :
  ConF Tryd.prog 48 #[(.int .i64 p_), (.agg #[(.int .i64 s__0), (.int .i64 s__1), (.int .i64 s__2), (s__3h).v, (s__4h).v, (s__5h).v, (s__6h).v])] [Es (List (List Int)) s__3 s__3h, Es (List (List Int)) s__4 s__4h, Es (List (List Int)) s__5 s__5h, Es (List (List Int)) s__6 s__6h] [] (fun v Γ' => v = (.bool y) ∧ Γ' = []) := by
 intro w0 S0 fp0 hI hS
 have H : Cx w0 fp0 S0 w0 [Es (List (List Int)) s__3 s__3h, Es (List (List Int)) s__4 s__4h, Es (List (List Int)) s__5 s__5h, Es (List (List Int)) s__6 s__6h] := Cx.start hI hS
 clear hI hS
 refine enterC (args := [_, _]) gok Tryd.func48 rfl _ rfl rfl rfl ?_
 refine box_ H ?_; clear H; intro b6 w5 hx H
 clear hx
 obtain ⟨r0, f0, f1⟩ := bindS hF; clear hF
 refine cut (fun (q0 : Bool) => [(4, (.bool q0))]) (fun (q0 : Bool) w' => q0 = r0 ∧ Cx w0 fp0 S0 w' []) ?_ ?_
 ·
  obtain ⟨y0, e, f2⟩ := bindS f0; clear f0
  have ey52 := e; clear e
  refine callF (spec_fdGood_c p_ y0 ey52) (Γi := []) H trivial ?_; clear H ey52
  rintro _ _ w1 ⟨rfl, rfl⟩ H
  cases y0
  ·
   have f3 := condF f2; clear f2
   exact ⟨false, ⟨rfl, trivial⟩, Option.some.inj f3, H.sel [] rfl⟩
  ·
   have f4 := condT f2; clear f2
   refine fld gok rfl rfl rfl rfl ?_
   refine load1 (H.bx 0 rfl (j := 0) rfl) ?_
   obtain ⟨y1, e, f5⟩ := bindS f4; clear f4
   have ey57 := e; clear e
   refine callF (spec_l1In_c s__0 0 24 y1 ey57) (Γi := []) H trivial ?_; clear H ey57
   rintro _ _ w2 ⟨rfl, rfl⟩ H
   cases y1
   ·
    have f6 := condF f5; clear f5
    exact ⟨false, ⟨rfl, trivial⟩, Option.some.inj f6, H.sel [] rfl⟩
   ·
    have f7 := condT f5; clear f5
    refine fld gok rfl rfl rfl rfl ?_
    refine load1 (H.bx 0 rfl (j := 1) rfl) ?_
    obtain ⟨y2, e, f8⟩ := bindS f7; clear f7
    have ey62 := e; clear e
    refine callF (spec_l1In_c s__1 0 8 y2 ey62) (Γi := []) H trivial ?_; clear H ey62
    rintro _ _ w3 ⟨rfl, rfl⟩ H
    cases y2
    ·
     have f9 := condF f8; clear f8
     exact ⟨false, ⟨rfl, trivial⟩, Option.some.inj f9, H.sel [] rfl⟩
    ·
     have f10 := condT f8; clear f8
     refine fld gok rfl rfl rfl rfl ?_
     refine load1 (H.bx 0 rfl (j := 2) rfl) ?_
     obtain ⟨y3, e, f11⟩ := bindS f10; clear f10
     have ey67 := e; clear e
     refine callF (spec_l1In_c s__2 0 8 y3 ey67) (Γi := []) H trivial ?_; clear H ey67
     rintro _ _ w4 ⟨rfl, rfl⟩ H
     cases y3
     ·
      have f12 := condF f11; clear f11
      exact ⟨false, ⟨rfl, trivial⟩, Option.some.inj f12, H.sel [] rfl⟩
     ·
      have f13 := condT f11; clear f11
      refine fld gok rfl rfl rfl rfl ?_
      refine load1 (H.bx 0 rfl (j := 0) rfl) ?_
      refine fld gok rfl rfl rfl rfl ?_
      refine load1 (H.bx 0 rfl (j := 0) rfl) ?_
      refine fld gok rfl rfl rfl rfl ?_
      refine load1 (H.bx 0 rfl (j := 3) rfl) ?_
      obtain ⟨y4, e, f14⟩ := bindS f13; clear f13
      have ey72 := e; clear e
      refine callF (spec_ssTable_c p_ s__0 s__0 s__3 s__3h y4 ey72) (Γi := []) H ⟨Vw.sh 1 rfl, trivial⟩ ?_; clear H ey72
      rintro _ _ w6 ⟨rfl, rfl⟩ H
      cases y4
      ·
       have f15 := condF f14; clear f14
       exact ⟨false, ⟨rfl, trivial⟩, Option.some.inj f15, H.sel [] rfl⟩
      ·
       have f16 := condT f14; clear f14
       refine fld gok rfl rfl rfl rfl ?_
       refine load1 (H.bx 0 rfl (j := 1) rfl) ?_
       refine fld gok rfl rfl rfl rfl ?_
       refine load1 (H.bx 0 rfl (j := 0) rfl) ?_
       refine fld gok rfl rfl rfl rfl ?_
       refine load1 (H.bx 0 rfl (j := 4) rfl) ?_
       obtain ⟨y5, e, f17⟩ := bindS f16; clear f16
       have ey77 := e; clear e
       refine callF (spec_ssTable_c p_ s__1 s__0 s__4 s__4h y5 ey77) (Γi := []) H ⟨Vw.sh 2 rfl, trivial⟩ ?_; clear H ey77
       rintro _ _ w7 ⟨rfl, rfl⟩ H
       cases y5
       ·
        have f18 := condF f17; clear f17
        exact ⟨false, ⟨rfl, trivial⟩, Option.some.inj f18, H.sel [] rfl⟩
       ·
        have f19 := condT f17; clear f17
        refine fld gok rfl rfl rfl rfl ?_
        refine load1 (H.bx 0 rfl (j := 0) rfl) ?_
        refine fld gok rfl rfl rfl rfl ?_
        refine load1 (H.bx 0 rfl (j := 2) rfl) ?_
        refine fld gok rfl rfl rfl rfl ?_
        refine load1 (H.bx 0 rfl (j := 5) rfl) ?_
        obtain ⟨y6, e, f20⟩ := bindS f19; clear f19
        have ey82 := e; clear e
        refine callF (spec_ssTable_c p_ s__0 s__2 s__5 s__5h y6 ey82) (Γi := []) H ⟨Vw.sh 3 rfl, trivial⟩ ?_; clear H ey82
        rintro _ _ w8 ⟨rfl, rfl⟩ H
        cases y6
        ·
         have f21 := condF f20; clear f20
         exact ⟨false, ⟨rfl, trivial⟩, Option.some.inj f21, H.sel [] rfl⟩
        ·
         have f22 := condT f20; clear f20
         refine fld gok rfl rfl rfl rfl ?_
         refine load1 (H.bx 0 rfl (j := 1) rfl) ?_
         refine fld gok rfl rfl rfl rfl ?_
         refine load1 (H.bx 0 rfl (j := 2) rfl) ?_
         refine fld gok rfl rfl rfl rfl ?_
         refine load1 (H.bx 0 rfl (j := 6) rfl) ?_
         obtain ⟨y7, e, f23⟩ := bindS f22; clear f22
         have ey87 := e; clear e
         refine callF (spec_ssTable_c p_ s__1 s__2 s__6 s__6h y7 ey87) (Γi := []) H ⟨Vw.sh 4 rfl, trivial⟩ ?_; clear H ey87
         rintro _ _ w9 ⟨rfl, rfl⟩ H
         exact ⟨y7, ⟨rfl, trivial⟩, Option.some.inj f23, H.sel [] rfl⟩
 ·
  clear f0 H
  rintro T0 s0 w10 ⟨hr, (H : Cx w0 fp0 S0 w10 [])⟩
  subst hr
  cases f1
  exact ⟨_, _, rfl, ⟨rfl, rfl⟩, (H.sel [] rfl).close trivial⟩

theorem spec_ssCopy_c (m_ : List (List Int)) (m_h : Hd) (y : List (List Int)) (hF : F_spec_ssCopy m_ = some y) :
  ConF Tryd.prog 31 #[(m_h).v] [Es (List (List Int)) m_ m_h] [] (fun v Γ' => ∃ z0 : Hd, v = (z0).v ∧ Γ' = [E (List (List Int)) y z0]) := by
 intro w0 S0 fp0 hI hS
 have H : Cx w0 fp0 S0 w0 [Es (List (List Int)) m_ m_h] := Cx.start hI hS
 clear hI hS
 refine enterC (args := [_]) gok Tryd.func31 rfl _ rfl rfl rfl ?_
 refine sq ?_
 refine lenE (H.rs (α := List (List Int)) 0 rfl).len ?_
 have x0 := (H.rs (α := List (List Int)) 0 rfl).max
 obtain ⟨r0, e, f0⟩ := bindS hF; clear hF
 replace H := H.nil (α := List Int)
 refine loopS _ m_.length (fun (k2 : Nat) (s0 : List (List Int)) (g0 : Hd) => [(3, (g0).v), (6, (m_h).v), (7, (.int .i64 ((m_.length : Nat) : Int))), (8, (.int .i64 ((k2 : Nat) : Int)))]) (fun _ (s0 : List (List Int)) (g0 : Hd) w' => Cx w0 fp0 S0 w' [E (List (List Int)) s0 g0, Es (List (List Int)) m_ m_h]) [] nilH e ⟨rfl, rfl, rfl, rfl, trivial⟩ (H.sel [0, 1] rfl) ?_ ?_
 ·
  clear H e
  rintro T0 k2 s0 g0 w1 o0 hk (H : Cx w0 fp0 S0 w1 [E (List (List Int)) s0 g0, Es (List (List Int)) m_ m_h]) f1
  refine boolE (z := true) (ltLen hk) ?_
  refine sq ?_
  refine sq ?_
  obtain ⟨a0, e, f2⟩ := bindS f1; clear f1
  have HH := H; clear H; obtain ⟨p0, m0, h0, c0, c1, c2, c3, H⟩ := HH.elL 1 rfl e; clear HH
  clear e
  refine idxE c0 c1 c2 ?_; clear c0 c1 c2
  refine load1 c3 ?_; clear c3
  obtain ⟨y0, e, f3⟩ := bindS f2; clear f2
  have ey76 := e; clear e
  refine callF (spec_l1Own_c a0 h0 y0 ey76) (Γi := []) H ⟨Vw.sh 0 rfl, trivial⟩ ?_; clear H ey76
  rintro _ _ w2 ⟨h1, rfl, rfl⟩ H
  refine lit1 (α := List Int) (g := h1) gok rfl rfl rfl rfl rfl H ?_; clear H; intro h2 w3 hx H
  clear hx
  obtain ⟨a1, e, f4⟩ := bindS f3; clear f3
  replace H := H.sel [2, 0, 1, 3] rfl
  refine append_ (α := List Int) gok rfl rfl rfl rfl H e ?_; clear e H; intro h3 w4 H
  refine arK hk x0 ?_
  have hs := Option.some.inj f4; subst hs; clear f4
  exact ⟨h3, ⟨rfl, rfl, rfl, rfl, trivial⟩, H.sel [0, 2] rfl⟩
 ·
  clear H e
  rintro T1 g1 w5 (H : Cx w0 fp0 S0 w5 [E (List (List Int)) r0 g1, Es (List (List Int)) m_ m_h])
  refine boolE (z := false) geLen ?_
  refine sq ?_
  cases f0
  exact ⟨_, _, rfl, ⟨g1, rfl, rfl⟩, (H.sel [0] rfl).close ⟨cloE, trivial⟩⟩

theorem spec_spSum_c (p_ : Int) (size_ : Int) (rows_ : List (List Int)) (rows_h : Hd) (coefs_ : List Int) (coefs_h : Hd) (y : List Int) (hF : F_spec_spSum p_ size_ rows_ coefs_ = some y) :
  ConF Tryd.prog 62 #[(.int .i64 p_), (.int .i64 size_), (rows_h).v, (coefs_h).v] [Es (List (List Int)) rows_ rows_h, Es (List Int) coefs_ coefs_h] [] (fun v Γ' => ∃ z0 : Hd, v = (z0).v ∧ Γ' = [E (List Int) y z0]) := by
 intro w0 S0 fp0 hI hS
 have H : Cx w0 fp0 S0 w0 [Es (List (List Int)) rows_ rows_h, Es (List Int) coefs_ coefs_h] := Cx.start hI hS
 clear hI hS
 refine enterC (args := [_, _, _, _]) gok Tryd.func62 rfl _ rfl rfl rfl ?_
 obtain ⟨a3, e, hF4⟩ := bindS hF; clear hF
 refine make_ (α := Int) gok rfl rfl rfl rfl (makeCO_of e) H ?_; clear e H; intro h6 w5 hx H
 clear hx
 refine sq ?_
 refine lenE (H.rs (α := List (List Int)) 1 rfl).len ?_
 have x0 := (H.rs (α := List (List Int)) 1 rfl).max
 obtain ⟨r0, e, f0⟩ := bindS hF4; clear hF4
 refine loopS _ rows_.length (fun (k8 : Nat) (s0 : List Int) (_ : Unit) => [(0, (.int .i64 p_)), (3, (coefs_h).v), (9, (h6).v), (16, (rows_h).v), (17, (.int .i64 ((rows_.length : Nat) : Int))), (18, (.int .i64 ((k8 : Nat) : Int)))]) (fun _ (s0 : List Int) (_ : Unit) w' => Cx w0 fp0 S0 w' [Es (List Int) coefs_ coefs_h, E (List Int) s0 h6, Es (List (List Int)) rows_ rows_h]) a3 () e ⟨rfl, rfl, rfl, rfl, rfl, rfl, trivial⟩ (H.sel [2, 0, 1] rfl) ?_ ?_
 ·
  clear H e
  rintro T0 k8 s0 _ w1 o0 hk (H : Cx w0 fp0 S0 w1 [Es (List Int) coefs_ coefs_h, E (List Int) s0 h6, Es (List (List Int)) rows_ rows_h]) f1
  refine boolE (z := true) (ltLen hk) ?_
  refine sq ?_
  refine sq ?_
  obtain ⟨a0, e, f2⟩ := bindS f1; clear f1
  have HH := H; clear H; obtain ⟨p0, m0, h0, c0, c1, c2, c3, H⟩ := HH.elL 2 rfl e; clear HH
  clear e
  refine idxE c0 c1 c2 ?_; clear c0 c1 c2
  refine load1 c3 ?_; clear c3
  refine lenE (H.rs (α := List Int) 0 rfl).len ?_
  have x1 := (H.rs (α := List Int) 0 rfl).max
  obtain ⟨r1, e, f3⟩ := bindS f2; clear f2
  refine loopS _ a0.length (fun (k0 : Nat) (s1 : List Int) (_ : Unit) => [(0, (.int .i64 p_)), (3, (coefs_h).v), (9, (h6).v), (10, (.int .i64 ((k8 : Nat) : Int))), (16, (rows_h).v), (17, (.int .i64 ((rows_.length : Nat) : Int))), (18, (.int .i64 ((k8 : Nat) : Int))), (23, (h0).v), (24, (.int .i64 ((a0.length : Nat) : Int))), (25, (.int .i64 ((k0 : Nat) : Int)))]) (fun _ (s1 : List Int) (_ : Unit) w' => Cx w0 fp0 S0 w' [Es (List Int) coefs_ coefs_h, E (List Int) s1 h6, Es (List (List Int)) rows_ rows_h, Es (List Int) a0 h0]) s0 () e ⟨rfl, rfl, rfl, rfl, rfl, rfl, rfl, rfl, rfl, rfl, trivial⟩ (H.sel [1, 2, 3, 0] rfl) ?_ ?_
  ·
   clear H e
   rintro T1 k0 s1 _ w2 o1 hk (H : Cx w0 fp0 S0 w2 [Es (List Int) coefs_ coefs_h, E (List Int) s1 h6, Es (List (List Int)) rows_ rows_h, Es (List Int) a0 h0]) f4
   refine boolE (z := true) (ltLen hk) ?_
   refine sq ?_
   refine sq ?_
   obtain ⟨a1, e, f5⟩ := bindS f4; clear f4
   obtain ⟨p1, m1, c4, c5, c6, c7⟩ := (H.rs (α := List Int) 3 rfl).at1 e; clear e
   refine idxE c4 c5 c6 ?_; clear c4 c5 c6
   refine load1 c7 ?_; clear c7
   refine heldX H [16] (.fst 0 (.fst 1 (.fst 2 (.fst 3 (.fst 4 (.fst 6 (.fst 7 (.fst 8 (.fst 10 (.fst 13 (.fst 5 (.fst 9 (.fst 11 (.fst 12 (.fst 14 (.fst 15 (.act 16 .done))))))))))))))))) mixed [] trivial (by kernel_rfl) ?_
   clear H; intro w3 H
   have hX : Ext w3 w3 := Upd.refl _ _
   have H0 := H
   obtain ⟨a2, e, f6⟩ := bindS f5; clear f5
   obtain ⟨p2, m2, c8, c9, c10, c11⟩ := (H.ro (α := List Int) 1 rfl).at1 e; clear e
   refine idxE c8 c9 c10 ?_; clear c8 c9 c10
   obtain ⟨a4, e, f7⟩ := bindS f6; clear f6
   obtain ⟨p3, m3, c12, c13, c14, c15⟩ := (H.rs (α := List Int) 0 rfl).at1 e; clear e
   refine idxE c12 c13 c14 ?_; clear c12 c13 c14
   refine load1X c11 ?_; clear c11
   refine load1X c15 ?_; clear c15
   obtain ⟨a5, e, f8⟩ := bindS f7; clear f7
   refine arO e ?_; clear e
   obtain ⟨a6, e, f9⟩ := bindS f8; clear f8
   refine arO e ?_; clear e
   obtain ⟨a7, e, f10⟩ := bindS f9; clear f9
   refine remO_ e ?_; clear e
   obtain ⟨a8, e, f11⟩ := bindS f10; clear f10
   have ea459 := e; clear e
   obtain ⟨p4, m4, c16, c17, c18⟩ := (H.ro (α := List Int) 1 rfl).setp ea459
   refine idxE c16 c17 c18 ?_
   replace H := H.sel [1, 0, 2, 3] rfl
   refine setS (α := Int) H c16 c17 ea459 ?_; clear H c16 c17 c18 ea459; intro w4 H
   refine hold trivial ?_
   refine arK hk x1 ?_
   have hs := Option.some.inj f11; subst hs; clear f11
   exact ⟨(), ⟨rfl, rfl, rfl, rfl, rfl, rfl, rfl, rfl, rfl, rfl, trivial⟩, H.sel [1, 0, 2, 3] rfl⟩
  ·
   clear H e
   rintro T2 _ w6 (H : Cx w0 fp0 S0 w6 [Es (List Int) coefs_ coefs_h, E (List Int) r1 h6, Es (List (List Int)) rows_ rows_h, Es (List Int) a0 h0])
   refine boolE (z := false) geLen ?_
   refine sq ?_
   refine arK hk x0 ?_
   have hs := Option.some.inj f3; subst hs; clear f3
   exact ⟨(), ⟨rfl, rfl, rfl, rfl, rfl, rfl, trivial⟩, H.sel [0, 1, 2] rfl⟩
 ·
  clear H e
  rintro T3 _ w7 (H : Cx w0 fp0 S0 w7 [Es (List Int) coefs_ coefs_h, E (List Int) r0 h6, Es (List (List Int)) rows_ rows_h])
  refine boolE (z := false) geLen ?_
  refine sq ?_
  cases f0
  exact ⟨_, _, rfl, ⟨h6, rfl, rfl⟩, (H.sel [1] rfl).close ⟨cloE, trivial⟩⟩

theorem spec_ssTimes_c (p_ : Int) (cols_ : Int) (rows_ : List (List Int)) (rows_h : Hd) (m_ : List (List Int)) (m_h : Hd) (y : List (List Int)) (hF : F_spec_ssTimes p_ cols_ rows_ m_ = some y) :
  ConF Tryd.prog 33 #[(.int .i64 p_), (.int .i64 cols_), (rows_h).v, (m_h).v] [Es (List (List Int)) rows_ rows_h, Es (List (List Int)) m_ m_h] [] (fun v Γ' => ∃ z0 : Hd, v = (z0).v ∧ Γ' = [E (List (List Int)) y z0]) := by
 intro w0 S0 fp0 hI hS
 have H : Cx w0 fp0 S0 w0 [Es (List (List Int)) rows_ rows_h, Es (List (List Int)) m_ m_h] := Cx.start hI hS
 clear hI hS
 refine enterC (args := [_, _, _, _]) gok Tryd.func33 rfl _ rfl rfl rfl ?_
 refine sq ?_
 refine lenE (H.rs (α := List (List Int)) 0 rfl).len ?_
 have x0 := (H.rs (α := List (List Int)) 0 rfl).max
 obtain ⟨r0, e, f0⟩ := bindS hF; clear hF
 replace H := H.nil (α := List Int)
 refine loopS _ rows_.length (fun (k3 : Nat) (s0 : List (List Int)) (g0 : Hd) => [(0, (.int .i64 p_)), (1, (.int .i64 cols_)), (3, (m_h).v), (9, (g0).v), (12, (rows_h).v), (13, (.int .i64 ((rows_.length : Nat) : Int))), (14, (.int .i64 ((k3 : Nat) : Int)))]) (fun _ (s0 : List (List Int)) (g0 : Hd) w' => Cx w0 fp0 S0 w' [Es (List (List Int)) m_ m_h, E (List (List Int)) s0 g0, Es (List (List Int)) rows_ rows_h]) [] nilH e ⟨rfl, rfl, rfl, rfl, rfl, rfl, rfl, trivial⟩ (H.sel [2, 0, 1] rfl) ?_ ?_
 ·
  clear H e
  rintro T0 k3 s0 g0 w1 o0 hk (H : Cx w0 fp0 S0 w1 [Es (List (List Int)) m_ m_h, E (List (List Int)) s0 g0, Es (List (List Int)) rows_ rows_h]) f1
  refine boolE (z := true) (ltLen hk) ?_
  refine sq ?_
  refine sq ?_
  obtain ⟨a0, e, f2⟩ := bindS f1; clear f1
  have HH := H; clear H; obtain ⟨p0, m0, h0, c0, c1, c2, c3, H⟩ := HH.elL 2 rfl e; clear HH
  clear e
  refine idxE c0 c1 c2 ?_; clear c0 c1 c2
  refine load1 c3 ?_; clear c3
  obtain ⟨y0, e, f3⟩ := bindS f2; clear f2
  have ey77 := e; clear e
  refine callF (spec_spSum_c p_ cols_ m_ m_h a0 h0 y0 ey77) (Γi := []) H ⟨Vw.sh 1 rfl, Vw.sh 0 rfl, trivial⟩ ?_; clear H ey77
  rintro _ _ w2 ⟨h1, rfl, rfl⟩ H
  refine lit1 (α := List Int) (g := h1) gok rfl rfl rfl rfl rfl H ?_; clear H; intro h2 w3 hx H
  clear hx
  obtain ⟨a1, e, f4⟩ := bindS f3; clear f3
  replace H := H.sel [3, 0, 1, 2, 4] rfl
  refine append_ (α := List Int) gok rfl rfl rfl rfl H e ?_; clear e H; intro h3 w4 H
  refine arK hk x0 ?_
  have hs := Option.some.inj f4; subst hs; clear f4
  exact ⟨h3, ⟨rfl, rfl, rfl, rfl, rfl, rfl, rfl, trivial⟩, H.sel [2, 0, 3] rfl⟩
 ·
  clear H e
  rintro T1 g1 w5 (H : Cx w0 fp0 S0 w5 [Es (List (List Int)) m_ m_h, E (List (List Int)) r0 g1, Es (List (List Int)) rows_ rows_h])
  refine boolE (z := false) geLen ?_
  refine sq ?_
  cases f0
  exact ⟨_, _, rfl, ⟨g1, rfl, rfl⟩, (H.sel [1] rfl).close ⟨cloE, trivial⟩⟩

theorem spec_ssMarkov_c (p_ : Int) (s__0 : Int) (s__1 : Int) (s__2 : Int) (s__3 : List (List Int)) (s__3h : Hd) (s__4 : List (List Int)) (s__4h : Hd) (s__5 : List (List Int)) (s__5h : Hd) (s__6 : List (List Int)) (s__6h : Hd) (n_ : Int) (y : List (Int × List (List Int))) (hF : F_spec_ssMarkov p_ (s__0, s__1, s__2, s__3, s__4, s__5, s__6) n_ = some y) :
  ConF Tryd.prog 56 #[(.int .i64 p_), (.agg #[(.int .i64 s__0), (.int .i64 s__1), (.int .i64 s__2), (s__3h).v, (s__4h).v, (s__5h).v, (s__6h).v]), (.int .i64 n_)] [Es (List (List Int)) s__3 s__3h, Es (List (List Int)) s__4 s__4h, Es (List (List Int)) s__5 s__5h, Es (List (List Int)) s__6 s__6h] [] (fun v Γ' => ∃ z0 : Hd, v = (z0).v ∧ Γ' = [E (List (Int × List (List Int))) y z0]) := by
 intro w0 S0 fp0 hI hS
 have H : Cx w0 fp0 S0 w0 [Es (List (List Int)) s__3 s__3h, Es (List (List Int)) s__4 s__4h, Es (List (List Int)) s__5 s__5h, Es (List (List Int)) s__6 s__6h] := Cx.start hI hS
 clear hI hS
 refine enterC (args := [_, _, _]) gok Tryd.func56 rfl _ rfl rfl rfl ?_
 refine box_ H ?_; clear H; intro b6 w5 hx H
 clear hx
 refine fld gok rfl rfl rfl rfl ?_
 refine load1 (H.bx 0 rfl (j := 4) rfl) ?_
 obtain ⟨y8, e, hF9⟩ := bindS hF; clear hF
 have ey8 := e; clear e
 refine callF (spec_ssCopy_c s__4 s__4h y8 ey8) (Γi := []) H ⟨Vw.sh 2 rfl, trivial⟩ ?_; clear H ey8
 rintro _ _ w1 ⟨h0, rfl, rfl⟩ H
 obtain ⟨r0, f0, f1⟩ := bindS hF9; clear hF9
 refine cut (fun (q0 : (List (Int × List (List Int))) × Hd) => [(7, (q0.2).v)]) (fun (q0 : (List (Int × List (List Int))) × Hd) w' => q0.1 = r0 ∧ Cx w0 fp0 S0 w' [E (List (Int × List (List Int))) q0.1 q0.2]) ?_ ?_
 ·
  replace H := H.nil (α := Int × List (List Int))
  refine loopW _ (fun (s0 : (List (Int × List (List Int))) × List (List Int) × Int) (g0 : Hd × Hd) => [(0, (.int .i64 p_)), (2, (.int .i64 n_)), (4, (.pointer (some ⟨b6, 0, none⟩))), (7, (g0.1).v), (8, (g0.2).v), (9, (.int .i64 s0.2.2))]) (fun (s0 : (List (Int × List (List Int))) × List (List Int) × Int) (g0 : Hd × Hd) w' => Cx w0 fp0 S0 w' [Bx b6 [(.int .i64 s__0), (.int .i64 s__1), (.int .i64 s__2), (s__3h).v, (s__4h).v, (s__5h).v, (s__6h).v], Es (List (List Int)) s__3 s__3h, Es (List (List Int)) s__4 s__4h, Es (List (List Int)) s__5 s__5h, Es (List (List Int)) s__6 s__6h, E (List (Int × List (List Int))) s0.1 g0.1, E (List (List Int)) s0.2.1 g0.2]) ([], y8, 0) (nilH, h0) f0 ⟨rfl, rfl, rfl, rfl, rfl, rfl, trivial⟩ (H.sel [2, 3, 4, 5, 6, 0, 1] rfl) ?_
  ·
   clear H
   rintro T0 ⟨s0_0, s0_1, s0_2⟩ ⟨g0_0, g0_1⟩ w2 o0 (H : Cx w0 fp0 S0 w2 [Bx b6 [(.int .i64 s__0), (.int .i64 s__1), (.int .i64 s__2), (s__3h).v, (s__4h).v, (s__5h).v, (s__6h).v], Es (List (List Int)) s__3 s__3h, Es (List (List Int)) s__4 s__4h, Es (List (List Int)) s__5 s__5h, Es (List (List Int)) s__6 s__6h, E (List (Int × List (List Int))) s0_0 g0_0, E (List (List Int)) s0_1 g0_1]) hrt f2
   refine sq ?_
   obtain ⟨a0, e, f3⟩ := bindS f2; clear f2
   refine boolO e ?_; clear e
   cases a0
   ·
    have f4 := condF f3; clear f3
    have hs := Option.some.inj f4; subst hs; clear f4
    have f5 : some _ = some _ := congrArg some (hrt _ rfl).symm
    exact ⟨(s0_0, g0_0), ⟨rfl, trivial⟩, Option.some.inj f5, H.sel [5] rfl⟩
   ·
    have f6 := condT f3; clear f3
    obtain ⟨r1, f7, f8⟩ := bindS f6; clear f6
    refine cut (fun (q1 : ((List (Int × List (List Int))) × List (List Int)) × (Hd × Hd)) => [(0, (.int .i64 p_)), (2, (.int .i64 n_)), (4, (.pointer (some ⟨b6, 0, none⟩))), (7, (q1.2.1).v), (8, (q1.2.2).v), (9, (.int .i64 s0_2))]) (fun (q1 : ((List (Int × List (List Int))) × List (List Int)) × (Hd × Hd)) w' => (q1.1.1, q1.1.2) = r1 ∧ Cx w0 fp0 S0 w' [Bx b6 [(.int .i64 s__0), (.int .i64 s__1), (.int .i64 s__2), (s__3h).v, (s__4h).v, (s__5h).v, (s__6h).v], Es (List (List Int)) s__3 s__3h, Es (List (List Int)) s__4 s__4h, Es (List (List Int)) s__5 s__5h, Es (List (List Int)) s__6 s__6h, E (List (Int × List (List Int))) q1.1.1 q1.2.1, E (List (List Int)) q1.1.2 q1.2.2]) ?_ ?_
    ·
     refine sq ?_
     obtain ⟨a1, e, f9⟩ := bindS f7; clear f7
     refine boolO e ?_; clear e
     cases a1
     ·
      have f10 := condF f9; clear f9
      refine heldX H [12, 13] (.fst 0 (.fst 1 (.fst 3 (.fst 4 (.fst 6 (.fst 7 (.fst 2 (.fst 5 (.fst 8 (.act 9 (.fst 10 (.act 11 (.act 12 (.act 13 .done)))))))))))))) mixed [] trivial (by kernel_rfl) ?_
      clear H; intro w3 H
      have hX : Ext w3 w3 := Upd.refl _ _
      have H0 := H
      refine anyH (fun _ => fld gok rfl rfl rfl rfl ⟨rfl, rfl⟩) ?_
      refine anyH (fun _ => fld gok rfl rfl rfl rfl ⟨rfl, rfl⟩) ?_
      refine anyH (fun _ => fld gok rfl rfl rfl rfl ⟨rfl, rfl⟩) ?_
      refine load1X (H.bx 0 rfl (j := 2) rfl) ?_
      refine load1X (H.bx 0 rfl (j := 2) rfl) ?_
      refine load1X (H.bx 0 rfl (j := 5) rfl) ?_
      obtain ⟨y0, e, f11⟩ := bindS f10; clear f10
      have ey613 := e; clear e
      refine callFx (spec_ssTimes_c p_ s__2 s0_1 g0_1 s__5 s__5h y0 ey613) H ⟨Vw.own 6 rfl, Vw.sh 3 rfl, trivial⟩ ?_; clear H ey613
      rintro _ _ w4 ⟨h1, rfl, rfl⟩ hx H
      replace hX := hX.trans0 hx; clear hx
      refine hold hX ?_
      refine anyH (fun _ => build_ (cs := #[(.int .i64 s__2), (h1).v]) gok rfl rfl rfl ⟨rfl, rfl⟩) ?_
      replace H := H.sc (α := Int) s__2
      replace H := H.join (α := Int) (β := List (List Int))
      refine lit1 (α := Int × List (List Int)) (g := ((), h1)) gok rfl rfl rfl rfl rfl H ?_; clear H; intro h2 w6 hx H
      replace hX := hX.trans0 hx; clear hx
      refine hold hX ?_
      obtain ⟨a2, e, f12⟩ := bindS f11; clear f11
      replace H := H.sel [6, 0, 1, 2, 3, 4, 5, 7] rfl
      refine append_ (α := Int × List (List Int)) gok rfl rfl rfl rfl H e ?_; clear e H; intro h3 w7 H
      refine hold trivial ?_
      refine hold trivial ?_
      refine fld gok rfl rfl rfl rfl ?_
      refine load1 (H.bx 1 rfl (j := 0) rfl) ?_
      refine fld gok rfl rfl rfl rfl ?_
      refine load1 (H.bx 1 rfl (j := 3) rfl) ?_
      obtain ⟨y1, e, f13⟩ := bindS f12; clear f12
      have ey628 := e; clear e
      refine callF (spec_ssTimes_c p_ s__0 s0_1 g0_1 s__3 s__3h y1 ey628) (Γi := []) H ⟨Vw.own 6 rfl, Vw.sh 2 rfl, trivial⟩ ?_; clear H ey628
      rintro _ _ w8 ⟨h4, rfl, rfl⟩ H
      exact ⟨((a2, y1), (h3, h4)), ⟨rfl, rfl, rfl, rfl, rfl, rfl, trivial⟩, Option.some.inj f13, H.sel [2, 3, 4, 5, 6, 1, 0] rfl⟩
     ·
      have f14 := condT f9; clear f9
      refine heldX H [8, 9] (.fst 0 (.fst 1 (.fst 3 (.fst 2 (.fst 4 (.act 5 (.fst 6 (.act 7 (.act 8 (.act 9 .done)))))))))) mixed [] trivial (by kernel_rfl) ?_
      clear H; intro w9 H
      have hX : Ext w9 w9 := Upd.refl _ _
      have H0 := H
      refine anyH (fun _ => fld gok rfl rfl rfl rfl ⟨rfl, rfl⟩) ?_
      refine anyH (fun _ => fld gok rfl rfl rfl rfl ⟨rfl, rfl⟩) ?_
      refine load1X (H.bx 0 rfl (j := 2) rfl) ?_
      refine load1X (H.bx 0 rfl (j := 6) rfl) ?_
      obtain ⟨y2, e, f15⟩ := bindS f14; clear f14
      have ey635 := e; clear e
      refine callFx (spec_ssCopy_c s__6 s__6h y2 ey635) H ⟨Vw.sh 4 rfl, trivial⟩ ?_; clear H ey635
      rintro _ _ w11 ⟨h5, rfl, rfl⟩ hx H
      replace hX := hX.trans0 hx; clear hx
      refine hold hX ?_
      refine anyH (fun _ => build_ (cs := #[(.int .i64 s__2), (h5).v]) gok rfl rfl rfl ⟨rfl, rfl⟩) ?_
      replace H := H.sc (α := Int) s__2
      replace H := H.join (α := Int) (β := List (List Int))
      refine lit1 (α := Int × List (List Int)) (g := ((), h5)) gok rfl rfl rfl rfl rfl H ?_; clear H; intro h6 w12 hx H
      replace hX := hX.trans0 hx; clear hx
      refine hold hX ?_
      obtain ⟨a3, e, f16⟩ := bindS f15; clear f15
      replace H := H.sel [6, 0, 1, 2, 3, 4, 5, 7] rfl
      refine append_ (α := Int × List (List Int)) gok rfl rfl rfl rfl H e ?_; clear e H; intro h7 w13 H
      refine hold trivial ?_
      refine hold trivial ?_
      exact ⟨((a3, s0_1), (h7, g0_1)), ⟨rfl, rfl, rfl, rfl, rfl, rfl, trivial⟩, Option.some.inj f16, H.sel [1, 2, 3, 4, 5, 0, 6] rfl⟩
    ·
     clear f7 H
     rintro T1 ⟨⟨s1_0, s1_1⟩, ⟨g1_0, g1_1⟩⟩ w14 ⟨hr, (H : Cx w0 fp0 S0 w14 [Bx b6 [(.int .i64 s__0), (.int .i64 s__1), (.int .i64 s__2), (s__3h).v, (s__4h).v, (s__5h).v, (s__6h).v], Es (List (List Int)) s__3 s__3h, Es (List (List Int)) s__4 s__4h, Es (List (List Int)) s__5 s__5h, Es (List (List Int)) s__6 s__6h, E (List (Int × List (List Int))) s1_0 g1_0, E (List (List Int)) s1_1 g1_1])⟩
     subst hr
     obtain ⟨a4, e, f17⟩ := bindS f8; clear f8
     refine arO e ?_; clear e
     have hs := Option.some.inj f17; subst hs; clear f17
     exact ⟨(s1_0, s1_1, a4), (g1_0, g1_1), rfl, ⟨rfl, rfl, rfl, rfl, rfl, rfl, trivial⟩, H.sel [0, 1, 2, 3, 4, 5, 6] rfl⟩
 ·
  clear f0 H
  rintro T2 ⟨s2, g2⟩ w15 ⟨hr, (H : Cx w0 fp0 S0 w15 [E (List (Int × List (List Int))) s2 g2])⟩
  subst hr
  cases f1
  exact ⟨_, _, rfl, ⟨g2, rfl, rfl⟩, (H.sel [0] rfl).close ⟨cloE, trivial⟩⟩

theorem spec_l1Same_c (a_ : List Int) (a_h : Hd) (b_ : List Int) (b_h : Hd) (y : Bool) (hF : F_spec_l1Same a_ b_ = some y) :
  ConF Tryd.prog 96 #[(a_h).v, (b_h).v] [Es (List Int) a_ a_h, Es (List Int) b_ b_h] [] (fun v Γ' => v = (.bool y) ∧ Γ' = []) := by
 intro w0 S0 fp0 hI hS
 have H : Cx w0 fp0 S0 w0 [Es (List Int) a_ a_h, Es (List Int) b_ b_h] := Cx.start hI hS
 clear hI hS
 refine enterC (args := [_, _]) gok Tryd.func96 rfl _ rfl rfl rfl ?_
 refine sq ?_
 refine lenE (H.rs (α := List Int) 0 rfl).len ?_
 refine lenE (H.rs (α := List Int) 1 rfl).len ?_
 obtain ⟨a3, e, hF4⟩ := bindS hF; clear hF
 refine boolO e ?_; clear e
 cases a3
 ·
  have hF5 := condF hF4; clear hF4
  refine sq ?_
  refine lenE (H.rs (α := List Int) 0 rfl).len ?_
  have x0 := (H.rs (α := List Int) 0 rfl).max
  obtain ⟨r0, e, f0⟩ := bindS hF5; clear hF5
  refine loopO _ a_.length (fun (k6 : Nat) (_ : Unit) (_ : Unit) => [(0, (a_h).v), (1, (b_h).v), (12, (.int .i64 ((a_.length : Nat) : Int))), (13, (.int .i64 ((k6 : Nat) : Int)))]) (fun _ (_ : Unit) (_ : Unit) w' => Cx w0 fp0 S0 w' [Es (List Int) a_ a_h, Es (List Int) b_ b_h]) () () e ⟨rfl, rfl, rfl, rfl, trivial⟩ (H.sel [0, 1] rfl) ?_ ?_
  ·
   clear H e
   rintro T0 k6 _ _ w1 o0 hk (H : Cx w0 fp0 S0 w1 [Es (List Int) a_ a_h, Es (List Int) b_ b_h]) hrt f1
   refine boolE (z := true) (ltLen hk) ?_
   refine sq ?_
   refine sq ?_
   refine heldX H [] (.fst 0 (.fst 1 (.fst 2 (.fst 4 (.fst 5 (.fst 6 (.fst 3 (.fst 7 (.fst 8 .done))))))))) mixed [] trivial (by kernel_rfl) ?_
   clear H; intro w2 H
   have hX : Ext w2 w2 := Upd.refl _ _
   have H0 := H
   obtain ⟨a0, e, f2⟩ := bindS f1; clear f1
   obtain ⟨p0, m0, c0, c1, c2, c3⟩ := (H.rs (α := List Int) 0 rfl).at1 e; clear e
   refine idxE c0 c1 c2 ?_; clear c0 c1 c2
   obtain ⟨a1, e, f3⟩ := bindS f2; clear f2
   obtain ⟨p1, m1, c4, c5, c6, c7⟩ := (H.rs (α := List Int) 1 rfl).at1 e; clear e
   refine idxE c4 c5 c6 ?_; clear c4 c5 c6
   refine load1X c3 ?_; clear c3
   refine load1X c7 ?_; clear c7
   obtain ⟨a2, e, f4⟩ := bindS f3; clear f3
   refine boolO e ?_; clear e
   cases a2
   ·
    have f5 := condF f4; clear f4
    refine arK hk x0 ?_
    have hs := Option.some.inj f5; subst hs; clear f5
    exact ⟨(), (), rfl, ⟨rfl, rfl, rfl, rfl, trivial⟩, H.sel [0, 1] rfl⟩
   ·
    have f6 := condT f4; clear f4
    have hs := Option.some.inj f6; subst hs; clear f6
    have hr := hrt _ rfl; subst hr
    have f7 : some _ = some _ := f0
    cases f7
    exact ⟨_, _, rfl, ⟨rfl, rfl⟩, (H.sel [] rfl).close trivial⟩
  ·
   clear H e
   rintro T1 _ _ w3 hr (H : Cx w0 fp0 S0 w3 [Es (List Int) a_ a_h, Es (List Int) b_ b_h])
   subst hr
   refine boolE (z := false) geLen ?_
   refine sq ?_
   cases f0
   exact ⟨_, _, rfl, ⟨rfl, rfl⟩, (H.sel [] rfl).close trivial⟩
 ·
  have f8 := condT hF4; clear hF4
  cases f8
  exact ⟨_, _, rfl, ⟨rfl, rfl⟩, (H.sel [] rfl).close trivial⟩

theorem spec_spSame_c (a_ : List (List Int)) (a_h : Hd) (b_ : List (List Int)) (b_h : Hd) (y : Bool) (hF : F_spec_spSame a_ b_ = some y) :
  ConF Tryd.prog 57 #[(a_h).v, (b_h).v] [Es (List (List Int)) a_ a_h, Es (List (List Int)) b_ b_h] [] (fun v Γ' => v = (.bool y) ∧ Γ' = []) := by
 intro w0 S0 fp0 hI hS
 have H : Cx w0 fp0 S0 w0 [Es (List (List Int)) a_ a_h, Es (List (List Int)) b_ b_h] := Cx.start hI hS
 clear hI hS
 refine enterC (args := [_, _]) gok Tryd.func57 rfl _ rfl rfl rfl ?_
 refine sq ?_
 refine lenE (H.rs (α := List (List Int)) 0 rfl).len ?_
 refine lenE (H.rs (α := List (List Int)) 1 rfl).len ?_
 obtain ⟨a3, e, hF4⟩ := bindS hF; clear hF
 refine boolO e ?_; clear e
 cases a3
 ·
  have hF5 := condF hF4; clear hF4
  refine sq ?_
  refine lenE (H.rs (α := List (List Int)) 0 rfl).len ?_
  have x0 := (H.rs (α := List (List Int)) 0 rfl).max
  obtain ⟨r0, e, f0⟩ := bindS hF5; clear hF5
  refine loopO _ a_.length (fun (k6 : Nat) (_ : Unit) (_ : Unit) => [(0, (a_h).v), (1, (b_h).v), (12, (.int .i64 ((a_.length : Nat) : Int))), (13, (.int .i64 ((k6 : Nat) : Int)))]) (fun _ (_ : Unit) (_ : Unit) w' => Cx w0 fp0 S0 w' [Es (List (List Int)) a_ a_h, Es (List (List Int)) b_ b_h]) () () e ⟨rfl, rfl, rfl, rfl, trivial⟩ (H.sel [0, 1] rfl) ?_ ?_
  ·
   clear H e
   rintro T0 k6 _ _ w1 o0 hk (H : Cx w0 fp0 S0 w1 [Es (List (List Int)) a_ a_h, Es (List (List Int)) b_ b_h]) hrt f1
   refine boolE (z := true) (ltLen hk) ?_
   refine sq ?_
   refine sq ?_
   refine heldX H [] (.fst 0 (.fst 1 (.fst 2 (.fst 4 (.fst 5 (.fst 6 (.fst 3 (.fst 7 (.act 8 (.fst 9 .done)))))))))) mixed [] trivial (by kernel_rfl) ?_
   clear H; intro w2 H
   have hX : Ext w2 w2 := Upd.refl _ _
   have H0 := H
   obtain ⟨a0, e, f2⟩ := bindS f1; clear f1
   have HH := H; clear H; obtain ⟨p0, m0, h0, c0, c1, c2, c3, H⟩ := HH.elL 0 rfl e; clear HH
   clear e
   refine idxE c0 c1 c2 ?_; clear c0 c1 c2
   obtain ⟨a1, e, f3⟩ := bindS f2; clear f2
   have HH := H; clear H; obtain ⟨p1, m1, h1, c4, c5, c6, c7, H⟩ := HH.elL 2 rfl e; clear HH
   clear e
   refine idxE c4 c5 c6 ?_; clear c4 c5 c6
   refine load1X c3 ?_; clear c3
   refine load1X c7 ?_; clear c7
   obtain ⟨y0, e, f4⟩ := bindS f3; clear f3
   have ey67 := e; clear e
   refine callFx (spec_l1Same_c a0 h0 a1 h1 y0 ey67) H ⟨Vw.sh 1 rfl, Vw.sh 0 rfl, trivial⟩ ?_; clear H ey67
   rintro _ _ w3 ⟨rfl, rfl⟩ hx H
   replace hX := hX.trans0 hx; clear hx
   refine hold hX ?_
   obtain ⟨a2, e, f5⟩ := bindS f4; clear f4
   refine boolO e ?_; clear e
   cases a2
   ·
    have f6 := condF f5; clear f5
    refine arK hk x0 ?_
    have hs := Option.some.inj f6; subst hs; clear f6
    exact ⟨(), (), rfl, ⟨rfl, rfl, rfl, rfl, trivial⟩, H.sel [2, 3] rfl⟩
   ·
    have f7 := condT f5; clear f5
    have hs := Option.some.inj f7; subst hs; clear f7
    have hr := hrt _ rfl; subst hr
    have f8 : some _ = some _ := f0
    cases f8
    exact ⟨_, _, rfl, ⟨rfl, rfl⟩, (H.sel [] rfl).close trivial⟩
  ·
   clear H e
   rintro T1 _ _ w4 hr (H : Cx w0 fp0 S0 w4 [Es (List (List Int)) a_ a_h, Es (List (List Int)) b_ b_h])
   subst hr
   refine boolE (z := false) geLen ?_
   refine sq ?_
   cases f0
   exact ⟨_, _, rfl, ⟨rfl, rfl⟩, (H.sel [] rfl).close trivial⟩
 ·
  have f9 := condT hF4; clear hF4
  cases f9
  exact ⟨_, _, rfl, ⟨rfl, rfl⟩, (H.sel [] rfl).close trivial⟩

theorem spec_rzIs_c (p_ : Int) (s__0 : Int) (s__1 : Int) (s__2 : Int) (s__3 : List (List Int)) (s__3h : Hd) (s__4 : List (List Int)) (s__4h : Hd) (s__5 : List (List Int)) (s__5h : Hd) (s__6 : List (List Int)) (s__6h : Hd) (m_ : List (Int × List (List Int))) (m_h : Hd) (y : Bool) (hF : F_spec_rzIs p_ (s__0, s__1, s__2, s__3, s__4, s__5, s__6) m_ = some y) :
  ConF Tryd.prog 49 #[(.int .i64 p_), (.agg #[(.int .i64 s__0), (.int .i64 s__1), (.int .i64 s__2), (s__3h).v, (s__4h).v, (s__5h).v, (s__6h).v]), (m_h).v] [Es (List (List Int)) s__3 s__3h, Es (List (List Int)) s__4 s__4h, Es (List (List Int)) s__5 s__5h, Es (List (List Int)) s__6 s__6h, Es (List (Int × List (List Int))) m_ m_h] [] (fun v Γ' => v = (.bool y) ∧ Γ' = []) := by
 intro w0 S0 fp0 hI hS
 have H : Cx w0 fp0 S0 w0 [Es (List (List Int)) s__3 s__3h, Es (List (List Int)) s__4 s__4h, Es (List (List Int)) s__5 s__5h, Es (List (List Int)) s__6 s__6h, Es (List (Int × List (List Int))) m_ m_h] := Cx.start hI hS
 clear hI hS
 refine enterC (args := [_, _, _]) gok Tryd.func49 rfl _ rfl rfl rfl ?_
 refine box_ H ?_; clear H; intro b7 w6 hx H
 clear hx
 refine sq ?_
 refine loadN [(.int .i64 s__0), (.int .i64 s__1), (.int .i64 s__2), (s__3h).v, (s__4h).v, (s__5h).v, (s__6h).v] rfl (fun j u hj => H.bx 0 rfl hj) ?_
 refine lenE (H.rs (α := List (Int × List (List Int))) 5 rfl).len ?_
 obtain ⟨y9, e, f0⟩ := bindS hF; clear hF
 have ey9 := e; clear e
 refine callF (spec_ssMarkov_c p_ s__0 s__1 s__2 s__3 s__3h s__4 s__4h s__5 s__5h s__6 s__6h ((m_.length : Nat) : Int) y9 ey9) (Γi := []) H ⟨Vw.sh 1 rfl, Vw.sh 2 rfl, Vw.sh 3 rfl, Vw.sh 4 rfl, trivial⟩ ?_; clear H ey9
 rintro _ _ w1 ⟨h0, rfl, rfl⟩ H
 refine lenE (H.ro (α := List (Int × List (List Int))) 0 rfl).len ?_
 replace H := H.frz
 have x0 := (H.rs (α := List (Int × List (List Int))) 0 rfl).max
 obtain ⟨r0, e, f1⟩ := bindS f0; clear f0
 refine loopO _ y9.length (fun (k0 : Nat) (_ : Unit) (_ : Unit) => [(2, (m_h).v), (13, (h0).v), (14, (.int .i64 ((y9.length : Nat) : Int))), (15, (.int .i64 ((k0 : Nat) : Int)))]) (fun _ (_ : Unit) (_ : Unit) w' => Cx w0 fp0 S0 w' [Es (List (Int × List (List Int))) m_ m_h, Es (List (Int × List (List Int))) y9 h0]) () () e ⟨rfl, rfl, rfl, rfl, trivial⟩ (H.sel [6, 0] rfl) ?_ ?_
 ·
  clear H e
  rintro T0 k0 _ _ w2 o0 hk (H : Cx w0 fp0 S0 w2 [Es (List (Int × List (List Int))) m_ m_h, Es (List (Int × List (List Int))) y9 h0]) hrt f2
  refine boolE (z := true) (ltLen hk) ?_
  refine sq ?_
  refine sq ?_
  obtain ⟨a0, e, f3⟩ := bindS f2; clear f2
  have HH := H; clear H; obtain ⟨p0, m0, g0, c0, c1, c2, c3, H⟩ := HH.el (α := Int × List (List Int)) 1 rfl e; clear HH
  clear e
  obtain ⟨a0_0, a0_1⟩ := a0
  obtain ⟨_, h1⟩ := g0
  replace H := H.part (β := List (List Int)) a0_1 (h1 : Hd) 0 rfl (fun S h => (And.right h))
  replace H := H.sel [0, 2, 3] rfl
  refine idxE c0 c1 c2 ?_; clear c0 c1 c2
  refine loadN [(.int .i64 a0_0), (h1).v] rfl c3 ?_; clear c3
  refine alloc_ gok rfl H ?_; clear H; intro b0 w3 hx H
  clear hx
  refine stA gok [(.int .i64 a0_0), (h1).v] rfl H rfl rfl rfl ?_; clear H; intro w4 H
  refine heldX H [] (.fst 0 (.fst 2 (.fst 3 (.fst 4 (.fst 5 (.fst 1 (.fst 6 (.act 7 (.fst 8 .done))))))))) mixed [] trivial (by kernel_rfl) ?_
  clear H; intro w5 H
  have hX : Ext w5 w5 := Upd.refl _ _
  have H0 := H
  refine anyH (fun _ => fld gok rfl rfl rfl rfl ⟨rfl, rfl⟩) ?_
  obtain ⟨a1, e, f4⟩ := bindS f3; clear f3
  have HH := H; clear H; obtain ⟨p1, m1, g1, c4, c5, c6, c7, H⟩ := HH.el (α := Int × List (List Int)) 2 rfl e; clear HH
  clear e
  obtain ⟨a1_0, a1_1⟩ := a1
  obtain ⟨_, h2⟩ := g1
  replace H := H.part (β := List (List Int)) a1_1 (h2 : Hd) 0 rfl (fun S h => (And.right h))
  replace H := H.sel [0, 2, 3, 4, 5] rfl
  refine idxE c4 c5 c6 ?_; clear c4 c5 c6
  refine anyH (fun _ => fld gok rfl rfl rfl rfl ⟨rfl, rfl⟩) ?_
  refine load1X (H.bx 1 rfl (j := 1) rfl) ?_
  refine load1X (c7 1 _ rfl) ?_
  obtain ⟨y0, e, f5⟩ := bindS f4; clear f4
  have ey129 := e; clear e
  refine callFx (spec_spSame_c a0_1 h1 a1_1 h2 y0 ey129) H ⟨Vw.sh 2 rfl, Vw.sh 0 rfl, trivial⟩ ?_; clear H ey129
  rintro _ _ w7 ⟨rfl, rfl⟩ hx H
  replace hX := hX.trans0 hx; clear hx
  refine hold hX ?_
  obtain ⟨a2, e, f6⟩ := bindS f5; clear f5
  refine boolO e ?_; clear e
  cases a2
  ·
   have f7 := condF f6; clear f6
   refine arK hk x0 ?_
   have hs := Option.some.inj f7; subst hs; clear f7
   exact ⟨(), (), rfl, ⟨rfl, rfl, rfl, rfl, trivial⟩, H.sel [3, 4] rfl⟩
  ·
   have f8 := condT f6; clear f6
   have hs := Option.some.inj f8; subst hs; clear f8
   have hr := hrt _ rfl; subst hr
   have f9 : some _ = some _ := f1
   cases f9
   exact ⟨_, _, rfl, ⟨rfl, rfl⟩, (H.sel [] rfl).close trivial⟩
 ·
  clear H e
  rintro T1 _ _ w8 hr (H : Cx w0 fp0 S0 w8 [Es (List (Int × List (List Int))) m_ m_h, Es (List (Int × List (List Int))) y9 h0])
  subst hr
  refine boolE (z := false) geLen ?_
  refine sq ?_
  cases f1
  exact ⟨_, _, rfl, ⟨rfl, rfl⟩, (H.sel [] rfl).close trivial⟩

theorem spec_RealizeMarkov_c (p_ : Int) (m_ : List (Int × List (List Int))) (m_h : Hd) (y0_0 : Int) (y0_1 : Int) (y0_2 : Int) (y0_3 : List (List Int)) (y0_4 : List (List Int)) (y0_5 : List (List Int)) (y0_6 : List (List Int)) (y1 : Bool) (hF : F_spec_RealizeMarkov p_ m_ = some ((y0_0, y0_1, y0_2, y0_3, y0_4, y0_5, y0_6), y1)) :
  ConF Tryd.prog 22 #[(.int .i64 p_), (m_h).v] [Es (List (Int × List (List Int))) m_ m_h] [] (fun v Γ' => ∃ z0 z1 z2 z3 : Hd, v = (.tuple #[(.agg #[(.int .i64 y0_0), (.int .i64 y0_1), (.int .i64 y0_2), (z0).v, (z1).v, (z2).v, (z3).v]), (.bool y1)]) ∧ Γ' = [E (List (List Int)) y0_3 z0, E (List (List Int)) y0_4 z1, E (List (List Int)) y0_5 z2, E (List (List Int)) y0_6 z3]) := by
 intro w0 S0 fp0 hI hS
 have H : Cx w0 fp0 S0 w0 [Es (List (Int × List (List Int))) m_ m_h] := Cx.start hI hS
 clear hI hS
 refine enterC (args := [_, _]) gok Tryd.func22 rfl _ rfl rfl rfl ?_
 refine alloc_ gok rfl H ?_; clear H; intro b3 w2 hx H
 clear hx
 refine sq ?_
 obtain ⟨y5, e, hF6⟩ := bindS hF; clear hF
 have ey5 := e; clear e
 refine callF (spec_rzResponse_c p_ m_ m_h y5 ey5) (Γi := []) H ⟨Vw.sh 1 rfl, trivial⟩ ?_; clear H ey5
 rintro _ _ w7 ⟨rfl, rfl⟩ H
 obtain ⟨a8, e, hF9⟩ := bindS hF6; clear hF6
 refine boolO e ?_; clear e
 cases a8
 ·
  have f0 := condF hF9; clear hF9
  obtain ⟨y0, e, f1⟩ := bindS f0; clear f0
  obtain ⟨⟨y0_0_0, y0_0_1, y0_0_2, y0_0_3, y0_0_4, y0_0_5, y0_0_6⟩, y0_1⟩ := y0
  have ey11 := e; clear e
  refine callF (spec_rzRealize_c p_ m_ m_h y0_0_0 y0_0_1 y0_0_2 y0_0_3 y0_0_4 y0_0_5 y0_0_6 y0_1 ey11) (Γi := []) H ⟨Vw.sh 1 rfl, trivial⟩ ?_; clear H ey11
  rintro _ _ w1 ⟨h0, h1, h2, h3, rfl, rfl⟩ H
  refine alloc_ gok rfl H ?_; clear H; intro b0 w3 hx H
  clear hx
  refine stA gok [(.int .i64 y0_0_0), (.int .i64 y0_0_1), (.int .i64 y0_0_2), (h0).v, (h1).v, (h2).v, (h3).v] rfl H rfl rfl rfl ?_; clear H; intro w4 H
  refine sq ?_
  obtain ⟨r0, f2, f3⟩ := bindS f1; clear f1
  refine cut (fun (q0 : Bool) => [(4, (.pointer (some ⟨b3, 0, none⟩))), (6, (.pointer (some ⟨b0, 0, none⟩))), (33, (.bool q0))]) (fun (q0 : Bool) w' => q0 = r0 ∧ Cx w0 fp0 S0 w' [Bx b3 [(.int .i64 0), (.int .i64 0), (.int .i64 0), (.slice none 0 0), (.slice none 0 0), (.slice none 0 0), (.slice none 0 0)], Bx b0 [(.int .i64 y0_0_0), (.int .i64 y0_0_1), (.int .i64 y0_0_2), (h0).v, (h1).v, (h2).v, (h3).v], E (List (List Int)) y0_0_3 h0, E (List (List Int)) y0_0_4 h1, E (List (List Int)) y0_0_5 h2, E (List (List Int)) y0_0_6 h3]) ?_ ?_
  ·
   obtain ⟨a0, e, f4⟩ := bindS f2; clear f2
   refine boolO e ?_; clear e
   cases a0
   ·
    have f5 := condF f4; clear f4
    refine loadN [(.int .i64 y0_0_0), (.int .i64 y0_0_1), (.int .i64 y0_0_2), (h0).v, (h1).v, (h2).v, (h3).v] rfl (fun j u hj => H.bx 0 rfl hj) ?_
    obtain ⟨y2, e, f6⟩ := bindS f5; clear f5
    have ey51 := e; clear e
    refine callF (spec_ssGood_c p_ y0_0_0 y0_0_1 y0_0_2 y0_0_3 h0 y0_0_4 h1 y0_0_5 h2 y0_0_6 h3 y2 ey51) (Γi := []) H ⟨Vw.own 1 rfl, Vw.own 2 rfl, Vw.own 3 rfl, Vw.own 4 rfl, trivial⟩ ?_; clear H ey51
    rintro _ _ w5 ⟨rfl, rfl⟩ H
    obtain ⟨a1, e, f7⟩ := bindS f6; clear f6
    refine boolO e ?_; clear e
    cases a1
    ·
     have f8 := condF f7; clear f7
     refine loadN [(.int .i64 y0_0_0), (.int .i64 y0_0_1), (.int .i64 y0_0_2), (h0).v, (h1).v, (h2).v, (h3).v] rfl (fun j u hj => H.bx 0 rfl hj) ?_
     obtain ⟨y3, e, f9⟩ := bindS f8; clear f8
     have ey57 := e; clear e
     refine callF (spec_rzIs_c p_ y0_0_0 y0_0_1 y0_0_2 y0_0_3 h0 y0_0_4 h1 y0_0_5 h2 y0_0_6 h3 m_ m_h y3 ey57) (Γi := []) H ⟨Vw.own 1 rfl, Vw.own 2 rfl, Vw.own 3 rfl, Vw.own 4 rfl, Vw.sh 6 rfl, trivial⟩ ?_; clear H ey57
     rintro _ _ w6 ⟨rfl, rfl⟩ H
     obtain ⟨a2, e, f10⟩ := bindS f9; clear f9
     refine boolO e ?_; clear e
     exact ⟨a2, ⟨rfl, rfl, rfl, trivial⟩, Option.some.inj f10, H.sel [5, 0, 1, 2, 3, 4] rfl⟩
    ·
     have f11 := condT f7; clear f7
     exact ⟨true, ⟨rfl, rfl, rfl, trivial⟩, Option.some.inj f11, H.sel [5, 0, 1, 2, 3, 4] rfl⟩
   ·
    have f12 := condT f4; clear f4
    exact ⟨true, ⟨rfl, rfl, rfl, trivial⟩, Option.some.inj f12, H.sel [5, 0, 1, 2, 3, 4] rfl⟩
  ·
   clear f2 H
   rintro T0 s0 w8 ⟨hr, (H : Cx w0 fp0 S0 w8 [Bx b3 [(.int .i64 0), (.int .i64 0), (.int .i64 0), (.slice none 0 0), (.slice none 0 0), (.slice none 0 0), (.slice none 0 0)], Bx b0 [(.int .i64 y0_0_0), (.int .i64 y0_0_1), (.int .i64 y0_0_2), (h0).v, (h1).v, (h2).v, (h3).v], E (List (List Int)) y0_0_3 h0, E (List (List Int)) y0_0_4 h1, E (List (List Int)) y0_0_5 h2, E (List (List Int)) y0_0_6 h3])⟩
   subst hr
   cases s0
   ·
    have f13 := condF f3; clear f3
    refine loadN [(.int .i64 y0_0_0), (.int .i64 y0_0_1), (.int .i64 y0_0_2), (h0).v, (h1).v, (h2).v, (h3).v] rfl (fun j u hj => H.bx 1 rfl hj) ?_
    refine stA gok [(.int .i64 y0_0_0), (.int .i64 y0_0_1), (.int .i64 y0_0_2), (h0).v, (h1).v, (h2).v, (h3).v] rfl H rfl rfl rfl ?_; clear H; intro w9 H
    refine loadN [(.int .i64 y0_0_0), (.int .i64 y0_0_1), (.int .i64 y0_0_2), (h0).v, (h1).v, (h2).v, (h3).v] rfl (fun j u hj => H.bx 0 rfl hj) ?_
    cases f13
    exact ⟨_, _, rfl, ⟨h0, h1, h2, h3, rfl, rfl⟩, (H.sel [2, 3, 4, 5] rfl).close ⟨cloE, cloE, cloE, cloE, trivial⟩⟩
   ·
    have f14 := condT f3; clear f3
    refine build_ (cs := #[(.int .i64 0), (.int .i64 0), (.int .i64 0), (.slice none 0 0), (.slice none 0 0), (.slice none 0 0), (.slice none 0 0)]) gok rfl rfl rfl ?_
    refine stA gok [(.int .i64 0), (.int .i64 0), (.int .i64 0), (.slice none 0 0), (.slice none 0 0), (.slice none 0 0), (.slice none 0 0)] rfl H rfl rfl rfl ?_; clear H; intro w10 H
    refine loadN [(.int .i64 0), (.int .i64 0), (.int .i64 0), (.slice none 0 0), (.slice none 0 0), (.slice none 0 0), (.slice none 0 0)] rfl (fun j u hj => H.bx 0 rfl hj) ?_
    replace H := H.nil (α := List Int)
    replace H := H.nil (α := List Int)
    replace H := H.nil (α := List Int)
    replace H := H.nil (α := List Int)
    cases f14
    exact ⟨_, _, rfl, ⟨nilH, nilH, nilH, nilH, rfl, rfl⟩, (H.sel [3, 2, 1, 0] rfl).close ⟨cloE, cloE, cloE, cloE, trivial⟩⟩
 ·
  have f15 := condT hF9; clear hF9
  refine build_ (cs := #[(.int .i64 0), (.int .i64 0), (.int .i64 0), (.slice none 0 0), (.slice none 0 0), (.slice none 0 0), (.slice none 0 0)]) gok rfl rfl rfl ?_
  refine stA gok [(.int .i64 0), (.int .i64 0), (.int .i64 0), (.slice none 0 0), (.slice none 0 0), (.slice none 0 0), (.slice none 0 0)] rfl H rfl rfl rfl ?_; clear H; intro w11 H
  refine loadN [(.int .i64 0), (.int .i64 0), (.int .i64 0), (.slice none 0 0), (.slice none 0 0), (.slice none 0 0), (.slice none 0 0)] rfl (fun j u hj => H.bx 0 rfl hj) ?_
  replace H := H.nil (α := List Int)
  replace H := H.nil (α := List Int)
  replace H := H.nil (α := List Int)
  replace H := H.nil (α := List Int)
  cases f15
  exact ⟨_, _, rfl, ⟨nilH, nilH, nilH, nilH, rfl, rfl⟩, (H.sel [3, 2, 1, 0] rfl).close ⟨cloE, cloE, cloE, cloE, trivial⟩⟩

theorem spec_RealizeSequence_c (p_ : Int) (s_ : List Int) (s_h : Hd) (y0_0 : Int) (y0_1 : Int) (y0_2 : Int) (y0_3 : List (List Int)) (y0_4 : List (List Int)) (y0_5 : List (List Int)) (y0_6 : List (List Int)) (y1 : Bool) (hF : F_spec_RealizeSequence p_ s_ = some ((y0_0, y0_1, y0_2, y0_3, y0_4, y0_5, y0_6), y1)) :
  ConF Tryd.prog 15 #[(.int .i64 p_), (s_h).v] [Es (List Int) s_ s_h] [] (fun v Γ' => ∃ z0 z1 z2 z3 : Hd, v = (.tuple #[(.agg #[(.int .i64 y0_0), (.int .i64 y0_1), (.int .i64 y0_2), (z0).v, (z1).v, (z2).v, (z3).v]), (.bool y1)]) ∧ Γ' = [E (List (List Int)) y0_3 z0, E (List (List Int)) y0_4 z1, E (List (List Int)) y0_5 z2, E (List (List Int)) y0_6 z3]) := by
 intro w0 S0 fp0 hI hS
 have H : Cx w0 fp0 S0 w0 [Es (List Int) s_ s_h] := Cx.start hI hS
 clear hI hS
 refine enterC (args := [_, _]) gok Tryd.func15 rfl _ rfl rfl rfl ?_
 refine alloc_ gok rfl H ?_; clear H; intro b3 w2 hx H
 clear hx
 refine sq ?_
 obtain ⟨r0, f0, f1⟩ := bindS hF; clear hF
 refine cut (fun (q0 : Bool) => [(0, (.int .i64 p_)), (1, (s_h).v), (4, (.pointer (some ⟨b3, 0, none⟩))), (17, (.bool q0))]) (fun (q0 : Bool) w' => q0 = r0 ∧ Cx w0 fp0 S0 w' [Es (List Int) s_ s_h, Bx b3 [(.int .i64 0), (.int .i64 0), (.int .i64 0), (.slice none 0 0), (.slice none 0 0), (.slice none 0 0), (.slice none 0 0)]]) ?_ ?_
 ·
  obtain ⟨y0, e, f2⟩ := bindS f0; clear f0
  have ey20 := e; clear e
  refine callF (spec_rzList_c p_ s_ s_h y0 ey20) (Γi := []) H ⟨Vw.sh 1 rfl, trivial⟩ ?_; clear H ey20
  rintro _ _ w1 ⟨rfl, rfl⟩ H
  obtain ⟨a0, e, f3⟩ := bindS f2; clear f2
  refine boolO e ?_; clear e
  cases a0
  ·
   have f4 := condF f3; clear f3
   refine lenE (H.rs (α := List Int) 1 rfl).len ?_
   obtain ⟨a1, e, f5⟩ := bindS f4; clear f4
   refine boolO e ?_; clear e
   exact ⟨a1, ⟨rfl, rfl, rfl, rfl, trivial⟩, Option.some.inj f5, H.sel [1, 0] rfl⟩
  ·
   have f6 := condT f3; clear f3
   exact ⟨true, ⟨rfl, rfl, rfl, rfl, trivial⟩, Option.some.inj f6, H.sel [1, 0] rfl⟩
 ·
  clear f0 H
  rintro T0 s0 w3 ⟨hr, (H : Cx w0 fp0 S0 w3 [Es (List Int) s_ s_h, Bx b3 [(.int .i64 0), (.int .i64 0), (.int .i64 0), (.slice none 0 0), (.slice none 0 0), (.slice none 0 0), (.slice none 0 0)]])⟩
  subst hr
  cases s0
  ·
   have f7 := condF f1; clear f1
   refine sq ?_
   refine lenE (H.rs (α := List Int) 0 rfl).len ?_
   have x0 := (H.rs (α := List Int) 0 rfl).max
   obtain ⟨r1, e, f8⟩ := bindS f7; clear f7
   replace H := H.nil (α := Int × List (List Int))
   refine loopS _ s_.length (fun (k0 : Nat) (s1 : List (Int × List (List Int))) (g0 : Hd) => [(0, (.int .i64 p_)), (4, (.pointer (some ⟨b3, 0, none⟩))), (6, (g0).v), (19, (s_h).v), (20, (.int .i64 ((s_.length : Nat) : Int))), (21, (.int .i64 ((k0 : Nat) : Int)))]) (fun _ (s1 : List (Int × List (List Int))) (g0 : Hd) w' => Cx w0 fp0 S0 w' [Bx b3 [(.int .i64 0), (.int .i64 0), (.int .i64 0), (.slice none 0 0), (.slice none 0 0), (.slice none 0 0), (.slice none 0 0)], E (List (Int × List (List Int))) s1 g0, Es (List Int) s_ s_h]) [] nilH e ⟨rfl, rfl, rfl, rfl, rfl, rfl, trivial⟩ (H.sel [2, 0, 1] rfl) ?_ ?_
   ·
    clear H e
    rintro T1 k0 s1 g0 w4 o0 hk (H : Cx w0 fp0 S0 w4 [Bx b3 [(.int .i64 0), (.int .i64 0), (.int .i64 0), (.slice none 0 0), (.slice none 0 0), (.slice none 0 0), (.slice none 0 0)], E (List (Int × List (List Int))) s1 g0, Es (List Int) s_ s_h]) f9
    refine boolE (z := true) (ltLen hk) ?_
    refine sq ?_
    refine sq ?_
    obtain ⟨a2, e, f10⟩ := bindS f9; clear f9
    obtain ⟨p0, m0, c0, c1, c2, c3⟩ := (H.rs (α := List Int) 2 rfl).at1 e; clear e
    refine idxE c0 c1 c2 ?_; clear c0 c1 c2
    refine load1 c3 ?_; clear c3
    refine lit1S (α := Int) gok rfl rfl rfl rfl H ?_; clear H; intro h0 w5 hx H
    clear hx
    refine lit1 (α := List Int) (g := h0) gok rfl rfl rfl rfl rfl H ?_; clear H; intro h1 w6 hx H
    clear hx
    refine build_ (cs := #[(.int .i64 1), (h1).v]) gok rfl rfl rfl ?_
    replace H := H.sc (α := Int) 1
    replace H := H.join (α := Int) (β := List (List Int))
    refine lit1 (α := Int × List (List Int)) (g := ((), h1)) gok rfl rfl rfl rfl rfl H ?_; clear H; intro h2 w7 hx H
    clear hx
    obtain ⟨a3, e, f11⟩ := bindS f10; clear f10
    replace H := H.sel [2, 0, 1, 3] rfl
    refine append_ (α := Int × List (List Int)) gok rfl rfl rfl rfl H e ?_; clear e H; intro h3 w8 H
    refine arK hk x0 ?_
    have hs := Option.some.inj f11; subst hs; clear f11
    exact ⟨h3, ⟨rfl, rfl, rfl, rfl, rfl, rfl, trivial⟩, H.sel [1, 0, 2] rfl⟩
   ·
    clear H e
    rintro T2 g1 w9 (H : Cx w0 fp0 S0 w9 [Bx b3 [(.int .i64 0), (.int .i64 0), (.int .i64 0), (.slice none 0 0), (.slice none 0 0), (.slice none 0 0), (.slice none 0 0)], E (List (Int × List (List Int))) r1 g1, Es (List Int) s_ s_h])
    refine boolE (z := false) geLen ?_
    refine sq ?_
    obtain ⟨y2, e, f12⟩ := bindS f8; clear f8
    obtain ⟨⟨y2_0_0, y2_0_1, y2_0_2, y2_0_3, y2_0_4, y2_0_5, y2_0_6⟩, y2_1⟩ := y2
    have ey127 := e; clear e
    refine callF (spec_RealizeMarkov_c p_ r1 g1 y2_0_0 y2_0_1 y2_0_2 y2_0_3 y2_0_4 y2_0_5 y2_0_6 y2_1 ey127) (Γi := []) H ⟨Vw.own 1 rfl, trivial⟩ ?_; clear H ey127
    rintro _ _ w10 ⟨h4, h5, h6, h7, rfl, rfl⟩ H
    replace H := H.sel [4, 0, 1, 2, 3, 5, 6] rfl
    refine stA gok [(.int .i64 y2_0_0), (.int .i64 y2_0_1), (.int .i64 y2_0_2), (h4).v, (h5).v, (h6).v, (h7).v] rfl H rfl rfl rfl ?_; clear H; intro w11 H
    refine loadN [(.int .i64 y2_0_0), (.int .i64 y2_0_1), (.int .i64 y2_0_2), (h4).v, (h5).v, (h6).v, (h7).v] rfl (fun j u hj => H.bx 0 rfl hj) ?_
    cases f12
    exact ⟨_, _, rfl, ⟨h4, h5, h6, h7, rfl, rfl⟩, (H.sel [1, 2, 3, 4] rfl).close ⟨cloE, cloE, cloE, cloE, trivial⟩⟩
  ·
   have f13 := condT f1; clear f1
   refine build_ (cs := #[(.int .i64 0), (.int .i64 0), (.int .i64 0), (.slice none 0 0), (.slice none 0 0), (.slice none 0 0), (.slice none 0 0)]) gok rfl rfl rfl ?_
   replace H := H.sel [1, 0] rfl
   refine stA gok [(.int .i64 0), (.int .i64 0), (.int .i64 0), (.slice none 0 0), (.slice none 0 0), (.slice none 0 0), (.slice none 0 0)] rfl H rfl rfl rfl ?_; clear H; intro w12 H
   refine loadN [(.int .i64 0), (.int .i64 0), (.int .i64 0), (.slice none 0 0), (.slice none 0 0), (.slice none 0 0), (.slice none 0 0)] rfl (fun j u hj => H.bx 0 rfl hj) ?_
   replace H := H.nil (α := List Int)
   replace H := H.nil (α := List Int)
   replace H := H.nil (α := List Int)
   replace H := H.nil (α := List Int)
   cases f13
   exact ⟨_, _, rfl, ⟨nilH, nilH, nilH, nilH, rfl, rfl⟩, (H.sel [3, 2, 1, 0] rfl).close ⟨cloE, cloE, cloE, cloE, trivial⟩⟩

theorem impl_isField_c (p_ : Int) (y : Bool) (hF : F_impl_isField p_ = some y) :
  ConF Tryd.prog 85 #[(.int .i64 p_)] [Gl 0 [.int .i64 2, .int .i64 3, .int .i64 5, .int .i64 7]] [] (fun v Γ' => v = (.bool y) ∧ Γ' = []) := by
 intro w0 S0 fp0 hI hS
 have H : Cx w0 fp0 S0 w0 [Gl 0 [.int .i64 2, .int .i64 3, .int .i64 5, .int .i64 7]] := Cx.start hI hS
 clear hI hS
 refine enterC (args := [_]) gok Tryd.func85 rfl _ rfl rfl rfl ?_
 refine sq ?_
 obtain ⟨r0, f0, f1⟩ := bindS hF; clear hF
 refine cut (fun (q0 : Bool) => [(0, (.int .i64 p_)), (10, (.bool q0))]) (fun (q0 : Bool) w' => q0 = r0 ∧ Cx w0 fp0 S0 w' [Gl 0 [.int .i64 2, .int .i64 3, .int .i64 5, .int .i64 7]]) ?_ ?_
 ·
  obtain ⟨a0, e, f2⟩ := bindS f0; clear f0
  refine boolO e ?_; clear e
  cases a0
  ·
   have f3 := condF f2; clear f2
   obtain ⟨a1, e, f4⟩ := bindS f3; clear f3
   refine boolO e ?_; clear e
   exact ⟨a1, ⟨rfl, rfl, trivial⟩, Option.some.inj f4, H.sel [0] rfl⟩
  ·
   have f5 := condT f2; clear f2
   exact ⟨true, ⟨rfl, rfl, trivial⟩, Option.some.inj f5, H.sel [0] rfl⟩
 ·
  clear f0 H
  rintro T0 s8 w1 ⟨hr, (H : Cx w0 fp0 S0 w1 [Gl 0 [.int .i64 2, .int .i64 3, .int .i64 5, .int .i64 7]])⟩
  subst hr
  cases s8
  ·
   have f6 := condF f1; clear f1
   refine sq ?_
   refine loadN [.int .i64 2, .int .i64 3, .int .i64 5, .int .i64 7] rfl (H.gl 0 rfl) ?_
   obtain ⟨a2, hn, f7⟩ := bindS f6; clear f6
   obtain ⟨r1, e, f8⟩ := bindS f7; clear f7
   refine loopO _ ((4 : Int).toNat) (fun (k0 : Nat) (_ : Unit) (_ : Unit) => [(0, (.int .i64 p_)), (11, (.agg #[.int .i64 2, .int .i64 3, .int .i64 5, .int .i64 7])), (12, (.int .i64 ((k0 : Nat) : Int)))]) (fun _ (_ : Unit) (_ : Unit) w' => Cx w0 fp0 S0 w' [Gl 0 [.int .i64 2, .int .i64 3, .int .i64 5, .int .i64 7]]) () () e ⟨rfl, rfl, rfl, trivial⟩ (H.sel [0] rfl) ?_ ?_
   ·
    clear H e
    rintro T1 k0 _ _ w2 o0 hk (H : Cx w0 fp0 S0 w2 [Gl 0 [.int .i64 2, .int .i64 3, .int .i64 5, .int .i64 7]]) hrt f9
    refine boolE (z := true) (ltNat hk) ?_
    refine sq ?_
    refine sq ?_
    obtain ⟨a3, e, f10⟩ := bindS f9; clear f9
    refine indexI gok rfl rfl rfl rfl rfl e ?_; clear e
    obtain ⟨r2, f11, f12⟩ := bindS f10; clear f10
    refine cut (fun (q1 : Bool) => [(0, (.int .i64 p_)), (11, (.agg #[.int .i64 2, .int .i64 3, .int .i64 5, .int .i64 7])), (12, (.int .i64 ((k0 : Nat) : Int))), (23, (.bool q1))]) (fun (q1 : Bool) w' => q1 = r2 ∧ Cx w0 fp0 S0 w' [Gl 0 [.int .i64 2, .int .i64 3, .int .i64 5, .int .i64 7]]) ?_ ?_
    ·
     obtain ⟨a4, e, f13⟩ := bindS f11; clear f11
     refine remO_ e ?_; clear e
     obtain ⟨a5, e, f14⟩ := bindS f13; clear f13
     refine boolO e ?_; clear e
     cases a5
     ·
      have f15 := condF f14; clear f14
      exact ⟨false, ⟨rfl, rfl, rfl, rfl, trivial⟩, Option.some.inj f15, H.sel [0] rfl⟩
     ·
      have f16 := condT f14; clear f14
      obtain ⟨a6, e, f17⟩ := bindS f16; clear f16
      refine boolO e ?_; clear e
      exact ⟨a6, ⟨rfl, rfl, rfl, rfl, trivial⟩, Option.some.inj f17, H.sel [0] rfl⟩
    ·
     clear f11 H
     rintro T2 s0 w3 ⟨hr, (H : Cx w0 fp0 S0 w3 [Gl 0 [.int .i64 2, .int .i64 3, .int .i64 5, .int .i64 7]])⟩
     subst hr
     cases s0
     ·
      have f18 := condF f12; clear f12
      refine arK hk (maxI hn) ?_
      have hs := Option.some.inj f18; subst hs; clear f18
      exact ⟨(), (), rfl, ⟨rfl, rfl, rfl, trivial⟩, H.sel [0] rfl⟩
     ·
      have f19 := condT f12; clear f12
      have hs := Option.some.inj f19; subst hs; clear f19
      have hr := hrt _ rfl; subst hr
      have f20 : some _ = some _ := f8
      cases f20
      exact ⟨_, _, rfl, ⟨rfl, rfl⟩, (H.sel [] rfl).close trivial⟩
   ·
    clear H e
    rintro T3 _ _ w4 hr (H : Cx w0 fp0 S0 w4 [Gl 0 [.int .i64 2, .int .i64 3, .int .i64 5, .int .i64 7]])
    subst hr
    refine boolE (z := false) geNat ?_
    refine sq ?_
    cases f8
    exact ⟨_, _, rfl, ⟨rfl, rfl⟩, (H.sel [] rfl).close trivial⟩
  ·
   have f21 := condT f1; clear f1
   cases f21
   exact ⟨_, _, rfl, ⟨rfl, rfl⟩, (H.sel [] rfl).close trivial⟩

theorem impl_within_c (n_ : Int) (low_ : Int) (high_ : Int) (y : Bool) (hF : F_impl_within n_ low_ high_ = some y) :
  ConF Tryd.prog 86 #[(.int .i64 n_), (.int .i64 low_), (.int .i64 high_)] [] [] (fun v Γ' => v = (.bool y) ∧ Γ' = []) := by
 intro w0 S0 fp0 hI hS
 have H : Cx w0 fp0 S0 w0 [] := Cx.start hI hS
 clear hI hS
 refine enterC (args := [_, _, _]) gok Tryd.func86 rfl _ rfl rfl rfl ?_
 obtain ⟨r9, f0, f1⟩ := bindS hF; clear hF
 refine cut (fun (q0 : Bool) => [(6, (.bool q0))]) (fun (q0 : Bool) w' => q0 = r9 ∧ Cx w0 fp0 S0 w' []) ?_ ?_
 ·
  obtain ⟨a0, e, f2⟩ := bindS f0; clear f0
  refine boolO e ?_; clear e
  cases a0
  ·
   have f3 := condF f2; clear f2
   exact ⟨false, ⟨rfl, trivial⟩, Option.some.inj f3, H.sel [] rfl⟩
  ·
   have f4 := condT f2; clear f2
   obtain ⟨a1, e, f5⟩ := bindS f4; clear f4
   refine boolO e ?_; clear e
   exact ⟨a1, ⟨rfl, trivial⟩, Option.some.inj f5, H.sel [] rfl⟩
 ·
  clear f0 H
  rintro T0 s7 w1 ⟨hr, (H : Cx w0 fp0 S0 w1 [])⟩
  subst hr
  cases f1
  exact ⟨_, _, rfl, ⟨rfl, rfl⟩, (H.sel [] rfl).close trivial⟩

theorem impl_isElement_c (p_ : Int) (a_ : Int) (y : Bool) (hF : F_impl_isElement p_ a_ = some y) :
  ConF Tryd.prog 125 #[(.int .i64 p_), (.int .i64 a_)] [] [] (fun v Γ' => v = (.bool y) ∧ Γ' = []) := by
 intro w0 S0 fp0 hI hS
 have H : Cx w0 fp0 S0 w0 [] := Cx.start hI hS
 clear hI hS
 refine enterC (args := [_, _]) gok Tryd.func125 rfl _ rfl rfl rfl ?_
 obtain ⟨r9, f0, f1⟩ := bindS hF; clear hF
 refine cut (fun (q0 : Bool) => [(4, (.bool q0))]) (fun (q0 : Bool) w' => q0 = r9 ∧ Cx w0 fp0 S0 w' []) ?_ ?_
 ·
  obtain ⟨a0, e, f2⟩ := bindS f0; clear f0
  refine boolO e ?_; clear e
  cases a0
  ·
   have f3 := condF f2; clear f2
   exact ⟨false, ⟨rfl, trivial⟩, Option.some.inj f3, H.sel [] rfl⟩
  ·
   have f4 := condT f2; clear f2
   obtain ⟨a1, e, f5⟩ := bindS f4; clear f4
   refine boolO e ?_; clear e
   exact ⟨a1, ⟨rfl, trivial⟩, Option.some.inj f5, H.sel [] rfl⟩
 ·
  clear f0 H
  rintro T0 s7 w1 ⟨hr, (H : Cx w0 fp0 S0 w1 [])⟩
  subst hr
  cases f1
  exact ⟨_, _, rfl, ⟨rfl, rfl⟩, (H.sel [] rfl).close trivial⟩

theorem impl_isVector_c (p_ : Int) (v_ : List Int) (v_h : Hd) (n_ : Int) (y : Bool) (hF : F_impl_isVector p_ v_ n_ = some y) :
  ConF Tryd.prog 114 #[(.int .i64 p_), (v_h).v, (.int .i64 n_)] [Es (List Int) v_ v_h] [] (fun v Γ' => v = (.bool y) ∧ Γ' = []) := by
 intro w0 S0 fp0 hI hS
 have H : Cx w0 fp0 S0 w0 [Es (List Int) v_ v_h] := Cx.start hI hS
 clear hI hS
 refine enterC (args := [_, _, _]) gok Tryd.func114 rfl _ rfl rfl rfl ?_
 refine sq ?_
 refine lenE (H.rs (α := List Int) 0 rfl).len ?_
 obtain ⟨a2, e, hF3⟩ := bindS hF; clear hF
 refine boolO e ?_; clear e
 cases a2
 ·
  have hF4 := condF hF3; clear hF3
  refine sq ?_
  refine lenE (H.rs (α := List Int) 0 rfl).len ?_
  have x0 := (H.rs (α := List Int) 0 rfl).max
  obtain ⟨r0, e, f0⟩ := bindS hF4; clear hF4
  refine loopO _ v_.length (fun (k5 : Nat) (_ : Unit) (_ : Unit) => [(0, (.int .i64 p_)), (13, (v_h).v), (14, (.int .i64 ((v_.length : Nat) : Int))), (15, (.int .i64 ((k5 : Nat) : Int)))]) (fun _ (_ : Unit) (_ : Unit) w' => Cx w0 fp0 S0 w' [Es (List Int) v_ v_h]) () () e ⟨rfl, rfl, rfl, rfl, trivial⟩ (H.sel [0] rfl) ?_ ?_
  ·
   clear H e
   rintro T0 k5 _ _ w1 o0 hk (H : Cx w0 fp0 S0 w1 [Es (List Int) v_ v_h]) hrt f1
   refine boolE (z := true) (ltLen hk) ?_
   refine sq ?_
   refine sq ?_
   obtain ⟨a0, e, f2⟩ := bindS f1; clear f1
   obtain ⟨p0, m0, c0, c1, c2, c3⟩ := (H.rs (α := List Int) 0 rfl).at1 e; clear e
   refine idxE c0 c1 c2 ?_; clear c0 c1 c2
   refine load1 c3 ?_; clear c3
   obtain ⟨y0, e, f3⟩ := bindS f2; clear f2
   have ey40 := e; clear e
   refine callF (impl_isElement_c p_ a0 y0 ey40) (Γi := []) H trivial ?_; clear H ey40
   rintro _ _ w2 ⟨rfl, rfl⟩ H
   obtain ⟨a1, e, f4⟩ := bindS f3; clear f3
   refine boolO e ?_; clear e
   cases a1
   ·
    have f5 := condF f4; clear f4
    refine arK hk x0 ?_
    have hs := Option.some.inj f5; subst hs; clear f5
    exact ⟨(), (), rfl, ⟨rfl, rfl, rfl, rfl, trivial⟩, H.sel [0] rfl⟩
   ·
    have f6 := condT f4; clear f4
    have hs := Option.some.inj f6; subst hs; clear f6
    have hr := hrt _ rfl; subst hr
    have f7 : some _ = some _ := f0
    cases f7
    exact ⟨_, _, rfl, ⟨rfl, rfl⟩, (H.sel [] rfl).close trivial⟩
  ·
   clear H e
   rintro T1 _ _ w3 hr (H : Cx w0 fp0 S0 w3 [Es (List Int) v_ v_h])
   subst hr
   refine boolE (z := false) geLen ?_
   refine sq ?_
   cases f0
   exact ⟨_, _, rfl, ⟨rfl, rfl⟩, (H.sel [] rfl).close trivial⟩
 ·
  have f8 := condT hF3; clear hF3
  cases f8
  exact ⟨_, _, rfl, ⟨rfl, rfl⟩, (H.sel [] rfl).close trivial⟩

theorem impl_areVectors_c (p_ : Int) (rows_ : List (List Int)) (rows_h : Hd) (n_ : Int) (y : Bool) (hF : F_impl_areVectors p_ rows_ n_ = some y) :
  ConF Tryd.prog 98 #[(.int .i64 p_), (rows_h).v, (.int .i64 n_)] [Es (List (List Int)) rows_ rows_h] [] (fun v Γ' => v = (.bool y) ∧ Γ' = []) := by
 intro w0 S0 fp0 hI hS
 have H : Cx w0 fp0 S0 w0 [Es (List (List Int)) rows_ rows_h] := Cx.start hI hS
 clear hI hS
 refine enterC (args := [_, _, _]) gok Tryd.func98 rfl _ rfl rfl rfl ?_
 refine sq ?_
 refine lenE (H.rs (α := List (List Int)) 0 rfl).len ?_
 have x0 := (H.rs (α := List (List Int)) 0 rfl).max
 obtain ⟨r0, e, f0⟩ := bindS hF; clear hF
 refine loopO _ rows_.length (fun (k2 : Nat) (_ : Unit) (_ : Unit) => [(0, (.int .i64 p_)), (2, (.int .i64 n_)), (9, (rows_h).v), (10, (.int .i64 ((rows_.length : Nat) : Int))), (11, (.int .i64 ((k2 : Nat) : Int)))]) (fun _ (_ : Unit) (_ : Unit) w' => Cx w0 fp0 S0 w' [Es (List (List Int)) rows_ rows_h]) () () e ⟨rfl, rfl, rfl, rfl, rfl, trivial⟩ (H.sel [0] rfl) ?_ ?_
 ·
  clear H e
  rintro T0 k2 _ _ w1 o0 hk (H : Cx w0 fp0 S0 w1 [Es (List (List Int)) rows_ rows_h]) hrt f1
  refine boolE (z := true) (ltLen hk) ?_
  refine sq ?_
  refine sq ?_
  obtain ⟨a0, e, f2⟩ := bindS f1; clear f1
  have HH := H; clear H; obtain ⟨p0, m0, h0, c0, c1, c2, c3, H⟩ := HH.elL 0 rfl e; clear HH
  clear e
  refine idxE c0 c1 c2 ?_; clear c0 c1 c2
  refine load1 c3 ?_; clear c3
  obtain ⟨y0, e, f3⟩ := bindS f2; clear f2
  have ey41 := e; clear e
  refine callF (impl_isVector_c p_ a0 h0 n_ y0 ey41) (Γi := []) H ⟨Vw.sh 0 rfl, trivial⟩ ?_; clear H ey41
  rintro _ _ w2 ⟨rfl, rfl⟩ H
  obtain ⟨a1, e, f4⟩ := bindS f3; clear f3
  refine boolO e ?_; clear e
  cases a1
  ·
   have f5 := condF f4; clear f4
   refine arK hk x0 ?_
   have hs := Option.some.inj f5; subst hs; clear f5
   exact ⟨(), (), rfl, ⟨rfl, rfl, rfl, rfl, rfl, trivial⟩, H.sel [1] rfl⟩
  ·
   have f6 := condT f4; clear f4
   have hs := Option.some.inj f6; subst hs; clear f6
   have hr := hrt _ rfl; subst hr
   have f7 : some _ = some _ := f0
   cases f7
   exact ⟨_, _, rfl, ⟨rfl, rfl⟩, (H.sel [] rfl).close trivial⟩
 ·
  clear H e
  rintro T1 _ _ w3 hr (H : Cx w0 fp0 S0 w3 [Es (List (List Int)) rows_ rows_h])
  subst hr
  refine boolE (z := false) geLen ?_
  refine sq ?_
  cases f0
  exact ⟨_, _, rfl, ⟨rfl, rfl⟩, (H.sel [] rfl).close trivial⟩

theorem impl_isMatrix_c (p_ : Int) (m__0 : Int) (m__1 : List (List Int)) (m__1h : Hd) (y : Bool) (hF : F_impl_isMatrix p_ (m__0, m__1) = some y) :
  ConF Tryd.prog 87 #[(.int .i64 p_), (.agg #[(.int .i64 m__0), (m__1h).v])] [Es (List (List Int)) m__1 m__1h, Gl 0 [.int .i64 2, .int .i64 3, .int .i64 5, .int .i64 7]] [] (fun v Γ' => v = (.bool y) ∧ Γ' = []) := by
 intro w0 S0 fp0 hI hS
 have H : Cx w0 fp0 S0 w0 [Es (List (List Int)) m__1 m__1h, Gl 0 [.int .i64 2, .int .i64 3, .int .i64 5, .int .i64 7]] := Cx.start hI hS
 clear hI hS
 refine enterC (args := [_, _]) gok Tryd.func87 rfl _ rfl rfl rfl ?_
 refine box_ H ?_; clear H; intro b4 w3 hx H
 clear hx
 obtain ⟨r0, f0, f1⟩ := bindS hF; clear hF
 refine cut (fun (q0 : Bool) => [(4, (.bool q0))]) (fun (q0 : Bool) w' => q0 = r0 ∧ Cx w0 fp0 S0 w' [Gl 0 [.int .i64 2, .int .i64 3, .int .i64 5, .int .i64 7]]) ?_ ?_
 ·
  obtain ⟨y0, e, f2⟩ := bindS f0; clear f0
  have ey29 := e; clear e
  refine callF (impl_isField_c p_ y0 ey29) (Γi := []) H ⟨Vw.gl 2 rfl, trivial⟩ ?_; clear H ey29
  rintro _ _ w1 ⟨rfl, rfl⟩ H
  cases y0
  ·
   have f3 := condF f2; clear f2
   exact ⟨false, ⟨rfl, trivial⟩, Option.some.inj f3, H.sel [2] rfl⟩
  ·
   have f4 := condT f2; clear f2
   refine fld gok rfl rfl rfl rfl ?_
   refine load1 (H.bx 0 rfl (j := 0) rfl) ?_
   obtain ⟨y1, e, f5⟩ := bindS f4; clear f4
   have ey34 := e; clear e
   refine callF (impl_within_c m__0 0 24 y1 ey34) (Γi := []) H trivial ?_; clear H ey34
   rintro _ _ w2 ⟨rfl, rfl⟩ H
   cases y1
   ·
    have f6 := condF f5; clear f5
    exact ⟨false, ⟨rfl, trivial⟩, Option.some.inj f6, H.sel [2] rfl⟩
   ·
    have f7 := condT f5; clear f5
    refine fld gok rfl rfl rfl rfl ?_
    refine load1 (H.bx 0 rfl (j := 1) rfl) ?_
    refine lenE (H.rs (α := List (List Int)) 1 rfl).len ?_
    obtain ⟨a0, e, f8⟩ := bindS f7; clear f7
    refine boolO e ?_; clear e
    cases a0
    ·
     have f9 := condF f8; clear f8
     exact ⟨false, ⟨rfl, trivial⟩, Option.some.inj f9, H.sel [2] rfl⟩
    ·
     have f10 := condT f8; clear f8
     refine fld gok rfl rfl rfl rfl ?_
     refine load1 (H.bx 0 rfl (j := 1) rfl) ?_
     refine fld gok rfl rfl rfl rfl ?_
     refine load1 (H.bx 0 rfl (j := 0) rfl) ?_
     obtain ⟨y2, e, f11⟩ := bindS f10; clear f10
     have ey43 := e; clear e
     refine callF (impl_areVectors_c p_ m__1 m__1h m__0 y2 ey43) (Γi := []) H ⟨Vw.sh 1 rfl, trivial⟩ ?_; clear H ey43
     rintro _ _ w4 ⟨rfl, rfl⟩ H
     exact ⟨y2, ⟨rfl, trivial⟩, Option.some.inj f11, H.sel [2] rfl⟩
 ·
  clear f0 H
  rintro T0 s0 w5 ⟨hr, (H : Cx w0 fp0 S0 w5 [Gl 0 [.int .i64 2, .int .i64 3, .int .i64 5, .int .i64 7]])⟩
  subst hr
  cases f1
  exact ⟨_, _, rfl, ⟨rfl, rfl⟩, (H.sel [] rfl).close trivial⟩

theorem impl_isResponse_c (p_ : Int) (m_ : List (Int × List (List Int))) (m_h : Hd) (y : Bool) (hF : F_impl_isResponse p_ m_ = some y) :
  ConF Tryd.prog 51 #[(.int .i64 p_), (m_h).v] [Es (List (Int × List (List Int))) m_ m_h, Gl 0 [.int .i64 2, .int .i64 3, .int .i64 5, .int .i64 7]] [] (fun v Γ' => v = (.bool y) ∧ Γ' = []) := by
 intro w0 S0 fp0 hI hS
 have H : Cx w0 fp0 S0 w0 [Es (List (Int × List (List Int))) m_ m_h, Gl 0 [.int .i64 2, .int .i64 3, .int .i64 5, .int .i64 7]] := Cx.start hI hS
 clear hI hS
 refine enterC (args := [_, _]) gok Tryd.func51 rfl _ rfl rfl rfl ?_
 refine sq ?_
 obtain ⟨r0, f0, f1⟩ := bindS hF; clear hF
 refine cut (fun (q0 : Bool) => [(0, (.int .i64 p_)), (1, (m_h).v), (15, (.bool q0))]) (fun (q0 : Bool) w' => q0 = r0 ∧ Cx w0 fp0 S0 w' [Es (List (Int × List (List Int))) m_ m_h, Gl 0 [.int .i64 2, .int .i64 3, .int .i64 5, .int .i64 7]]) ?_ ?_
 ·
  obtain ⟨y0, e, f2⟩ := bindS f0; clear f0
  have ey21 := e; clear e
  refine callF (impl_isField_c p_ y0 ey21) (Γi := []) H ⟨Vw.gl 1 rfl, trivial⟩ ?_; clear H ey21
  rintro _ _ w1 ⟨rfl, rfl⟩ H
  obtain ⟨a0, e, f3⟩ := bindS f2; clear f2
  refine boolO e ?_; clear e
  cases a0
  ·
   have f4 := condF f3; clear f3
   refine lenE (H.rs (α := List (Int × List (List Int))) 0 rfl).len ?_
   obtain ⟨y1, e, f5⟩ := bindS f4; clear f4
   have ey27 := e; clear e
   refine callF (impl_within_c ((m_.length : Nat) : Int) 1 60 y1 ey27) (Γi := []) H trivial ?_; clear H ey27
   rintro _ _ w2 ⟨rfl, rfl⟩ H
   obtain ⟨a1, e, f6⟩ := bindS f5; clear f5
   refine boolO e ?_; clear e
   exact ⟨a1, ⟨rfl, rfl, rfl, trivial⟩, Option.some.inj f6, H.sel [0, 1] rfl⟩
  ·
   have f7 := condT f3; clear f3
   exact ⟨true, ⟨rfl, rfl, rfl, trivial⟩, Option.some.inj f7, H.sel [0, 1] rfl⟩
 ·
  clear f0 H
  rintro T0 s0 w3 ⟨hr, (H : Cx w0 fp0 S0 w3 [Es (List (Int × List (List Int))) m_ m_h, Gl 0 [.int .i64 2, .int .i64 3, .int .i64 5, .int .i64 7]])⟩
  subst hr
  cases s0
  ·
   have f8 := condF f1; clear f1
   refine sq ?_
   refine lenE (H.rs (α := List (Int × List (List Int))) 0 rfl).len ?_
   have x0 := (H.rs (α := List (Int × List (List Int))) 0 rfl).max
   obtain ⟨r1, e, f9⟩ := bindS f8; clear f8
   refine loopO _ m_.length (fun (k0 : Nat) (_ : Unit) (_ : Unit) => [(0, (.int .i64 p_)), (1, (m_h).v), (16, (m_h).v), (17, (.int .i64 ((m_.length : Nat) : Int))), (18, (.int .i64 ((k0 : Nat) : Int)))]) (fun _ (_ : Unit) (_ : Unit) w' => Cx w0 fp0 S0 w' [Es (List (Int × List (List Int))) m_ m_h, Gl 0 [.int .i64 2, .int .i64 3, .int .i64 5, .int .i64 7]]) () () e ⟨rfl, rfl, rfl, rfl, rfl, trivial⟩ (H.sel [0, 1] rfl) ?_ ?_
   ·
    clear H e
    rintro T1 k0 _ _ w4 o0 hk (H : Cx w0 fp0 S0 w4 [Es (List (Int × List (List Int))) m_ m_h, Gl 0 [.int .i64 2, .int .i64 3, .int .i64 5, .int .i64 7]]) hrt f10
    refine boolE (z := true) (ltLen hk) ?_
    refine sq ?_
    refine sq ?_
    obtain ⟨a2, e, f11⟩ := bindS f10; clear f10
    have HH := H; clear H; obtain ⟨p0, m0, g0, c0, c1, c2, c3, H⟩ := HH.el (α := Int × List (List Int)) 0 rfl e; clear HH
    clear e
    obtain ⟨a2_0, a2_1⟩ := a2
    obtain ⟨_, h0⟩ := g0
    replace H := H.part (β := List (List Int)) a2_1 (h0 : Hd) 0 rfl (fun S h => (And.right h))
    replace H := H.sel [0, 2, 3] rfl
    refine idxE c0 c1 c2 ?_; clear c0 c1 c2
    refine loadN [(.int .i64 a2_0), (h0).v] rfl c3 ?_; clear c3
    refine alloc_ gok rfl H ?_; clear H; intro b0 w5 hx H
    clear hx
    refine stA gok [(.int .i64 a2_0), (h0).v] rfl H rfl rfl rfl ?_; clear H; intro w6 H
    obtain ⟨r2, f12, f13⟩ := bindS f11; clear f11
    refine cut (fun (q1 : Bool) => [(0, (.int .i64 p_)), (1, (m_h).v), (16, (m_h).v), (17, (.int .i64 ((m_.length : Nat) : Int))), (18, (.int .i64 ((k0 : Nat) : Int))), (45, (.bool q1))]) (fun (q1 : Bool) w' => q1 = r2 ∧ Cx w0 fp0 S0 w' [Es (List (Int × List (List Int))) m_ m_h, Gl 0 [.int .i64 2, .int .i64 3, .int .i64 5, .int .i64 7]]) ?_ ?_
    ·
     refine heldX H [] (.fst 0 (.fst 1 (.act 2 (.fst 3 (.fst 4 (.fst 5 (.fst 8 (.fst 9 (.fst 10 (.fst 6 (.fst 7 (.fst 11 (.fst 12 (.fst 13 (.fst 14 (.fst 15 (.fst 16 (.fst 18 (.fst 19 (.fst 20 (.fst 17 (.fst 21 (.fst 22 (.fst 23 .done)))))))))))))))))))))))) mixed [] trivial (by kernel_rfl) ?_
     clear H; intro w7 H
     have hX : Ext w7 w7 := Upd.refl _ _
     have H0 := H
     refine loadNX [(.int .i64 a2_0), (h0).v] rfl (fun j u hj => H.bx 0 rfl hj) ?_
     obtain ⟨y2, e, f14⟩ := bindS f12; clear f12
     have ey211 := e; clear e
     refine callFx (impl_isMatrix_c p_ a2_0 a2_1 h0 y2 ey211) H ⟨Vw.sh 1 rfl, Vw.gl 3 rfl, trivial⟩ ?_; clear H ey211
     rintro _ _ w8 ⟨rfl, rfl⟩ hx H
     replace hX := hX.trans0 hx; clear hx
     refine hold hX ?_
     obtain ⟨a3, e, f15⟩ := bindS f14; clear f14
     refine boolO e ?_; clear e
     cases a3
     ·
      have f16 := condF f15; clear f15
      refine anyH (fun _ => fld gok rfl rfl rfl rfl ⟨rfl, rfl⟩) ?_
      obtain ⟨a4, e, f17⟩ := bindS f16; clear f16
      have HH := H; clear H; obtain ⟨p1, m1, g1, c4, c5, c6, c7, H⟩ := HH.el (α := Int × List (List Int)) 2 rfl e; clear HH
      replace c7 := lateN hX (H0.rs (α := List (Int × List (List Int))) 2 rfl) rfl e c4 c7; clear e
      obtain ⟨a4_0, a4_1⟩ := a4
      obtain ⟨_, h1⟩ := g1
      replace H := H.part (β := List (List Int)) a4_1 (h1 : Hd) 0 rfl (fun S h => (And.right h))
      replace H := H.sel [0, 2, 3, 4, 5] rfl
      refine idxE c4 c5 c6 ?_; clear c4 c5 c6
      refine anyH (fun _ => fld gok rfl rfl rfl rfl ⟨rfl, rfl⟩) ?_
      refine load1X (H0.bx 0 rfl (j := 1) rfl) ?_
      refine lenE (H.rs (α := List (List Int)) 2 rfl).len ?_
      refine load1X (c7 1 _ rfl) ?_
      refine lenE (H.rs (α := List (List Int)) 0 rfl).len ?_
      obtain ⟨a5, e, f18⟩ := bindS f17; clear f17
      refine boolO e ?_; clear e
      cases a5
      ·
       have f19 := condF f18; clear f18
       refine anyH (fun _ => fld gok rfl rfl rfl rfl ⟨rfl, rfl⟩) ?_
       obtain ⟨a6, e, f20⟩ := bindS f19; clear f19
       have HH := H; clear H; obtain ⟨p2, m2, g2, c8, c9, c10, c11, H⟩ := HH.el (α := Int × List (List Int)) 3 rfl e; clear HH
       replace c11 := lateN hX (H0.rs (α := List (Int × List (List Int))) 2 rfl) rfl e c8 c11; clear e
       obtain ⟨a6_0, a6_1⟩ := a6
       obtain ⟨_, h2⟩ := g2
       replace H := H.part (β := List (List Int)) a6_1 (h2 : Hd) 0 rfl (fun S h => (And.right h))
       replace H := H.sel [0, 2, 3, 4, 5, 6] rfl
       refine idxE c8 c9 c10 ?_; clear c8 c9 c10
       refine anyH (fun _ => fld gok rfl rfl rfl rfl ⟨rfl, rfl⟩) ?_
       refine load1X (H0.bx 0 rfl (j := 0) rfl) ?_
       refine load1X (c11 0 _ rfl) ?_
       obtain ⟨a7, e, f21⟩ := bindS f20; clear f20
       refine boolO e ?_; clear e
       exact ⟨a7, ⟨rfl, rfl, rfl, rfl, rfl, rfl, trivial⟩, Option.some.inj f21, H.sel [4, 5] rfl⟩
      ·
       have f22 := condT f18; clear f18
       exact ⟨true, ⟨rfl, rfl, rfl, rfl, rfl, rfl, trivial⟩, Option.some.inj f22, H.sel [3, 4] rfl⟩
     ·
      have f23 := condT f15; clear f15
      exact ⟨true, ⟨rfl, rfl, rfl, rfl, rfl, rfl, trivial⟩, Option.some.inj f23, H.sel [2, 3] rfl⟩
    ·
     clear f12 H
     rintro T2 s1 w9 ⟨hr, (H : Cx w0 fp0 S0 w9 [Es (List (Int × List (List Int))) m_ m_h, Gl 0 [.int .i64 2, .int .i64 3, .int .i64 5, .int .i64 7]])⟩
     subst hr
     cases s1
     ·
      have f24 := condF f13; clear f13
      refine arK hk x0 ?_
      have hs := Option.some.inj f24; subst hs; clear f24
      exact ⟨(), (), rfl, ⟨rfl, rfl, rfl, rfl, rfl, trivial⟩, H.sel [0, 1] rfl⟩
     ·
      have f25 := condT f13; clear f13
      have hs := Option.some.inj f25; subst hs; clear f25
      have hr := hrt _ rfl; subst hr
      have f26 : some _ = some _ := f9
      cases f26
      exact ⟨_, _, rfl, ⟨rfl, rfl⟩, (H.sel [] rfl).close trivial⟩
   ·
    clear H e
    rintro T3 _ _ w10 hr (H : Cx w0 fp0 S0 w10 [Es (List (Int × List (List Int))) m_ m_h, Gl 0 [.int .i64 2, .int .i64 3, .int .i64 5, .int .i64 7]])
    subst hr
    refine boolE (z := false) geLen ?_
    refine sq ?_
    obtain ⟨r3, f27, f28⟩ := bindS f9; clear f9
    refine cut (fun (q2 : Bool) => [(4, (.bool q2))]) (fun (q2 : Bool) w' => q2 = r3 ∧ Cx w0 fp0 S0 w' [Gl 0 [.int .i64 2, .int .i64 3, .int .i64 5, .int .i64 7]]) ?_ ?_
    ·
     obtain ⟨a8, e, f29⟩ := bindS f27; clear f27
     have HH := H; clear H; obtain ⟨p3, m3, g3, c12, c13, c14, c15, H⟩ := HH.el (α := Int × List (List Int)) 0 rfl e; clear HH
     clear e
     obtain ⟨a8_0, a8_1⟩ := a8
     obtain ⟨_, h3⟩ := g3
     replace H := H.part (β := List (List Int)) a8_1 (h3 : Hd) 0 rfl (fun S h => (And.right h))
     replace H := H.sel [0, 2, 3] rfl
     refine idxE c12 c13 c14 ?_; clear c12 c13 c14
     refine fld gok rfl rfl rfl rfl ?_
     refine load1 (c15 1 _ rfl) ?_
     refine lenE (H.rs (α := List (List Int)) 0 rfl).len ?_
     obtain ⟨a9, e, f30⟩ := bindS f29; clear f29
     refine boolO e ?_; clear e
     cases a9
     ·
      have f31 := condF f30; clear f30
      exact ⟨false, ⟨rfl, trivial⟩, Option.some.inj f31, H.sel [2] rfl⟩
     ·
      have f32 := condT f30; clear f30
      obtain ⟨a10, e, f33⟩ := bindS f32; clear f32
      have HH := H; clear H; obtain ⟨p4, m4, g4, c16, c17, c18, c19, H⟩ := HH.el (α := Int × List (List Int)) 1 rfl e; clear HH
      clear e
      obtain ⟨a10_0, a10_1⟩ := a10
      obtain ⟨_, h4⟩ := g4
      replace H := H.part (β := List (List Int)) a10_1 (h4 : Hd) 0 rfl (fun S h => (And.right h))
      replace H := H.sel [0, 2, 3, 4] rfl
      refine idxE c16 c17 c18 ?_; clear c16 c17 c18
      refine fld gok rfl rfl rfl rfl ?_
      refine load1 (c19 0 _ rfl) ?_
      obtain ⟨a11, e, f34⟩ := bindS f33; clear f33
      refine boolO e ?_; clear e
      exact ⟨a11, ⟨rfl, trivial⟩, Option.some.inj f34, H.sel [3] rfl⟩
    ·
     clear f27 H
     rintro T4 s2 w11 ⟨hr, (H : Cx w0 fp0 S0 w11 [Gl 0 [.int .i64 2, .int .i64 3, .int .i64 5, .int .i64 7]])⟩
     subst hr
     cases f28
     exact ⟨_, _, rfl, ⟨rfl, rfl⟩, (H.sel [] rfl).close trivial⟩
  ·
   have f35 := condT f1; clear f1
   cases f35
   exact ⟨_, _, rfl, ⟨rfl, rfl⟩, (H.sel [] rfl).close trivial⟩

theorem impl_beside_c (rows_ : Int) (blocks_ : List (Int × List (List Int))) (blocks_h : Hd) (y : List (List Int)) (hF : F_impl_beside rows_ blocks_ = some y) :
  ConF Tryd.prog 110 #[(.int .i64 rows_), (blocks_h).v] [Es (List (Int × List (List Int))) blocks_ blocks_h] [] (fun v Γ' => ∃ z0 : Hd, v = (z0).v ∧ Γ' = [E (List (List Int)) y z0]) := by
 intro w0 S0 fp0 hI hS
 have H : Cx w0 fp0 S0 w0 [Es (List (Int × List (List Int))) blocks_ blocks_h] := Cx.start hI hS
 clear hI hS
 refine enterC (args := [_, _]) gok Tryd.func110 rfl _ rfl rfl rfl ?_
 obtain ⟨a2, e, hF3⟩ := bindS hF; clear hF
 refine make_ (α := List Int) gok rfl rfl rfl rfl (makeCO_of e) H ?_; clear e H; intro h5 w4 hx H
 clear hx
 refine sq ?_
 refine lenE (H.ro (α := List (List Int)) 0 rfl).len ?_
 have x0 := (H.ro (α := List (List Int)) 0 rfl).max
 obtain ⟨r0, e, f0⟩ := bindS hF3; clear hF3
 refine loopS _ a2.length (fun (k7 : Nat) (s0 : List (List Int)) (_ : Unit) => [(1, (blocks_h).v), (5, (h5).v), (12, (.int .i64 ((a2.length : Nat) : Int))), (13, (.int .i64 ((k7 : Nat) : Int)))]) (fun _ (s0 : List (List Int)) (_ : Unit) w' => Cx w0 fp0 S0 w' [Es (List (Int × List (List Int))) blocks_ blocks_h, E (List (List Int)) s0 h5]) a2 () e ⟨rfl, rfl, rfl, rfl, trivial⟩ (H.sel [1, 0] rfl) ?_ ?_
 ·
  clear H e
  rintro T0 k7 s0 _ w1 o0 hk (H : Cx w0 fp0 S0 w1 [Es (List (Int × List (List Int))) blocks_ blocks_h, E (List (List Int)) s0 h5]) f1
  refine boolE (z := true) (ltLen hk) ?_
  refine sq ?_
  refine sq ?_
  refine lenE (H.rs (α := List (Int × List (List Int))) 0 rfl).len ?_
  have x1 := (H.rs (α := List (Int × List (List Int))) 0 rfl).max
  obtain ⟨r1, e, f2⟩ := bindS f1; clear f1
  refine loopS _ blocks_.length (fun (k0 : Nat) (s1 : List (List Int)) (_ : Unit) => [(1, (blocks_h).v), (5, (h5).v), (6, (.int .i64 ((k7 : Nat) : Int))), (12, (.int .i64 ((a2.length : Nat) : Int))), (13, (.int .i64 ((k7 : Nat) : Int))), (16, (blocks_h).v), (17, (.int .i64 ((blocks_.length : Nat) : Int))), (18, (.int .i64 ((k0 : Nat) : Int)))]) (fun _ (s1 : List (List Int)) (_ : Unit) w' => Cx w0 fp0 S0 w' [Es (List (Int × List (List Int))) blocks_ blocks_h, E (List (List Int)) s1 h5]) s0 () e ⟨rfl, rfl, rfl, rfl, rfl, rfl, rfl, rfl, trivial⟩ (H.sel [0, 1] rfl) ?_ ?_
  ·
   clear H e
   rintro T1 k0 s1 _ w2 o1 hk (H : Cx w0 fp0 S0 w2 [Es (List (Int × List (List Int))) blocks_ blocks_h, E (List (List Int)) s1 h5]) f3
   refine boolE (z := true) (ltLen hk) ?_
   refine sq ?_
   refine sq ?_
   obtain ⟨a0, e, f4⟩ := bindS f3; clear f3
   have HH := H; clear H; obtain ⟨p0, m0, g0, c0, c1, c2, c3, H⟩ := HH.el (α := Int × List (List Int)) 0 rfl e; clear HH
   clear e
   obtain ⟨a0_0, a0_1⟩ := a0
   obtain ⟨_, h0⟩ := g0
   replace H := H.part (β := List (List Int)) a0_1 (h0 : Hd) 0 rfl (fun S h => (And.right h))
   replace H := H.sel [0, 2, 3] rfl
   refine idxE c0 c1 c2 ?_; clear c0 c1 c2
   refine loadN [(.int .i64 a0_0), (h0).v] rfl c3 ?_; clear c3
   refine alloc_ gok rfl H ?_; clear H; intro b0 w3 hx H
   clear hx
   refine stA gok [(.int .i64 a0_0), (h0).v] rfl H rfl rfl rfl ?_; clear H; intro w5 H
   refine heldX H [11, 13, 12, 0, 1] (.pure 0 (.pure 1 (.fst 2 (.fst 3 (.fst 4 (.fst 6 (.fst 8 (.fst 5 (.fst 7 (.fst 9 (.fst 10 (.act 11 (.act 12 (.act 13 .done)))))))))))))) mixed [] trivial (by kernel_rfl) ?_
   clear H; intro w6 H
   have hX : Ext w6 w6 := Upd.refl _ _
   have H0 := H
   obtain ⟨a1, e, f5⟩ := bindS f4; clear f4
   replace H := H.sel [3, 0, 1, 2] rfl
   replace H := H.toEH (α := List Int)
   have HH := H; clear H; obtain ⟨p1, m1, h1, c4, c5, c6, c7, H⟩ := HH.peekL e; clear HH
   clear e
   refine idxE c4 c5 c6 ?_
   refine anyH (fun _ => fld gok rfl rfl rfl rfl ⟨rfl, rfl⟩) ?_
   refine load1X c7 ?_; clear c7
   refine load1X (H.bx 1 rfl (j := 1) rfl) ?_
   obtain ⟨a3, e, f6⟩ := bindS f5; clear f5
   have HH := H; clear H; obtain ⟨p2, m2, h2, c8, c9, c10, c11, H⟩ := HH.elL 2 rfl e; clear HH
   clear e
   refine idxE c8 c9 c10 ?_; clear c8 c9 c10
   refine load1X c11 ?_; clear c11
   replace H := H.sel [1, 0, 2, 3, 4] rfl
   replace H := H.takeK 0 rfl
   obtain ⟨a4, e, f7⟩ := bindS f6; clear f6
   refine appendS (α := Int) gok rfl rfl rfl rfl H (Vw.sh 1 rfl) e ?_; clear e H; intro h3 w7 H
   refine hold trivial ?_
   refine idxE c4 c5 c6 ?_
   refine hold trivial ?_
   replace H := H.sel [1, 0, 2, 3, 4, 5] rfl
   refine stX0 H c4 rfl rfl ?_; clear H; intro w8 H
   obtain ⟨a5, e, f8⟩ := bindS f7; clear f7
   replace H := H.sel [1, 0, 2, 3, 4, 5] rfl
   replace H := H.put c5 e; clear e
   refine hold trivial ?_
   refine arK hk x1 ?_
   have hs := Option.some.inj f8; subst hs; clear f8
   exact ⟨(), ⟨rfl, rfl, rfl, rfl, rfl, rfl, rfl, rfl, trivial⟩, H.sel [4, 0] rfl⟩
  ·
   clear H e
   rintro T2 _ w9 (H : Cx w0 fp0 S0 w9 [Es (List (Int × List (List Int))) blocks_ blocks_h, E (List (List Int)) r1 h5])
   refine boolE (z := false) geLen ?_
   refine sq ?_
   refine arK hk x0 ?_
   have hs := Option.some.inj f2; subst hs; clear f2
   exact ⟨(), ⟨rfl, rfl, rfl, rfl, trivial⟩, H.sel [0, 1] rfl⟩
 ·
  clear H e
  rintro T3 _ w10 (H : Cx w0 fp0 S0 w10 [Es (List (Int × List (List Int))) blocks_ blocks_h, E (List (List Int)) r0 h5])
  refine boolE (z := false) geLen ?_
  refine sq ?_
  cases f0
  exact ⟨_, _, rfl, ⟨h5, rfl, rfl⟩, (H.sel [1] rfl).close ⟨cloE, trivial⟩⟩

theorem impl_hankel_c (m_ : List (Int × List (List Int))) (m_h : Hd) (rows_ : Int) (cols_ : Int) (y : List (List Int)) (hF : F_impl_hankel m_ rows_ cols_ = some y) :
  ConF Tryd.prog 88 #[(m_h).v, (.int .i64 rows_), (.int .i64 cols_)] [Es (List (Int × List (List Int))) m_ m_h] [] (fun v Γ' => ∃ z0 : Hd, v = (z0).v ∧ Γ' = [E (List (List Int)) y z0]) := by
 intro w0 S0 fp0 hI hS
 have H : Cx w0 fp0 S0 w0 [Es (List (Int × List (List Int))) m_ m_h] := Cx.start hI hS
 clear hI hS
 refine enterC (args := [_, _, _]) gok Tryd.func88 rfl _ rfl rfl rfl ?_
 refine lit0 (α := List Int) gok rfl rfl H ?_; clear H; intro h3 w2 hx H
 clear hx
 refine sq ?_
 obtain ⟨a0, hn, f0⟩ := bindS hF; clear hF
 obtain ⟨r0, e, f1⟩ := bindS f0; clear f0
 refine loopS _ rows_.toNat (fun (k5 : Nat) (s0 : List (List Int)) (g0 : Hd) => [(0, (m_h).v), (2, (.int .i64 cols_)), (7, (g0).v), (10, (.int .i64 rows_)), (11, (.int .i64 ((k5 : Nat) : Int)))]) (fun _ (s0 : List (List Int)) (g0 : Hd) w' => Cx w0 fp0 S0 w' [Es (List (Int × List (List Int))) m_ m_h, E (List (List Int)) s0 g0]) ([] : List (List Int)) h3 e ⟨rfl, rfl, rfl, rfl, rfl, trivial⟩ (H.sel [1, 0] rfl) ?_ ?_
 ·
  clear H e
  rintro T0 k5 s0 g0 w1 o0 hk (H : Cx w0 fp0 S0 w1 [Es (List (Int × List (List Int))) m_ m_h, E (List (List Int)) s0 g0]) f2
  refine boolE (z := true) (ltNat hk) ?_
  refine sq ?_
  refine sq ?_
  refine heldX H [15, 16] (.fst 0 (.fst 1 (.fst 2 (.fst 3 (.fst 6 (.fst 7 (.fst 8 (.fst 9 (.fst 10 (.fst 11 (.fst 12 (.fst 13 (.fst 4 (.fst 5 (.act 14 (.act 15 (.act 16 .done))))))))))))))))) mixed [] trivial (by kernel_rfl) ?_
  clear H; intro w3 H
  have hX : Ext w3 w3 := Upd.refl _ _
  have H0 := H
  obtain ⟨a1, e, f3⟩ := bindS f2; clear f2
  have HH := H; clear H; obtain ⟨p0, m0, g1, c0, c1, c2, c3, H⟩ := HH.el (α := Int × List (List Int)) 0 rfl e; clear HH
  clear e
  obtain ⟨a1_0, a1_1⟩ := a1
  obtain ⟨_, h0⟩ := g1
  replace H := H.part (β := List (List Int)) a1_1 (h0 : Hd) 0 rfl (fun S h => (And.right h))
  replace H := H.sel [0, 2, 3] rfl
  refine idxE c0 c1 c2 ?_; clear c0 c1 c2
  refine anyH (fun _ => fld gok rfl rfl rfl rfl ⟨rfl, rfl⟩) ?_
  obtain ⟨a2, e, f4⟩ := bindS f3; clear f3
  refine arO e ?_; clear e
  obtain ⟨a3, e, f5⟩ := bindS f4; clear f4
  refine arO e ?_; clear e
  obtain ⟨a4, e, f6⟩ := bindS f5; clear f5
  refine arO e ?_; clear e
  obtain ⟨a5, e, f7⟩ := bindS f6; clear f6
  refine slSX (α := Int × List (List Int)) gok rfl rfl H 1 rfl e rfl rfl ?_; clear e; intro h1 HH; clear H; have H := HH; clear HH
  refine load1X (c3 1 _ rfl) ?_
  refine lenE (H.rs (α := List (List Int)) 1 rfl).len ?_
  obtain ⟨y0, e, f8⟩ := bindS f7; clear f7
  have ey112 := e; clear e
  refine callFx (impl_beside_c ((a1_1.length : Nat) : Int) a5 h1 y0 ey112) H ⟨Vw.sh 0 rfl, trivial⟩ ?_; clear H ey112
  rintro _ _ w4 ⟨h2, rfl, rfl⟩ hx H
  replace hX := hX.trans0 hx; clear hx
  refine hold hX ?_
  obtain ⟨a6, e, f9⟩ := bindS f8; clear f8
  replace H := H.sel [4, 0, 1, 2, 3] rfl
  refine append_ (α := List Int) gok rfl rfl rfl rfl H e ?_; clear e H; intro h4 w5 H
  refine hold trivial ?_
  refine hold trivial ?_
  refine arK hk (maxI hn) ?_
  have hs := Option.some.inj f9; subst hs; clear f9
  exact ⟨h4, ⟨rfl, rfl, rfl, rfl, rfl, trivial⟩, H.sel [3, 0] rfl⟩
 ·
  clear H e
  rintro T1 g2 w6 (H : Cx w0 fp0 S0 w6 [Es (List (Int × List (List Int))) m_ m_h, E (List (List Int)) r0 g2])
  refine boolE (z := false) geNat ?_
  refine sq ?_
  cases f1
  exact ⟨_, _, rfl, ⟨g2, rfl, rfl⟩, (H.sel [1] rfl).close ⟨cloE, trivial⟩⟩

theorem impl_clone_c (list_ : List Int) (list_h : Hd) (y : List Int) (hF : F_impl_clone list_ = some y) :
  ConF Tryd.prog 92 #[(list_h).v] [Es (List Int) list_ list_h] [] (fun v Γ' => ∃ z0 : Hd, v = (z0).v ∧ Γ' = [E (List Int) y z0]) := by
 intro w0 S0 fp0 hI hS
 have H : Cx w0 fp0 S0 w0 [Es (List Int) list_ list_h] := Cx.start hI hS
 clear hI hS
 refine enterC (args := [_]) gok Tryd.func92 rfl _ rfl rfl rfl ?_
 refine lit0 (α := Int) gok rfl rfl H ?_; clear H; intro h3 w2 hx H
 clear hx
 obtain ⟨a5, e, hF6⟩ := bindS hF; clear hF
 refine appendS (α := Int) gok rfl rfl rfl rfl H (Vw.sh 0 rfl) e ?_; clear e H; intro h8 w7 H
 cases hF6
 exact ⟨_, _, rfl, ⟨h8, rfl, rfl⟩, (H.sel [0] rfl).close ⟨cloE, trivial⟩⟩

theorem impl_lead_c (v_ : List Int) (v_h : Hd) (y : Int) (hF : F_impl_lead v_ = some y) :
  ConF Tryd.prog 123 #[(v_h).v] [Es (List Int) v_ v_h] [] (fun v Γ' => v = (.int .i64 y) ∧ Γ' = []) := by
 intro w0 S0 fp0 hI hS
 have H : Cx w0 fp0 S0 w0 [Es (List Int) v_ v_h] := Cx.start hI hS
 clear hI hS
 refine enterC (args := [_]) gok Tryd.func123 rfl _ rfl rfl rfl ?_
 refine sq ?_
 refine lenE (H.rs (α := List Int) 0 rfl).len ?_
 have x0 := (H.rs (α := List Int) 0 rfl).max
 obtain ⟨r0, e, f0⟩ := bindS hF; clear hF
 refine loopO _ v_.length (fun (k2 : Nat) (_ : Unit) (_ : Unit) => [(0, (v_h).v), (5, (v_h).v), (6, (.int .i64 ((v_.length : Nat) : Int))), (7, (.int .i64 ((k2 : Nat) : Int)))]) (fun _ (_ : Unit) (_ : Unit) w' => Cx w0 fp0 S0 w' [Es (List Int) v_ v_h]) () () e ⟨rfl, rfl, rfl, rfl, trivial⟩ (H.sel [0] rfl) ?_ ?_
 ·
  clear H e
  rintro T0 k2 _ _ w1 o0 hk (H : Cx w0 fp0 S0 w1 [Es (List Int) v_ v_h]) hrt f1
  refine boolE (z := true) (ltLen hk) ?_
  refine sq ?_
  refine sq ?_
  obtain ⟨a0, e, f2⟩ := bindS f1; clear f1
  obtain ⟨p0, m0, c0, c1, c2, c3⟩ := (H.rs (α := List Int) 0 rfl).at1 e; clear e
  refine idxE c0 c1 c2 ?_; clear c0 c1 c2
  refine load1 c3 ?_; clear c3
  obtain ⟨a1, e, f3⟩ := bindS f2; clear f2
  refine boolO e ?_; clear e
  cases a1
  ·
   have f4 := condF f3; clear f3
   refine arK hk x0 ?_
   have hs := Option.some.inj f4; subst hs; clear f4
   exact ⟨(), (), rfl, ⟨rfl, rfl, rfl, rfl, trivial⟩, H.sel [0] rfl⟩
  ·
   have f5 := condT f3; clear f3
   have hs := Option.some.inj f5; subst hs; clear f5
   have hr := hrt _ rfl; subst hr
   have f6 : some _ = some _ := f0
   cases f6
   exact ⟨_, _, rfl, ⟨rfl, rfl⟩, (H.sel [] rfl).close trivial⟩
 ·
  clear H e
  rintro T1 _ _ w2 hr (H : Cx w0 fp0 S0 w2 [Es (List Int) v_ v_h])
  subst hr
  refine boolE (z := false) geLen ?_
  refine sq ?_
  refine lenE (H.rs (α := List Int) 0 rfl).len ?_
  cases f0
  exact ⟨_, _, rfl, ⟨rfl, rfl⟩, (H.sel [] rfl).close trivial⟩

theorem impl_mod_c (p_ : Int) (a_ : Int) (y : Int) (hF : F_impl_mod p_ a_ = some y) :
  ConF Tryd.prog 120 #[(.int .i64 p_), (.int .i64 a_)] [] [] (fun v Γ' => v = (.int .i64 y) ∧ Γ' = []) := by
 intro w0 S0 fp0 hI hS
 have H : Cx w0 fp0 S0 w0 [] := Cx.start hI hS
 clear hI hS
 refine enterC (args := [_, _]) gok Tryd.func120 rfl _ rfl rfl rfl ?_
 obtain ⟨a1, e, hF2⟩ := bindS hF; clear hF
 refine remO_ e ?_; clear e
 refine sq ?_
 obtain ⟨a3, e, hF4⟩ := bindS hF2; clear hF2
 refine boolO e ?_; clear e
 cases a3
 ·
  have hF5 := condF hF4; clear hF4
  cases hF5
  exact ⟨_, _, rfl, ⟨rfl, rfl⟩, (H.sel [] rfl).close trivial⟩
 ·
  have hF6 := condT hF4; clear hF4
  obtain ⟨a7, e, hF8⟩ := bindS hF6; clear hF6
  refine arO e ?_; clear e
  cases hF8
  exact ⟨_, _, rfl, ⟨rfl, rfl⟩, (H.sel [] rfl).close trivial⟩

theorem impl_addTimes_c (p_ : Int) (v_ : List Int) (v_h : Hd) (by_ : Int) (w_ : List Int) (w_h : Hd) (y : List Int) (hF : F_impl_addTimes p_ v_ by_ w_ = some y) :
  ConF Tryd.prog 104 #[(.int .i64 p_), (v_h).v, (.int .i64 by_), (w_h).v] [Es (List Int) w_ w_h] [E (List Int) v_ v_h] (fun v Γ' => v = (.tuple #[]) ∧ Γ' = [E (List Int) y v_h]) := by
 intro w0 S0 fp0 hI hS
 have H : Cx w0 fp0 S0 w0 [Es (List Int) w_ w_h, E (List Int) v_ v_h] := Cx.start hI hS
 clear hI hS
 refine enterC (args := [_, _, _, _]) gok Tryd.func104 rfl _ rfl rfl rfl ?_
 refine lenE (H.rs (α := List Int) 0 rfl).len ?_
 have x0 := (H.rs (α := List Int) 0 rfl).max
 obtain ⟨r0, e, f0⟩ := bindS hF; clear hF
 refine loopS _ w_.length (fun (k3 : Nat) (s0 : List Int) (_ : Unit) => [(0, (.int .i64 p_)), (1, (v_h).v), (2, (.int .i64 by_)), (10, (w_h).v), (11, (.int .i64 ((w_.length : Nat) : Int))), (12, (.int .i64 ((k3 : Nat) : Int)))]) (fun _ (s0 : List Int) (_ : Unit) w' => Cx w0 fp0 S0 w' [E (List Int) s0 v_h, Es (List Int) w_ w_h]) v_ () e ⟨rfl, rfl, rfl, rfl, rfl, rfl, trivial⟩ (H.sel [1, 0] rfl) ?_ ?_
 ·
  clear H e
  rintro T0 k3 s0 _ w1 o0 hk (H : Cx w0 fp0 S0 w1 [E (List Int) s0 v_h, Es (List Int) w_ w_h]) f1
  refine boolE (z := true) (ltLen hk) ?_
  refine sq ?_
  refine sq ?_
  obtain ⟨a0, e, f2⟩ := bindS f1; clear f1
  obtain ⟨p0, m0, c0, c1, c2, c3⟩ := (H.rs (α := List Int) 1 rfl).at1 e; clear e
  refine idxE c0 c1 c2 ?_; clear c0 c1 c2
  refine load1 c3 ?_; clear c3
  obtain ⟨a1, e, f3⟩ := bindS f2; clear f2
  obtain ⟨p1, m1, c4, c5, c6, c7⟩ := (H.ro (α := List Int) 0 rfl).at1 e; clear e
  refine idxE c4 c5 c6 ?_; clear c4 c5 c6
  refine load1 c7 ?_; clear c7
  obtain ⟨a2, e, f4⟩ := bindS f3; clear f3
  refine arO e ?_; clear e
  obtain ⟨a3, e, f5⟩ := bindS f4; clear f4
  refine arO e ?_; clear e
  obtain ⟨y0, e, f6⟩ := bindS f5; clear f5
  have ey101 := e; clear e
  refine callF (impl_mod_c p_ a3 y0 ey101) (Γi := []) H trivial ?_; clear H ey101
  rintro _ _ w2 ⟨rfl, rfl⟩ H
  obtain ⟨a4, e, f7⟩ := bindS f6; clear f6
  have ea110 := e; clear e
  obtain ⟨p2, m2, c8, c9, c10⟩ := (H.ro (α := List Int) 0 rfl).setp ea110
  refine idxE c8 c9 c10 ?_
  refine setS (α := Int) H c8 c9 ea110 ?_; clear H c8 c9 c10 ea110; intro w3 H
  refine arK hk x0 ?_
  have hs := Option.some.inj f7; subst hs; clear f7
  exact ⟨(), ⟨rfl, rfl, rfl, rfl, rfl, rfl, trivial⟩, H.sel [0, 1] rfl⟩
 ·
  clear H e
  rintro T1 _ w4 (H : Cx w0 fp0 S0 w4 [E (List Int) r0 v_h, Es (List Int) w_ w_h])
  refine boolE (z := false) geLen ?_
  refine sq ?_
  cases f0
  exact ⟨_, _, rfl, ⟨rfl, rfl⟩, (H.sel [0] rfl).close ⟨cloE, trivial⟩⟩

theorem impl_isZero_c (v_ : List Int) (v_h : Hd) (y : Bool) (hF : F_impl_isZero v_ = some y) :
  ConF Tryd.prog 124 #[(v_h).v] [Es (List Int) v_ v_h] [] (fun v Γ' => v = (.bool y) ∧ Γ' = []) := by
 intro w0 S0 fp0 hI hS
 have H : Cx w0 fp0 S0 w0 [Es (List Int) v_ v_h] := Cx.start hI hS
 clear hI hS
 refine enterC (args := [_]) gok Tryd.func124 rfl _ rfl rfl rfl ?_
 obtain ⟨y2, e, hF3⟩ := bindS hF; clear hF
 have ey2 := e; clear e
 refine callF (impl_lead_c v_ v_h y2 ey2) (Γi := []) H ⟨Vw.sh 0 rfl, trivial⟩ ?_; clear H ey2
 rintro _ _ w4 ⟨rfl, rfl⟩ H
 refine lenE (H.rs (α := List Int) 0 rfl).len ?_
 obtain ⟨a5, e, hF6⟩ := bindS hF3; clear hF3
 refine boolO e ?_; clear e
 cases hF6
 exact ⟨_, _, rfl, ⟨rfl, rfl⟩, (H.sel [] rfl).close trivial⟩

theorem impl_coordinates_c (p_ : Int) (basis_ : List (List Int)) (basis_h : Hd) (v_ : List Int) (v_h : Hd) (y0 : List Int) (y1 : Bool) (hF : F_impl_coordinates p_ basis_ v_ = some (y0, y1)) :
  ConF Tryd.prog 111 #[(.int .i64 p_), (basis_h).v, (v_h).v] [Es (List (List Int)) basis_ basis_h, Es (List Int) v_ v_h] [] (fun v Γ' => ∃ z0 : Hd, v = (.tuple #[(z0).v, (.bool y1)]) ∧ Γ' = [E (List Int) y0 z0]) := by
 intro w0 S0 fp0 hI hS
 have H : Cx w0 fp0 S0 w0 [Es (List (List Int)) basis_ basis_h, Es (List Int) v_ v_h] := Cx.start hI hS
 clear hI hS
 refine enterC (args := [_, _, _]) gok Tryd.func111 rfl _ rfl rfl rfl ?_
 obtain ⟨y3, e, hF4⟩ := bindS hF; clear hF
 have ey3 := e; clear e
 refine callF (impl_clone_c v_ v_h y3 ey3) (Γi := []) H ⟨Vw.sh 1 rfl, trivial⟩ ?_; clear H ey3
 rintro _ _ w5 ⟨h6, rfl, rfl⟩ H
 refine lit0 (α := Int) gok rfl rfl H ?_; clear H; intro h9 w8 hx H
 clear hx
 refine sq ?_
 refine lenE (H.rs (α := List (List Int)) 2 rfl).len ?_
 have x0 := (H.rs (α := List (List Int)) 2 rfl).max
 obtain ⟨r0, e, f0⟩ := bindS hF4; clear hF4
 refine loopS _ basis_.length (fun (k0 : Nat) (s0 : List Int × List Int) (g0 : Hd) => [(0, (.int .i64 p_)), (8, (h6).v), (9, (g0).v), (16, (basis_h).v), (17, (.int .i64 ((basis_.length : Nat) : Int))), (18, (.int .i64 ((k0 : Nat) : Int)))]) (fun _ (s0 : List Int × List Int) (g0 : Hd) w' => Cx w0 fp0 S0 w' [E (List Int) s0.1 h6, E (List Int) s0.2 g0, Es (List (List Int)) basis_ basis_h]) (y3, ([] : List Int)) h9 e ⟨rfl, rfl, rfl, rfl, rfl, rfl, trivial⟩ (H.sel [1, 0, 2] rfl) ?_ ?_
 ·
  clear H e
  rintro T0 k0 ⟨s0_0, s0_1⟩ g0 w1 o0 hk (H : Cx w0 fp0 S0 w1 [E (List Int) s0_0 h6, E (List Int) s0_1 g0, Es (List (List Int)) basis_ basis_h]) f1
  refine boolE (z := true) (ltLen hk) ?_
  refine sq ?_
  refine sq ?_
  obtain ⟨a0, e, f2⟩ := bindS f1; clear f1
  have HH := H; clear H; obtain ⟨p0, m0, h0, c0, c1, c2, c3, H⟩ := HH.elL 2 rfl e; clear HH
  clear e
  refine idxE c0 c1 c2 ?_; clear c0 c1 c2
  refine load1 c3 ?_; clear c3
  obtain ⟨y2, e, f3⟩ := bindS f2; clear f2
  have ey105 := e; clear e
  refine callF (impl_lead_c a0 h0 y2 ey105) (Γi := []) H ⟨Vw.sh 0 rfl, trivial⟩ ?_; clear H ey105
  rintro _ _ w2 ⟨rfl, rfl⟩ H
  obtain ⟨a1, e, f4⟩ := bindS f3; clear f3
  obtain ⟨p1, m1, c4, c5, c6, c7⟩ := (H.ro (α := List Int) 1 rfl).at1 e; clear e
  refine idxE c4 c5 c6 ?_; clear c4 c5 c6
  refine load1 c7 ?_; clear c7
  refine lit1S (α := Int) gok rfl rfl rfl rfl H ?_; clear H; intro h1 w3 hx H
  clear hx
  obtain ⟨a2, e, f5⟩ := bindS f4; clear f4
  replace H := H.sel [3, 0, 1, 2, 4] rfl
  refine append_ (α := Int) gok rfl rfl rfl rfl H e ?_; clear e H; intro h2 w4 H
  obtain ⟨a3, e, f6⟩ := bindS f5; clear f5
  refine arO e ?_; clear e
  obtain ⟨y4, e, f7⟩ := bindS f6; clear f6
  have ey126 := e; clear e
  replace H := H.sel [2, 0, 1, 3] rfl
  refine callF (impl_addTimes_c p_ s0_0 h6 a3 a0 h0 y4 ey126) (Γi := [E (List Int) s0_0 h6]) H ⟨Vw.sh 1 rfl, trivial⟩ ?_; clear H ey126
  rintro _ _ w6 ⟨rfl, rfl⟩ H
  refine arK hk x0 ?_
  have hs := Option.some.inj f7; subst hs; clear f7
  exact ⟨h2, ⟨rfl, rfl, rfl, rfl, rfl, rfl, trivial⟩, H.sel [0, 1, 3] rfl⟩
 ·
  clear H e
  obtain ⟨s1_0, s1_1⟩ := r0
  rintro T1 g1 w7 (H : Cx w0 fp0 S0 w7 [E (List Int) s1_0 h6, E (List Int) s1_1 g1, Es (List (List Int)) basis_ basis_h])
  refine boolE (z := false) geLen ?_
  refine sq ?_
  obtain ⟨y5, e, f8⟩ := bindS f0; clear f0
  have ey134 := e; clear e
  refine callF (impl_isZero_c s1_0 h6 y5 ey134) (Γi := []) H ⟨Vw.own 0 rfl, trivial⟩ ?_; clear H ey134
  rintro _ _ w9 ⟨rfl, rfl⟩ H
  cases f8
  exact ⟨_, _, rfl, ⟨g1, rfl, rfl⟩, (H.sel [1] rfl).close ⟨cloE, trivial⟩⟩

theorem impl_clones_c (list_ : List (List Int)) (list_h : Hd) (y : List (List Int)) (hF : F_impl_clones list_ = some y) :
  ConF Tryd.prog 71 #[(list_h).v] [Es (List (List Int)) list_ list_h] [] (fun v Γ' => ∃ z0 : Hd, v = (z0).v ∧ Γ' = [E (List (List Int)) y z0]) := by
 intro w0 S0 fp0 hI hS
 have H : Cx w0 fp0 S0 w0 [Es (List (List Int)) list_ list_h] := Cx.start hI hS
 clear hI hS
 refine enterC (args := [_]) gok Tryd.func71 rfl _ rfl rfl rfl ?_
 refine lenE (H.rs (α := List (List Int)) 0 rfl).len ?_
 obtain ⟨a2, e, hF3⟩ := bindS hF; clear hF
 refine make_ (α := List Int) gok rfl rfl rfl rfl e H ?_; clear e H; intro h5 w4 hx H
 clear hx
 refine sq ?_
 refine lenE (H.rs (α := List (List Int)) 1 rfl).len ?_
 have x0 := (H.rs (α := List (List Int)) 1 rfl).max
 obtain ⟨r0, e, f0⟩ := bindS hF3; clear hF3
 refine loopS _ list_.length (fun (k7 : Nat) (s0 : List (List Int)) (g0 : Hd) => [(3, (g0).v), (9, (list_h).v), (10, (.int .i64 ((list_.length : Nat) : Int))), (11, (.int .i64 ((k7 : Nat) : Int)))]) (fun _ (s0 : List (List Int)) (g0 : Hd) w' => Cx w0 fp0 S0 w' [E (List (List Int)) s0 g0, Es (List (List Int)) list_ list_h]) a2 h5 e ⟨rfl, rfl, rfl, rfl, trivial⟩ (H.sel [0, 1] rfl) ?_ ?_
 ·
  clear H e
  rintro T0 k7 s0 g0 w1 o0 hk (H : Cx w0 fp0 S0 w1 [E (List (List Int)) s0 g0, Es (List (List Int)) list_ list_h]) f1
  refine boolE (z := true) (ltLen hk) ?_
  refine sq ?_
  refine sq ?_
  obtain ⟨a0, e, f2⟩ := bindS f1; clear f1
  have HH := H; clear H; obtain ⟨p0, m0, h0, c0, c1, c2, c3, H⟩ := HH.elL 1 rfl e; clear HH
  clear e
  refine idxE c0 c1 c2 ?_; clear c0 c1 c2
  refine load1 c3 ?_; clear c3
  obtain ⟨y0, e, f3⟩ := bindS f2; clear f2
  have ey79 := e; clear e
  refine callF (impl_clone_c a0 h0 y0 ey79) (Γi := []) H ⟨Vw.sh 0 rfl, trivial⟩ ?_; clear H ey79
  rintro _ _ w2 ⟨h1, rfl, rfl⟩ H
  refine lit1 (α := List Int) (g := h1) gok rfl rfl rfl rfl rfl H ?_; clear H; intro h2 w3 hx H
  clear hx
  obtain ⟨a1, e, f4⟩ := bindS f3; clear f3
  replace H := H.sel [2, 0, 1, 3] rfl
  refine append_ (α := List Int) gok rfl rfl rfl rfl H e ?_; clear e H; intro h3 w5 H
  refine arK hk x0 ?_
  have hs := Option.some.inj f4; subst hs; clear f4
  exact ⟨h3, ⟨rfl, rfl, rfl, rfl, trivial⟩, H.sel [0, 2] rfl⟩
 ·
  clear H e
  rintro T1 g1 w6 (H : Cx w0 fp0 S0 w6 [E (List (List Int)) r0 g1, Es (List (List Int)) list_ list_h])
  refine boolE (z := false) geLen ?_
  refine sq ?_
  cases f0
  exact ⟨_, _, rfl, ⟨g1, rfl, rfl⟩, (H.sel [0] rfl).close ⟨cloE, trivial⟩⟩

theorem impl_bit_c (yes_ : Bool) (y : Int) (hF : F_impl_bit yes_ = some y) :
  ConF Tryd.prog 119 #[(.bool yes_)] [] [] (fun v Γ' => v = (.int .i64 y) ∧ Γ' = []) := by
 intro w0 S0 fp0 hI hS
 have H : Cx w0 fp0 S0 w0 [] := Cx.start hI hS
 clear hI hS
 refine enterC (args := [_]) gok Tryd.func119 rfl _ rfl rfl rfl ?_
 refine sq ?_
 cases yes_
 ·
  have hF1 := condF hF; clear hF
  cases hF1
  exact ⟨_, _, rfl, ⟨rfl, rfl⟩, (H.sel [] rfl).close trivial⟩
 ·
  have hF2 := condT hF; clear hF
  cases hF2
  exact ⟨_, _, rfl, ⟨rfl, rfl⟩, (H.sel [] rfl).close trivial⟩

theorem impl_power_c (p_ : Int) (a_ : Int) (n_ : Int) (y : Int) (hF : F_impl_power p_ a_ n_ = some y) :
  ConF Tryd.prog 118 #[(.int .i64 p_), (.int .i64 a_), (.int .i64 n_)] [] [] (fun v Γ' => v = (.int .i64 y) ∧ Γ' = []) := by
 intro w0 S0 fp0 hI hS
 have H : Cx w0 fp0 S0 w0 [] := Cx.start hI hS
 clear hI hS
 refine enterC (args := [_, _, _]) gok Tryd.func118 rfl _ rfl rfl rfl ?_
 obtain ⟨a1, e, hF2⟩ := bindS hF; clear hF
 refine remO_ e ?_; clear e
 obtain ⟨r0, f0, f1⟩ := bindS hF2; clear hF2
 refine cut (fun (q0 : Int) => [(7, (.int .i64 q0))]) (fun (q0 : Int) w' => q0 = r0 ∧ Cx w0 fp0 S0 w' []) ?_ ?_
 ·
  refine loopW _ (fun (s0 : Int × Int × Int) (_ : Unit) => [(0, (.int .i64 p_)), (1, (.int .i64 s0.1)), (2, (.int .i64 s0.2.1)), (7, (.int .i64 s0.2.2))]) (fun (s0 : Int × Int × Int) (_ : Unit) w' => Cx w0 fp0 S0 w' []) (a_, n_, a1) () f0 ⟨rfl, rfl, rfl, rfl, trivial⟩ (H.sel [] rfl) ?_
  ·
   clear H
   rintro T0 ⟨s0_0, s0_1, s0_2⟩ _ w1 o0 (H : Cx w0 fp0 S0 w1 []) hrt f2
   refine sq ?_
   obtain ⟨a0, e, f3⟩ := bindS f2; clear f2
   refine boolO e ?_; clear e
   cases a0
   ·
    have f4 := condF f3; clear f3
    have hs := Option.some.inj f4; subst hs; clear f4
    have f5 : some _ = some _ := congrArg some (hrt _ rfl).symm
    exact ⟨s0_2, ⟨rfl, trivial⟩, Option.some.inj f5, H.sel [] rfl⟩
   ·
    have f6 := condT f3; clear f3
    refine sq ?_
    obtain ⟨r1, f7, f8⟩ := bindS f6; clear f6
    refine cut (fun (q1 : Int) => [(0, (.int .i64 p_)), (1, (.int .i64 s0_0)), (2, (.int .i64 s0_1)), (7, (.int .i64 q1))]) (fun (q1 : Int) w' => q1 = r1 ∧ Cx w0 fp0 S0 w' []) ?_ ?_
    ·
     obtain ⟨a2, e, f9⟩ := bindS f7; clear f7
     refine remO_ e ?_; clear e
     obtain ⟨a3, e, f10⟩ := bindS f9; clear f9
     refine boolO e ?_; clear e
     cases a3
     ·
      have f11 := condF f10; clear f10
      exact ⟨s0_2, ⟨rfl, rfl, rfl, rfl, trivial⟩, Option.some.inj f11, H.sel [] rfl⟩
     ·
      have f12 := condT f10; clear f10
      obtain ⟨a4, e, f13⟩ := bindS f12; clear f12
      refine arO e ?_; clear e
      obtain ⟨a5, e, f14⟩ := bindS f13; clear f13
      refine remO_ e ?_; clear e
      exact ⟨a5, ⟨rfl, rfl, rfl, rfl, trivial⟩, Option.some.inj f14, H.sel [] rfl⟩
    ·
     clear f7 H
     rintro T1 s1 w2 ⟨hr, (H : Cx w0 fp0 S0 w2 [])⟩
     subst hr
     obtain ⟨a6, e, f15⟩ := bindS f8; clear f8
     refine arO e ?_; clear e
     obtain ⟨a7, e, f16⟩ := bindS f15; clear f15
     refine remO_ e ?_; clear e
     obtain ⟨a8, e, f17⟩ := bindS f16; clear f16
     refine quoO_ e ?_; clear e
     have hs := Option.some.inj f17; subst hs; clear f17
     exact ⟨(a7, a8, s1), (), rfl, ⟨rfl, rfl, rfl, rfl, trivial⟩, H.sel [] rfl⟩
 ·
  clear f0 H
  rintro T2 s2 w3 ⟨hr, (H : Cx w0 fp0 S0 w3 [])⟩
  subst hr
  cases f1
  exact ⟨_, _, rfl, ⟨rfl, rfl⟩, (H.sel [] rfl).close trivial⟩

theorem impl_inverse_c (p_ : Int) (a_ : Int) (y : Int) (hF : F_impl_inverse p_ a_ = some y) :
  ConF Tryd.prog 103 #[(.int .i64 p_), (.int .i64 a_)] [] [] (fun v Γ' => v = (.int .i64 y) ∧ Γ' = []) := by
 intro w0 S0 fp0 hI hS
 have H : Cx w0 fp0 S0 w0 [] := Cx.start hI hS
 clear hI hS
 refine enterC (args := [_, _]) gok Tryd.func103 rfl _ rfl rfl rfl ?_
 obtain ⟨a1, e, hF2⟩ := bindS hF; clear hF
 refine arO e ?_; clear e
 obtain ⟨a3, e, hF4⟩ := bindS hF2; clear hF2
 refine boolO e ?_; clear e
 obtain ⟨y5, e, hF6⟩ := bindS hF4; clear hF4
 have ey5 := e; clear e
 refine callF (impl_bit_c a3 y5 ey5) (Γi := []) H trivial ?_; clear H ey5
 rintro _ _ w7 ⟨rfl, rfl⟩ H
 obtain ⟨a8, e, hF9⟩ := bindS hF6; clear hF6
 refine arO e ?_; clear e
 obtain ⟨y0, e, f0⟩ := bindS hF9; clear hF9
 have ey10 := e; clear e
 refine callF (impl_power_c p_ a_ a8 y0 ey10) (Γi := []) H trivial ?_; clear H ey10
 rintro _ _ w1 ⟨rfl, rfl⟩ H
 cases f0
 exact ⟨_, _, rfl, ⟨rfl, rfl⟩, (H.sel [] rfl).close trivial⟩

theorem impl_rowOperation_apply_c (o__0 : Int) (o__1 : Int) (o__2 : Int) (o__3 : Int) (p_ : Int) (rows_ : List (List Int)) (rows_h : Hd) (y : List (List Int)) (hF : F_impl_rowOperation_apply (o__0, o__1, o__2, o__3) p_ rows_ = some y) :
  ConF Tryd.prog 74 #[(.agg #[(.int .i64 o__0), (.int .i64 o__1), (.int .i64 o__2), (.int .i64 o__3)]), (.int .i64 p_), (rows_h).v] [] [E (List (List Int)) rows_ rows_h] (fun v Γ' => v = (.tuple #[]) ∧ Γ' = [E (List (List Int)) y rows_h]) := by
 intro w0 S0 fp0 hI hS
 have H : Cx w0 fp0 S0 w0 [E (List (List Int)) rows_ rows_h] := Cx.start hI hS
 clear hI hS
 refine enterC (args := [_, _, _]) gok Tryd.func74 rfl _ rfl rfl rfl ?_
 refine box_ H ?_; clear H; intro b3 w2 hx H
 clear hx
 refine fld gok rfl rfl rfl rfl ?_
 refine load1 (H.bx 0 rfl (j := 0) rfl) ?_
 obtain ⟨a5, e, hF6⟩ := bindS hF; clear hF
 refine boolO e ?_; clear e
 cases a5
 ·
  have hF7 := condF hF6; clear hF6
  obtain ⟨a8, e, hF9⟩ := bindS hF7; clear hF7
  refine boolO e ?_; clear e
  cases a8
  ·
   have f0 := condF hF9; clear hF9
   obtain ⟨a0, e, f1⟩ := bindS f0; clear f0
   refine boolO e ?_; clear e
   cases a0
   ·
    have f2 := condF f1; clear f1
    cases f2
    exact ⟨_, _, rfl, ⟨rfl, rfl⟩, (H.sel [1] rfl).close ⟨cloE, trivial⟩⟩
   ·
    have f3 := condT f1; clear f1
    refine heldX H [14] (.fst 0 (.fst 1 (.fst 2 (.fst 6 (.fst 9 (.fst 10 (.fst 3 (.fst 4 (.fst 5 (.fst 7 (.fst 8 (.fst 11 (.fst 12 (.fst 13 (.act 14 .done))))))))))))))) mixed [] trivial (by kernel_rfl) ?_
    clear H; intro w1 H
    have hX : Ext w1 w1 := Upd.refl _ _
    have H0 := H
    refine anyH (fun _ => fld gok rfl rfl rfl rfl ⟨rfl, rfl⟩) ?_
    refine anyH (fun _ => fld gok rfl rfl rfl rfl ⟨rfl, rfl⟩) ?_
    refine anyH (fun _ => fld gok rfl rfl rfl rfl ⟨rfl, rfl⟩) ?_
    refine load1X (H.bx 0 rfl (j := 1) rfl) ?_
    obtain ⟨a1, e, f4⟩ := bindS f3; clear f3
    replace H := H.sel [1, 0] rfl
    replace H := H.toEH (α := List Int)
    have HH := H; clear H; obtain ⟨p0, m0, h0, c0, c1, c2, c3, H⟩ := HH.peekL e; clear HH
    clear e
    refine idxE c0 c1 c2 ?_
    refine load1X c3 ?_; clear c3
    refine load1X (H.bx 1 rfl (j := 3) rfl) ?_
    obtain ⟨a2, e, f5⟩ := bindS f4; clear f4
    refine arO e ?_; clear e
    refine load1X (H.bx 1 rfl (j := 2) rfl) ?_
    obtain ⟨a3, e, f6⟩ := bindS f5; clear f5
    have HH := H; clear H; obtain ⟨p1, m1, h1, c4, c5, c6, c7, H⟩ := HH.peekL e; clear HH
    clear e
    refine idxE c4 c5 c6 ?_
    refine load1X c7 ?_; clear c7
    obtain ⟨y0, e, f7⟩ := bindS f6; clear f6
    have ey36 := e; clear e
    have u0 := H.kn 0 rfl 0 rfl
    obtain ⟨u1, n0, f8⟩ := bindS f7; clear f7
    have q0 : m1 ≠ m0 := fun q => neqO_some n0 (by omega)
    replace H := H.takeK 1 rfl
    refine callF (impl_addTimes_c p_ a1 h0 a2 a3 h1 y0 ey36) (Γi := [E (List Int) a1 h0]) H ⟨Vw.ex (α := List Int) (k := ⟨m1, a3, h1⟩) 0 rfl u0 q0, trivial⟩ ?_; clear H ey36
    rintro _ _ w3 ⟨rfl, rfl⟩ H
    obtain ⟨a4, e, f9⟩ := bindS f8; clear f8
    replace H := H.put c1 e; clear e
    refine hold trivial ?_
    cases f9
    exact ⟨_, _, rfl, ⟨rfl, rfl⟩, (H.sel [0] rfl).close ⟨cloE, trivial⟩⟩
  ·
   have f10 := condT hF9; clear hF9
   refine fld gok rfl rfl rfl rfl ?_
   refine load1 (H.bx 0 rfl (j := 3) rfl) ?_
   obtain ⟨y1, e, f11⟩ := bindS f10; clear f10
   have ey48 := e; clear e
   refine callF (impl_inverse_c p_ o__3 y1 ey48) (Γi := []) H trivial ?_; clear H ey48
   rintro _ _ w4 ⟨rfl, rfl⟩ H
   refine fld gok rfl rfl rfl rfl ?_
   refine load1 (H.bx 0 rfl (j := 1) rfl) ?_
   obtain ⟨a6, e, f12⟩ := bindS f11; clear f11
   replace H := H.sel [1, 0] rfl
   have HH := H; clear H; obtain ⟨p2, m2, h2, c8, c9, c10, H⟩ := HH.take e; clear HH
   clear e
   have c11 := H.hx0 1 rfl c8 rfl
   refine idxE c8 c9 c10 ?_
   refine load1 c11 ?_; clear c11
   refine lenE (H.ro (α := List Int) 0 rfl).len ?_
   have x0 := (H.ro (α := List Int) 0 rfl).max
   obtain ⟨r0, e, f13⟩ := bindS f12; clear f12
   refine loopS _ a6.length (fun (k0 : Nat) (s0 : List Int) (_ : Unit) => [(1, (.int .i64 p_)), (2, (rows_h).v), (3, (.pointer (some ⟨b3, 0, none⟩))), (6, (.int .i64 y1)), (41, (h2).v), (42, (.int .i64 ((a6.length : Nat) : Int))), (43, (.int .i64 ((k0 : Nat) : Int)))]) (fun _ (s0 : List Int) (_ : Unit) w' => Cx w0 fp0 S0 w' [EX (List Int) m2 [(h2).v] rows_ rows_h, Bx b3 [(.int .i64 o__0), (.int .i64 o__1), (.int .i64 o__2), (.int .i64 o__3)], E (List Int) s0 h2]) a6 () e ⟨rfl, rfl, rfl, rfl, rfl, rfl, rfl, trivial⟩ (H.sel [1, 2, 0] rfl) ?_ ?_
   ·
    clear H e
    rintro T0 k0 s0 _ w5 o0 hk (H : Cx w0 fp0 S0 w5 [EX (List Int) m2 [(h2).v] rows_ rows_h, Bx b3 [(.int .i64 o__0), (.int .i64 o__1), (.int .i64 o__2), (.int .i64 o__3)], E (List Int) s0 h2]) f14
    refine boolE (z := true) (ltLen hk) ?_
    refine sq ?_
    refine sq ?_
    obtain ⟨a7, e, f15⟩ := bindS f14; clear f14
    obtain ⟨p3, m3, c12, c13, c14, c15⟩ := (H.ro (α := List Int) 2 rfl).at1 e; clear e
    refine idxE c12 c13 c14 ?_; clear c12 c13 c14
    refine load1 c15 ?_; clear c15
    refine heldX H [12] (.fst 0 (.fst 1 (.fst 5 (.fst 6 (.fst 7 (.fst 8 (.fst 9 (.fst 10 (.fst 2 (.fst 3 (.fst 4 (.fst 11 (.act 12 .done))))))))))))) mixed [] trivial (by kernel_rfl) ?_
    clear H; intro w6 H
    have hX : Ext w6 w6 := Upd.refl _ _
    have H0 := H
    refine anyH (fun _ => fld gok rfl rfl rfl rfl ⟨rfl, rfl⟩) ?_
    obtain ⟨a9, e, f16⟩ := bindS f15; clear f15
    refine arO e ?_; clear e
    obtain ⟨a10, e, f17⟩ := bindS f16; clear f16
    refine remO_ e ?_; clear e
    refine load1X (H.bx 1 rfl (j := 1) rfl) ?_
    have c20 := H.hx0 0 rfl c8 rfl
    refine idxE c8 c9 c10 ?_
    refine load1X c20 ?_; clear c20
    obtain ⟨a12, e, f18⟩ := bindS f17; clear f17
    have ea156 := e; clear e
    obtain ⟨p4, m4, c21, c22, c23⟩ := (H.ro (α := List Int) 2 rfl).setp ea156
    refine idxE c21 c22 c23 ?_
    replace H := H.sel [2, 0, 1] rfl
    refine setS (α := Int) H c21 c22 ea156 ?_; clear H c21 c22 c23 ea156; intro w7 H
    refine hold trivial ?_
    refine arK hk x0 ?_
    have hs := Option.some.inj f18; subst hs; clear f18
    exact ⟨(), ⟨rfl, rfl, rfl, rfl, rfl, rfl, rfl, trivial⟩, H.sel [1, 2, 0] rfl⟩
   ·
    clear H e
    rintro T1 _ w8 (H : Cx w0 fp0 S0 w8 [EX (List Int) m2 [(h2).v] rows_ rows_h, Bx b3 [(.int .i64 o__0), (.int .i64 o__1), (.int .i64 o__2), (.int .i64 o__3)], E (List Int) r0 h2])
    refine boolE (z := false) geLen ?_
    refine sq ?_
    obtain ⟨a13, e, f19⟩ := bindS f13; clear f13
    replace H := H.sel [2, 0, 1] rfl
    replace H := H.put c9 e; clear e
    cases f19
    exact ⟨_, _, rfl, ⟨rfl, rfl⟩, (H.sel [0] rfl).close ⟨cloE, trivial⟩⟩
 ·
  have f20 := condT hF6; clear hF6
  refine heldX H [17, 19, 18, 0, 1, 2, 3, 4, 5] (.pure 0 (.pure 1 (.pure 2 (.pure 3 (.pure 4 (.pure 5 (.fst 6 (.fst 7 (.fst 11 (.fst 12 (.fst 8 (.fst 9 (.fst 10 (.fst 13 (.fst 14 (.fst 15 (.fst 16 (.act 17 (.act 18 (.act 19 .done)))))))))))))))))))) mixed [((Addr.add ⟨b3, 0, none⟩ 1), (.int .i64 o__1)), ((Addr.add ⟨b3, 0, none⟩ 2), (.int .i64 o__2))] ⟨H.bx 0 rfl (j := 1) rfl, H.bx 0 rfl (j := 2) rfl, trivial⟩ (by kernel_rfl) ?_
  clear H; intro w9 H
  have hX : Ext w9 w9 := Upd.refl _ _
  have H0 := H
  refine anyH (fun _ => fld gok rfl rfl rfl rfl ⟨rfl, rfl⟩) ?_
  refine load1W 0 rfl ?_
  refine anyH (fun _ => fld gok rfl rfl rfl rfl ⟨rfl, rfl⟩) ?_
  refine load1W 1 rfl ?_
  refine anyH (fun _ => fld gok rfl rfl rfl rfl ⟨rfl, rfl⟩) ?_
  refine anyH (fun _ => fld gok rfl rfl rfl rfl ⟨rfl, rfl⟩) ?_
  refine load1X (H.bx 0 rfl (j := 2) rfl) ?_
  obtain ⟨a14, e, f21⟩ := bindS f20; clear f20
  replace H := H.sel [1, 0] rfl
  replace H := H.toEH (α := List Int)
  have HH := H; clear H; obtain ⟨p5, m5, h3, c24, c25, c26, c31, H⟩ := HH.peekL e; clear HH
  clear e
  refine idxE c24 c25 c26 ?_
  refine load1X c31 ?_; clear c31
  refine load1X (H.bx 1 rfl (j := 1) rfl) ?_
  obtain ⟨a15, e, f22⟩ := bindS f21; clear f21
  have HH := H; clear H; obtain ⟨p6, m6, h4, c32, c33, c34, c35, H⟩ := HH.peekL e; clear HH
  clear e
  refine idxE c32 c33 c34 ?_
  refine load1X c35 ?_; clear c35
  refine idxE c32 c33 c34 ?_
  refine stZ1 (ki := 0) (kj := 1) H rfl rfl c32 ?_; clear H; intro w10 H
  refine hold ⟨H.bx 1 rfl (j := 1) rfl, H.bx 1 rfl (j := 2) rfl, trivial⟩ ?_
  refine idxE c24 c25 c26 ?_
  refine hold ⟨H.bx 1 rfl (j := 1) rfl, H.bx 1 rfl (j := 2) rfl, trivial⟩ ?_
  obtain ⟨a16, e, f23⟩ := bindS f22; clear f22
  refine stZ2 H c33 c25 c24 e ?_; clear H e; intro w11 H
  refine hold ⟨H.bx 1 rfl (j := 1) rfl, H.bx 1 rfl (j := 2) rfl, trivial⟩ ?_
  cases f23
  exact ⟨_, _, rfl, ⟨rfl, rfl⟩, (H.sel [0] rfl).close ⟨cloE, trivial⟩⟩

theorem impl_reduction_1_c (o__0 : Int) (o__1 : Int) (o__2 : Int) (o__3 : Int) (c0_b : Nat) (c0_ : Int) (c1_b : Nat) (c1_ : List (List Int)) (c1_h : Hd) (c2_b : Nat) (c2_ : List (List Int)) (c2_h : Hd) (y0 : List (List Int)) (y1 : List (List Int)) (hF : F_impl_reduction_1 (o__0, o__1, o__2, o__3) c0_ c1_ c2_ = some (y0, y1)) :
  ConF Tryd.prog 73 #[(.agg #[(.int .i64 o__0), (.int .i64 o__1), (.int .i64 o__2), (.int .i64 o__3)]), (.pointer (some ⟨c0_b, 0, none⟩)), (.pointer (some ⟨c1_b, 0, none⟩)), (.pointer (some ⟨c2_b, 0, none⟩))] [] [Bx c0_b [(.int .i64 c0_)], Bx c1_b [(c1_h).v], E (List (List Int)) c1_ c1_h, Bx c2_b [(c2_h).v], E (List (List Int)) c2_ c2_h] (fun v Γ' => v = (.tuple #[]) ∧ Γ' = [Bx c0_b [(.int .i64 c0_)], Bx c1_b [(c1_h).v], E (List (List Int)) y0 c1_h, Bx c2_b [(c2_h).v], E (List (List Int)) y1 c2_h]) := by
 intro w0 S0 fp0 hI hS
 have H : Cx w0 fp0 S0 w0 [Bx c0_b [(.int .i64 c0_)], Bx c1_b [(c1_h).v], E (List (List Int)) c1_ c1_h, Bx c2_b [(c2_h).v], E (List (List Int)) c2_ c2_h] := Cx.start hI hS
 clear hI hS
 refine enterC (args := [_, _, _, _]) gok Tryd.func73 rfl _ rfl rfl rfl ?_
 refine box_ H ?_; clear H; intro b7 w6 hx H
 clear hx
 refine sq ?_
 refine loadN [(.int .i64 o__0), (.int .i64 o__1), (.int .i64 o__2), (.int .i64 o__3)] rfl (fun j u hj => H.bx 0 rfl hj) ?_
 refine fld gok rfl rfl rfl rfl ?_
 refine load1 (H.bx 0 rfl (j := 1) rfl) ?_
 refine fld gok rfl rfl rfl rfl ?_
 refine load1 (H.bx 0 rfl (j := 1) rfl) ?_
 refine build_ (cs := #[(.int .i64 0), (.int .i64 o__1), (.int .i64 o__1), (.int .i64 0)]) gok rfl rfl rfl ?_
 obtain ⟨a9, e, f0⟩ := bindS hF; clear hF
 refine eqA gok rfl Tryd.underlying80 (by kernel_rfl) (by kernel_rfl) (by kernel_rfl) (by refine ⟨rfl, ⟨_, _, rfl⟩, rfl, ⟨_, _, rfl⟩, rfl, ⟨_, _, rfl⟩, rfl, ⟨_, _, rfl⟩, trivial⟩) (ls := [o__0, o__1, o__2, o__3]) (bs := [0, o__1, o__1, 0]) rfl rfl rfl rfl e ?_; clear e
 cases a9
 ·
  have f1 := condF f0; clear f0
  refine loadN [(.int .i64 o__0), (.int .i64 o__1), (.int .i64 o__2), (.int .i64 o__3)] rfl (fun j u hj => H.bx 0 rfl hj) ?_
  refine load1 (H.bx0 1 rfl) ?_
  refine load1 (H.bx0 2 rfl) ?_
  obtain ⟨y2, e, f2⟩ := bindS f1; clear f1
  have ey12 := e; clear e
  replace H := H.sel [3, 0, 1, 2, 4, 5] rfl
  refine callF (impl_rowOperation_apply_c o__0 o__1 o__2 o__3 c0_ c1_ c1_h y2 ey12) (Γi := [E (List (List Int)) c1_ c1_h]) H trivial ?_; clear H ey12
  rintro _ _ w1 ⟨rfl, rfl⟩ H
  refine loadN [(.int .i64 o__0), (.int .i64 o__1), (.int .i64 o__2), (.int .i64 o__3)] rfl (fun j u hj => H.bx 1 rfl hj) ?_
  refine load1 (H.bx0 2 rfl) ?_
  refine load1 (H.bx0 4 rfl) ?_
  obtain ⟨y3, e, f3⟩ := bindS f2; clear f2
  have ey15 := e; clear e
  replace H := H.sel [5, 0, 1, 2, 3, 4] rfl
  refine callF (impl_rowOperation_apply_c o__0 o__1 o__2 o__3 c0_ c2_ c2_h y3 ey15) (Γi := [E (List (List Int)) c2_ c2_h]) H trivial ?_; clear H ey15
  rintro _ _ w2 ⟨rfl, rfl⟩ H
  cases f3
  exact ⟨_, _, rfl, ⟨rfl, rfl⟩, (H.sel [3, 4, 1, 5, 0] rfl).close ⟨cloB, cloB, cloE, cloB, cloE, trivial⟩⟩
 ·
  have f4 := condT f0; clear f0
  cases f4
  exact ⟨_, _, rfl, ⟨rfl, rfl⟩, (H.sel [1, 2, 3, 4, 5] rfl).close ⟨cloB, cloB, cloE, cloB, cloE, trivial⟩⟩

theorem impl_reduction_c (p_ : Int) (rows_ : List (List Int)) (rows_h : Hd) (n_ : Int) (also_ : List (List Int)) (also_h : Hd) (y0 : List (List Int)) (y1 : List (List Int)) (y2 : Int) (hF : F_impl_reduction p_ rows_ n_ also_ = some (y0, y1, y2)) :
  ConF Tryd.prog 40 #[(.int .i64 p_), (rows_h).v, (.int .i64 n_), (also_h).v] [] [E (List (List Int)) rows_ rows_h, E (List (List Int)) also_ also_h] (fun v Γ' => v = (.int .i64 y2) ∧ Γ' = [E (List (List Int)) y0 rows_h, E (List (List Int)) y1 also_h]) := by
 intro w0 S0 fp0 hI hS
 have H : Cx w0 fp0 S0 w0 [E (List (List Int)) rows_ rows_h, E (List (List Int)) also_ also_h] := Cx.start hI hS
 clear hI hS
 refine enterC (args := [_, _, _, _]) gok Tryd.func40 rfl _ rfl rfl rfl ?_
 refine box_ H ?_; clear H; intro b4 w3 hx H
 clear hx
 refine box_ H ?_; clear H; intro b7 w6 hx H
 clear hx
 refine box_ H ?_; clear H; intro b0 w9 hx H
 clear hx
 obtain ⟨r0, f0, f1⟩ := bindS hF; clear hF
 refine cut (fun (q0 : List (List Int) × List (List Int) × Int) => [(9, (.int .i64 q0.2.2))]) (fun (q0 : List (List Int) × List (List Int) × Int) w' => (q0.1, q0.2.1, q0.2.2) = r0 ∧ Cx w0 fp0 S0 w' [E (List (List Int)) q0.1 rows_h, E (List (List Int)) q0.2.1 also_h]) ?_ ?_
 ·
  refine loopW _ (fun (s0 : List (List Int) × List (List Int) × Int × Int) (_ : Unit) => [(2, (.int .i64 n_)), (5, (.pointer (some ⟨b7, 0, none⟩))), (9, (.int .i64 s0.2.2.2)), (10, (.func (.func 73) #[] #[(.pointer (some ⟨b4, 0, none⟩)), (.pointer (some ⟨b7, 0, none⟩)), (.pointer (some ⟨b0, 0, none⟩))])), (11, (.int .i64 s0.2.2.1))]) (fun (s0 : List (List Int) × List (List Int) × Int × Int) (_ : Unit) w' => Cx w0 fp0 S0 w' [Bx b7 [(rows_h).v], E (List (List Int)) s0.1 rows_h, Bx b4 [(.int .i64 p_)], Bx b0 [(also_h).v], E (List (List Int)) s0.2.1 also_h]) (rows_, also_, 0, 0) () f0 ⟨rfl, rfl, rfl, rfl, rfl, trivial⟩ (H.sel [1, 3, 2, 0, 4] rfl) ?_
  ·
   clear H
   rintro T0 ⟨s0_0, s0_1, s0_2, s0_3⟩ _ w1 o0 (H : Cx w0 fp0 S0 w1 [Bx b7 [(rows_h).v], E (List (List Int)) s0_0 rows_h, Bx b4 [(.int .i64 p_)], Bx b0 [(also_h).v], E (List (List Int)) s0_1 also_h]) hrt f2
   refine sq ?_
   obtain ⟨r1, f3, f4⟩ := bindS f2; clear f2
   refine cut (fun (q1 : Bool) => [(2, (.int .i64 n_)), (5, (.pointer (some ⟨b7, 0, none⟩))), (9, (.int .i64 s0_3)), (10, (.func (.func 73) #[] #[(.pointer (some ⟨b4, 0, none⟩)), (.pointer (some ⟨b7, 0, none⟩)), (.pointer (some ⟨b0, 0, none⟩))])), (11, (.int .i64 s0_2)), (23, (.bool q1))]) (fun (q1 : Bool) w' => q1 = r1 ∧ Cx w0 fp0 S0 w' [Bx b7 [(rows_h).v], E (List (List Int)) s0_0 rows_h, Bx b4 [(.int .i64 p_)], Bx b0 [(also_h).v], E (List (List Int)) s0_1 also_h]) ?_ ?_
   ·
    obtain ⟨a0, e, f5⟩ := bindS f3; clear f3
    refine boolO e ?_; clear e
    cases a0
    ·
     have f6 := condF f5; clear f5
     exact ⟨false, ⟨rfl, rfl, rfl, rfl, rfl, rfl, trivial⟩, Option.some.inj f6, H.sel [0, 1, 2, 3, 4] rfl⟩
    ·
     have f7 := condT f5; clear f5
     refine load1 (H.bx0 0 rfl) ?_
     refine lenE (H.ro (α := List (List Int)) 1 rfl).len ?_
     obtain ⟨a1, e, f8⟩ := bindS f7; clear f7
     refine boolO e ?_; clear e
     exact ⟨a1, ⟨rfl, rfl, rfl, rfl, rfl, rfl, trivial⟩, Option.some.inj f8, H.sel [0, 1, 2, 3, 4] rfl⟩
   ·
    clear f3 H
    rintro T1 s1 w2 ⟨hr, (H : Cx w0 fp0 S0 w2 [Bx b7 [(rows_h).v], E (List (List Int)) s0_0 rows_h, Bx b4 [(.int .i64 p_)], Bx b0 [(also_h).v], E (List (List Int)) s0_1 also_h])⟩
    subst hr
    cases s1
    ·
     have f9 := condF f4; clear f4
     have hs := Option.some.inj f9; subst hs; clear f9
     have f10 : some _ = some _ := congrArg some (hrt _ rfl).symm
     exact ⟨(s0_0, s0_1, s0_3), ⟨rfl, trivial⟩, Option.some.inj f10, H.sel [1, 4] rfl⟩
    ·
     have f11 := condT f4; clear f4
     obtain ⟨r2, f12, f13⟩ := bindS f11; clear f11
     refine cut (fun (q2 : List (List Int) × List (List Int) × Int) => [(2, (.int .i64 n_)), (5, (.pointer (some ⟨b7, 0, none⟩))), (9, (.int .i64 q2.2.2)), (10, (.func (.func 73) #[] #[(.pointer (some ⟨b4, 0, none⟩)), (.pointer (some ⟨b7, 0, none⟩)), (.pointer (some ⟨b0, 0, none⟩))])), (11, (.int .i64 s0_2))]) (fun (q2 : List (List Int) × List (List Int) × Int) w' => (q2.1, q2.2.1, q2.2.2) = r2 ∧ Cx w0 fp0 S0 w' [Bx b7 [(rows_h).v], E (List (List Int)) q2.1 rows_h, Bx b4 [(.int .i64 p_)], Bx b0 [(also_h).v], E (List (List Int)) q2.2.1 also_h]) ?_ ?_
     ·
      obtain ⟨r3, f14, f15⟩ := bindS f12; clear f12
      refine cut (fun (q3 : Int) => [(2, (.int .i64 n_)), (5, (.pointer (some ⟨b7, 0, none⟩))), (9, (.int .i64 s0_3)), (10, (.func (.func 73) #[] #[(.pointer (some ⟨b4, 0, none⟩)), (.pointer (some ⟨b7, 0, none⟩)), (.pointer (some ⟨b0, 0, none⟩))])), (11, (.int .i64 s0_2)), (12, (.int .i64 q3))]) (fun (q3 : Int) w' => q3 = r3 ∧ Cx w0 fp0 S0 w' [Bx b7 [(rows_h).v], E (List (List Int)) s0_0 rows_h, Bx b4 [(.int .i64 p_)], Bx b0 [(also_h).v], E (List (List Int)) s0_1 also_h]) ?_ ?_
      ·
       refine loopW _ (fun (s2 : Int) (_ : Unit) => [(2, (.int .i64 n_)), (5, (.pointer (some ⟨b7, 0, none⟩))), (9, (.int .i64 s0_3)), (10, (.func (.func 73) #[] #[(.pointer (some ⟨b4, 0, none⟩)), (.pointer (some ⟨b7, 0, none⟩)), (.pointer (some ⟨b0, 0, none⟩))])), (11, (.int .i64 s0_2)), (12, (.int .i64 s2))]) (fun (s2 : Int) (_ : Unit) w' => Cx w0 fp0 S0 w' [Bx b7 [(rows_h).v], E (List (List Int)) s0_0 rows_h, Bx b4 [(.int .i64 p_)], Bx b0 [(also_h).v], E (List (List Int)) s0_1 also_h]) s0_3 () f14 ⟨rfl, rfl, rfl, rfl, rfl, rfl, trivial⟩ (H.sel [0, 1, 2, 3, 4] rfl) ?_
       ·
        clear H
        rintro T2 s2 _ w4 o1 (H : Cx w0 fp0 S0 w4 [Bx b7 [(rows_h).v], E (List (List Int)) s0_0 rows_h, Bx b4 [(.int .i64 p_)], Bx b0 [(also_h).v], E (List (List Int)) s0_1 also_h]) hrt f16
        refine sq ?_
        obtain ⟨r4, f17, f18⟩ := bindS f16; clear f16
        refine cut (fun (q4 : Bool) => [(2, (.int .i64 n_)), (5, (.pointer (some ⟨b7, 0, none⟩))), (9, (.int .i64 s0_3)), (10, (.func (.func 73) #[] #[(.pointer (some ⟨b4, 0, none⟩)), (.pointer (some ⟨b7, 0, none⟩)), (.pointer (some ⟨b0, 0, none⟩))])), (11, (.int .i64 s0_2)), (12, (.int .i64 s2)), (40, (.bool q4))]) (fun (q4 : Bool) w' => q4 = r4 ∧ Cx w0 fp0 S0 w' [Bx b7 [(rows_h).v], E (List (List Int)) s0_0 rows_h, Bx b4 [(.int .i64 p_)], Bx b0 [(also_h).v], E (List (List Int)) s0_1 also_h]) ?_ ?_
        ·
         refine load1 (H.bx0 0 rfl) ?_
         refine lenE (H.ro (α := List (List Int)) 1 rfl).len ?_
         obtain ⟨a2, e, f19⟩ := bindS f17; clear f17
         refine boolO e ?_; clear e
         cases a2
         ·
          have f20 := condF f19; clear f19
          exact ⟨false, ⟨rfl, rfl, rfl, rfl, rfl, rfl, rfl, trivial⟩, Option.some.inj f20, H.sel [0, 1, 2, 3, 4] rfl⟩
         ·
          have f21 := condT f19; clear f19
          refine load1 (H.bx0 0 rfl) ?_
          obtain ⟨a3, e, f22⟩ := bindS f21; clear f21
          replace H := H.sel [1, 0, 2, 3, 4] rfl
          replace H := H.toEH (α := List Int)
          have HH := H; clear H; obtain ⟨p0, m0, h0, c0, c1, c2, c3, H⟩ := HH.peekL e; clear HH
          clear e
          refine idxE c0 c1 c2 ?_
          refine load1 c3 ?_; clear c3
          obtain ⟨a4, e, f23⟩ := bindS f22; clear f22
          obtain ⟨p1, m1, c4, c5, c6, c7⟩ := (H.rh (α := List Int) 0 rfl 0 rfl).at1 e; clear e
          refine idxE c4 c5 c6 ?_; clear c4 c5 c6
          refine load1 c7 ?_; clear c7
          obtain ⟨a5, e, f24⟩ := bindS f23; clear f23
          refine boolO e ?_; clear e
          replace H := H.ofEH
          exact ⟨a5, ⟨rfl, rfl, rfl, rfl, rfl, rfl, rfl, trivial⟩, Option.some.inj f24, H.sel [1, 0, 2, 3, 4] rfl⟩
        ·
         clear f17 H
         rintro T3 s3 w5 ⟨hr, (H : Cx w0 fp0 S0 w5 [Bx b7 [(rows_h).v], E (List (List Int)) s0_0 rows_h, Bx b4 [(.int .i64 p_)], Bx b0 [(also_h).v], E (List (List Int)) s0_1 also_h])⟩
         subst hr
         cases s3
         ·
          have f25 := condF f18; clear f18
          have hs := Option.some.inj f25; subst hs; clear f25
          have f26 : some _ = some _ := congrArg some (hrt _ rfl).symm
          exact ⟨s2, ⟨rfl, rfl, rfl, rfl, rfl, rfl, trivial⟩, Option.some.inj f26, H.sel [0, 1, 2, 3, 4] rfl⟩
         ·
          have f27 := condT f18; clear f18
          obtain ⟨a6, e, f28⟩ := bindS f27; clear f27
          refine arO e ?_; clear e
          have hs := Option.some.inj f28; subst hs; clear f28
          exact ⟨a6, (), rfl, ⟨rfl, rfl, rfl, rfl, rfl, rfl, trivial⟩, H.sel [0, 1, 2, 3, 4] rfl⟩
      ·
       clear f14 H
       rintro T4 s4 w7 ⟨hr, (H : Cx w0 fp0 S0 w7 [Bx b7 [(rows_h).v], E (List (List Int)) s0_0 rows_h, Bx b4 [(.int .i64 p_)], Bx b0 [(also_h).v], E (List (List Int)) s0_1 also_h])⟩
       subst hr
       refine sq ?_
       refine load1 (H.bx0 0 rfl) ?_
       refine lenE (H.ro (α := List (List Int)) 1 rfl).len ?_
       obtain ⟨a7, e, f29⟩ := bindS f15; clear f15
       refine boolO e ?_; clear e
       cases a7
       ·
        have f30 := condF f29; clear f29
        refine build_ (cs := #[(.int .i64 0), (.int .i64 s0_3), (.int .i64 s4), (.int .i64 0)]) gok rfl rfl rfl ?_
        obtain ⟨y3, e, f31⟩ := bindS f30; clear f30
        obtain ⟨y3_0, y3_1⟩ := y3
        have ey7870 := e; clear e
        replace H := H.sel [2, 0, 1, 3, 4] rfl
        refine callF (impl_reduction_1_c 0 s0_3 s4 0 b4 p_ b7 s0_0 rows_h b0 s0_1 also_h y3_0 y3_1 ey7870) (Γi := [Bx b4 [(.int .i64 p_)], Bx b7 [(rows_h).v], E (List (List Int)) s0_0 rows_h, Bx b0 [(also_h).v], E (List (List Int)) s0_1 also_h]) H trivial ?_; clear H ey7870
        rintro _ _ w8 ⟨rfl, rfl⟩ H
        refine load1 (H.bx0 1 rfl) ?_
        obtain ⟨a8, e, f32⟩ := bindS f31; clear f31
        replace H := H.sel [2, 0, 1, 3, 4] rfl
        replace H := H.toEH (α := List Int)
        have HH := H; clear H; obtain ⟨p2, m2, h1, c8, c9, c10, c11, H⟩ := HH.peekL e; clear HH
        clear e
        refine idxE c8 c9 c10 ?_
        refine load1 c11 ?_; clear c11
        obtain ⟨a9, e, f33⟩ := bindS f32; clear f32
        obtain ⟨p3, m3, c12, c13, c14, c15⟩ := (H.rh (α := List Int) 0 rfl 0 rfl).at1 e; clear e
        refine idxE c12 c13 c14 ?_; clear c12 c13 c14
        refine load1 c15 ?_; clear c15
        refine build_ (cs := #[(.int .i64 1), (.int .i64 s0_3), (.int .i64 0), (.int .i64 a9)]) gok rfl rfl rfl ?_
        replace H := H.ofEH
        obtain ⟨y4, e, f34⟩ := bindS f33; clear f33
        obtain ⟨y4_0, y4_1⟩ := y4
        have ey7890 := e; clear e
        replace H := H.sel [1, 2, 0, 3, 4] rfl
        refine callF (impl_reduction_1_c 1 s0_3 0 a9 b4 p_ b7 y3_0 rows_h b0 y3_1 also_h y4_0 y4_1 ey7890) (Γi := [Bx b4 [(.int .i64 p_)], Bx b7 [(rows_h).v], E (List (List Int)) y3_0 rows_h, Bx b0 [(also_h).v], E (List (List Int)) y3_1 also_h]) H trivial ?_; clear H ey7890
        rintro _ _ w10 ⟨rfl, rfl⟩ H
        refine sq ?_
        refine load1 (H.bx0 1 rfl) ?_
        refine lenE (H.ro (α := List (List Int)) 2 rfl).len ?_
        have x0 := (H.ro (α := List (List Int)) 2 rfl).max
        obtain ⟨r5, e, f35⟩ := bindS f34; clear f34
        refine loopS _ y4_0.length (fun (k0 : Nat) (s5 : List (List Int) × List (List Int)) (_ : Unit) => [(2, (.int .i64 n_)), (5, (.pointer (some ⟨b7, 0, none⟩))), (9, (.int .i64 s0_3)), (10, (.func (.func 73) #[] #[(.pointer (some ⟨b4, 0, none⟩)), (.pointer (some ⟨b7, 0, none⟩)), (.pointer (some ⟨b0, 0, none⟩))])), (11, (.int .i64 s0_2)), (64, (.int .i64 ((y4_0.length : Nat) : Int))), (65, (.int .i64 ((k0 : Nat) : Int)))]) (fun _ (s5 : List (List Int) × List (List Int)) (_ : Unit) w' => Cx w0 fp0 S0 w' [Bx b7 [(rows_h).v], E (List (List Int)) s5.1 rows_h, Bx b4 [(.int .i64 p_)], Bx b0 [(also_h).v], E (List (List Int)) s5.2 also_h]) (y4_0, y4_1) () e ⟨rfl, rfl, rfl, rfl, rfl, rfl, rfl, trivial⟩ (H.sel [1, 2, 0, 3, 4] rfl) ?_ ?_
        ·
         clear H e
         rintro T5 k0 ⟨s5_0, s5_1⟩ _ w11 o2 hk (H : Cx w0 fp0 S0 w11 [Bx b7 [(rows_h).v], E (List (List Int)) s5_0 rows_h, Bx b4 [(.int .i64 p_)], Bx b0 [(also_h).v], E (List (List Int)) s5_1 also_h]) f36
         refine boolE (z := true) (ltLen hk) ?_
         refine sq ?_
         refine sq ?_
         obtain ⟨r6, f37, f38⟩ := bindS f36; clear f36
         refine cut (fun (q5 : Bool) => [(2, (.int .i64 n_)), (5, (.pointer (some ⟨b7, 0, none⟩))), (9, (.int .i64 s0_3)), (10, (.func (.func 73) #[] #[(.pointer (some ⟨b4, 0, none⟩)), (.pointer (some ⟨b7, 0, none⟩)), (.pointer (some ⟨b0, 0, none⟩))])), (11, (.int .i64 s0_2)), (13, (.int .i64 ((k0 : Nat) : Int))), (64, (.int .i64 ((y4_0.length : Nat) : Int))), (65, (.int .i64 ((k0 : Nat) : Int))), (80, (.bool q5))]) (fun (q5 : Bool) w' => q5 = r6 ∧ Cx w0 fp0 S0 w' [Bx b7 [(rows_h).v], E (List (List Int)) s5_0 rows_h, Bx b4 [(.int .i64 p_)], Bx b0 [(also_h).v], E (List (List Int)) s5_1 also_h]) ?_ ?_
         ·
          obtain ⟨a10, e, f39⟩ := bindS f37; clear f37
          refine boolO e ?_; clear e
          cases a10
          ·
           have f40 := condF f39; clear f39
           exact ⟨false, ⟨rfl, rfl, rfl, rfl, rfl, rfl, rfl, rfl, rfl, trivial⟩, Option.some.inj f40, H.sel [0, 1, 2, 3, 4] rfl⟩
          ·
           have f41 := condT f39; clear f39
           refine load1 (H.bx0 0 rfl) ?_
           obtain ⟨a11, e, f42⟩ := bindS f41; clear f41
           replace H := H.sel [1, 0, 2, 3, 4] rfl
           replace H := H.toEH (α := List Int)
           have HH := H; clear H; obtain ⟨p4, m4, h2, c16, c17, c18, c19, H⟩ := HH.peekL e; clear HH
           clear e
           refine idxE c16 c17 c18 ?_
           refine load1 c19 ?_; clear c19
           obtain ⟨a12, e, f43⟩ := bindS f42; clear f42
           obtain ⟨p5, m5, c20, c21, c22, c23⟩ := (H.rh (α := List Int) 0 rfl 0 rfl).at1 e; clear e
           refine idxE c20 c21 c22 ?_; clear c20 c21 c22
           refine load1 c23 ?_; clear c23
           obtain ⟨a13, e, f44⟩ := bindS f43; clear f43
           refine boolO e ?_; clear e
           replace H := H.ofEH
           exact ⟨a13, ⟨rfl, rfl, rfl, rfl, rfl, rfl, rfl, rfl, rfl, trivial⟩, Option.some.inj f44, H.sel [1, 0, 2, 3, 4] rfl⟩
         ·
          clear f37 H
          rintro T6 s6 w12 ⟨hr, (H : Cx w0 fp0 S0 w12 [Bx b7 [(rows_h).v], E (List (List Int)) s5_0 rows_h, Bx b4 [(.int .i64 p_)], Bx b0 [(also_h).v], E (List (List Int)) s5_1 also_h])⟩
          subst hr
          cases s6
          ·
           have f45 := condF f38; clear f38
           refine arK hk x0 ?_
           have hs := Option.some.inj f45; subst hs; clear f45
           exact ⟨(), ⟨rfl, rfl, rfl, rfl, rfl, rfl, rfl, trivial⟩, H.sel [0, 1, 2, 3, 4] rfl⟩
          ·
           have f46 := condT f38; clear f38
           refine load1 (H.bx0 0 rfl) ?_
           obtain ⟨a14, e, f47⟩ := bindS f46; clear f46
           replace H := H.sel [1, 0, 2, 3, 4] rfl
           replace H := H.toEH (α := List Int)
           have HH := H; clear H; obtain ⟨p6, m6, h3, c24, c25, c26, c27, H⟩ := HH.peekL e; clear HH
           clear e
           refine idxE c24 c25 c26 ?_
           refine load1 c27 ?_; clear c27
           obtain ⟨a15, e, f48⟩ := bindS f47; clear f47
           obtain ⟨p7, m7, c28, c29, c30, c31⟩ := (H.rh (α := List Int) 0 rfl 0 rfl).at1 e; clear e
           refine idxE c28 c29 c30 ?_; clear c28 c29 c30
           refine load1 c31 ?_; clear c31
           refine build_ (cs := #[(.int .i64 2), (.int .i64 ((k0 : Nat) : Int)), (.int .i64 s0_3), (.int .i64 a15)]) gok rfl rfl rfl ?_
           replace H := H.ofEH
           obtain ⟨y5, e, f49⟩ := bindS f48; clear f48
           obtain ⟨y5_0, y5_1⟩ := y5
           have ey8132 := e; clear e
           replace H := H.sel [2, 1, 0, 3, 4] rfl
           refine callF (impl_reduction_1_c 2 ((k0 : Nat) : Int) s0_3 a15 b4 p_ b7 s5_0 rows_h b0 s5_1 also_h y5_0 y5_1 ey8132) (Γi := [Bx b4 [(.int .i64 p_)], Bx b7 [(rows_h).v], E (List (List Int)) s5_0 rows_h, Bx b0 [(also_h).v], E (List (List Int)) s5_1 also_h]) H trivial ?_; clear H ey8132
           rintro _ _ w13 ⟨rfl, rfl⟩ H
           refine arK hk x0 ?_
           have hs := Option.some.inj f49; subst hs; clear f49
           exact ⟨(), ⟨rfl, rfl, rfl, rfl, rfl, rfl, rfl, trivial⟩, H.sel [1, 2, 0, 3, 4] rfl⟩
        ·
         clear H e
         obtain ⟨s7_0, s7_1⟩ := r5
         rintro T7 _ w14 (H : Cx w0 fp0 S0 w14 [Bx b7 [(rows_h).v], E (List (List Int)) s7_0 rows_h, Bx b4 [(.int .i64 p_)], Bx b0 [(also_h).v], E (List (List Int)) s7_1 also_h])
         refine boolE (z := false) geLen ?_
         refine sq ?_
         obtain ⟨a16, e, f50⟩ := bindS f35; clear f35
         refine arO e ?_; clear e
         exact ⟨(s7_0, s7_1, a16), ⟨rfl, rfl, rfl, rfl, rfl, trivial⟩, Option.some.inj f50, H.sel [0, 1, 2, 3, 4] rfl⟩
       ·
        have f51 := condT f29; clear f29
        exact ⟨(s0_0, s0_1, s0_3), ⟨rfl, rfl, rfl, rfl, rfl, trivial⟩, Option.some.inj f51, H.sel [0, 1, 2, 3, 4] rfl⟩
     ·
      clear f12 H
      rintro T8 ⟨s8_0, s8_1, s8_2⟩ w15 ⟨hr, (H : Cx w0 fp0 S0 w15 [Bx b7 [(rows_h).v], E (List (List Int)) s8_0 rows_h, Bx b4 [(.int .i64 p_)], Bx b0 [(also_h).v], E (List (List Int)) s8_1 also_h])⟩
      subst hr
      obtain ⟨a17, e, f52⟩ := bindS f13; clear f13
      refine arO e ?_; clear e
      have hs := Option.some.inj f52; subst hs; clear f52
      exact ⟨(s8_0, s8_1, a17, s8_2), (), rfl, ⟨rfl, rfl, rfl, rfl, rfl, trivial⟩, H.sel [0, 1, 2, 3, 4] rfl⟩
 ·
  clear f0 H
  rintro T9 ⟨s9_0, s9_1, s9_2⟩ w16 ⟨hr, (H : Cx w0 fp0 S0 w16 [E (List (List Int)) s9_0 rows_h, E (List (List Int)) s9_1 also_h])⟩
  subst hr
  cases f1
  exact ⟨_, _, rfl, ⟨rfl, rfl⟩, (H.sel [0, 1] rfl).close ⟨cloE, cloE, trivial⟩⟩

theorem impl_reduced_c (p_ : Int) (rows_ : List (List Int)) (rows_h : Hd) (n_ : Int) (y : List (List Int)) (hF : F_impl_reduced p_ rows_ n_ = some y) :
  ConF Tryd.prog 99 #[(.int .i64 p_), (rows_h).v, (.int .i64 n_)] [Es (List (List Int)) rows_ rows_h] [] (fun v Γ' => ∃ z0 : Hd, v = (z0).v ∧ Γ' = [E (List (List Int)) y z0]) := by
 intro w0 S0 fp0 hI hS
 have H : Cx w0 fp0 S0 w0 [Es (List (List Int)) rows_ rows_h] := Cx.start hI hS
 clear hI hS
 refine enterC (args := [_, _, _]) gok Tryd.func99 rfl _ rfl rfl rfl ?_
 obtain ⟨y2, e, hF3⟩ := bindS hF; clear hF
 have ey2 := e; clear e
 refine callF (impl_clones_c rows_ rows_h y2 ey2) (Γi := []) H ⟨Vw.sh 0 rfl, trivial⟩ ?_; clear H ey2
 rintro _ _ w4 ⟨h5, rfl, rfl⟩ H
 refine lenE (H.ro (α := List (List Int)) 0 rfl).len ?_
 obtain ⟨a7, e, hF8⟩ := bindS hF3; clear hF3
 refine make_ (α := List Int) gok rfl rfl rfl rfl (makeCO_of e) H ?_; clear e H; intro h0 w9 hx H
 clear hx
 obtain ⟨y0, e, f0⟩ := bindS hF8; clear hF8
 obtain ⟨y0_0, y0_1, y0_2⟩ := y0
 have ey12 := e; clear e
 replace H := H.sel [1, 0, 2] rfl
 refine callF (impl_reduction_c p_ y2 h5 n_ a7 h0 y0_0 y0_1 y0_2 ey12) (Γi := [E (List (List Int)) y2 h5, E (List (List Int)) a7 h0]) H trivial ?_; clear H ey12
 rintro _ _ w1 ⟨rfl, rfl⟩ H
 obtain ⟨a0, e, f1⟩ := bindS f0; clear f0
 refine slO3 (α := List Int) gok rfl rfl H e ?_; clear e H; intro h1 H
 cases f1
 exact ⟨_, _, rfl, ⟨h1, rfl, rfl⟩, (H.sel [0] rfl).close ⟨cloE, trivial⟩⟩

theorem impl_chooser_offer_c (k_b : Nat) (k__0 : Int) (k__1 : Int) (k__2 : List (List Int)) (k__2h : Hd) (k__3 : List Int) (k__3h : Hd) (k__4 : List (List Int)) (k__4h : Hd) (i_ : Int) (row_ : List Int) (row_h : Hd) (y_0 : Int) (y_1 : Int) (y_2 : List (List Int)) (y_3 : List Int) (y_4 : List (List Int)) (hF : F_impl_chooser_offer (k__0, k__1, k__2, k__3, k__4) i_ row_ = some (y_0, y_1, y_2, y_3, y_4)) :
  ConS Tryd.prog 89 #[(.pointer (some ⟨k_b, 0, none⟩)), (.int .i64 i_), (row_h).v] [Es (List Int) row_ row_h] [Bx k_b [(.int .i64 k__0), (.int .i64 k__1), (k__2h).v, (k__3h).v, (k__4h).v], E (List (List Int)) k__2 k__2h, E (List Int) k__3 k__3h, E (List (Sh (List Int))) k__4 k__4h] (fun v Γ' => ∃ z0 z1 z2 : Hd, v = (.tuple #[]) ∧ Γ' = [Bx k_b [(.int .i64 y_0), (.int .i64 y_1), (z0).v, (z1).v, (z2).v], E (List (List Int)) y_2 z0, E (List Int) y_3 z1, E (List (Sh (List Int))) y_4 z2]) := by
 intro w0 S0 fp0 hI hS
 have H : Cx w0 fp0 S0 w0 [Es (List Int) row_ row_h, Bx k_b [(.int .i64 k__0), (.int .i64 k__1), (k__2h).v, (k__3h).v, (k__4h).v], E (List (List Int)) k__2 k__2h, E (List Int) k__3 k__3h, E (List (Sh (List Int))) k__4 k__4h] := Cx.start hI hS
 clear hI hS
 refine enterC (args := [_, _, _]) gok Tryd.func89 rfl _ rfl rfl rfl ?_
 refine sq ?_
 refine heldX H [] (.fst 0 (.fst 1 (.fst 2 (.fst 4 (.fst 5 (.fst 6 (.fst 8 (.fst 3 (.fst 7 (.act 9 (.fst 10 (.fst 11 (.fst 12 (.fst 13 (.fst 14 .done))))))))))))))) mixed [] trivial (by kernel_rfl) ?_
 clear H; intro w6 H
 have hX : Ext w6 w6 := Upd.refl _ _
 have H0 := H
 refine anyH (fun _ => fld gok rfl rfl rfl rfl ⟨rfl, rfl⟩) ?_
 refine anyH (fun _ => fld gok rfl rfl rfl rfl ⟨rfl, rfl⟩) ?_
 refine load1X (H.bx 1 rfl (j := 0) rfl) ?_
 refine load1X (H.bx 1 rfl (j := 2) rfl) ?_
 obtain ⟨y7, e, hF8⟩ := bindS hF; clear hF
 obtain ⟨y7_0, y7_1⟩ := y7
 have ey7 := e; clear e
 refine callFx (impl_coordinates_c k__0 k__2 k__2h row_ row_h y7_0 y7_1 ey7) H ⟨Vw.own 2 rfl, Vw.sh 0 rfl, trivial⟩ ?_; clear H ey7
 rintro _ _ w9 ⟨h0, rfl, rfl⟩ hx H
 replace hX := hX.trans0 hx; clear hx
 refine hold hX ?_
 cases y7_1
 ·
  have f0 := condF hF8; clear hF8
  refine fld gok rfl rfl rfl rfl ?_
  refine load1 (H.bx 2 rfl (j := 3) rfl) ?_
  refine lit1S (α := Int) gok rfl rfl rfl rfl H ?_; clear H; intro h1 w1 hx H
  clear hx
  obtain ⟨a0, e, f1⟩ := bindS f0; clear f0
  replace H := H.sel [5, 0, 1, 2, 3, 4, 6] rfl
  refine append_ (α := Int) gok rfl rfl rfl rfl H e ?_; clear e H; intro h2 w2 H
  refine fld gok rfl rfl rfl rfl ?_
  replace H := H.sel [3, 0, 1, 2, 4, 5] rfl
  refine stB (j := 3) H rfl rfl ?_; clear H; intro w3 H
  refine fld gok rfl rfl rfl rfl ?_
  refine load1 (H.bx 0 rfl (j := 4) rfl) ?_
  replace H := H.dup 3 rfl persS
  refine lit1 (α := Sh (List Int)) (g := row_h) gok rfl rfl rfl rfl rfl H ?_; clear H; intro h3 w4 hx H
  clear hx
  obtain ⟨a1, e, f2⟩ := bindS f1; clear f1
  replace H := H.sel [6, 0, 1, 2, 3, 4, 5] rfl
  refine append_ (α := Sh (List Int)) gok rfl rfl rfl rfl H e ?_; clear e H; intro h4 w5 H
  refine fld gok rfl rfl rfl rfl ?_
  replace H := H.sel [1, 0, 2, 3, 4, 5] rfl
  refine stB (j := 4) H rfl rfl ?_; clear H; intro w7 H
  refine heldX H [16] (.fst 0 (.fst 1 (.fst 2 (.fst 3 (.fst 5 (.fst 6 (.fst 7 (.fst 9 (.fst 10 (.fst 11 (.fst 4 (.fst 8 (.fst 12 (.act 13 (.fst 14 (.fst 15 (.act 16 .done))))))))))))))))) mixed [] trivial (by kernel_rfl) ?_
  clear H; intro w8 H
  have hX : Ext w8 w8 := Upd.refl _ _
  have H0 := H
  refine anyH (fun _ => fld gok rfl rfl rfl rfl ⟨rfl, rfl⟩) ?_
  refine anyH (fun _ => fld gok rfl rfl rfl rfl ⟨rfl, rfl⟩) ?_
  refine anyH (fun _ => fld gok rfl rfl rfl rfl ⟨rfl, rfl⟩) ?_
  refine load1X (H.bx 0 rfl (j := 0) rfl) ?_
  refine load1X (H.bx 0 rfl (j := 4) rfl) ?_
  refine load1X (H.bx 0 rfl (j := 1) rfl) ?_
  obtain ⟨y0, e, f3⟩ := bindS f2; clear f2
  have ey33 := e; clear e
  refine callFx (impl_reduced_c k__0 a1 h4 k__1 y0 ey33) H ⟨Vw.part (β := List (List Int)) (Vw.own (α := List (Sh (List Int))) 1 rfl) a1 h4 (fun S h => h), trivial⟩ ?_; clear H ey33
  rintro _ _ w10 ⟨h5, rfl, rfl⟩ hx H
  replace hX := hX.trans0 hx; clear hx
  refine hold hX ?_
  refine anyH (fun _ => fld gok rfl rfl rfl rfl ⟨rfl, rfl⟩) ?_
  replace H := H.sel [1, 0, 2, 3, 4, 5, 6] rfl
  refine stB (j := 2) H rfl rfl ?_; clear H; intro w11 H
  refine hold trivial ?_
  cases f3
  exact ⟨_, _, rfl, ⟨h5, h2, h4, rfl, rfl⟩, (H.sel [0, 1, 3, 2] rfl)⟩
 ·
  have f4 := condT hF8; clear hF8
  cases f4
  exact ⟨_, _, rfl, ⟨k__2h, k__3h, k__4h, rfl, rfl⟩, (H.sel [2, 3, 4, 5] rfl)⟩

theorem impl_zeros_c (n_ : Int) (y : List Int) (hF : F_impl_zeros n_ = some y) :
  ConF Tryd.prog 112 #[(.int .i64 n_)] [] [] (fun v Γ' => ∃ z0 : Hd, v = (z0).v ∧ Γ' = [E (List Int) y z0]) := by
 intro w0 S0 fp0 hI hS
 have H : Cx w0 fp0 S0 w0 [] := Cx.start hI hS
 clear hI hS
 refine enterC (args := [_]) gok Tryd.func112 rfl _ rfl rfl rfl ?_
 obtain ⟨a1, e, hF2⟩ := bindS hF; clear hF
 refine make_ (α := Int) gok rfl rfl rfl rfl (makeCO_of e) H ?_; clear e H; intro h4 w3 hx H
 clear hx
 cases hF2
 exact ⟨_, _, rfl, ⟨h4, rfl, rfl⟩, (H.sel [0] rfl).close ⟨cloE, trivial⟩⟩

theorem impl_upTo_c (n_ : Int) (y : List Int) (hF : F_impl_upTo n_ = some y) :
  ConF Tryd.prog 90 #[(.int .i64 n_)] [] [] (fun v Γ' => ∃ z0 : Hd, v = (z0).v ∧ Γ' = [E (List Int) y z0]) := by
 intro w0 S0 fp0 hI hS
 have H : Cx w0 fp0 S0 w0 [] := Cx.start hI hS
 clear hI hS
 refine enterC (args := [_]) gok Tryd.func90 rfl _ rfl rfl rfl ?_
 obtain ⟨y1, e, hF2⟩ := bindS hF; clear hF
 have ey1 := e; clear e
 refine callF (impl_zeros_c n_ y1 ey1) (Γi := []) H trivial ?_; clear H ey1
 rintro _ _ w3 ⟨h4, rfl, rfl⟩ H
 refine sq ?_
 refine lenE (H.ro (α := List Int) 0 rfl).len ?_
 have x0 := (H.ro (α := List Int) 0 rfl).max
 obtain ⟨r0, e, f0⟩ := bindS hF2; clear hF2
 refine loopS _ y1.length (fun (k6 : Nat) (s0 : List Int) (_ : Unit) => [(3, (h4).v), (8, (.int .i64 ((y1.length : Nat) : Int))), (9, (.int .i64 ((k6 : Nat) : Int)))]) (fun _ (s0 : List Int) (_ : Unit) w' => Cx w0 fp0 S0 w' [E (List Int) s0 h4]) y1 () e ⟨rfl, rfl, rfl, trivial⟩ (H.sel [0] rfl) ?_ ?_
 ·
  clear H e
  rintro T0 k6 s0 _ w1 o0 hk (H : Cx w0 fp0 S0 w1 [E (List Int) s0 h4]) f1
  refine boolE (z := true) (ltLen hk) ?_
  refine sq ?_
  refine sq ?_
  obtain ⟨a0, e, f2⟩ := bindS f1; clear f1
  have ea44 := e; clear e
  obtain ⟨p0, m0, c0, c1, c2⟩ := (H.ro (α := List Int) 0 rfl).setp ea44
  refine idxE c0 c1 c2 ?_
  refine setS (α := Int) H c0 c1 ea44 ?_; clear H c0 c1 c2 ea44; intro w2 H
  refine arK hk x0 ?_
  have hs := Option.some.inj f2; subst hs; clear f2
  exact ⟨(), ⟨rfl, rfl, rfl, trivial⟩, H.sel [0] rfl⟩
 ·
  clear H e
  rintro T1 _ w4 (H : Cx w0 fp0 S0 w4 [E (List Int) r0 h4])
  refine boolE (z := false) geLen ?_
  refine sq ?_
  cases f0
  exact ⟨_, _, rfl, ⟨h4, rfl, rfl⟩, (H.sel [0] rfl).close ⟨cloE, trivial⟩⟩

theorem impl_firstSolution_c (p_ : Int) (equations_ : List (List Int)) (equations_h : Hd) (n_ : Int) (y0 : List Int) (y1 : Bool) (hF : F_impl_firstSolution p_ equations_ n_ = some (y0, y1)) :
  ConF Tryd.prog 113 #[(.int .i64 p_), (equations_h).v, (.int .i64 n_)] [Es (List (List Int)) equations_ equations_h] [] (fun v Γ' => ∃ z0 : Hd, v = (.tuple #[(z0).v, (.bool y1)]) ∧ Γ' = [E (List Int) y0 z0]) := by
 intro w0 S0 fp0 hI hS
 have H : Cx w0 fp0 S0 w0 [Es (List (List Int)) equations_ equations_h] := Cx.start hI hS
 clear hI hS
 refine enterC (args := [_, _, _]) gok Tryd.func113 rfl _ rfl rfl rfl ?_
 refine lit0 (α := List Int) gok rfl rfl H ?_; clear H; intro h3 w2 hx H
 clear hx
 refine sq ?_
 refine lenE (H.rs (α := List (List Int)) 1 rfl).len ?_
 have x0 := (H.rs (α := List (List Int)) 1 rfl).max
 obtain ⟨r0, e, f0⟩ := bindS hF; clear hF
 refine loopS _ equations_.length (fun (k5 : Nat) (s0 : List (List Int)) (g0 : Hd) => [(0, (.int .i64 p_)), (2, (.int .i64 n_)), (8, (g0).v), (18, (equations_h).v), (19, (.int .i64 ((equations_.length : Nat) : Int))), (20, (.int .i64 ((k5 : Nat) : Int)))]) (fun _ (s0 : List (List Int)) (g0 : Hd) w' => Cx w0 fp0 S0 w' [E (List (List Int)) s0 g0, Es (List (List Int)) equations_ equations_h]) ([] : List (List Int)) h3 e ⟨rfl, rfl, rfl, rfl, rfl, rfl, trivial⟩ (H.sel [0, 1] rfl) ?_ ?_
 ·
  clear H e
  rintro T0 k5 s0 g0 w1 o0 hk (H : Cx w0 fp0 S0 w1 [E (List (List Int)) s0 g0, Es (List (List Int)) equations_ equations_h]) f1
  refine boolE (z := true) (ltLen hk) ?_
  refine sq ?_
  refine sq ?_
  obtain ⟨a0, e, f2⟩ := bindS f1; clear f1
  have HH := H; clear H; obtain ⟨p0, m0, h0, c0, c1, c2, c3, H⟩ := HH.elL 1 rfl e; clear HH
  clear e
  refine idxE c0 c1 c2 ?_; clear c0 c1 c2
  refine load1 c3 ?_; clear c3
  refine lit0 (α := Int) gok rfl rfl H ?_; clear H; intro h1 w3 hx H
  clear hx
  obtain ⟨r1, f3, f4⟩ := bindS f2; clear f2
  refine cut (fun (q0 : List Int × Hd) => [(0, (.int .i64 p_)), (2, (.int .i64 n_)), (8, (g0).v), (10, (h0).v), (11, (q0.2).v), (18, (equations_h).v), (19, (.int .i64 ((equations_.length : Nat) : Int))), (20, (.int .i64 ((k5 : Nat) : Int)))]) (fun (q0 : List Int × Hd) w' => q0.1 = r1 ∧ Cx w0 fp0 S0 w' [E (List (List Int)) s0 g0, Es (List Int) a0 h0, E (List Int) q0.1 q0.2, Es (List (List Int)) equations_ equations_h]) ?_ ?_
  ·
   obtain ⟨a1, e, f5⟩ := bindS f3; clear f3
   refine arO e ?_; clear e
   refine loopW _ (fun (s1 : List Int × Int) (g1 : Hd) => [(0, (.int .i64 p_)), (2, (.int .i64 n_)), (8, (g0).v), (10, (h0).v), (11, (g1).v), (12, (.int .i64 s1.2)), (18, (equations_h).v), (19, (.int .i64 ((equations_.length : Nat) : Int))), (20, (.int .i64 ((k5 : Nat) : Int)))]) (fun (s1 : List Int × Int) (g1 : Hd) w' => Cx w0 fp0 S0 w' [E (List (List Int)) s0 g0, Es (List Int) a0 h0, E (List Int) s1.1 g1, Es (List (List Int)) equations_ equations_h]) (([] : List Int), a1) h1 f5 ⟨rfl, rfl, rfl, rfl, rfl, rfl, rfl, rfl, rfl, trivial⟩ (H.sel [2, 1, 0, 3] rfl) ?_
   ·
    clear H
    rintro T1 ⟨s1_0, s1_1⟩ g1 w4 o1 (H : Cx w0 fp0 S0 w4 [E (List (List Int)) s0 g0, Es (List Int) a0 h0, E (List Int) s1_0 g1, Es (List (List Int)) equations_ equations_h]) hrt f6
    refine sq ?_
    obtain ⟨a2, e, f7⟩ := bindS f6; clear f6
    refine boolO e ?_; clear e
    cases a2
    ·
     have f8 := condF f7; clear f7
     have hs := Option.some.inj f8; subst hs; clear f8
     have f9 : some _ = some _ := congrArg some (hrt _ rfl).symm
     exact ⟨(s1_0, g1), ⟨rfl, rfl, rfl, rfl, rfl, rfl, rfl, rfl, trivial⟩, Option.some.inj f9, H.sel [0, 1, 2, 3] rfl⟩
    ·
     have f10 := condT f7; clear f7
     refine sq ?_
     obtain ⟨a3, e, f11⟩ := bindS f10; clear f10
     obtain ⟨p1, m1, c4, c5, c6, c7⟩ := (H.rs (α := List Int) 1 rfl).at1 e; clear e
     refine idxE c4 c5 c6 ?_; clear c4 c5 c6
     refine load1 c7 ?_; clear c7
     refine lit1S (α := Int) gok rfl rfl rfl rfl H ?_; clear H; intro h2 w5 hx H
     clear hx
     obtain ⟨a4, e, f12⟩ := bindS f11; clear f11
     replace H := H.sel [3, 0, 1, 2, 4] rfl
     refine append_ (α := Int) gok rfl rfl rfl rfl H e ?_; clear e H; intro h4 w6 H
     obtain ⟨a5, e, f13⟩ := bindS f12; clear f12
     refine arO e ?_; clear e
     have hs := Option.some.inj f13; subst hs; clear f13
     exact ⟨(a4, a5), h4, rfl, ⟨rfl, rfl, rfl, rfl, rfl, rfl, rfl, rfl, rfl, trivial⟩, H.sel [1, 2, 0, 3] rfl⟩
  ·
   clear f3 H
   rintro T2 ⟨s2, g2⟩ w7 ⟨hr, (H : Cx w0 fp0 S0 w7 [E (List (List Int)) s0 g0, Es (List Int) a0 h0, E (List Int) s2 g2, Es (List (List Int)) equations_ equations_h])⟩
   subst hr
   obtain ⟨a6, e, f14⟩ := bindS f4; clear f4
   obtain ⟨p2, m2, c8, c9, c10, c11⟩ := (H.rs (α := List Int) 1 rfl).at1 e; clear e
   refine idxE c8 c9 c10 ?_; clear c8 c9 c10
   refine load1 c11 ?_; clear c11
   refine lit1S (α := Int) gok rfl rfl rfl rfl H ?_; clear H; intro h5 w8 hx H
   clear hx
   obtain ⟨a7, e, f15⟩ := bindS f14; clear f14
   replace H := H.sel [3, 0, 1, 2, 4] rfl
   refine append_ (α := Int) gok rfl rfl rfl rfl H e ?_; clear e H; intro h6 w9 H
   refine lit1 (α := List Int) (g := h6) gok rfl rfl rfl rfl rfl H ?_; clear H; intro h7 w10 hx H
   clear hx
   obtain ⟨a8, e, f16⟩ := bindS f15; clear f15
   replace H := H.sel [1, 0, 2, 3] rfl
   refine append_ (α := List Int) gok rfl rfl rfl rfl H e ?_; clear e H; intro h8 w11 H
   refine arK hk x0 ?_
   have hs := Option.some.inj f16; subst hs; clear f16
   exact ⟨h8, ⟨rfl, rfl, rfl, rfl, rfl, rfl, trivial⟩, H.sel [0, 2] rfl⟩
 ·
  clear H e
  rintro T3 g3 w12 (H : Cx w0 fp0 S0 w12 [E (List (List Int)) r0 g3, Es (List (List Int)) equations_ equations_h])
  refine boolE (z := false) geLen ?_
  refine sq ?_
  obtain ⟨y2, e, f17⟩ := bindS f0; clear f0
  have ey668 := e; clear e
  refine callF (impl_zeros_c n_ y2 ey668) (Γi := []) H trivial ?_; clear H ey668
  rintro _ _ w13 ⟨h9, rfl, rfl⟩ H
  refine sq ?_
  obtain ⟨a9, e, f18⟩ := bindS f17; clear f17
  refine arO e ?_; clear e
  obtain ⟨y3, e, f19⟩ := bindS f18; clear f18
  have ey675 := e; clear e
  refine callF (impl_reduced_c p_ r0 g3 a9 y3 ey675) (Γi := []) H ⟨Vw.own 1 rfl, trivial⟩ ?_; clear H ey675
  rintro _ _ w14 ⟨h10, rfl, rfl⟩ H
  refine lenE (H.ro (α := List (List Int)) 0 rfl).len ?_
  replace H := H.frz
  have x1 := (H.rs (α := List (List Int)) 0 rfl).max
  obtain ⟨r2, e, f20⟩ := bindS f19; clear f19
  refine loopO _ y3.length (fun (k0 : Nat) (s3 : List Int) (_ : Unit) => [(2, (.int .i64 n_)), (13, (h9).v), (55, (h10).v), (56, (.int .i64 ((y3.length : Nat) : Int))), (57, (.int .i64 ((k0 : Nat) : Int)))]) (fun _ (s3 : List Int) (_ : Unit) w' => Cx w0 fp0 S0 w' [E (List Int) s3 h9, Es (List (List Int)) y3 h10]) y2 () e ⟨rfl, rfl, rfl, rfl, rfl, trivial⟩ (H.sel [1, 0] rfl) ?_ ?_
  ·
   clear H e
   rintro T4 k0 s3 _ w15 o2 hk (H : Cx w0 fp0 S0 w15 [E (List Int) s3 h9, Es (List (List Int)) y3 h10]) hrt f21
   refine boolE (z := true) (ltLen hk) ?_
   refine sq ?_
   refine sq ?_
   obtain ⟨a10, e, f22⟩ := bindS f21; clear f21
   have HH := H; clear H; obtain ⟨p3, m3, h11, c12, c13, c14, c15, H⟩ := HH.elL 1 rfl e; clear HH
   clear e
   refine idxE c12 c13 c14 ?_; clear c12 c13 c14
   refine load1 c15 ?_; clear c15
   obtain ⟨y4, e, f23⟩ := bindS f22; clear f22
   have ey820 := e; clear e
   refine callF (impl_lead_c a10 h11 y4 ey820) (Γi := []) H ⟨Vw.sh 0 rfl, trivial⟩ ?_; clear H ey820
   rintro _ _ w16 ⟨rfl, rfl⟩ H
   refine sq ?_
   obtain ⟨a11, e, f24⟩ := bindS f23; clear f23
   refine boolO e ?_; clear e
   cases a11
   ·
    have f25 := condF f24; clear f24
    obtain ⟨a12, e, f26⟩ := bindS f25; clear f25
    refine arO e ?_; clear e
    obtain ⟨a13, e, f27⟩ := bindS f26; clear f26
    refine arO e ?_; clear e
    obtain ⟨a14, e, f28⟩ := bindS f27; clear f27
    obtain ⟨p4, m4, c16, c17, c18, c19⟩ := (H.rs (α := List Int) 0 rfl).at1 e; clear e
    refine idxE c16 c17 c18 ?_; clear c16 c17 c18
    refine load1 c19 ?_; clear c19
    obtain ⟨a15, e, f29⟩ := bindS f28; clear f28
    have ea844 := e; clear e
    obtain ⟨p5, m5, c20, c21, c22⟩ := (H.ro (α := List Int) 1 rfl).setp ea844
    refine idxE c20 c21 c22 ?_
    replace H := H.sel [1, 0, 2] rfl
    refine setS (α := Int) H c20 c21 ea844 ?_; clear H c20 c21 c22 ea844; intro w17 H
    refine arK hk x1 ?_
    have hs := Option.some.inj f29; subst hs; clear f29
    exact ⟨a15, (), rfl, ⟨rfl, rfl, rfl, rfl, rfl, trivial⟩, H.sel [0, 2] rfl⟩
   ·
    have f30 := condT f24; clear f24
    have hs := Option.some.inj f30; subst hs; clear f30
    have hr := hrt _ rfl; subst hr
    have f31 : some _ = some _ := f20
    replace H := H.nil (α := Int)
    cases f31
    exact ⟨_, _, rfl, ⟨nilH, rfl, rfl⟩, (H.sel [0] rfl).close ⟨cloE, trivial⟩⟩
  ·
   clear H e
   rintro T5 s4 _ w18 hr (H : Cx w0 fp0 S0 w18 [E (List Int) s4 h9, Es (List (List Int)) y3 h10])
   subst hr
   refine boolE (z := false) geLen ?_
   refine sq ?_
   cases f20
   exact ⟨_, _, rfl, ⟨h9, rfl, rfl⟩, (H.sel [0] rfl).close ⟨cloE, trivial⟩⟩

theorem impl_chooser_coordinates_c (k_b : Nat) (k__0 : Int) (k__1 : Int) (k__2 : List (List Int)) (k__2h : Hd) (k__3 : List Int) (k__3h : Hd) (k__4 : List (List Int)) (k__4h : Hd) (row_ : List Int) (row_h : Hd) (y0 : List Int) (y1 : Bool) (hF : F_impl_chooser_coordinates (k__0, k__1, k__2, k__3, k__4) row_ = some (y0, y1)) :
  ConF Tryd.prog 91 #[(.pointer (some ⟨k_b, 0, none⟩)), (row_h).v] [Es (List (List Int)) k__2 k__2h, Es (List Int) k__3 k__3h, Es (List (List Int)) k__4 k__4h, Es (List Int) row_ row_h] [Bx k_b [(.int .i64 k__0), (.int .i64 k__1), (k__2h).v, (k__3h).v, (k__4h).v]] (fun v Γ' => ∃ z0 : Hd, v = (.tuple #[(z0).v, (.bool y1)]) ∧ Γ' = [Bx k_b [(.int .i64 k__0), (.int .i64 k__1), (k__2h).v, (k__3h).v, (k__4h).v], E (List Int) y0 z0]) := by
 intro w0 S0 fp0 hI hS
 have H : Cx w0 fp0 S0 w0 [Es (List (List Int)) k__2 k__2h, Es (List Int) k__3 k__3h, Es (List (List Int)) k__4 k__4h, Es (List Int) row_ row_h, Bx k_b [(.int .i64 k__0), (.int .i64 k__1), (k__2h).v, (k__3h).v, (k__4h).v]] := Cx.start hI hS
 clear hI hS
 refine enterC (args := [_, _]) gok Tryd.func91 rfl _ rfl rfl rfl ?_
 refine lit0 (α := List Int) gok rfl rfl H ?_; clear H; intro h7 w6 hx H
 clear hx
 refine sq ?_
 refine fld gok rfl rfl rfl rfl ?_
 refine load1 (H.bx 5 rfl (j := 1) rfl) ?_
 obtain ⟨a0, hn, f0⟩ := bindS hF; clear hF
 obtain ⟨r0, e, f1⟩ := bindS f0; clear f0
 refine loopS _ k__1.toNat (fun (k9 : Nat) (s0 : List (List Int)) (g0 : Hd) => [(0, (.pointer (some ⟨k_b, 0, none⟩))), (1, (row_h).v), (6, (g0).v), (15, (.int .i64 k__1)), (16, (.int .i64 ((k9 : Nat) : Int)))]) (fun _ (s0 : List (List Int)) (g0 : Hd) w' => Cx w0 fp0 S0 w' [Bx k_b [(.int .i64 k__0), (.int .i64 k__1), (k__2h).v, (k__3h).v, (k__4h).v], Es (List (List Int)) k__2 k__2h, Es (List Int) k__3 k__3h, Es (List (List Int)) k__4 k__4h, Es (List Int) row_ row_h, E (List (List Int)) s0 g0]) ([] : List (List Int)) h7 e ⟨rfl, rfl, rfl, rfl, rfl, trivial⟩ (H.sel [5, 1, 2, 3, 4, 0] rfl) ?_ ?_
 ·
  clear H e
  rintro T0 k9 s0 g0 w1 o0 hk (H : Cx w0 fp0 S0 w1 [Bx k_b [(.int .i64 k__0), (.int .i64 k__1), (k__2h).v, (k__3h).v, (k__4h).v], Es (List (List Int)) k__2 k__2h, Es (List Int) k__3 k__3h, Es (List (List Int)) k__4 k__4h, Es (List Int) row_ row_h, E (List (List Int)) s0 g0]) f2
  refine boolE (z := true) (ltNat hk) ?_
  refine sq ?_
  refine sq ?_
  refine lit0 (α := Int) gok rfl rfl H ?_; clear H; intro h0 w2 hx H
  clear hx
  refine sq ?_
  refine fld gok rfl rfl rfl rfl ?_
  refine load1 (H.bx 1 rfl (j := 4) rfl) ?_
  refine lenE (H.rs (α := List (List Int)) 4 rfl).len ?_
  have x0 := (H.rs (α := List (List Int)) 4 rfl).max
  obtain ⟨r1, e, f3⟩ := bindS f2; clear f2
  refine loopS _ k__4.length (fun (k0 : Nat) (s1 : List Int) (g1 : Hd) => [(0, (.pointer (some ⟨k_b, 0, none⟩))), (1, (row_h).v), (6, (g0).v), (7, (.int .i64 ((k9 : Nat) : Int))), (8, (g1).v), (15, (.int .i64 k__1)), (16, (.int .i64 ((k9 : Nat) : Int))), (23, (k__4h).v), (24, (.int .i64 ((k__4.length : Nat) : Int))), (25, (.int .i64 ((k0 : Nat) : Int)))]) (fun _ (s1 : List Int) (g1 : Hd) w' => Cx w0 fp0 S0 w' [Bx k_b [(.int .i64 k__0), (.int .i64 k__1), (k__2h).v, (k__3h).v, (k__4h).v], Es (List (List Int)) k__2 k__2h, Es (List Int) k__3 k__3h, Es (List (List Int)) k__4 k__4h, Es (List Int) row_ row_h, E (List (List Int)) s0 g0, E (List Int) s1 g1]) ([] : List Int) h0 e ⟨rfl, rfl, rfl, rfl, rfl, rfl, rfl, rfl, rfl, rfl, trivial⟩ (H.sel [1, 2, 3, 4, 5, 6, 0] rfl) ?_ ?_
  ·
   clear H e
   rintro T1 k0 s1 g1 w3 o1 hk (H : Cx w0 fp0 S0 w3 [Bx k_b [(.int .i64 k__0), (.int .i64 k__1), (k__2h).v, (k__3h).v, (k__4h).v], Es (List (List Int)) k__2 k__2h, Es (List Int) k__3 k__3h, Es (List (List Int)) k__4 k__4h, Es (List Int) row_ row_h, E (List (List Int)) s0 g0, E (List Int) s1 g1]) f4
   refine boolE (z := true) (ltLen hk) ?_
   refine sq ?_
   refine sq ?_
   obtain ⟨a1, e, f5⟩ := bindS f4; clear f4
   have HH := H; clear H; obtain ⟨p0, m0, h1, c0, c1, c2, c3, H⟩ := HH.elL 3 rfl e; clear HH
   clear e
   refine idxE c0 c1 c2 ?_; clear c0 c1 c2
   refine load1 c3 ?_; clear c3
   obtain ⟨a2, e, f6⟩ := bindS f5; clear f5
   obtain ⟨p1, m1, c4, c5, c6, c7⟩ := (H.rs (α := List Int) 0 rfl).at1 e; clear e
   refine idxE c4 c5 c6 ?_; clear c4 c5 c6
   refine load1 c7 ?_; clear c7
   refine lit1S (α := Int) gok rfl rfl rfl rfl H ?_; clear H; intro h2 w4 hx H
   clear hx
   obtain ⟨a3, e, f7⟩ := bindS f6; clear f6
   replace H := H.sel [8, 0, 1, 2, 3, 4, 5, 6, 7] rfl
   refine append_ (α := Int) gok rfl rfl rfl rfl H e ?_; clear e H; intro h3 w5 H
   refine arK hk x0 ?_
   have hs := Option.some.inj f7; subst hs; clear f7
   exact ⟨h3, ⟨rfl, rfl, rfl, rfl, rfl, rfl, rfl, rfl, rfl, rfl, trivial⟩, H.sel [2, 3, 4, 5, 6, 7, 0] rfl⟩
  ·
   clear H e
   rintro T2 g2 w7 (H : Cx w0 fp0 S0 w7 [Bx k_b [(.int .i64 k__0), (.int .i64 k__1), (k__2h).v, (k__3h).v, (k__4h).v], Es (List (List Int)) k__2 k__2h, Es (List Int) k__3 k__3h, Es (List (List Int)) k__4 k__4h, Es (List Int) row_ row_h, E (List (List Int)) s0 g0, E (List Int) r1 g2])
   refine boolE (z := false) geLen ?_
   refine sq ?_
   obtain ⟨a4, e, f8⟩ := bindS f3; clear f3
   obtain ⟨p2, m2, c8, c9, c10, c11⟩ := (H.rs (α := List Int) 4 rfl).at1 e; clear e
   refine idxE c8 c9 c10 ?_; clear c8 c9 c10
   refine load1 c11 ?_; clear c11
   refine lit1S (α := Int) gok rfl rfl rfl rfl H ?_; clear H; intro h4 w8 hx H
   clear hx
   obtain ⟨a5, e, f9⟩ := bindS f8; clear f8
   replace H := H.sel [7, 0, 1, 2, 3, 4, 5, 6] rfl
   refine append_ (α := Int) gok rfl rfl rfl rfl H e ?_; clear e H; intro h5 w9 H
   refine lit1 (α := List Int) (g := h5) gok rfl rfl rfl rfl rfl H ?_; clear H; intro h6 w10 hx H
   clear hx
   obtain ⟨a6, e, f10⟩ := bindS f9; clear f9
   replace H := H.sel [6, 0, 1, 2, 3, 4, 5] rfl
   refine append_ (α := List Int) gok rfl rfl rfl rfl H e ?_; clear e H; intro h8 w11 H
   refine arK hk (maxI hn) ?_
   have hs := Option.some.inj f10; subst hs; clear f10
   exact ⟨h8, ⟨rfl, rfl, rfl, rfl, rfl, trivial⟩, H.sel [1, 2, 3, 4, 5, 0] rfl⟩
 ·
  clear H e
  rintro T3 g3 w12 (H : Cx w0 fp0 S0 w12 [Bx k_b [(.int .i64 k__0), (.int .i64 k__1), (k__2h).v, (k__3h).v, (k__4h).v], Es (List (List Int)) k__2 k__2h, Es (List Int) k__3 k__3h, Es (List (List Int)) k__4 k__4h, Es (List Int) row_ row_h, E (List (List Int)) r0 g3])
  refine boolE (z := false) geNat ?_
  refine sq ?_
  refine heldX H [] (.fst 0 (.fst 1 (.fst 2 (.fst 4 (.fst 5 (.fst 6 (.fst 7 (.fst 3 (.fst 8 (.fst 9 (.act 10 (.fst 11 (.fst 12 (.fst 13 (.fst 14 .done))))))))))))))) mixed [] trivial (by kernel_rfl) ?_
  clear H; intro w13 H
  have hX : Ext w13 w13 := Upd.refl _ _
  have H0 := H
  refine anyH (fun _ => fld gok rfl rfl rfl rfl ⟨rfl, rfl⟩) ?_
  refine anyH (fun _ => fld gok rfl rfl rfl rfl ⟨rfl, rfl⟩) ?_
  refine load1X (H.bx 0 rfl (j := 0) rfl) ?_
  refine load1X (H.bx 0 rfl (j := 4) rfl) ?_
  refine lenE (H.rs (α := List (List Int)) 3 rfl).len ?_
  obtain ⟨y2, e, f11⟩ := bindS f1; clear f1
  obtain ⟨y2_0, y2_1⟩ := y2
  have ey411 := e; clear e
  refine callFx (impl_firstSolution_c k__0 r0 g3 ((k__4.length : Nat) : Int) y2_0 y2_1 ey411) H ⟨Vw.own 5 rfl, trivial⟩ ?_; clear H ey411
  rintro _ _ w14 ⟨h9, rfl, rfl⟩ hx H
  replace hX := hX.trans0 hx; clear hx
  refine hold hX ?_
  cases f11
  exact ⟨_, _, rfl, ⟨h9, rfl, rfl⟩, (H.sel [1, 0] rfl).close ⟨cloB, cloE, trivial⟩⟩

theorem impl_combine_c (p_ : Int) (x_ : List Int) (x_h : Hd) (rows_ : List (List Int)) (rows_h : Hd) (n_ : Int) (y : List Int) (hF : F_impl_combine p_ x_ rows_ n_ = some y) :
  ConF Tryd.prog 102 #[(.int .i64 p_), (x_h).v, (rows_h).v, (.int .i64 n_)] [Es (List Int) x_ x_h, Es (List (List Int)) rows_ rows_h] [] (fun v Γ' => ∃ z0 : Hd, v = (z0).v ∧ Γ' = [E (List Int) y z0]) := by
 intro w0 S0 fp0 hI hS
 have H : Cx w0 fp0 S0 w0 [Es (List Int) x_ x_h, Es (List (List Int)) rows_ rows_h] := Cx.start hI hS
 clear hI hS
 refine enterC (args := [_, _, _, _]) gok Tryd.func102 rfl _ rfl rfl rfl ?_
 obtain ⟨y3, e, hF4⟩ := bindS hF; clear hF
 have ey3 := e; clear e
 refine callF (impl_zeros_c n_ y3 ey3) (Γi := []) H trivial ?_; clear H ey3
 rintro _ _ w5 ⟨h6, rfl, rfl⟩ H
 refine sq ?_
 refine lenE (H.rs (α := List (List Int)) 2 rfl).len ?_
 have x0 := (H.rs (α := List (List Int)) 2 rfl).max
 obtain ⟨r0, e, f0⟩ := bindS hF4; clear hF4
 refine loopS _ rows_.length (fun (k8 : Nat) (s0 : List Int) (_ : Unit) => [(0, (.int .i64 p_)), (1, (x_h).v), (9, (h6).v), (14, (rows_h).v), (15, (.int .i64 ((rows_.length : Nat) : Int))), (16, (.int .i64 ((k8 : Nat) : Int)))]) (fun _ (s0 : List Int) (_ : Unit) w' => Cx w0 fp0 S0 w' [Es (List Int) x_ x_h, E (List Int) s0 h6, Es (List (List Int)) rows_ rows_h]) y3 () e ⟨rfl, rfl, rfl, rfl, rfl, rfl, trivial⟩ (H.sel [1, 0, 2] rfl) ?_ ?_
 ·
  clear H e
  rintro T0 k8 s0 _ w1 o0 hk (H : Cx w0 fp0 S0 w1 [Es (List Int) x_ x_h, E (List Int) s0 h6, Es (List (List Int)) rows_ rows_h]) f1
  refine boolE (z := true) (ltLen hk) ?_
  refine sq ?_
  refine sq ?_
  obtain ⟨a0, e, f2⟩ := bindS f1; clear f1
  have HH := H; clear H; obtain ⟨p0, m0, h0, c0, c1, c2, c3, H⟩ := HH.elL 2 rfl e; clear HH
  clear e
  refine idxE c0 c1 c2 ?_; clear c0 c1 c2
  refine load1 c3 ?_; clear c3
  obtain ⟨a1, e, f3⟩ := bindS f2; clear f2
  obtain ⟨p1, m1, c4, c5, c6, c7⟩ := (H.rs (α := List Int) 1 rfl).at1 e; clear e
  refine idxE c4 c5 c6 ?_; clear c4 c5 c6
  refine load1 c7 ?_; clear c7
  obtain ⟨y0, e, f4⟩ := bindS f3; clear f3
  have ey82 := e; clear e
  replace H := H.sel [2, 0, 1, 3] rfl
  refine callF (impl_addTimes_c p_ s0 h6 a1 a0 h0 y0 ey82) (Γi := [E (List Int) s0 h6]) H ⟨Vw.sh 0 rfl, trivial⟩ ?_; clear H ey82
  rintro _ _ w2 ⟨rfl, rfl⟩ H
  refine arK hk x0 ?_
  have hs := Option.some.inj f4; subst hs; clear f4
  exact ⟨(), ⟨rfl, rfl, rfl, rfl, rfl, rfl, trivial⟩, H.sel [2, 0, 3] rfl⟩
 ·
  clear H e
  rintro T1 _ w3 (H : Cx w0 fp0 S0 w3 [Es (List Int) x_ x_h, E (List Int) r0 h6, Es (List (List Int)) rows_ rows_h])
  refine boolE (z := false) geLen ?_
  refine sq ?_
  cases f0
  exact ⟨_, _, rfl, ⟨h6, rfl, rfl⟩, (H.sel [1] rfl).close ⟨cloE, trivial⟩⟩

theorem impl_product_c (p_ : Int) (rows_ : List (List Int)) (rows_h : Hd) (m_ : List (List Int)) (m_h : Hd) (n_ : Int) (y : List (List Int)) (hF : F_impl_product p_ rows_ m_ n_ = some y) :
  ConF Tryd.prog 72 #[(.int .i64 p_), (rows_h).v, (m_h).v, (.int .i64 n_)] [Es (List (List Int)) rows_ rows_h, Es (List (List Int)) m_ m_h] [] (fun v Γ' => ∃ z0 : Hd, v = (z0).v ∧ Γ' = [E (List (List Int)) y z0]) := by
 intro w0 S0 fp0 hI hS
 have H : Cx w0 fp0 S0 w0 [Es (List (List Int)) rows_ rows_h, Es (List (List Int)) m_ m_h] := Cx.start hI hS
 clear hI hS
 refine enterC (args := [_, _, _, _]) gok Tryd.func72 rfl _ rfl rfl rfl ?_
 refine lit0 (α := List Int) gok rfl rfl H ?_; clear H; intro h4 w3 hx H
 clear hx
 refine sq ?_
 refine lenE (H.rs (α := List (List Int)) 1 rfl).len ?_
 have x0 := (H.rs (α := List (List Int)) 1 rfl).max
 obtain ⟨r0, e, f0⟩ := bindS hF; clear hF
 refine loopS _ rows_.length (fun (k6 : Nat) (s0 : List (List Int)) (g0 : Hd) => [(0, (.int .i64 p_)), (2, (m_h).v), (3, (.int .i64 n_)), (9, (g0).v), (13, (rows_h).v), (14, (.int .i64 ((rows_.length : Nat) : Int))), (15, (.int .i64 ((k6 : Nat) : Int)))]) (fun _ (s0 : List (List Int)) (g0 : Hd) w' => Cx w0 fp0 S0 w' [Es (List (List Int)) m_ m_h, E (List (List Int)) s0 g0, Es (List (List Int)) rows_ rows_h]) ([] : List (List Int)) h4 e ⟨rfl, rfl, rfl, rfl, rfl, rfl, rfl, trivial⟩ (H.sel [2, 0, 1] rfl) ?_ ?_
 ·
  clear H e
  rintro T0 k6 s0 g0 w1 o0 hk (H : Cx w0 fp0 S0 w1 [Es (List (List Int)) m_ m_h, E (List (List Int)) s0 g0, Es (List (List Int)) rows_ rows_h]) f1
  refine boolE (z := true) (ltLen hk) ?_
  refine sq ?_
  refine sq ?_
  obtain ⟨a0, e, f2⟩ := bindS f1; clear f1
  have HH := H; clear H; obtain ⟨p0, m0, h0, c0, c1, c2, c3, H⟩ := HH.elL 2 rfl e; clear HH
  clear e
  refine idxE c0 c1 c2 ?_; clear c0 c1 c2
  refine load1 c3 ?_; clear c3
  obtain ⟨y0, e, f3⟩ := bindS f2; clear f2
  have ey78 := e; clear e
  refine callF (impl_combine_c p_ a0 h0 m_ m_h n_ y0 ey78) (Γi := []) H ⟨Vw.sh 0 rfl, Vw.sh 1 rfl, trivial⟩ ?_; clear H ey78
  rintro _ _ w2 ⟨h1, rfl, rfl⟩ H
  refine lit1 (α := List Int) (g := h1) gok rfl rfl rfl rfl rfl H ?_; clear H; intro h2 w4 hx H
  clear hx
  obtain ⟨a1, e, f4⟩ := bindS f3; clear f3
  replace H := H.sel [3, 0, 1, 2, 4] rfl
  refine append_ (α := List Int) gok rfl rfl rfl rfl H e ?_; clear e H; intro h3 w5 H
  refine arK hk x0 ?_
  have hs := Option.some.inj f4; subst hs; clear f4
  exact ⟨h3, ⟨rfl, rfl, rfl, rfl, rfl, rfl, rfl, trivial⟩, H.sel [2, 0, 3] rfl⟩
 ·
  clear H e
  rintro T1 g1 w6 (H : Cx w0 fp0 S0 w6 [Es (List (List Int)) m_ m_h, E (List (List Int)) r0 g1, Es (List (List Int)) rows_ rows_h])
  refine boolE (z := false) geLen ?_
  refine sq ?_
  cases f0
  exact ⟨_, _, rfl, ⟨g1, rfl, rfl⟩, (H.sel [1] rfl).close ⟨cloE, trivial⟩⟩

theorem impl_StateSpace_markov_c (s__0 : Int) (s__1 : Int) (s__2 : Int) (s__3 : List (List Int)) (s__3h : Hd) (s__4 : List (List Int)) (s__4h : Hd) (s__5 : List (List Int)) (s__5h : Hd) (s__6 : List (List Int)) (s__6h : Hd) (p_ : Int) (n_ : Int) (y : List (Int × List (List Int))) (hF : F_impl_StateSpace_markov (s__0, s__1, s__2, s__3, s__4, s__5, s__6) p_ n_ = some y) :
  ConF Tryd.prog 69 #[(.agg #[(.int .i64 s__0), (.int .i64 s__1), (.int .i64 s__2), (s__3h).v, (s__4h).v, (s__5h).v, (s__6h).v]), (.int .i64 p_), (.int .i64 n_)] [Es (List (List Int)) s__3 s__3h, Es (List (List Int)) s__4 s__4h, Es (List (List Int)) s__5 s__5h, Es (List (List Int)) s__6 s__6h] [] (fun v Γ' => ∃ z0 : Hd, v = (z0).v ∧ Γ' = [E (List (Int × List (List Int))) y z0]) := by
 intro w0 S0 fp0 hI hS
 have H : Cx w0 fp0 S0 w0 [Es (List (List Int)) s__3 s__3h, Es (List (List Int)) s__4 s__4h, Es (List (List Int)) s__5 s__5h, Es (List (List Int)) s__6 s__6h] := Cx.start hI hS
 clear hI hS
 refine enterC (args := [_, _, _]) gok Tryd.func69 rfl _ rfl rfl rfl ?_
 refine box_ H ?_; clear H; intro b6 w5 hx H
 clear hx
 refine lit0 (α := Int × List (List Int)) gok rfl rfl H ?_; clear H; intro h9 w8 hx H
 clear hx
 refine fld gok rfl rfl rfl rfl ?_
 refine load1 (H.bx 1 rfl (j := 4) rfl) ?_
 obtain ⟨y0, e, f0⟩ := bindS hF; clear hF
 have ey11 := e; clear e
 refine callF (impl_clones_c s__4 s__4h y0 ey11) (Γi := []) H ⟨Vw.sh 3 rfl, trivial⟩ ?_; clear H ey11
 rintro _ _ w1 ⟨h0, rfl, rfl⟩ H
 refine sq ?_
 obtain ⟨a0, hn, f1⟩ := bindS f0; clear f0
 obtain ⟨r0, e, f2⟩ := bindS f1; clear f1
 refine loopS _ n_.toNat (fun (k0 : Nat) (s0 : (List (Int × List (List Int))) × List (List Int)) (g0 : Hd × Hd) => [(1, (.int .i64 p_)), (3, (.pointer (some ⟨b6, 0, none⟩))), (7, (g0.1).v), (8, (g0.2).v), (14, (.int .i64 n_)), (15, (.int .i64 ((k0 : Nat) : Int)))]) (fun _ (s0 : (List (Int × List (List Int))) × List (List Int)) (g0 : Hd × Hd) w' => Cx w0 fp0 S0 w' [Bx b6 [(.int .i64 s__0), (.int .i64 s__1), (.int .i64 s__2), (s__3h).v, (s__4h).v, (s__5h).v, (s__6h).v], Es (List (List Int)) s__3 s__3h, Es (List (List Int)) s__4 s__4h, Es (List (List Int)) s__5 s__5h, Es (List (List Int)) s__6 s__6h, E (List (Int × List (List Int))) s0.1 g0.1, E (List (List Int)) s0.2 g0.2]) (([] : List (Int × List (List Int))), y0) (h9, h0) e ⟨rfl, rfl, rfl, rfl, rfl, rfl, trivial⟩ (H.sel [2, 3, 4, 5, 6, 1, 0] rfl) ?_ ?_
 ·
  clear H e
  rintro T0 k0 ⟨s0_0, s0_1⟩ ⟨g0_0, g0_1⟩ w2 o0 hk (H : Cx w0 fp0 S0 w2 [Bx b6 [(.int .i64 s__0), (.int .i64 s__1), (.int .i64 s__2), (s__3h).v, (s__4h).v, (s__5h).v, (s__6h).v], Es (List (List Int)) s__3 s__3h, Es (List (List Int)) s__4 s__4h, Es (List (List Int)) s__5 s__5h, Es (List (List Int)) s__6 s__6h, E (List (Int × List (List Int))) s0_0 g0_0, E (List (List Int)) s0_1 g0_1]) f3
  refine boolE (z := true) (ltNat hk) ?_
  refine sq ?_
  obtain ⟨r1, f4, f5⟩ := bindS f3; clear f3
  refine cut (fun (q0 : ((List (Int × List (List Int))) × List (List Int)) × (Hd × Hd)) => [(1, (.int .i64 p_)), (3, (.pointer (some ⟨b6, 0, none⟩))), (7, (q0.2.1).v), (8, (q0.2.2).v), (14, (.int .i64 n_)), (15, (.int .i64 ((k0 : Nat) : Int)))]) (fun (q0 : ((List (Int × List (List Int))) × List (List Int)) × (Hd × Hd)) w' => (q0.1.1, q0.1.2) = r1 ∧ Cx w0 fp0 S0 w' [Bx b6 [(.int .i64 s__0), (.int .i64 s__1), (.int .i64 s__2), (s__3h).v, (s__4h).v, (s__5h).v, (s__6h).v], Es (List (List Int)) s__3 s__3h, Es (List (List Int)) s__4 s__4h, Es (List (List Int)) s__5 s__5h, Es (List (List Int)) s__6 s__6h, E (List (Int × List (List Int))) q0.1.1 q0.2.1, E (List (List Int)) q0.1.2 q0.2.2]) ?_ ?_
  ·
   refine sq ?_
   obtain ⟨a1, e, f6⟩ := bindS f4; clear f4
   refine boolO e ?_; clear e
   cases a1
   ·
    have f7 := condF f6; clear f6
    refine heldX H [12, 13] (.fst 0 (.fst 1 (.fst 3 (.fst 4 (.fst 5 (.fst 7 (.fst 2 (.fst 6 (.fst 8 (.act 9 (.fst 10 (.act 11 (.act 12 (.act 13 .done)))))))))))))) mixed [] trivial (by kernel_rfl) ?_
    clear H; intro w3 H
    have hX : Ext w3 w3 := Upd.refl _ _
    have H0 := H
    refine anyH (fun _ => fld gok rfl rfl rfl rfl ⟨rfl, rfl⟩) ?_
    refine anyH (fun _ => fld gok rfl rfl rfl rfl ⟨rfl, rfl⟩) ?_
    refine anyH (fun _ => fld gok rfl rfl rfl rfl ⟨rfl, rfl⟩) ?_
    refine load1X (H.bx 0 rfl (j := 2) rfl) ?_
    refine load1X (H.bx 0 rfl (j := 5) rfl) ?_
    refine load1X (H.bx 0 rfl (j := 2) rfl) ?_
    obtain ⟨y1, e, f8⟩ := bindS f7; clear f7
    have ey273 := e; clear e
    refine callFx (impl_product_c p_ s0_1 g0_1 s__5 s__5h s__2 y1 ey273) H ⟨Vw.own 6 rfl, Vw.sh 3 rfl, trivial⟩ ?_; clear H ey273
    rintro _ _ w4 ⟨h1, rfl, rfl⟩ hx H
    replace hX := hX.trans0 hx; clear hx
    refine hold hX ?_
    refine anyH (fun _ => build_ (cs := #[(.int .i64 s__2), (h1).v]) gok rfl rfl rfl ⟨rfl, rfl⟩) ?_
    replace H := H.sc (α := Int) s__2
    replace H := H.join (α := Int) (β := List (List Int))
    refine lit1 (α := Int × List (List Int)) (g := ((), h1)) gok rfl rfl rfl rfl rfl H ?_; clear H; intro h2 w6 hx H
    replace hX := hX.trans0 hx; clear hx
    refine hold hX ?_
    obtain ⟨a2, e, f9⟩ := bindS f8; clear f8
    replace H := H.sel [6, 0, 1, 2, 3, 4, 5, 7] rfl
    refine append_ (α := Int × List (List Int)) gok rfl rfl rfl rfl H e ?_; clear e H; intro h3 w7 H
    refine hold trivial ?_
    refine hold trivial ?_
    refine fld gok rfl rfl rfl rfl ?_
    refine load1 (H.bx 1 rfl (j := 3) rfl) ?_
    refine fld gok rfl rfl rfl rfl ?_
    refine load1 (H.bx 1 rfl (j := 0) rfl) ?_
    obtain ⟨y2, e, f10⟩ := bindS f9; clear f9
    have ey288 := e; clear e
    refine callF (impl_product_c p_ s0_1 g0_1 s__3 s__3h s__0 y2 ey288) (Γi := []) H ⟨Vw.own 6 rfl, Vw.sh 2 rfl, trivial⟩ ?_; clear H ey288
    rintro _ _ w9 ⟨h4, rfl, rfl⟩ H
    exact ⟨((a2, y2), (h3, h4)), ⟨rfl, rfl, rfl, rfl, rfl, rfl, trivial⟩, Option.some.inj f10, H.sel [2, 3, 4, 5, 6, 1, 0] rfl⟩
   ·
    have f11 := condT f6; clear f6
    refine heldX H [8, 9] (.fst 0 (.fst 1 (.fst 3 (.fst 2 (.fst 4 (.act 5 (.fst 6 (.act 7 (.act 8 (.act 9 .done)))))))))) mixed [] trivial (by kernel_rfl) ?_
    clear H; intro w10 H
    have hX : Ext w10 w10 := Upd.refl _ _
    have H0 := H
    refine anyH (fun _ => fld gok rfl rfl rfl rfl ⟨rfl, rfl⟩) ?_
    refine anyH (fun _ => fld gok rfl rfl rfl rfl ⟨rfl, rfl⟩) ?_
    refine load1X (H.bx 0 rfl (j := 2) rfl) ?_
    refine load1X (H.bx 0 rfl (j := 6) rfl) ?_
    obtain ⟨y3, e, f12⟩ := bindS f11; clear f11
    have ey295 := e; clear e
    refine callFx (impl_clones_c s__6 s__6h y3 ey295) H ⟨Vw.sh 4 rfl, trivial⟩ ?_; clear H ey295
    rintro _ _ w11 ⟨h5, rfl, rfl⟩ hx H
    replace hX := hX.trans0 hx; clear hx
    refine hold hX ?_
    refine anyH (fun _ => build_ (cs := #[(.int .i64 s__2), (h5).v]) gok rfl rfl rfl ⟨rfl, rfl⟩) ?_
    replace H := H.sc (α := Int) s__2
    replace H := H.join (α := Int) (β := List (List Int))
    refine lit1 (α := Int × List (List Int)) (g := ((), h5)) gok rfl rfl rfl rfl rfl H ?_; clear H; intro h6 w12 hx H
    replace hX := hX.trans0 hx; clear hx
    refine hold hX ?_
    obtain ⟨a3, e, f13⟩ := bindS f12; clear f12
    replace H := H.sel [6, 0, 1, 2, 3, 4, 5, 7] rfl
    refine append_ (α := Int × List (List Int)) gok rfl rfl rfl rfl H e ?_; clear e H; intro h7 w14 H
    refine hold trivial ?_
    refine hold trivial ?_
    exact ⟨((a3, s0_1), (h7, g0_1)), ⟨rfl, rfl, rfl, rfl, rfl, rfl, trivial⟩, Option.some.inj f13, H.sel [1, 2, 3, 4, 5, 0, 6] rfl⟩
  ·
   clear f4 H
   rintro T1 ⟨⟨s1_0, s1_1⟩, ⟨g1_0, g1_1⟩⟩ w15 ⟨hr, (H : Cx w0 fp0 S0 w15 [Bx b6 [(.int .i64 s__0), (.int .i64 s__1), (.int .i64 s__2), (s__3h).v, (s__4h).v, (s__5h).v, (s__6h).v], Es (List (List Int)) s__3 s__3h, Es (List (List Int)) s__4 s__4h, Es (List (List Int)) s__5 s__5h, Es (List (List Int)) s__6 s__6h, E (List (Int × List (List Int))) s1_0 g1_0, E (List (List Int)) s1_1 g1_1])⟩
   subst hr
   refine arK hk (maxI hn) ?_
   have hs := Option.some.inj f5; subst hs; clear f5
   exact ⟨(g1_0, g1_1), ⟨rfl, rfl, rfl, rfl, rfl, rfl, trivial⟩, H.sel [0, 1, 2, 3, 4, 5, 6] rfl⟩
 ·
  clear H e
  obtain ⟨s2_0, s2_1⟩ := r0
  rintro T2 ⟨g2_0, g2_1⟩ w16 (H : Cx w0 fp0 S0 w16 [Bx b6 [(.int .i64 s__0), (.int .i64 s__1), (.int .i64 s__2), (s__3h).v, (s__4h).v, (s__5h).v, (s__6h).v], Es (List (List Int)) s__3 s__3h, Es (List (List Int)) s__4 s__4h, Es (List (List Int)) s__5 s__5h, Es (List (List Int)) s__6 s__6h, E (List (Int × List (List Int))) s2_0 g2_0, E (List (List Int)) s2_1 g2_1])
  refine boolE (z := false) geNat ?_
  refine sq ?_
  cases f2
  exact ⟨_, _, rfl, ⟨g2_0, rfl, rfl⟩, (H.sel [5] rfl).close ⟨cloE, trivial⟩⟩

theorem slices_Equal_int_int_c (s1_ : List Int) (s1_h : Hd) (s2_ : List Int) (s2_h : Hd) (y : Bool) (hF : F_slices_Equal_int_int s1_ s2_ = some y) :
  ConF Tryd.prog 117 #[(s1_h).v, (s2_h).v] [Es (List Int) s1_ s1_h, Es (List Int) s2_ s2_h] [] (fun v Γ' => v = (.bool y) ∧ Γ' = []) := by
 intro w0 S0 fp0 hI hS
 have H : Cx w0 fp0 S0 w0 [Es (List Int) s1_ s1_h, Es (List Int) s2_ s2_h] := Cx.start hI hS
 clear hI hS
 refine enterC (args := [_, _]) gok Tryd.func117 rfl _ rfl rfl rfl ?_
 refine sq ?_
 refine lenE (H.rs (α := List Int) 0 rfl).len ?_
 refine lenE (H.rs (α := List Int) 1 rfl).len ?_
 obtain ⟨a3, e, hF4⟩ := bindS hF; clear hF
 refine boolO e ?_; clear e
 cases a3
 ·
  have hF5 := condF hF4; clear hF4
  refine sq ?_
  refine lenE (H.rs (α := List Int) 0 rfl).len ?_
  have x0 := (H.rs (α := List Int) 0 rfl).max
  obtain ⟨r0, e, f0⟩ := bindS hF5; clear hF5
  refine loopO _ s1_.length (fun (k6 : Nat) (_ : Unit) (_ : Unit) => [(0, (s1_h).v), (1, (s2_h).v), (12, (.int .i64 ((s1_.length : Nat) : Int))), (13, (.int .i64 ((k6 : Nat) : Int)))]) (fun _ (_ : Unit) (_ : Unit) w' => Cx w0 fp0 S0 w' [Es (List Int) s1_ s1_h, Es (List Int) s2_ s2_h]) () () e ⟨rfl, rfl, rfl, rfl, trivial⟩ (H.sel [0, 1] rfl) ?_ ?_
  ·
   clear H e
   rintro T0 k6 _ _ w1 o0 hk (H : Cx w0 fp0 S0 w1 [Es (List Int) s1_ s1_h, Es (List Int) s2_ s2_h]) hrt f1
   refine boolE (z := true) (ltLen hk) ?_
   refine sq ?_
   refine sq ?_
   refine heldX H [] (.fst 0 (.fst 1 (.fst 2 (.fst 4 (.fst 5 (.fst 6 (.fst 3 (.fst 7 (.fst 8 .done))))))))) mixed [] trivial (by kernel_rfl) ?_
   clear H; intro w2 H
   have hX : Ext w2 w2 := Upd.refl _ _
   have H0 := H
   obtain ⟨a0, e, f2⟩ := bindS f1; clear f1
   obtain ⟨p0, m0, c0, c1, c2, c3⟩ := (H.rs (α := List Int) 0 rfl).at1 e; clear e
   refine idxE c0 c1 c2 ?_; clear c0 c1 c2
   obtain ⟨a1, e, f3⟩ := bindS f2; clear f2
   obtain ⟨p1, m1, c4, c5, c6, c7⟩ := (H.rs (α := List Int) 1 rfl).at1 e; clear e
   refine idxE c4 c5 c6 ?_; clear c4 c5 c6
   refine load1X c3 ?_; clear c3
   refine load1X c7 ?_; clear c7
   obtain ⟨a2, e, f4⟩ := bindS f3; clear f3
   refine boolO e ?_; clear e
   cases a2
   ·
    have f5 := condF f4; clear f4
    refine arK hk x0 ?_
    have hs := Option.some.inj f5; subst hs; clear f5
    exact ⟨(), (), rfl, ⟨rfl, rfl, rfl, rfl, trivial⟩, H.sel [0, 1] rfl⟩
   ·
    have f6 := condT f4; clear f4
    have hs := Option.some.inj f6; subst hs; clear f6
    have hr := hrt _ rfl; subst hr
    have f7 : some _ = some _ := f0
    cases f7
    exact ⟨_, _, rfl, ⟨rfl, rfl⟩, (H.sel [] rfl).close trivial⟩
  ·
   clear H e
   rintro T1 _ _ w3 hr (H : Cx w0 fp0 S0 w3 [Es (List Int) s1_ s1_h, Es (List Int) s2_ s2_h])
   subst hr
   refine boolE (z := false) geLen ?_
   refine sq ?_
   cases f0
   exact ⟨_, _, rfl, ⟨rfl, rfl⟩, (H.sel [] rfl).close trivial⟩
 ·
  have f8 := condT hF4; clear hF4
  cases f8
  exact ⟨_, _, rfl, ⟨rfl, rfl⟩, (H.sel [] rfl).close trivial⟩

theorem slices_EqualFunc_int_int_int_int_slices_Equal_int_int_c (s1_ : List (List Int)) (s1_h : Hd) (s2_ : List (List Int)) (s2_h : Hd) (y : Bool) (hF : F_slices_EqualFunc_int_int_int_int_slices_Equal_int_int s1_ s2_ = some y) :
  ConF Tryd.prog 116 #[(s1_h).v, (s2_h).v, (.func (.func 117) #[] #[])] [Es (List (List Int)) s1_ s1_h, Es (List (List Int)) s2_ s2_h] [] (fun v Γ' => v = (.bool y) ∧ Γ' = []) := by
 intro w0 S0 fp0 hI hS
 have H : Cx w0 fp0 S0 w0 [Es (List (List Int)) s1_ s1_h, Es (List (List Int)) s2_ s2_h] := Cx.start hI hS
 clear hI hS
 refine enterC (args := [_, _, _]) gok Tryd.func116 rfl _ rfl rfl rfl ?_
 refine sq ?_
 refine lenE (H.rs (α := List (List Int)) 0 rfl).len ?_
 refine lenE (H.rs (α := List (List Int)) 1 rfl).len ?_
 obtain ⟨a3, e, hF4⟩ := bindS hF; clear hF
 refine boolO e ?_; clear e
 cases a3
 ·
  have hF5 := condF hF4; clear hF4
  refine sq ?_
  refine lenE (H.rs (α := List (List Int)) 0 rfl).len ?_
  have x0 := (H.rs (α := List (List Int)) 0 rfl).max
  obtain ⟨r0, e, f0⟩ := bindS hF5; clear hF5
  refine loopO _ s1_.length (fun (k6 : Nat) (_ : Unit) (_ : Unit) => [(1, (s2_h).v), (2, (.func (.func 117) #[] #[])), (15, (s1_h).v), (16, (.int .i64 ((s1_.length : Nat) : Int))), (17, (.int .i64 ((k6 : Nat) : Int)))]) (fun _ (_ : Unit) (_ : Unit) w' => Cx w0 fp0 S0 w' [Es (List (List Int)) s2_ s2_h, Es (List (List Int)) s1_ s1_h]) () () e ⟨rfl, rfl, rfl, rfl, rfl, trivial⟩ (H.sel [1, 0] rfl) ?_ ?_
  ·
   clear H e
   rintro T0 k6 _ _ w1 o0 hk (H : Cx w0 fp0 S0 w1 [Es (List (List Int)) s2_ s2_h, Es (List (List Int)) s1_ s1_h]) hrt f1
   refine boolE (z := true) (ltLen hk) ?_
   refine sq ?_
   refine sq ?_
   obtain ⟨a0, e, f2⟩ := bindS f1; clear f1
   have HH := H; clear H; obtain ⟨p0, m0, h0, c0, c1, c2, c3, H⟩ := HH.elL 1 rfl e; clear HH
   clear e
   refine idxE c0 c1 c2 ?_; clear c0 c1 c2
   refine load1 c3 ?_; clear c3
   obtain ⟨a1, e, f3⟩ := bindS f2; clear f2
   have HH := H; clear H; obtain ⟨p1, m1, h1, c4, c5, c6, c7, H⟩ := HH.elL 1 rfl e; clear HH
   clear e
   refine idxE c4 c5 c6 ?_; clear c4 c5 c6
   refine load1 c7 ?_; clear c7
   obtain ⟨y0, e, f4⟩ := bindS f3; clear f3
   have ey65 := e; clear e
   refine callF (slices_Equal_int_int_c a0 h0 a1 h1 y0 ey65) (Γi := []) H ⟨Vw.sh 1 rfl, Vw.sh 0 rfl, trivial⟩ ?_; clear H ey65
   rintro _ _ w2 ⟨rfl, rfl⟩ H
   obtain ⟨a2, e, f5⟩ := bindS f4; clear f4
   refine boolO e ?_; clear e
   cases a2
   ·
    have f6 := condF f5; clear f5
    refine arK hk x0 ?_
    have hs := Option.some.inj f6; subst hs; clear f6
    exact ⟨(), (), rfl, ⟨rfl, rfl, rfl, rfl, rfl, trivial⟩, H.sel [2, 3] rfl⟩
   ·
    have f7 := condT f5; clear f5
    have hs := Option.some.inj f7; subst hs; clear f7
    have hr := hrt _ rfl; subst hr
    have f8 : some _ = some _ := f0
    cases f8
    exact ⟨_, _, rfl, ⟨rfl, rfl⟩, (H.sel [] rfl).close trivial⟩
  ·
   clear H e
   rintro T1 _ _ w3 hr (H : Cx w0 fp0 S0 w3 [Es (List (List Int)) s2_ s2_h, Es (List (List Int)) s1_ s1_h])
   subst hr
   refine boolE (z := false) geLen ?_
   refine sq ?_
   cases f0
   exact ⟨_, _, rfl, ⟨rfl, rfl⟩, (H.sel [] rfl).close trivial⟩
 ·
  have f9 := condT hF4; clear hF4
  cases f9
  exact ⟨_, _, rfl, ⟨rfl, rfl⟩, (H.sel [] rfl).close trivial⟩

theorem impl_sameRows_c (a_ : List (List Int)) (a_h : Hd) (b_ : List (List Int)) (b_h : Hd) (y : Bool) (hF : F_impl_sameRows a_ b_ = some y) :
  ConF Tryd.prog 101 #[(a_h).v, (b_h).v] [Es (List (List Int)) a_ a_h, Es (List (List Int)) b_ b_h] [] (fun v Γ' => v = (.bool y) ∧ Γ' = []) := by
 intro w0 S0 fp0 hI hS
 have H : Cx w0 fp0 S0 w0 [Es (List (List Int)) a_ a_h, Es (List (List Int)) b_ b_h] := Cx.start hI hS
 clear hI hS
 refine enterC (args := [_, _]) gok Tryd.func101 rfl _ rfl rfl rfl ?_
 obtain ⟨y3, e, hF4⟩ := bindS hF; clear hF
 have ey3 := e; clear e
 refine callF (slices_EqualFunc_int_int_int_int_slices_Equal_int_int_c a_ a_h b_ b_h y3 ey3) (Γi := []) H ⟨Vw.sh 0 rfl, Vw.sh 1 rfl, trivial⟩ ?_; clear H ey3
 rintro _ _ w5 ⟨rfl, rfl⟩ H
 cases hF4
 exact ⟨_, _, rfl, ⟨rfl, rfl⟩, (H.sel [] rfl).close trivial⟩

theorem impl_equalMatrices_c (a__0 : Int) (a__1 : List (List Int)) (a__1h : Hd) (b__0 : Int) (b__1 : List (List Int)) (b__1h : Hd) (y : Bool) (hF : F_impl_equalMatrices (a__0, a__1) (b__0, b__1) = some y) :
  ConF Tryd.prog 70 #[(.agg #[(.int .i64 a__0), (a__1h).v]), (.agg #[(.int .i64 b__0), (b__1h).v])] [Es (List (List Int)) a__1 a__1h, Es (List (List Int)) b__1 b__1h] [] (fun v Γ' => v = (.bool y) ∧ Γ' = []) := by
 intro w0 S0 fp0 hI hS
 have H : Cx w0 fp0 S0 w0 [Es (List (List Int)) a__1 a__1h, Es (List (List Int)) b__1 b__1h] := Cx.start hI hS
 clear hI hS
 refine enterC (args := [_, _]) gok Tryd.func70 rfl _ rfl rfl rfl ?_
 refine box_ H ?_; clear H; intro b4 w3 hx H
 clear hx
 refine box_ H ?_; clear H; intro b7 w6 hx H
 clear hx
 obtain ⟨r0, f0, f1⟩ := bindS hF; clear hF
 refine cut (fun (q0 : Bool) => [(4, (.bool q0))]) (fun (q0 : Bool) w' => q0 = r0 ∧ Cx w0 fp0 S0 w' []) ?_ ?_
 ·
  refine fld gok rfl rfl rfl rfl ?_
  refine load1 (H.bx 1 rfl (j := 0) rfl) ?_
  refine fld gok rfl rfl rfl rfl ?_
  refine load1 (H.bx 0 rfl (j := 0) rfl) ?_
  obtain ⟨a0, e, f2⟩ := bindS f0; clear f0
  refine boolO e ?_; clear e
  cases a0
  ·
   have f3 := condF f2; clear f2
   exact ⟨false, ⟨rfl, trivial⟩, Option.some.inj f3, H.sel [] rfl⟩
  ·
   have f4 := condT f2; clear f2
   refine fld gok rfl rfl rfl rfl ?_
   refine load1 (H.bx 1 rfl (j := 1) rfl) ?_
   refine fld gok rfl rfl rfl rfl ?_
   refine load1 (H.bx 0 rfl (j := 1) rfl) ?_
   obtain ⟨y0, e, f5⟩ := bindS f4; clear f4
   have ey26 := e; clear e
   refine callF (impl_sameRows_c a__1 a__1h b__1 b__1h y0 ey26) (Γi := []) H ⟨Vw.sh 2 rfl, Vw.sh 3 rfl, trivial⟩ ?_; clear H ey26
   rintro _ _ w1 ⟨rfl, rfl⟩ H
   exact ⟨y0, ⟨rfl, trivial⟩, Option.some.inj f5, H.sel [] rfl⟩
 ·
  clear f0 H
  rintro T0 s0 w2 ⟨hr, (H : Cx w0 fp0 S0 w2 [])⟩
  subst hr
  cases f1
  exact ⟨_, _, rfl, ⟨rfl, rfl⟩, (H.sel [] rfl).close trivial⟩

theorem slices_EqualFunc_impl_Matrix_impl_Matrix_impl_Matrix_impl_Matrix_impl_equalMatrices_c (s1_ : List (Int × List (List Int))) (s1_h : Hd) (s2_ : List (Int × List (List Int))) (s2_h : Hd) (y : Bool) (hF : F_slices_EqualFunc_impl_Matrix_impl_Matrix_impl_Matrix_impl_Matrix_impl_equalMatrices s1_ s2_ = some y) :
  ConF Tryd.prog 68 #[(s1_h).v, (s2_h).v, (.func (.func 70) #[] #[])] [Es (List (Int × List (List Int))) s1_ s1_h, Es (List (Int × List (List Int))) s2_ s2_h] [] (fun v Γ' => v = (.bool y) ∧ Γ' = []) := by
 intro w0 S0 fp0 hI hS
 have H : Cx w0 fp0 S0 w0 [Es (List (Int × List (List Int))) s1_ s1_h, Es (List (Int × List (List Int))) s2_ s2_h] := Cx.start hI hS
 clear hI hS
 refine enterC (args := [_, _, _]) gok Tryd.func68 rfl _ rfl rfl rfl ?_
 refine sq ?_
 refine lenE (H.rs (α := List (Int × List (List Int))) 0 rfl).len ?_
 refine lenE (H.rs (α := List (Int × List (List Int))) 1 rfl).len ?_
 obtain ⟨a3, e, hF4⟩ := bindS hF; clear hF
 refine boolO e ?_; clear e
 cases a3
 ·
  have hF5 := condF hF4; clear hF4
  refine sq ?_
  refine lenE (H.rs (α := List (Int × List (List Int))) 0 rfl).len ?_
  have x0 := (H.rs (α := List (Int × List (List Int))) 0 rfl).max
  obtain ⟨r0, e, f0⟩ := bindS hF5; clear hF5
  refine loopO _ s1_.length (fun (k6 : Nat) (_ : Unit) (_ : Unit) => [(1, (s2_h).v), (2, (.func (.func 70) #[] #[])), (15, (s1_h).v), (16, (.int .i64 ((s1_.length : Nat) : Int))), (17, (.int .i64 ((k6 : Nat) : Int)))]) (fun _ (_ : Unit) (_ : Unit) w' => Cx w0 fp0 S0 w' [Es (List (Int × List (List Int))) s2_ s2_h, Es (List (Int × List (List Int))) s1_ s1_h]) () () e ⟨rfl, rfl, rfl, rfl, rfl, trivial⟩ (H.sel [1, 0] rfl) ?_ ?_
  ·
   clear H e
   rintro T0 k6 _ _ w1 o0 hk (H : Cx w0 fp0 S0 w1 [Es (List (Int × List (List Int))) s2_ s2_h, Es (List (Int × List (List Int))) s1_ s1_h]) hrt f1
   refine boolE (z := true) (ltLen hk) ?_
   refine sq ?_
   refine sq ?_
   obtain ⟨a0, e, f2⟩ := bindS f1; clear f1
   have HH := H; clear H; obtain ⟨p0, m0, g0, c0, c1, c2, c3, H⟩ := HH.el (α := Int × List (List Int)) 1 rfl e; clear HH
   clear e
   obtain ⟨a0_0, a0_1⟩ := a0
   obtain ⟨_, h0⟩ := g0
   replace H := H.part (β := List (List Int)) a0_1 (h0 : Hd) 0 rfl (fun S h => (And.right h))
   replace H := H.sel [0, 2, 3] rfl
   refine idxE c0 c1 c2 ?_; clear c0 c1 c2
   refine loadN [(.int .i64 a0_0), (h0).v] rfl c3 ?_; clear c3
   refine alloc_ gok rfl H ?_; clear H; intro b0 w2 hx H
   clear hx
   refine stA gok [(.int .i64 a0_0), (h0).v] rfl H rfl rfl rfl ?_; clear H; intro w3 H
   obtain ⟨a1, e, f3⟩ := bindS f2; clear f2
   have HH := H; clear H; obtain ⟨p1, m1, g1, c4, c5, c6, c7, H⟩ := HH.el (α := Int × List (List Int)) 2 rfl e; clear HH
   clear e
   obtain ⟨a1_0, a1_1⟩ := a1
   obtain ⟨_, h1⟩ := g1
   replace H := H.part (β := List (List Int)) a1_1 (h1 : Hd) 0 rfl (fun S h => (And.right h))
   replace H := H.sel [0, 2, 3, 4, 5] rfl
   refine idxE c4 c5 c6 ?_; clear c4 c5 c6
   refine loadN [(.int .i64 a1_0), (h1).v] rfl c7 ?_; clear c7
   refine alloc_ gok rfl H ?_; clear H; intro b1 w4 hx H
   clear hx
   refine stA gok [(.int .i64 a1_0), (h1).v] rfl H rfl rfl rfl ?_; clear H; intro w5 H
   refine loadN [(.int .i64 a0_0), (h0).v] rfl (fun j u hj => H.bx 2 rfl hj) ?_
   refine loadN [(.int .i64 a1_0), (h1).v] rfl (fun j u hj => H.bx 0 rfl hj) ?_
   obtain ⟨y0, e, f4⟩ := bindS f3; clear f3
   have ey89 := e; clear e
   refine callF (impl_equalMatrices_c a0_0 a0_1 h0 a1_0 a1_1 h1 y0 ey89) (Γi := []) H ⟨Vw.sh 3 rfl, Vw.sh 1 rfl, trivial⟩ ?_; clear H ey89
   rintro _ _ w6 ⟨rfl, rfl⟩ H
   obtain ⟨a2, e, f5⟩ := bindS f4; clear f4
   refine boolO e ?_; clear e
   cases a2
   ·
    have f6 := condF f5; clear f5
    refine arK hk x0 ?_
    have hs := Option.some.inj f6; subst hs; clear f6
    exact ⟨(), (), rfl, ⟨rfl, rfl, rfl, rfl, rfl, trivial⟩, H.sel [4, 5] rfl⟩
   ·
    have f7 := condT f5; clear f5
    have hs := Option.some.inj f7; subst hs; clear f7
    have hr := hrt _ rfl; subst hr
    have f8 : some _ = some _ := f0
    cases f8
    exact ⟨_, _, rfl, ⟨rfl, rfl⟩, (H.sel [] rfl).close trivial⟩
  ·
   clear H e
   rintro T1 _ _ w7 hr (H : Cx w0 fp0 S0 w7 [Es (List (Int × List (List Int))) s2_ s2_h, Es (List (Int × List (List Int))) s1_ s1_h])
   subst hr
   refine boolE (z := false) geLen ?_
   refine sq ?_
   cases f0
   exact ⟨_, _, rfl, ⟨rfl, rfl⟩, (H.sel [] rfl).close trivial⟩
 ·
  have f9 := condT hF4; clear hF4
  cases f9
  exact ⟨_, _, rfl, ⟨rfl, rfl⟩, (H.sel [] rfl).close trivial⟩
end Go.Proofs.YtocpeclcoikdpaaDoor
