/-
 Contracts, printed by a program (wip/y/gen.py): each function of Go computes its partial function. Condition of each: its partial function yields a value.
-/
import Derived.Test.YtnfiffchbelapaaGreatZCall3
namespace Go.Proofs.YtnfiffchbelapaaGreat
open Go Go.Proofs.YtnfiffchbelapaaGreat.RW
set_option maxRecDepth 100000
set_option linter.unusedVariables false

theorem impl_Rule_replacement_c (r__0 : ByteArray) (r__1_0 : List (Int × Int × ByteArray)) (r__1_0h : Hd) (r__2_0 : List (Int × Int × ByteArray)) (r__2_0h : Hd) (y_0 : Int) (y_1 : List (Int × Int × List Int × List Int)) (y_2 : List Int) (y_3 : List Int) (hF : F_impl_Rule_replacement (r__0, r__1_0, r__2_0) = some (y_0, y_1, y_2, y_3)) :
  ConF Tryz.prog 37 #[(.agg #[(.string r__0), (r__1_0h).v, (r__2_0h).v])] [Es (List (Int × Int × ByteArray)) r__1_0 r__1_0h, Es (List (Int × Int × ByteArray)) r__2_0 r__2_0h] [] (fun v Γ' => ∃ z0 z1 z2 : Hd, v = (.agg #[(.int .i64 y_0), (z0).v, (z1).v, (z2).v]) ∧ Γ' = [E (List (Int × Int × List Int × List Int)) y_1 z0, E (List Int) y_2 z1, E (List Int) y_3 z2]) := by
 intro w0 S0 fp0 hI hS
 have H : Cx w0 fp0 S0 w0 [Es (List (Int × Int × ByteArray)) r__1_0 r__1_0h, Es (List (Int × Int × ByteArray)) r__2_0 r__2_0h] := Cx.start hI hS
 clear hI hS
 refine enterC (args := [_]) gok Tryz.func37 rfl _ rfl rfl rfl ?_
 refine box_ H ?_; clear H; intro b4 w3 hx H
 clear hx
 refine alloc_ gok rfl H ?_; clear H; intro b7 w6 hx H
 clear hx
 refine fld gok rfl rfl rfl rfl ?_
 refine loadN [(r__2_0h).v] rfl (H.bxs 1 rfl 2 rfl) ?_
 obtain ⟨y9, e, f0⟩ := bindS hF; clear hF
 obtain ⟨⟨y9_0_0, y9_0_1, y9_0_2, y9_0_3⟩, y9_1⟩ := y9
 have ey9 := e; clear e
 refine callF (impl_graphOf_c r__2_0 r__2_0h y9_0_0 y9_0_1 y9_0_2 y9_0_3 y9_1 ey9) (Γi := []) H ⟨Vw.sh 3 rfl, trivial⟩ ?_; clear H ey9
 rintro _ _ w1 ⟨h0, h1, h2, rfl, rfl⟩ H
 refine alloc_ gok rfl H ?_; clear H; intro b0 w2 hx H
 clear hx
 refine stA gok [(.int .i64 y9_0_0), (h0).v, (h1).v, (h2).v] rfl H rfl rfl rfl ?_; clear H; intro w4 H
 refine loadN [(.int .i64 y9_0_0), (h0).v, (h1).v, (h2).v] rfl (fun j u hj => H.bx 0 rfl hj) ?_
 replace H := H.sel [4, 0, 1, 2, 3, 5, 6, 7] rfl
 refine stA gok [(.int .i64 y9_0_0), (h0).v, (h1).v, (h2).v] rfl H rfl rfl rfl ?_; clear H; intro w5 H
 refine loadN [(.int .i64 y9_0_0), (h0).v, (h1).v, (h2).v] rfl (fun j u hj => H.bx 0 rfl hj) ?_
 cases f0
 exact ⟨_, _, rfl, ⟨h0, h1, h2, rfl, rfl⟩, (H.sel [2, 3, 4] rfl).close ⟨cloE, cloE, cloE, trivial⟩⟩

theorem impl_areRules_c (rules_ : List (ByteArray × (List (Int × Int × ByteArray)) × (List (Int × Int × ByteArray)))) (rules_h : Hd) (y : Bool) (hF : F_impl_areRules rules_ = some y) :
  ConF Tryz.prog 20 #[(rules_h).v] [Es (List (ByteArray × (List (Int × Int × ByteArray)) × (List (Int × Int × ByteArray)))) rules_ rules_h] [] (fun v Γ' => v = (.bool y) ∧ Γ' = []) := by
 intro w0 S0 fp0 hI hS
 have H : Cx w0 fp0 S0 w0 [Es (List (ByteArray × (List (Int × Int × ByteArray)) × (List (Int × Int × ByteArray)))) rules_ rules_h] := Cx.start hI hS
 clear hI hS
 refine enterC (args := [_]) gok Tryz.func20 rfl _ rfl rfl rfl ?_
 refine sq ?_
 refine lenE (H.rs (α := List (ByteArray × (List (Int × Int × ByteArray)) × (List (Int × Int × ByteArray)))) 0 rfl).len ?_
 obtain ⟨y2, e, hF3⟩ := bindS hF; clear hF
 have ey2 := e; clear e
 refine callF (impl_within_c ((rules_.length : Nat) : Int) 1 20 y2 ey2) (Γi := []) H trivial ?_; clear H ey2
 rintro _ _ w4 ⟨rfl, rfl⟩ H
 obtain ⟨a5, e, hF6⟩ := bindS hF3; clear hF3
 refine boolO e ?_; clear e
 cases a5
 ·
  have hF7 := condF hF6; clear hF6
  refine makeMap_ H ?_; clear H; intro b9 w8 hx H
  clear hx
  refine sq ?_
  refine lenE (H.rs (α := List (ByteArray × (List (Int × Int × ByteArray)) × (List (Int × Int × ByteArray)))) 1 rfl).len ?_
  have x0 := (H.rs (α := List (ByteArray × (List (Int × Int × ByteArray)) × (List (Int × Int × ByteArray)))) 1 rfl).max
  obtain ⟨r0, e, f0⟩ := bindS hF7; clear hF7
  refine loopO _ rules_.length (fun (k0 : Nat) (s0 : List ByteArray) (_ : Unit) => [(3, (.map (some b9))), (11, (rules_h).v), (12, (.int .i64 ((rules_.length : Nat) : Int))), (13, (.int .i64 ((k0 : Nat) : Int)))]) (fun _ (s0 : List ByteArray) (_ : Unit) w' => Cx w0 fp0 S0 w' [Mp b9 s0, Es (List (ByteArray × (List (Int × Int × ByteArray)) × (List (Int × Int × ByteArray)))) rules_ rules_h]) ([] : List ByteArray) () e ⟨rfl, rfl, rfl, rfl, trivial⟩ (H.sel [0, 1] rfl) ?_ ?_
  ·
   clear H e
   rintro T0 k0 s0 _ w1 o0 hk (H : Cx w0 fp0 S0 w1 [Mp b9 s0, Es (List (ByteArray × (List (Int × Int × ByteArray)) × (List (Int × Int × ByteArray)))) rules_ rules_h]) hrt f1
   refine boolE (z := true) (ltLen hk) ?_
   refine sq ?_
   refine sq ?_
   obtain ⟨a0, e, f2⟩ := bindS f1; clear f1
   have HH := H; clear H; obtain ⟨p0, m0, g0, c0, c1, c2, c3, H⟩ := HH.el (α := ByteArray × (List (Int × Int × ByteArray)) × (List (Int × Int × ByteArray))) 1 rfl e; clear HH
   clear e
   obtain ⟨a0_0, a0_1_0, a0_2_0⟩ := a0
   obtain ⟨_, h0, h1⟩ := g0
   replace H := H.part (β := List (Int × Int × ByteArray)) a0_1_0 (h0 : Hd) 0 rfl (fun S h => (And.left (And.right h)))
   replace H := H.part (β := List (Int × Int × ByteArray)) a0_2_0 (h1 : Hd) 1 rfl (fun S h => (And.right (And.right h)))
   replace H := H.sel [0, 1, 3, 4] rfl
   refine idxE c0 c1 c2 ?_; clear c0 c1 c2
   refine loadN [(.string a0_0), (h0).v, (h1).v] rfl c3 ?_; clear c3
   refine alloc_ gok rfl H ?_; clear H; intro b0 w2 hx H
   clear hx
   refine stA gok [(.string a0_0), (h0).v, (h1).v] rfl H rfl rfl rfl ?_; clear H; intro w3 H
   refine sq ?_
   obtain ⟨r1, f3, f4⟩ := bindS f2; clear f2
   refine cut (fun (q0 : Bool) => [(3, (.map (some b9))), (5, (.pointer (some ⟨b0, 0, none⟩))), (11, (rules_h).v), (12, (.int .i64 ((rules_.length : Nat) : Int))), (13, (.int .i64 ((k0 : Nat) : Int))), (39, (.bool q0))]) (fun (q0 : Bool) w' => q0 = r1 ∧ Cx w0 fp0 S0 w' [Mp b9 s0, Bx b0 [(.string a0_0), (h0).v, (h1).v], Es (List (Int × Int × ByteArray)) a0_1_0 h0, Es (List (Int × Int × ByteArray)) a0_2_0 h1, Es (List (ByteArray × (List (Int × Int × ByteArray)) × (List (Int × Int × ByteArray)))) rules_ rules_h]) ?_ ?_
   ·
    refine loadN [(.string a0_0), (h0).v, (h1).v] rfl (fun j u hj => H.bx 0 rfl hj) ?_
    obtain ⟨y0, e, f5⟩ := bindS f3; clear f3
    have ey286 := e; clear e
    refine callF (impl_isRule_c a0_0 a0_1_0 h0 a0_2_0 h1 y0 ey286) (Γi := []) H ⟨Vw.sh 2 rfl, Vw.sh 1 rfl, trivial⟩ ?_; clear H ey286
    rintro _ _ w5 ⟨rfl, rfl⟩ H
    obtain ⟨a1, e, f6⟩ := bindS f5; clear f5
    refine boolO e ?_; clear e
    cases a1
    ·
     have f7 := condF f6; clear f6
     refine fld gok rfl rfl rfl rfl ?_
     refine load1 (H.bx 0 rfl (j := 0) rfl) ?_
     obtain ⟨a2, e, f8⟩ := bindS f7; clear f7
     refine look_ gok Tryz.underlying73 Tryz.underlying9 rfl H 3 rfl e ?_; clear e
     cases a2
     ·
      have f9 := condF f8; clear f8
      refine loadN [(.string a0_0), (h0).v, (h1).v] rfl (fun j u hj => H.bx 0 rfl hj) ?_
      obtain ⟨y1, e, f10⟩ := bindS f9; clear f9
      obtain ⟨y1_0, y1_1, y1_2, y1_3⟩ := y1
      have ey295 := e; clear e
      refine callF (impl_Rule_pattern_c a0_0 a0_1_0 h0 a0_2_0 h1 y1_0 y1_1 y1_2 y1_3 ey295) (Γi := []) H ⟨Vw.sh 2 rfl, Vw.sh 1 rfl, trivial⟩ ?_; clear H ey295
      rintro _ _ w6 ⟨h2, h3, h4, rfl, rfl⟩ H
      refine lenE (H.ro (α := List (Int × Int × List Int × List Int)) 0 rfl).len ?_
      obtain ⟨a3, e, f11⟩ := bindS f10; clear f10
      refine boolO e ?_; clear e
      cases a3
      ·
       have f12 := condF f11; clear f11
       refine loadN [(.string a0_0), (h0).v, (h1).v] rfl (fun j u hj => H.bx 3 rfl hj) ?_
       obtain ⟨y3, e, f13⟩ := bindS f12; clear f12
       obtain ⟨y3_0, y3_1, y3_2, y3_3⟩ := y3
       have ey307 := e; clear e
       refine callF (impl_Rule_replacement_c a0_0 a0_1_0 h0 a0_2_0 h1 y3_0 y3_1 y3_2 y3_3 ey307) (Γi := []) H ⟨Vw.sh 5 rfl, Vw.sh 4 rfl, trivial⟩ ?_; clear H ey307
       rintro _ _ w7 ⟨h5, h6, h7, rfl, rfl⟩ H
       refine lenE (H.ro (α := List (Int × Int × List Int × List Int)) 0 rfl).len ?_
       obtain ⟨a4, e, f14⟩ := bindS f13; clear f13
       refine boolO e ?_; clear e
       exact ⟨a4, ⟨rfl, rfl, rfl, rfl, rfl, rfl, trivial⟩, Option.some.inj f14, H.sel [9, 6, 8, 7, 10] rfl⟩
      ·
       have f15 := condT f11; clear f11
       exact ⟨true, ⟨rfl, rfl, rfl, rfl, rfl, rfl, trivial⟩, Option.some.inj f15, H.sel [6, 3, 5, 4, 7] rfl⟩
     ·
      have f16 := condT f8; clear f8
      exact ⟨true, ⟨rfl, rfl, rfl, rfl, rfl, rfl, trivial⟩, Option.some.inj f16, H.sel [3, 0, 2, 1, 4] rfl⟩
    ·
     have f17 := condT f6; clear f6
     exact ⟨true, ⟨rfl, rfl, rfl, rfl, rfl, rfl, trivial⟩, Option.some.inj f17, H.sel [3, 0, 2, 1, 4] rfl⟩
   ·
    clear f3 H
    rintro T1 s1 w9 ⟨hr, (H : Cx w0 fp0 S0 w9 [Mp b9 s0, Bx b0 [(.string a0_0), (h0).v, (h1).v], Es (List (Int × Int × ByteArray)) a0_1_0 h0, Es (List (Int × Int × ByteArray)) a0_2_0 h1, Es (List (ByteArray × (List (Int × Int × ByteArray)) × (List (Int × Int × ByteArray)))) rules_ rules_h])⟩
    subst hr
    cases s1
    ·
     have f18 := condF f4; clear f4
     refine fld gok rfl rfl rfl rfl ?_
     refine load1 (H.bx 1 rfl (j := 0) rfl) ?_
     obtain ⟨a6, e, f19⟩ := bindS f18; clear f18
     refine put_ Tryz.underlying73 Tryz.underlying9 H e ?_; clear e H; intro w10 H
     refine arK hk x0 ?_
     have hs := Option.some.inj f19; subst hs; clear f19
     exact ⟨a6, (), rfl, ⟨rfl, rfl, rfl, rfl, trivial⟩, H.sel [0, 4] rfl⟩
    ·
     have f20 := condT f4; clear f4
     have hs := Option.some.inj f20; subst hs; clear f20
     have hr := hrt _ rfl; subst hr
     have f21 : some _ = some _ := f0
     cases f21
     exact ⟨_, _, rfl, ⟨rfl, rfl⟩, (H.sel [] rfl).close trivial⟩
  ·
   clear H e
   rintro T2 s2 _ w11 hr (H : Cx w0 fp0 S0 w11 [Mp b9 s2, Es (List (ByteArray × (List (Int × Int × ByteArray)) × (List (Int × Int × ByteArray)))) rules_ rules_h])
   subst hr
   refine boolE (z := false) geLen ?_
   refine sq ?_
   cases f0
   exact ⟨_, _, rfl, ⟨rfl, rfl⟩, (H.sel [] rfl).close trivial⟩
 ·
  have f22 := condT hF6; clear hF6
  cases f22
  exact ⟨_, _, rfl, ⟨rfl, rfl⟩, (H.sel [] rfl).close trivial⟩

theorem impl_marked_c (marks_ : List Bool) (marks_h : Hd) (y : List Int) (hF : F_impl_marked marks_ = some y) :
  ConF Tryz.prog 23 #[(marks_h).v] [Es (List Bool) marks_ marks_h] [] (fun v Γ' => ∃ z0 : Hd, v = (z0).v ∧ Γ' = [E (List Int) y z0]) := by
 intro w0 S0 fp0 hI hS
 have H : Cx w0 fp0 S0 w0 [Es (List Bool) marks_ marks_h] := Cx.start hI hS
 clear hI hS
 refine enterC (args := [_]) gok Tryz.func23 rfl _ rfl rfl rfl ?_
 refine lit0 (α := Int) gok rfl rfl H ?_; clear H; intro h3 w2 hx H
 clear hx
 refine sq ?_
 refine lenE (H.rs (α := List Bool) 1 rfl).len ?_
 have x0 := (H.rs (α := List Bool) 1 rfl).max
 obtain ⟨r0, e, f0⟩ := bindS hF; clear hF
 refine loopS _ marks_.length (fun (k5 : Nat) (s0 : List Int) (g0 : Hd) => [(3, (g0).v), (7, (marks_h).v), (8, (.int .i64 ((marks_.length : Nat) : Int))), (9, (.int .i64 ((k5 : Nat) : Int)))]) (fun _ (s0 : List Int) (g0 : Hd) w' => Cx w0 fp0 S0 w' [E (List Int) s0 g0, Es (List Bool) marks_ marks_h]) ([] : List Int) h3 e ⟨rfl, rfl, rfl, rfl, trivial⟩ (H.sel [0, 1] rfl) ?_ ?_
 ·
  clear H e
  rintro T0 k5 s0 g0 w1 o0 hk (H : Cx w0 fp0 S0 w1 [E (List Int) s0 g0, Es (List Bool) marks_ marks_h]) f1
  refine boolE (z := true) (ltLen hk) ?_
  refine sq ?_
  refine sq ?_
  obtain ⟨a0, e, f2⟩ := bindS f1; clear f1
  obtain ⟨p0, m0, c0, c1, c2, c3⟩ := (H.rs (α := List Bool) 1 rfl).at1 e; clear e
  refine idxE c0 c1 c2 ?_; clear c0 c1 c2
  refine load1 c3 ?_; clear c3
  cases a0
  ·
   have f3 := condF f2; clear f2
   refine arK hk x0 ?_
   have hs := Option.some.inj f3; subst hs; clear f3
   exact ⟨g0, ⟨rfl, rfl, rfl, rfl, trivial⟩, H.sel [0, 1] rfl⟩
  ·
   have f4 := condT f2; clear f2
   refine lit1S (α := Int) gok rfl rfl rfl rfl H ?_; clear H; intro h0 w3 hx H
   clear hx
   obtain ⟨a1, e, f5⟩ := bindS f4; clear f4
   replace H := H.sel [1, 0, 2] rfl
   refine append_ (α := Int) gok rfl rfl rfl rfl H e ?_; clear e H; intro h1 w4 H
   refine arK hk x0 ?_
   have hs := Option.some.inj f5; subst hs; clear f5
   exact ⟨h1, ⟨rfl, rfl, rfl, rfl, trivial⟩, H.sel [0, 1] rfl⟩
 ·
  clear H e
  rintro T1 g1 w5 (H : Cx w0 fp0 S0 w5 [E (List Int) r0 g1, Es (List Bool) marks_ marks_h])
  refine boolE (z := false) geLen ?_
  refine sq ?_
  cases f0
  exact ⟨_, _, rfl, ⟨g1, rfl, rfl⟩, (H.sel [0] rfl).close ⟨cloE, trivial⟩⟩

theorem impl_Graph_weight_c (g__0 : Int) (g__1 : List (Int × Int × List Int × List Int)) (g__1h : Hd) (g__2 : List Int) (g__2h : Hd) (g__3 : List Int) (g__3h : Hd) (weights_ : List Int) (weights_h : Hd) (y : Int) (hF : F_impl_Graph_weight (g__0, g__1, g__2, g__3) weights_ = some y) :
  ConF Tryz.prog 63 #[(.agg #[(.int .i64 g__0), (g__1h).v, (g__2h).v, (g__3h).v]), (weights_h).v] [Es (List (Int × Int × List Int × List Int)) g__1 g__1h, Es (List Int) g__2 g__2h, Es (List Int) g__3 g__3h, Es (List Int) weights_ weights_h] [] (fun v Γ' => v = (.int .i64 y) ∧ Γ' = []) := by
 intro w0 S0 fp0 hI hS
 have H : Cx w0 fp0 S0 w0 [Es (List (Int × Int × List Int × List Int)) g__1 g__1h, Es (List Int) g__2 g__2h, Es (List Int) g__3 g__3h, Es (List Int) weights_ weights_h] := Cx.start hI hS
 clear hI hS
 refine enterC (args := [_, _]) gok Tryz.func63 rfl _ rfl rfl rfl ?_
 refine box_ H ?_; clear H; intro b6 w5 hx H
 clear hx
 refine sq ?_
 refine fld gok rfl rfl rfl rfl ?_
 refine load1 (H.bx 0 rfl (j := 1) rfl) ?_
 refine lenE (H.rs (α := List (Int × Int × List Int × List Int)) 1 rfl).len ?_
 have x0 := (H.rs (α := List (Int × Int × List Int × List Int)) 1 rfl).max
 obtain ⟨r0, e, f0⟩ := bindS hF; clear hF
 refine loopS _ g__1.length (fun (k8 : Nat) (s0 : Int) (_ : Unit) => [(1, (weights_h).v), (5, (.int .i64 s0)), (9, (g__1h).v), (10, (.int .i64 ((g__1.length : Nat) : Int))), (11, (.int .i64 ((k8 : Nat) : Int)))]) (fun _ (s0 : Int) (_ : Unit) w' => Cx w0 fp0 S0 w' [Es (List Int) weights_ weights_h, Es (List (Int × Int × List Int × List Int)) g__1 g__1h]) 0 () e ⟨rfl, rfl, rfl, rfl, rfl, trivial⟩ (H.sel [4, 1] rfl) ?_ ?_
 ·
  clear H e
  rintro T0 k8 s0 _ w1 o0 hk (H : Cx w0 fp0 S0 w1 [Es (List Int) weights_ weights_h, Es (List (Int × Int × List Int × List Int)) g__1 g__1h]) f1
  refine boolE (z := true) (ltLen hk) ?_
  refine sq ?_
  refine sq ?_
  obtain ⟨a0, e, f2⟩ := bindS f1; clear f1
  have HH := H; clear H; obtain ⟨p0, m0, g0, c0, c1, c2, c3, H⟩ := HH.el (α := Int × Int × List Int × List Int) 1 rfl e; clear HH
  clear e
  obtain ⟨a0_0, a0_1, a0_2, a0_3⟩ := a0
  obtain ⟨_, _, h0, h1⟩ := g0
  replace H := H.part (β := List Int) a0_2 (h0 : Hd) 0 rfl (fun S h => (And.left (And.right (And.right h))))
  replace H := H.part (β := List Int) a0_3 (h1 : Hd) 1 rfl (fun S h => (And.right (And.right (And.right h))))
  replace H := H.sel [0, 1, 3, 4] rfl
  refine idxE c0 c1 c2 ?_; clear c0 c1 c2
  refine loadN [(.int .i64 a0_0), (.int .i64 a0_1), (h0).v, (h1).v] rfl c3 ?_; clear c3
  refine alloc_ gok rfl H ?_; clear H; intro b0 w2 hx H
  clear hx
  refine stA gok [(.int .i64 a0_0), (.int .i64 a0_1), (h0).v, (h1).v] rfl H rfl rfl rfl ?_; clear H; intro w3 H
  refine fld gok rfl rfl rfl rfl ?_
  refine load1 (H.bx 0 rfl (j := 0) rfl) ?_
  obtain ⟨a1, e, f3⟩ := bindS f2; clear f2
  refine arO e ?_; clear e
  obtain ⟨a2, e, f4⟩ := bindS f3; clear f3
  obtain ⟨p1, m1, c4, c5, c6, c7⟩ := (H.rs (α := List Int) 3 rfl).at1 e; clear e
  refine idxE c4 c5 c6 ?_; clear c4 c5 c6
  refine load1 c7 ?_; clear c7
  obtain ⟨a3, e, f5⟩ := bindS f4; clear f4
  refine arO e ?_; clear e
  refine arK hk x0 ?_
  have hs := Option.some.inj f5; subst hs; clear f5
  exact ⟨(), ⟨rfl, rfl, rfl, rfl, rfl, trivial⟩, H.sel [3, 4] rfl⟩
 ·
  clear H e
  rintro T1 _ w4 (H : Cx w0 fp0 S0 w4 [Es (List Int) weights_ weights_h, Es (List (Int × Int × List Int × List Int)) g__1 g__1h])
  refine boolE (z := false) geLen ?_
  refine sq ?_
  cases f0
  exact ⟨_, _, rfl, ⟨rfl, rfl⟩, (H.sel [] rfl).close trivial⟩

theorem impl_Rule_weightChange_c (r__0 : ByteArray) (r__1_0 : List (Int × Int × ByteArray)) (r__1_0h : Hd) (r__2_0 : List (Int × Int × ByteArray)) (r__2_0h : Hd) (weights_ : List Int) (weights_h : Hd) (y : Int) (hF : F_impl_Rule_weightChange (r__0, r__1_0, r__2_0) weights_ = some y) :
  ConF Tryz.prog 41 #[(.agg #[(.string r__0), (r__1_0h).v, (r__2_0h).v]), (weights_h).v] [Es (List (Int × Int × ByteArray)) r__1_0 r__1_0h, Es (List (Int × Int × ByteArray)) r__2_0 r__2_0h, Es (List Int) weights_ weights_h] [] (fun v Γ' => v = (.int .i64 y) ∧ Γ' = []) := by
 intro w0 S0 fp0 hI hS
 have H : Cx w0 fp0 S0 w0 [Es (List (Int × Int × ByteArray)) r__1_0 r__1_0h, Es (List (Int × Int × ByteArray)) r__2_0 r__2_0h, Es (List Int) weights_ weights_h] := Cx.start hI hS
 clear hI hS
 refine enterC (args := [_, _]) gok Tryz.func41 rfl _ rfl rfl rfl ?_
 refine box_ H ?_; clear H; intro b5 w4 hx H
 clear hx
 refine heldX H [] (.fst 2 (.fst 6 (.fst 0 (.fst 4 (.act 1 (.act 3 (.act 5 (.act 7 (.fst 8 (.fst 9 .done)))))))))) mixed [] trivial (by kernel_rfl) ?_
 clear H; intro w7 H
 have hX : Ext w7 w7 := Upd.refl _ _
 have H0 := H
 refine loadNX [(.string r__0), (r__1_0h).v, (r__2_0h).v] rfl (fun j u hj => H.bx 0 rfl hj) ?_
 refine loadNX [(.string r__0), (r__1_0h).v, (r__2_0h).v] rfl (fun j u hj => H.bx 0 rfl hj) ?_
 obtain ⟨y8, e, hF9⟩ := bindS hF; clear hF
 obtain ⟨y8_0, y8_1, y8_2, y8_3⟩ := y8
 have ey8 := e; clear e
 refine callFx (impl_Rule_replacement_c r__0 r__1_0 r__1_0h r__2_0 r__2_0h y8_0 y8_1 y8_2 y8_3 ey8) H ⟨Vw.sh 1 rfl, Vw.sh 2 rfl, trivial⟩ ?_; clear H ey8
 rintro _ _ w1 ⟨h0, h1, h2, rfl, rfl⟩ hx H
 replace hX := hX.trans0 hx; clear hx
 refine hold hX ?_
 obtain ⟨y0, e, f0⟩ := bindS hF9; clear hF9
 have ey17 := e; clear e
 refine callFx (impl_Graph_weight_c y8_0 y8_1 h0 y8_2 h1 y8_3 h2 weights_ weights_h y0 ey17) H ⟨Vw.own 0 rfl, Vw.own 1 rfl, Vw.own 2 rfl, Vw.sh 6 rfl, trivial⟩ ?_; clear H ey17
 rintro _ _ w2 ⟨rfl, rfl⟩ hx H
 replace hX := hX.trans0 hx; clear hx
 refine hold hX ?_
 obtain ⟨y1, e, f1⟩ := bindS f0; clear f0
 obtain ⟨y1_0, y1_1, y1_2, y1_3⟩ := y1
 have ey20 := e; clear e
 refine callFx (impl_Rule_pattern_c r__0 r__1_0 r__1_0h r__2_0 r__2_0h y1_0 y1_1 y1_2 y1_3 ey20) H ⟨Vw.sh 4 rfl, Vw.sh 5 rfl, trivial⟩ ?_; clear H ey20
 rintro _ _ w3 ⟨h3, h4, h5, rfl, rfl⟩ hx H
 replace hX := hX.trans0 hx; clear hx
 refine hold hX ?_
 obtain ⟨y2, e, f2⟩ := bindS f1; clear f1
 have ey29 := e; clear e
 refine callFx (impl_Graph_weight_c y1_0 y1_1 h3 y1_2 h4 y1_3 h5 weights_ weights_h y2 ey29) H ⟨Vw.own 0 rfl, Vw.own 1 rfl, Vw.own 2 rfl, Vw.sh 9 rfl, trivial⟩ ?_; clear H ey29
 rintro _ _ w5 ⟨rfl, rfl⟩ hx H
 replace hX := hX.trans0 hx; clear hx
 refine hold hX ?_
 obtain ⟨a0, e, f3⟩ := bindS f2; clear f2
 refine arO e ?_; clear e
 cases f3
 exact ⟨_, _, rfl, ⟨rfl, rfl⟩, (H.sel [] rfl).close trivial⟩

theorem impl_areDecreasing_1_c (r__0 : ByteArray) (r__1_0 : List (Int × Int × ByteArray)) (r__1_0h : Hd) (r__2_0 : List (Int × Int × ByteArray)) (r__2_0h : Hd) (c0_b : Nat) (c0_ : List Int) (c0_h : Hd) (y : Bool) (hF : F_impl_areDecreasing_1 (r__0, r__1_0, r__2_0) c0_ = some y) :
  ConF Tryz.prog 40 #[(.agg #[(.string r__0), (r__1_0h).v, (r__2_0h).v]), (.pointer (some ⟨c0_b, 0, none⟩))] [Es (List (Int × Int × ByteArray)) r__1_0 r__1_0h, Es (List (Int × Int × ByteArray)) r__2_0 r__2_0h, Es (List Int) c0_ c0_h] [Bx c0_b [(c0_h).v]] (fun v Γ' => v = (.bool y) ∧ Γ' = [Bx c0_b [(c0_h).v]]) := by
 intro w0 S0 fp0 hI hS
 have H : Cx w0 fp0 S0 w0 [Es (List (Int × Int × ByteArray)) r__1_0 r__1_0h, Es (List (Int × Int × ByteArray)) r__2_0 r__2_0h, Es (List Int) c0_ c0_h, Bx c0_b [(c0_h).v]] := Cx.start hI hS
 clear hI hS
 refine enterC (args := [_, _]) gok Tryz.func40 rfl _ rfl rfl rfl ?_
 refine box_ H ?_; clear H; intro b6 w5 hx H
 clear hx
 refine loadN [(.string r__0), (r__1_0h).v, (r__2_0h).v] rfl (fun j u hj => H.bx 0 rfl hj) ?_
 refine load1 (H.bx0 4 rfl) ?_
 obtain ⟨y8, e, hF9⟩ := bindS hF; clear hF
 have ey8 := e; clear e
 refine callF (impl_Rule_weightChange_c r__0 r__1_0 r__1_0h r__2_0 r__2_0h c0_ c0_h y8 ey8) (Γi := []) H ⟨Vw.sh 1 rfl, Vw.sh 2 rfl, Vw.sh 3 rfl, trivial⟩ ?_; clear H ey8
 rintro _ _ w1 ⟨rfl, rfl⟩ H
 obtain ⟨a0, e, f0⟩ := bindS hF9; clear hF9
 refine boolO e ?_; clear e
 cases f0
 exact ⟨_, _, rfl, ⟨rfl, rfl⟩, (H.sel [4] rfl).close ⟨cloB, trivial⟩⟩

theorem slices_IndexFunc_impl_Rule_impl_Rule_impl_areDecreasing_1_c (s_ : List (ByteArray × (List (Int × Int × ByteArray)) × (List (Int × Int × ByteArray)))) (s_h : Hd) (d0_b : Nat) (d0_ : List Int) (d0_h : Hd) (y : Int) (hF : F_slices_IndexFunc_impl_Rule_impl_Rule_impl_areDecreasing_1 s_ d0_ = some y) :
  ConF Tryz.prog 62 #[(s_h).v, (.func (.func 40) #[] #[(.pointer (some ⟨d0_b, 0, none⟩))])] [Es (List (ByteArray × (List (Int × Int × ByteArray)) × (List (Int × Int × ByteArray)))) s_ s_h, Es (List Int) d0_ d0_h] [Bx d0_b [(d0_h).v]] (fun v Γ' => v = (.int .i64 y) ∧ Γ' = [Bx d0_b [(d0_h).v]]) := by
 intro w0 S0 fp0 hI hS
 have H : Cx w0 fp0 S0 w0 [Es (List (ByteArray × (List (Int × Int × ByteArray)) × (List (Int × Int × ByteArray)))) s_ s_h, Es (List Int) d0_ d0_h, Bx d0_b [(d0_h).v]] := Cx.start hI hS
 clear hI hS
 refine enterC (args := [_, _]) gok Tryz.func62 rfl _ rfl rfl rfl ?_
 refine sq ?_
 refine lenE (H.rs (α := List (ByteArray × (List (Int × Int × ByteArray)) × (List (Int × Int × ByteArray)))) 0 rfl).len ?_
 have x0 := (H.rs (α := List (ByteArray × (List (Int × Int × ByteArray)) × (List (Int × Int × ByteArray)))) 0 rfl).max
 obtain ⟨r0, e, f0⟩ := bindS hF; clear hF
 refine loopO _ s_.length (fun (k4 : Nat) (_ : Unit) (_ : Unit) => [(0, (s_h).v), (1, (.func (.func 40) #[] #[(.pointer (some ⟨d0_b, 0, none⟩))])), (7, (.int .i64 ((s_.length : Nat) : Int))), (8, (.int .i64 ((k4 : Nat) : Int)))]) (fun _ (_ : Unit) (_ : Unit) w' => Cx w0 fp0 S0 w' [Es (List (ByteArray × (List (Int × Int × ByteArray)) × (List (Int × Int × ByteArray)))) s_ s_h, Bx d0_b [(d0_h).v], Es (List Int) d0_ d0_h]) () () e ⟨rfl, rfl, rfl, rfl, trivial⟩ (H.sel [0, 2, 1] rfl) ?_ ?_
 ·
  clear H e
  rintro T0 k4 _ _ w1 o0 hk (H : Cx w0 fp0 S0 w1 [Es (List (ByteArray × (List (Int × Int × ByteArray)) × (List (Int × Int × ByteArray)))) s_ s_h, Bx d0_b [(d0_h).v], Es (List Int) d0_ d0_h]) hrt f1
  refine boolE (z := true) (ltLen hk) ?_
  refine sq ?_
  refine sq ?_
  obtain ⟨a0, e, f2⟩ := bindS f1; clear f1
  have HH := H; clear H; obtain ⟨p0, m0, g0, c0, c1, c2, c3, H⟩ := HH.el (α := ByteArray × (List (Int × Int × ByteArray)) × (List (Int × Int × ByteArray))) 0 rfl e; clear HH
  clear e
  obtain ⟨a0_0, a0_1_0, a0_2_0⟩ := a0
  obtain ⟨_, h0, h1⟩ := g0
  replace H := H.part (β := List (Int × Int × ByteArray)) a0_1_0 (h0 : Hd) 0 rfl (fun S h => (And.left (And.right h)))
  replace H := H.part (β := List (Int × Int × ByteArray)) a0_2_0 (h1 : Hd) 1 rfl (fun S h => (And.right (And.right h)))
  replace H := H.sel [0, 1, 3, 4, 5] rfl
  refine idxE c0 c1 c2 ?_; clear c0 c1 c2
  refine loadN [(.string a0_0), (h0).v, (h1).v] rfl c3 ?_; clear c3
  obtain ⟨y0, e, f3⟩ := bindS f2; clear f2
  have ey49 := e; clear e
  replace H := H.sel [3, 0, 1, 2, 4] rfl
  refine callF (impl_areDecreasing_1_c a0_0 a0_1_0 h0 a0_2_0 h1 d0_b d0_ d0_h y0 ey49) (Γi := [Bx d0_b [(d0_h).v]]) H ⟨Vw.sh 1 rfl, Vw.sh 0 rfl, Vw.sh 3 rfl, trivial⟩ ?_; clear H ey49
  rintro _ _ w2 ⟨rfl, rfl⟩ H
  cases y0
  ·
   have f4 := condF f3; clear f3
   refine arK hk x0 ?_
   have hs := Option.some.inj f4; subst hs; clear f4
   exact ⟨(), (), rfl, ⟨rfl, rfl, rfl, rfl, trivial⟩, H.sel [3, 0, 4] rfl⟩
  ·
   have f5 := condT f3; clear f3
   have hs := Option.some.inj f5; subst hs; clear f5
   have hr := hrt _ rfl; subst hr
   have f6 : some _ = some _ := f0
   cases f6
   exact ⟨_, _, rfl, ⟨rfl, rfl⟩, (H.sel [0] rfl).close ⟨cloB, trivial⟩⟩
 ·
  clear H e
  rintro T1 _ _ w3 hr (H : Cx w0 fp0 S0 w3 [Es (List (ByteArray × (List (Int × Int × ByteArray)) × (List (Int × Int × ByteArray)))) s_ s_h, Bx d0_b [(d0_h).v], Es (List Int) d0_ d0_h])
  subst hr
  refine boolE (z := false) geLen ?_
  refine sq ?_
  cases f0
  exact ⟨_, _, rfl, ⟨rfl, rfl⟩, (H.sel [1] rfl).close ⟨cloB, trivial⟩⟩

theorem slices_ContainsFunc_impl_Rule_impl_Rule_impl_areDecreasing_1_c (s_ : List (ByteArray × (List (Int × Int × ByteArray)) × (List (Int × Int × ByteArray)))) (s_h : Hd) (d0_b : Nat) (d0_ : List Int) (d0_h : Hd) (y : Bool) (hF : F_slices_ContainsFunc_impl_Rule_impl_Rule_impl_areDecreasing_1 s_ d0_ = some y) :
  ConF Tryz.prog 39 #[(s_h).v, (.func (.func 40) #[] #[(.pointer (some ⟨d0_b, 0, none⟩))])] [Es (List (ByteArray × (List (Int × Int × ByteArray)) × (List (Int × Int × ByteArray)))) s_ s_h, Es (List Int) d0_ d0_h] [Bx d0_b [(d0_h).v]] (fun v Γ' => v = (.bool y) ∧ Γ' = [Bx d0_b [(d0_h).v]]) := by
 intro w0 S0 fp0 hI hS
 have H : Cx w0 fp0 S0 w0 [Es (List (ByteArray × (List (Int × Int × ByteArray)) × (List (Int × Int × ByteArray)))) s_ s_h, Es (List Int) d0_ d0_h, Bx d0_b [(d0_h).v]] := Cx.start hI hS
 clear hI hS
 refine enterC (args := [_, _]) gok Tryz.func39 rfl _ rfl rfl rfl ?_
 obtain ⟨y4, e, hF5⟩ := bindS hF; clear hF
 have ey4 := e; clear e
 replace H := H.sel [2, 0, 1] rfl
 refine callF (slices_IndexFunc_impl_Rule_impl_Rule_impl_areDecreasing_1_c s_ s_h d0_b d0_ d0_h y4 ey4) (Γi := [Bx d0_b [(d0_h).v]]) H ⟨Vw.sh 0 rfl, Vw.sh 1 rfl, trivial⟩ ?_; clear H ey4
 rintro _ _ w6 ⟨rfl, rfl⟩ H
 obtain ⟨a7, e, hF8⟩ := bindS hF5; clear hF5
 refine boolO e ?_; clear e
 cases hF8
 exact ⟨_, _, rfl, ⟨rfl, rfl⟩, (H.sel [0] rfl).close ⟨cloB, trivial⟩⟩

theorem impl_areDecreasing_c (rules_ : List (ByteArray × (List (Int × Int × ByteArray)) × (List (Int × Int × ByteArray)))) (rules_h : Hd) (weights_ : List Int) (weights_h : Hd) (y : Bool) (hF : F_impl_areDecreasing rules_ weights_ = some y) :
  ConF Tryz.prog 26 #[(rules_h).v, (weights_h).v] [Es (List (ByteArray × (List (Int × Int × ByteArray)) × (List (Int × Int × ByteArray)))) rules_ rules_h, Es (List Int) weights_ weights_h] [] (fun v Γ' => v = (.bool y) ∧ Γ' = []) := by
 intro w0 S0 fp0 hI hS
 have H : Cx w0 fp0 S0 w0 [Es (List (ByteArray × (List (Int × Int × ByteArray)) × (List (Int × Int × ByteArray)))) rules_ rules_h, Es (List Int) weights_ weights_h] := Cx.start hI hS
 clear hI hS
 refine enterC (args := [_, _]) gok Tryz.func26 rfl _ rfl rfl rfl ?_
 refine box_ H ?_; clear H; intro b4 w3 hx H
 clear hx
 obtain ⟨y6, e, hF7⟩ := bindS hF; clear hF
 have ey6 := e; clear e
 refine callF (slices_ContainsFunc_impl_Rule_impl_Rule_impl_areDecreasing_1_c rules_ rules_h b4 weights_ weights_h y6 ey6) (Γi := [Bx b4 [(weights_h).v]]) H ⟨Vw.sh 0 rfl, Vw.sh 1 rfl, trivial⟩ ?_; clear H ey6
 rintro _ _ w8 ⟨rfl, rfl⟩ H
 obtain ⟨a9, e, f0⟩ := bindS hF7; clear hF7
 refine boolO e ?_; clear e
 cases f0
 exact ⟨_, _, rfl, ⟨rfl, rfl⟩, (H.sel [] rfl).close trivial⟩

theorem impl_FindWeights_1_cn : ∀ (fuel : Nat) (i_ : Int) (c0_b : Nat) (c0_ : List Int) (c0_h : Hd) (c1_b : Nat) (c1_ : List (ByteArray × (List (Int × Int × ByteArray)) × (List (Int × Int × ByteArray)))) (c1_h : Hd) (c2_b : Nat) (c2_ : List Int) (c2_h : Hd) (c3_b : Nat) (c3_ : Int) (c4_b : Nat) (y0 : List Int) (y1 : Bool) (hF : F_impl_FindWeights_1_n fuel i_ c0_ c1_ c2_ c3_ = some (y0, y1)),
  ConF Tryz.prog 25 #[(.int .i64 i_), (.pointer (some ⟨c0_b, 0, none⟩)), (.pointer (some ⟨c1_b, 0, none⟩)), (.pointer (some ⟨c2_b, 0, none⟩)), (.pointer (some ⟨c3_b, 0, none⟩)), (.pointer (some ⟨c4_b, 0, none⟩))] [Es (List Int) c0_ c0_h, Es (List (ByteArray × (List (Int × Int × ByteArray)) × (List (Int × Int × ByteArray)))) c1_ c1_h] [Bx c0_b [(c0_h).v], Bx c1_b [(c1_h).v], Bx c2_b [(c2_h).v], E (List Int) c2_ c2_h, Bx c3_b [(.int .i64 c3_)], Bx c4_b [(.func (.func 25) #[] #[(.pointer (some ⟨c0_b, 0, none⟩)), (.pointer (some ⟨c1_b, 0, none⟩)), (.pointer (some ⟨c2_b, 0, none⟩)), (.pointer (some ⟨c3_b, 0, none⟩)), (.pointer (some ⟨c4_b, 0, none⟩))])]] (fun v Γ' => v = (.bool y1) ∧ Γ' = [Bx c0_b [(c0_h).v], Bx c1_b [(c1_h).v], Bx c2_b [(c2_h).v], E (List Int) y0 c2_h, Bx c3_b [(.int .i64 c3_)], Bx c4_b [(.func (.func 25) #[] #[(.pointer (some ⟨c0_b, 0, none⟩)), (.pointer (some ⟨c1_b, 0, none⟩)), (.pointer (some ⟨c2_b, 0, none⟩)), (.pointer (some ⟨c3_b, 0, none⟩)), (.pointer (some ⟨c4_b, 0, none⟩))])]]) := by
 intro fuel
 induction fuel with
 | zero => intro i_ c0_b c0_ c0_h c1_b c1_ c1_h c2_b c2_ c2_h c3_b c3_ c4_b y0 y1 hF; cases hF
 | succ fuel ih =>
 intro i_ c0_b c0_ c0_h c1_b c1_ c1_h c2_b c2_ c2_h c3_b c3_ c4_b y0 y1 hF
 intro w0 S0 fp0 hI hS
 have H : Cx w0 fp0 S0 w0 [Es (List Int) c0_ c0_h, Es (List (ByteArray × (List (Int × Int × ByteArray)) × (List (Int × Int × ByteArray)))) c1_ c1_h, Bx c0_b [(c0_h).v], Bx c1_b [(c1_h).v], Bx c2_b [(c2_h).v], E (List Int) c2_ c2_h, Bx c3_b [(.int .i64 c3_)], Bx c4_b [(.func (.func 25) #[] #[(.pointer (some ⟨c0_b, 0, none⟩)), (.pointer (some ⟨c1_b, 0, none⟩)), (.pointer (some ⟨c2_b, 0, none⟩)), (.pointer (some ⟨c3_b, 0, none⟩)), (.pointer (some ⟨c4_b, 0, none⟩))])]] := Cx.start hI hS
 clear hI hS
 refine enterC (args := [_, _, _, _, _, _]) gok Tryz.func25 rfl _ rfl rfl rfl ?_
 refine sq ?_
 refine load1 (H.bx0 2 rfl) ?_
 refine lenE (H.rs (α := List Int) 0 rfl).len ?_
 obtain ⟨a9, e, f0⟩ := bindS hF; clear hF
 refine boolO e ?_; clear e
 cases a9
 ·
  have f1 := condF f0; clear f0
  refine sq ?_
  refine load1 (H.bx0 6 rfl) ?_
  obtain ⟨a0, e, f2⟩ := bindS f1; clear f1
  refine arO e ?_; clear e
  obtain ⟨a1, hn, f3⟩ := bindS f2; clear f2
  obtain ⟨r0, e, f4⟩ := bindS f3; clear f3
  refine loopO _ a0.toNat (fun (k0 : Nat) (s0 : List Int) (_ : Unit) => [(0, (.int .i64 i_)), (1, (.pointer (some ⟨c0_b, 0, none⟩))), (3, (.pointer (some ⟨c2_b, 0, none⟩))), (5, (.pointer (some ⟨c4_b, 0, none⟩))), (17, (.int .i64 a0)), (18, (.int .i64 ((k0 : Nat) : Int)))]) (fun _ (s0 : List Int) (_ : Unit) w' => Cx w0 fp0 S0 w' [Bx c0_b [(c0_h).v], Es (List Int) c0_ c0_h, Bx c2_b [(c2_h).v], E (List Int) s0 c2_h, Bx c4_b [(.func (.func 25) #[] #[(.pointer (some ⟨c0_b, 0, none⟩)), (.pointer (some ⟨c1_b, 0, none⟩)), (.pointer (some ⟨c2_b, 0, none⟩)), (.pointer (some ⟨c3_b, 0, none⟩)), (.pointer (some ⟨c4_b, 0, none⟩))])], Bx c1_b [(c1_h).v], Es (List (ByteArray × (List (Int × Int × ByteArray)) × (List (Int × Int × ByteArray)))) c1_ c1_h, Bx c3_b [(.int .i64 c3_)]]) c2_ () e ⟨rfl, rfl, rfl, rfl, rfl, rfl, trivial⟩ (H.sel [2, 0, 4, 5, 7, 3, 1, 6] rfl) ?_ ?_
  ·
   clear H e
   rintro T0 k0 s0 _ w1 o0 hk (H : Cx w0 fp0 S0 w1 [Bx c0_b [(c0_h).v], Es (List Int) c0_ c0_h, Bx c2_b [(c2_h).v], E (List Int) s0 c2_h, Bx c4_b [(.func (.func 25) #[] #[(.pointer (some ⟨c0_b, 0, none⟩)), (.pointer (some ⟨c1_b, 0, none⟩)), (.pointer (some ⟨c2_b, 0, none⟩)), (.pointer (some ⟨c3_b, 0, none⟩)), (.pointer (some ⟨c4_b, 0, none⟩))])], Bx c1_b [(c1_h).v], Es (List (ByteArray × (List (Int × Int × ByteArray)) × (List (Int × Int × ByteArray)))) c1_ c1_h, Bx c3_b [(.int .i64 c3_)]]) hrt f5
   refine boolE (z := true) (ltNat hk) ?_
   refine sq ?_
   refine sq ?_
   refine heldX H [8] (.fst 2 (.fst 6 (.fst 0 (.fst 1 (.fst 3 (.fst 4 (.fst 5 (.fst 7 (.act 8 .done))))))))) mixed [] trivial (by kernel_rfl) ?_
   clear H; intro w2 H
   have hX : Ext w2 w2 := Upd.refl _ _
   have H0 := H
   refine load1X (H.bx0 2 rfl) ?_
   refine load1X (H.bx0 0 rfl) ?_
   obtain ⟨a2, e, f6⟩ := bindS f5; clear f5
   obtain ⟨p0, m0, c0, c1, c2, c3⟩ := (H.rs (α := List Int) 1 rfl).at1 e; clear e
   refine idxE c0 c1 c2 ?_; clear c0 c1 c2
   refine load1X c3 ?_; clear c3
   obtain ⟨a3, e, f7⟩ := bindS f6; clear f6
   refine arO e ?_; clear e
   obtain ⟨a4, e, f8⟩ := bindS f7; clear f7
   have ea101 := e; clear e
   obtain ⟨p1, m1, c4, c5, c6⟩ := (H.ro (α := List Int) 3 rfl).setp ea101
   refine idxE c4 c5 c6 ?_
   replace H := H.sel [3, 0, 1, 2, 4, 5, 6, 7] rfl
   refine setS (α := Int) H c4 c5 ea101 ?_; clear H c4 c5 c6 ea101; intro w3 H
   refine hold trivial ?_
   refine load1 (H.bx0 4 rfl) ?_
   obtain ⟨a5, e, f9⟩ := bindS f8; clear f8
   refine arO e ?_; clear e
   obtain ⟨y2, e, f10⟩ := bindS f9; clear f9
   obtain ⟨y2_0, y2_1⟩ := y2
   have ey106 := e; clear e
   replace H := H.sel [1, 5, 3, 0, 7, 4, 2, 6] rfl
   refine callF (ih a5 c0_b c0_ c0_h c1_b c1_ c1_h c2_b a4 c2_h c3_b c3_ c4_b y2_0 y2_1 ey106) (Γi := [Bx c0_b [(c0_h).v], Bx c1_b [(c1_h).v], Bx c2_b [(c2_h).v], E (List Int) a4 c2_h, Bx c3_b [(.int .i64 c3_)], Bx c4_b [(.func (.func 25) #[] #[(.pointer (some ⟨c0_b, 0, none⟩)), (.pointer (some ⟨c1_b, 0, none⟩)), (.pointer (some ⟨c2_b, 0, none⟩)), (.pointer (some ⟨c3_b, 0, none⟩)), (.pointer (some ⟨c4_b, 0, none⟩))])]]) H ⟨Vw.sh 0 rfl, Vw.sh 1 rfl, trivial⟩ ?_; clear H ey106
   rintro _ _ w4 ⟨rfl, rfl⟩ H
   cases y2_1
   ·
    have f11 := condF f10; clear f10
    refine arK hk (maxI hn) ?_
    have hs := Option.some.inj f11; subst hs; clear f11
    exact ⟨y2_0, (), rfl, ⟨rfl, rfl, rfl, rfl, rfl, rfl, trivial⟩, H.sel [0, 6, 2, 3, 5, 1, 7, 4] rfl⟩
   ·
    have f12 := condT f10; clear f10
    have hs := Option.some.inj f12; subst hs; clear f12
    have hr := hrt _ rfl; subst hr
    have f13 : some _ = some _ := f4
    cases f13
    exact ⟨_, _, rfl, ⟨rfl, rfl⟩, (H.sel [0, 1, 2, 3, 4, 5] rfl).close ⟨cloB, cloB, cloB, cloE, cloB, cloB, trivial⟩⟩
  ·
   clear H e
   rintro T1 s1 _ w5 hr (H : Cx w0 fp0 S0 w5 [Bx c0_b [(c0_h).v], Es (List Int) c0_ c0_h, Bx c2_b [(c2_h).v], E (List Int) s1 c2_h, Bx c4_b [(.func (.func 25) #[] #[(.pointer (some ⟨c0_b, 0, none⟩)), (.pointer (some ⟨c1_b, 0, none⟩)), (.pointer (some ⟨c2_b, 0, none⟩)), (.pointer (some ⟨c3_b, 0, none⟩)), (.pointer (some ⟨c4_b, 0, none⟩))])], Bx c1_b [(c1_h).v], Es (List (ByteArray × (List (Int × Int × ByteArray)) × (List (Int × Int × ByteArray)))) c1_ c1_h, Bx c3_b [(.int .i64 c3_)]])
   subst hr
   refine boolE (z := false) geNat ?_
   refine sq ?_
   cases f4
   exact ⟨_, _, rfl, ⟨rfl, rfl⟩, (H.sel [0, 5, 2, 3, 7, 4] rfl).close ⟨cloB, cloB, cloB, cloE, cloB, cloB, trivial⟩⟩
 ·
  have f14 := condT f0; clear f0
  refine load1 (H.bx0 3 rfl) ?_
  refine load1 (H.bx0 4 rfl) ?_
  obtain ⟨y3, e, f15⟩ := bindS f14; clear f14
  have ey117 := e; clear e
  refine callF (impl_areDecreasing_c c1_ c1_h c2_ c2_h y3 ey117) (Γi := []) H ⟨Vw.sh 1 rfl, Vw.own 5 rfl, trivial⟩ ?_; clear H ey117
  rintro _ _ w6 ⟨rfl, rfl⟩ H
  cases f15
  exact ⟨_, _, rfl, ⟨rfl, rfl⟩, (H.sel [2, 3, 4, 5, 6, 7] rfl).close ⟨cloB, cloB, cloB, cloE, cloB, cloB, trivial⟩⟩
theorem impl_FindWeights_1_c (i_ : Int) (c0_b : Nat) (c0_ : List Int) (c0_h : Hd) (c1_b : Nat) (c1_ : List (ByteArray × (List (Int × Int × ByteArray)) × (List (Int × Int × ByteArray)))) (c1_h : Hd) (c2_b : Nat) (c2_ : List Int) (c2_h : Hd) (c3_b : Nat) (c3_ : Int) (c4_b : Nat) (y0 : List Int) (y1 : Bool) (hF : F_impl_FindWeights_1 i_ c0_ c1_ c2_ c3_ = some (y0, y1)) :
  ConF Tryz.prog 25 #[(.int .i64 i_), (.pointer (some ⟨c0_b, 0, none⟩)), (.pointer (some ⟨c1_b, 0, none⟩)), (.pointer (some ⟨c2_b, 0, none⟩)), (.pointer (some ⟨c3_b, 0, none⟩)), (.pointer (some ⟨c4_b, 0, none⟩))] [Es (List Int) c0_ c0_h, Es (List (ByteArray × (List (Int × Int × ByteArray)) × (List (Int × Int × ByteArray)))) c1_ c1_h] [Bx c0_b [(c0_h).v], Bx c1_b [(c1_h).v], Bx c2_b [(c2_h).v], E (List Int) c2_ c2_h, Bx c3_b [(.int .i64 c3_)], Bx c4_b [(.func (.func 25) #[] #[(.pointer (some ⟨c0_b, 0, none⟩)), (.pointer (some ⟨c1_b, 0, none⟩)), (.pointer (some ⟨c2_b, 0, none⟩)), (.pointer (some ⟨c3_b, 0, none⟩)), (.pointer (some ⟨c4_b, 0, none⟩))])]] (fun v Γ' => v = (.bool y1) ∧ Γ' = [Bx c0_b [(c0_h).v], Bx c1_b [(c1_h).v], Bx c2_b [(c2_h).v], E (List Int) y0 c2_h, Bx c3_b [(.int .i64 c3_)], Bx c4_b [(.func (.func 25) #[] #[(.pointer (some ⟨c0_b, 0, none⟩)), (.pointer (some ⟨c1_b, 0, none⟩)), (.pointer (some ⟨c2_b, 0, none⟩)), (.pointer (some ⟨c3_b, 0, none⟩)), (.pointer (some ⟨c4_b, 0, none⟩))])]]) := impl_FindWeights_1_cn _ i_ c0_b c0_ c0_h c1_b c1_ c1_h c2_b c2_ c2_h c3_b c3_ c4_b y0 y1 hF

theorem impl_FindWeights_c (rules_ : List (ByteArray × (List (Int × Int × ByteArray)) × (List (Int × Int × ByteArray)))) (rules_h : Hd) (most_ : Int) (y0 : List Int) (y1 : Bool) (hF : F_impl_FindWeights rules_ most_ = some (y0, y1)) :
  ConF Tryz.prog 7 #[(rules_h).v, (.int .i64 most_)] [Es (List (ByteArray × (List (Int × Int × ByteArray)) × (List (Int × Int × ByteArray)))) rules_ rules_h] [] (fun v Γ' => ∃ z0 : Hd, v = (.tuple #[(z0).v, (.bool y1)]) ∧ Γ' = [E (List Int) y0 z0]) := by
 intro w0 S0 fp0 hI hS
 have H : Cx w0 fp0 S0 w0 [Es (List (ByteArray × (List (Int × Int × ByteArray)) × (List (Int × Int × ByteArray)))) rules_ rules_h] := Cx.start hI hS
 clear hI hS
 refine enterC (args := [_, _]) gok Tryz.func7 rfl _ rfl rfl rfl ?_
 refine box_ H ?_; clear H; intro b3 w2 hx H
 clear hx
 refine box_ H ?_; clear H; intro b6 w5 hx H
 clear hx
 refine sq ?_
 obtain ⟨r0, f0, f1⟩ := bindS hF; clear hF
 refine cut (fun (q0 : Bool) => [(2, (.pointer (some ⟨b3, 0, none⟩))), (3, (.pointer (some ⟨b6, 0, none⟩))), (21, (.bool q0))]) (fun (q0 : Bool) w' => q0 = r0 ∧ Cx w0 fp0 S0 w' [Bx b3 [(rules_h).v], Es (List (ByteArray × (List (Int × Int × ByteArray)) × (List (Int × Int × ByteArray)))) rules_ rules_h, Bx b6 [(.int .i64 most_)]]) ?_ ?_
 ·
  refine load1 (H.bx0 1 rfl) ?_
  obtain ⟨y2, e, f2⟩ := bindS f0; clear f0
  have ey26 := e; clear e
  refine callF (impl_areRules_c rules_ rules_h y2 ey26) (Γi := []) H ⟨Vw.sh 2 rfl, trivial⟩ ?_; clear H ey26
  rintro _ _ w1 ⟨rfl, rfl⟩ H
  obtain ⟨a0, e, f3⟩ := bindS f2; clear f2
  refine boolO e ?_; clear e
  cases a0
  ·
   have f4 := condF f3; clear f3
   refine load1 (H.bx0 0 rfl) ?_
   obtain ⟨y3, e, f5⟩ := bindS f4; clear f4
   have ey32 := e; clear e
   refine callF (impl_within_c most_ 0 3 y3 ey32) (Γi := []) H trivial ?_; clear H ey32
   rintro _ _ w3 ⟨rfl, rfl⟩ H
   obtain ⟨a1, e, f6⟩ := bindS f5; clear f5
   refine boolO e ?_; clear e
   exact ⟨a1, ⟨rfl, rfl, rfl, trivial⟩, Option.some.inj f6, H.sel [1, 2, 0] rfl⟩
  ·
   have f7 := condT f3; clear f3
   exact ⟨true, ⟨rfl, rfl, rfl, trivial⟩, Option.some.inj f7, H.sel [1, 2, 0] rfl⟩
 ·
  clear f0 H
  rintro T0 s0 w4 ⟨hr, (H : Cx w0 fp0 S0 w4 [Bx b3 [(rules_h).v], Es (List (ByteArray × (List (Int × Int × ByteArray)) × (List (Int × Int × ByteArray)))) rules_ rules_h, Bx b6 [(.int .i64 most_)]])⟩
  subst hr
  cases s0
  ·
   have f8 := condF f1; clear f1
   obtain ⟨a2, e, f9⟩ := bindS f8; clear f8
   refine make_ (α := Bool) gok rfl rfl rfl rfl (makeCO_of e) H ?_; clear e H; intro h0 w6 hx H
   clear hx
   refine sq ?_
   refine load1 (H.bx0 1 rfl) ?_
   refine lenE (H.rs (α := List (ByteArray × (List (Int × Int × ByteArray)) × (List (Int × Int × ByteArray)))) 2 rfl).len ?_
   have x0 := (H.rs (α := List (ByteArray × (List (Int × Int × ByteArray)) × (List (Int × Int × ByteArray)))) 2 rfl).max
   obtain ⟨r1, e, f10⟩ := bindS f9; clear f9
   refine loopS _ rules_.length (fun (k0 : Nat) (s1 : List Bool) (_ : Unit) => [(2, (.pointer (some ⟨b3, 0, none⟩))), (3, (.pointer (some ⟨b6, 0, none⟩))), (6, (h0).v), (23, (rules_h).v), (24, (.int .i64 ((rules_.length : Nat) : Int))), (25, (.int .i64 ((k0 : Nat) : Int)))]) (fun _ (s1 : List Bool) (_ : Unit) w' => Cx w0 fp0 S0 w' [Bx b3 [(rules_h).v], Es (List (ByteArray × (List (Int × Int × ByteArray)) × (List (Int × Int × ByteArray)))) rules_ rules_h, Bx b6 [(.int .i64 most_)], E (List Bool) s1 h0]) a2 () e ⟨rfl, rfl, rfl, rfl, rfl, rfl, trivial⟩ (H.sel [1, 2, 3, 0] rfl) ?_ ?_
   ·
    clear H e
    rintro T1 k0 s1 _ w7 o0 hk (H : Cx w0 fp0 S0 w7 [Bx b3 [(rules_h).v], Es (List (ByteArray × (List (Int × Int × ByteArray)) × (List (Int × Int × ByteArray)))) rules_ rules_h, Bx b6 [(.int .i64 most_)], E (List Bool) s1 h0]) f11
    refine boolE (z := true) (ltLen hk) ?_
    refine sq ?_
    refine sq ?_
    obtain ⟨a3, e, f12⟩ := bindS f11; clear f11
    have HH := H; clear H; obtain ⟨p0, m0, g0, c0, c1, c2, c3, H⟩ := HH.el (α := ByteArray × (List (Int × Int × ByteArray)) × (List (Int × Int × ByteArray))) 1 rfl e; clear HH
    clear e
    obtain ⟨a3_0, a3_1_0, a3_2_0⟩ := a3
    obtain ⟨_, h1, h2⟩ := g0
    replace H := H.part (β := List (Int × Int × ByteArray)) a3_1_0 (h1 : Hd) 0 rfl (fun S h => (And.left (And.right h)))
    replace H := H.part (β := List (Int × Int × ByteArray)) a3_2_0 (h2 : Hd) 1 rfl (fun S h => (And.right (And.right h)))
    replace H := H.sel [0, 1, 3, 4, 5, 6] rfl
    refine idxE c0 c1 c2 ?_; clear c0 c1 c2
    refine loadN [(.string a3_0), (h1).v, (h2).v] rfl c3 ?_; clear c3
    refine alloc_ gok rfl H ?_; clear H; intro b0 w8 hx H
    clear hx
    refine stA gok [(.string a3_0), (h1).v, (h2).v] rfl H rfl rfl rfl ?_; clear H; intro w9 H
    refine loadN [(.string a3_0), (h1).v, (h2).v] rfl (fun j u hj => H.bx 0 rfl hj) ?_
    obtain ⟨y4, e, f13⟩ := bindS f12; clear f12
    obtain ⟨y4_0, y4_1, y4_2, y4_3⟩ := y4
    have ey388 := e; clear e
    refine callF (impl_Rule_pattern_c a3_0 a3_1_0 h1 a3_2_0 h2 y4_0 y4_1 y4_2 y4_3 ey388) (Γi := []) H ⟨Vw.sh 2 rfl, Vw.sh 1 rfl, trivial⟩ ?_; clear H ey388
    rintro _ _ w10 ⟨h3, h4, h5, rfl, rfl⟩ H
    refine lenE (H.ro (α := List (Int × Int × List Int × List Int)) 0 rfl).len ?_
    replace H := H.frz
    have x1 := (H.rs (α := List (Int × Int × List Int × List Int)) 0 rfl).max
    obtain ⟨r2, e, f14⟩ := bindS f13; clear f13
    refine loopS _ y4_1.length (fun (k1 : Nat) (s2 : List Bool) (_ : Unit) => [(2, (.pointer (some ⟨b3, 0, none⟩))), (3, (.pointer (some ⟨b6, 0, none⟩))), (6, (h0).v), (23, (rules_h).v), (24, (.int .i64 ((rules_.length : Nat) : Int))), (25, (.int .i64 ((k0 : Nat) : Int))), (31, (h3).v), (32, (.int .i64 ((y4_1.length : Nat) : Int))), (33, (.int .i64 ((k1 : Nat) : Int)))]) (fun _ (s2 : List Bool) (_ : Unit) w' => Cx w0 fp0 S0 w' [Bx b3 [(rules_h).v], Es (List (ByteArray × (List (Int × Int × ByteArray)) × (List (Int × Int × ByteArray)))) rules_ rules_h, Bx b6 [(.int .i64 most_)], E (List Bool) s2 h0, Es (List (Int × Int × List Int × List Int)) y4_1 h3]) s1 () e ⟨rfl, rfl, rfl, rfl, rfl, rfl, rfl, rfl, rfl, trivial⟩ (H.sel [6, 7, 8, 9, 0] rfl) ?_ ?_
    ·
     clear H e
     rintro T2 k1 s2 _ w11 o1 hk (H : Cx w0 fp0 S0 w11 [Bx b3 [(rules_h).v], Es (List (ByteArray × (List (Int × Int × ByteArray)) × (List (Int × Int × ByteArray)))) rules_ rules_h, Bx b6 [(.int .i64 most_)], E (List Bool) s2 h0, Es (List (Int × Int × List Int × List Int)) y4_1 h3]) f15
     refine boolE (z := true) (ltLen hk) ?_
     refine sq ?_
     refine sq ?_
     obtain ⟨a4, e, f16⟩ := bindS f15; clear f15
     have HH := H; clear H; obtain ⟨p1, m1, g1, c4, c5, c6, c7, H⟩ := HH.el (α := Int × Int × List Int × List Int) 4 rfl e; clear HH
     clear e
     obtain ⟨a4_0, a4_1, a4_2, a4_3⟩ := a4
     obtain ⟨_, _, h6, h7⟩ := g1
     replace H := H.part (β := List Int) a4_2 (h6 : Hd) 0 rfl (fun S h => (And.left (And.right (And.right h))))
     replace H := H.part (β := List Int) a4_3 (h7 : Hd) 1 rfl (fun S h => (And.right (And.right (And.right h))))
     replace H := H.sel [0, 1, 3, 4, 5, 6, 7] rfl
     refine idxE c4 c5 c6 ?_; clear c4 c5 c6
     refine loadN [(.int .i64 a4_0), (.int .i64 a4_1), (h6).v, (h7).v] rfl c7 ?_; clear c7
     refine alloc_ gok rfl H ?_; clear H; intro b1 w12 hx H
     clear hx
     refine stA gok [(.int .i64 a4_0), (.int .i64 a4_1), (h6).v, (h7).v] rfl H rfl rfl rfl ?_; clear H; intro w13 H
     refine fld gok rfl rfl rfl rfl ?_
     refine load1 (H.bx 0 rfl (j := 0) rfl) ?_
     obtain ⟨a5, e, f17⟩ := bindS f16; clear f16
     have ea518 := e; clear e
     obtain ⟨p2, m2, c8, c9, c10⟩ := (H.ro (α := List Bool) 6 rfl).setp ea518
     refine idxE c8 c9 c10 ?_
     replace H := H.sel [6, 0, 1, 2, 3, 4, 5, 7] rfl
     refine setS (α := Bool) H c8 c9 ea518 ?_; clear H c8 c9 c10 ea518; intro w14 H
     refine arK hk x1 ?_
     have hs := Option.some.inj f17; subst hs; clear f17
     exact ⟨(), ⟨rfl, rfl, rfl, rfl, rfl, rfl, rfl, rfl, rfl, trivial⟩, H.sel [4, 5, 6, 0, 7] rfl⟩
    ·
     clear H e
     rintro T3 _ w15 (H : Cx w0 fp0 S0 w15 [Bx b3 [(rules_h).v], Es (List (ByteArray × (List (Int × Int × ByteArray)) × (List (Int × Int × ByteArray)))) rules_ rules_h, Bx b6 [(.int .i64 most_)], E (List Bool) r2 h0, Es (List (Int × Int × List Int × List Int)) y4_1 h3])
     refine boolE (z := false) geLen ?_
     refine sq ?_
     refine arK hk x0 ?_
     have hs := Option.some.inj f14; subst hs; clear f14
     exact ⟨(), ⟨rfl, rfl, rfl, rfl, rfl, rfl, trivial⟩, H.sel [0, 1, 2, 3] rfl⟩
   ·
    clear H e
    rintro T4 _ w16 (H : Cx w0 fp0 S0 w16 [Bx b3 [(rules_h).v], Es (List (ByteArray × (List (Int × Int × ByteArray)) × (List (Int × Int × ByteArray)))) rules_ rules_h, Bx b6 [(.int .i64 most_)], E (List Bool) r1 h0])
    refine boolE (z := false) geLen ?_
    refine sq ?_
    obtain ⟨y5, e, f18⟩ := bindS f10; clear f10
    have ey529 := e; clear e
    refine callF (impl_marked_c r1 h0 y5 ey529) (Γi := []) H ⟨Vw.own 3 rfl, trivial⟩ ?_; clear H ey529
    rintro _ _ w17 ⟨h8, rfl, rfl⟩ H
    refine alloc_ gok rfl H ?_; clear H; intro b2 w18 hx H
    clear hx
    refine stB0 H rfl ?_; clear H; intro w19 H
    refine sq ?_
    refine load1 (H.bx0 0 rfl) ?_
    refine lenE (H.ro (α := List Int) 1 rfl).len ?_
    obtain ⟨a6, e, f19⟩ := bindS f18; clear f18
    refine boolO e ?_; clear e
    cases a6
    ·
     have f20 := condF f19; clear f19
     obtain ⟨y6, e, f21⟩ := bindS f20; clear f20
     have ey541 := e; clear e
     refine callF (impl_zeros_c 14 y6 ey541) (Γi := []) H trivial ?_; clear H ey541
     rintro _ _ w20 ⟨h9, rfl, rfl⟩ H
     refine alloc_ gok rfl H ?_; clear H; intro b4 w21 hx H
     clear hx
     refine stB0 H rfl ?_; clear H; intro w22 H
     refine alloc_ gok rfl H ?_; clear H; intro b5 w23 hx H
     clear hx
     refine stB0 H rfl ?_; clear H; intro w24 H
     refine sq ?_
     refine load1 (H.bx0 0 rfl) ?_
     obtain ⟨y7, e, f22⟩ := bindS f21; clear f21
     obtain ⟨y7_0, y7_1⟩ := y7
     have ey554 := e; clear e
     replace H := H.sel [3, 5, 1, 2, 7, 0, 4, 6, 8] rfl
     refine callF (impl_FindWeights_1_c 0 b2 y5 h8 b3 rules_ rules_h b4 y6 h9 b6 most_ b5 y7_0 y7_1 ey554) (Γi := [Bx b2 [(h8).v], Bx b3 [(rules_h).v], Bx b4 [(h9).v], E (List Int) y6 h9, Bx b6 [(.int .i64 most_)], Bx b5 [(.func (.func 25) #[] #[(.pointer (some ⟨b2, 0, none⟩)), (.pointer (some ⟨b3, 0, none⟩)), (.pointer (some ⟨b4, 0, none⟩)), (.pointer (some ⟨b6, 0, none⟩)), (.pointer (some ⟨b5, 0, none⟩))])]]) H ⟨Vw.own 0 rfl, Vw.sh 1 rfl, trivial⟩ ?_; clear H ey554
     rintro _ _ w25 ⟨rfl, rfl⟩ H
     obtain ⟨a7, e, f23⟩ := bindS f22; clear f22
     refine boolO e ?_; clear e
     cases a7
     ·
      have f24 := condF f23; clear f23
      refine load1 (H.bx0 2 rfl) ?_
      cases f24
      exact ⟨_, _, rfl, ⟨h9, rfl, rfl⟩, (H.sel [3] rfl).close ⟨cloE, trivial⟩⟩
     ·
      have f25 := condT f23; clear f23
      replace H := H.nil (α := Int)
      cases f25
      exact ⟨_, _, rfl, ⟨nilH, rfl, rfl⟩, (H.sel [0] rfl).close ⟨cloE, trivial⟩⟩
    ·
     have f26 := condT f19; clear f19
     replace H := H.nil (α := Int)
     cases f26
     exact ⟨_, _, rfl, ⟨nilH, rfl, rfl⟩, (H.sel [0] rfl).close ⟨cloE, trivial⟩⟩
  ·
   have f27 := condT f1; clear f1
   replace H := H.nil (α := Int)
   cases f27
   exact ⟨_, _, rfl, ⟨nilH, rfl, rfl⟩, (H.sel [0] rfl).close ⟨cloE, trivial⟩⟩

theorem laws_eqIntS_c (a_ : List Int) (a_h : Hd) (b_ : List Int) (b_h : Hd) (y : Bool) (hF : F_laws_eqIntS a_ b_ = some y) :
  ConF Tryz.prog 8 #[(a_h).v, (b_h).v] [Es (List Int) a_ a_h, Es (List Int) b_ b_h] [] (fun v Γ' => v = (.bool y) ∧ Γ' = []) := by
 intro w0 S0 fp0 hI hS
 have H : Cx w0 fp0 S0 w0 [Es (List Int) a_ a_h, Es (List Int) b_ b_h] := Cx.start hI hS
 clear hI hS
 refine enterC (args := [_, _]) gok Tryz.func8 rfl _ rfl rfl rfl ?_
 refine sq ?_
 refine lenE (H.rs (α := List Int) 0 rfl).len ?_
 refine lenE (H.rs (α := List Int) 1 rfl).len ?_
 obtain ⟨a3, e, hF4⟩ := bindS hF; clear hF
 refine boolO e ?_; clear e
 cases a3
 ·
  have hF5 := condF hF4; clear hF4
  obtain ⟨r0, f0, f1⟩ := bindS hF5; clear hF5
  refine cut (fun (q0 : Unit) => []) (fun (q0 : Unit) w' => .inl () = r0 ∧ Cx w0 fp0 S0 w' []) ?_ ?_
  ·
   refine loopW _ (fun (s0 : Int) (_ : Unit) => [(0, (a_h).v), (1, (b_h).v), (5, (.int .i64 s0))]) (fun (s0 : Int) (_ : Unit) w' => Cx w0 fp0 S0 w' [Es (List Int) a_ a_h, Es (List Int) b_ b_h]) 0 () f0 ⟨rfl, rfl, rfl, trivial⟩ (H.sel [0, 1] rfl) ?_
   ·
    clear H
    rintro T0 s0 _ w1 o0 (H : Cx w0 fp0 S0 w1 [Es (List Int) a_ a_h, Es (List Int) b_ b_h]) hrt f2
    refine sq ?_
    refine lenE (H.rs (α := List Int) 0 rfl).len ?_
    obtain ⟨a0, e, f3⟩ := bindS f2; clear f2
    refine boolO e ?_; clear e
    cases a0
    ·
     have f4 := condF f3; clear f3
     have hs := Option.some.inj f4; subst hs; clear f4
     have f5 : some _ = some _ := congrArg some (hrt _ rfl).symm
     exact ⟨(), trivial, Option.some.inj f5, H.sel [] rfl⟩
    ·
     have f6 := condT f3; clear f3
     refine sq ?_
     refine heldX H [] (.fst 0 (.fst 1 (.fst 2 (.fst 4 (.fst 5 (.fst 6 (.fst 3 (.fst 7 (.fst 8 .done))))))))) mixed [] trivial (by kernel_rfl) ?_
     clear H; intro w2 H
     have hX : Ext w2 w2 := Upd.refl _ _
     have H0 := H
     obtain ⟨a1, e, f7⟩ := bindS f6; clear f6
     obtain ⟨p0, m0, c0, c1, c2, c3⟩ := (H.rs (α := List Int) 0 rfl).at1 e; clear e
     refine idxE c0 c1 c2 ?_; clear c0 c1 c2
     obtain ⟨a2, e, f8⟩ := bindS f7; clear f7
     obtain ⟨p1, m1, c4, c5, c6, c7⟩ := (H.rs (α := List Int) 1 rfl).at1 e; clear e
     refine idxE c4 c5 c6 ?_; clear c4 c5 c6
     refine load1X c3 ?_; clear c3
     refine load1X c7 ?_; clear c7
     obtain ⟨a4, e, f9⟩ := bindS f8; clear f8
     refine boolO e ?_; clear e
     cases a4
     ·
      have f10 := condF f9; clear f9
      obtain ⟨a5, e, f11⟩ := bindS f10; clear f10
      refine arO e ?_; clear e
      have hs := Option.some.inj f11; subst hs; clear f11
      exact ⟨a5, (), rfl, ⟨rfl, rfl, rfl, trivial⟩, H.sel [0, 1] rfl⟩
     ·
      have f12 := condT f9; clear f9
      have hs := Option.some.inj f12; subst hs; clear f12
      have f13 : some _ = some _ := congrArg some (hrt _ rfl).symm
      have hs := Option.some.inj f13; subst hs; clear f13
      have f14 : some _ = some _ := f1; clear f1
      cases f14
      exact ⟨_, _, rfl, ⟨rfl, rfl⟩, (H.sel [] rfl).close trivial⟩
  ·
   clear f0 H
   rintro T1 _ w3 ⟨hr, (H : Cx w0 fp0 S0 w3 [])⟩
   subst hr
   cases f1
   exact ⟨_, _, rfl, ⟨rfl, rfl⟩, (H.sel [] rfl).close trivial⟩
 ·
  have f15 := condT hF4; clear hF4
  cases f15
  exact ⟨_, _, rfl, ⟨rfl, rfl⟩, (H.sel [] rfl).close trivial⟩

theorem laws_eqNode_c (a__0 : Int) (a__1 : Int) (a__2 : ByteArray) (b__0 : Int) (b__1 : Int) (b__2 : ByteArray) (y : Bool) (hF : F_laws_eqNode (a__0, a__1, a__2) (b__0, b__1, b__2) = some y) :
  ConF Tryz.prog 92 #[(.agg #[(.int .i64 a__0), (.int .i64 a__1), (.string a__2)]), (.agg #[(.int .i64 b__0), (.int .i64 b__1), (.string b__2)])] [] [] (fun v Γ' => v = (.bool y) ∧ Γ' = []) := by
 intro w0 S0 fp0 hI hS
 have H : Cx w0 fp0 S0 w0 [] := Cx.start hI hS
 clear hI hS
 refine enterC (args := [_, _]) gok Tryz.func92 rfl _ rfl rfl rfl ?_
 refine box_ H ?_; clear H; intro b2 w1 hx H
 clear hx
 refine box_ H ?_; clear H; intro b5 w4 hx H
 clear hx
 refine sq ?_
 refine fld gok rfl rfl rfl rfl ?_
 refine load1 (H.bx 1 rfl (j := 0) rfl) ?_
 refine fld gok rfl rfl rfl rfl ?_
 refine load1 (H.bx 0 rfl (j := 0) rfl) ?_
 obtain ⟨a7, e, hF8⟩ := bindS hF; clear hF
 refine boolO e ?_; clear e
 cases a7
 ·
  have hF9 := condF hF8; clear hF8
  refine sq ?_
  refine fld gok rfl rfl rfl rfl ?_
  refine load1 (H.bx 1 rfl (j := 1) rfl) ?_
  refine fld gok rfl rfl rfl rfl ?_
  refine load1 (H.bx 0 rfl (j := 1) rfl) ?_
  obtain ⟨a0, e, f0⟩ := bindS hF9; clear hF9
  refine boolO e ?_; clear e
  cases a0
  ·
   have f1 := condF f0; clear f0
   refine sq ?_
   refine fld gok rfl rfl rfl rfl ?_
   refine load1 (H.bx 1 rfl (j := 2) rfl) ?_
   refine fld gok rfl rfl rfl rfl ?_
   refine load1 (H.bx 0 rfl (j := 2) rfl) ?_
   obtain ⟨a1, e, f2⟩ := bindS f1; clear f1
   refine neqZ e ?_; clear e
   cases a1
   ·
    have f3 := condF f2; clear f2
    cases f3
    exact ⟨_, _, rfl, ⟨rfl, rfl⟩, (H.sel [] rfl).close trivial⟩
   ·
    have f4 := condT f2; clear f2
    cases f4
    exact ⟨_, _, rfl, ⟨rfl, rfl⟩, (H.sel [] rfl).close trivial⟩
  ·
   have f5 := condT f0; clear f0
   cases f5
   exact ⟨_, _, rfl, ⟨rfl, rfl⟩, (H.sel [] rfl).close trivial⟩
 ·
  have f6 := condT hF8; clear hF8
  cases f6
  exact ⟨_, _, rfl, ⟨rfl, rfl⟩, (H.sel [] rfl).close trivial⟩

theorem laws_eqNodeS_c (a_ : List (Int × Int × ByteArray)) (a_h : Hd) (b_ : List (Int × Int × ByteArray)) (b_h : Hd) (y : Bool) (hF : F_laws_eqNodeS a_ b_ = some y) :
  ConF Tryz.prog 64 #[(a_h).v, (b_h).v] [Es (List (Int × Int × ByteArray)) a_ a_h, Es (List (Int × Int × ByteArray)) b_ b_h] [] (fun v Γ' => v = (.bool y) ∧ Γ' = []) := by
 intro w0 S0 fp0 hI hS
 have H : Cx w0 fp0 S0 w0 [Es (List (Int × Int × ByteArray)) a_ a_h, Es (List (Int × Int × ByteArray)) b_ b_h] := Cx.start hI hS
 clear hI hS
 refine enterC (args := [_, _]) gok Tryz.func64 rfl _ rfl rfl rfl ?_
 refine sq ?_
 refine lenE (H.rs (α := List (Int × Int × ByteArray)) 0 rfl).len ?_
 refine lenE (H.rs (α := List (Int × Int × ByteArray)) 1 rfl).len ?_
 obtain ⟨a3, e, hF4⟩ := bindS hF; clear hF
 refine boolO e ?_; clear e
 cases a3
 ·
  have hF5 := condF hF4; clear hF4
  obtain ⟨r0, f0, f1⟩ := bindS hF5; clear hF5
  refine cut (fun (q0 : Unit) => []) (fun (q0 : Unit) w' => .inl () = r0 ∧ Cx w0 fp0 S0 w' []) ?_ ?_
  ·
   refine loopW _ (fun (s0 : Int) (_ : Unit) => [(0, (a_h).v), (1, (b_h).v), (5, (.int .i64 s0))]) (fun (s0 : Int) (_ : Unit) w' => Cx w0 fp0 S0 w' [Es (List (Int × Int × ByteArray)) a_ a_h, Es (List (Int × Int × ByteArray)) b_ b_h]) 0 () f0 ⟨rfl, rfl, rfl, trivial⟩ (H.sel [0, 1] rfl) ?_
   ·
    clear H
    rintro T0 s0 _ w1 o0 (H : Cx w0 fp0 S0 w1 [Es (List (Int × Int × ByteArray)) a_ a_h, Es (List (Int × Int × ByteArray)) b_ b_h]) hrt f2
    refine sq ?_
    refine lenE (H.rs (α := List (Int × Int × ByteArray)) 0 rfl).len ?_
    obtain ⟨a0, e, f3⟩ := bindS f2; clear f2
    refine boolO e ?_; clear e
    cases a0
    ·
     have f4 := condF f3; clear f3
     have hs := Option.some.inj f4; subst hs; clear f4
     have f5 : some _ = some _ := congrArg some (hrt _ rfl).symm
     exact ⟨(), trivial, Option.some.inj f5, H.sel [] rfl⟩
    ·
     have f6 := condT f3; clear f3
     refine sq ?_
     refine heldX H [] (.fst 0 (.fst 1 (.fst 2 (.fst 4 (.fst 5 (.fst 6 (.fst 3 (.fst 7 (.act 8 (.fst 9 .done)))))))))) mixed [] trivial (by kernel_rfl) ?_
     clear H; intro w2 H
     have hX : Ext w2 w2 := Upd.refl _ _
     have H0 := H
     obtain ⟨a1, e, f7⟩ := bindS f6; clear f6
     have HH := H; clear H; obtain ⟨p0, m0, g0, c0, c1, c2, c3, H⟩ := HH.el (α := Int × Int × ByteArray) 0 rfl e; clear HH
     clear e
     obtain ⟨a1_0, a1_1, a1_2⟩ := a1
     obtain ⟨_, _, _⟩ := g0
     replace H := H.sel [1, 2] rfl
     refine idxE c0 c1 c2 ?_; clear c0 c1 c2
     obtain ⟨a2, e, f8⟩ := bindS f7; clear f7
     have HH := H; clear H; obtain ⟨p1, m1, g1, c4, c5, c6, c7, H⟩ := HH.el (α := Int × Int × ByteArray) 1 rfl e; clear HH
     clear e
     obtain ⟨a2_0, a2_1, a2_2⟩ := a2
     obtain ⟨_, _, _⟩ := g1
     replace H := H.sel [1, 2] rfl
     refine idxE c4 c5 c6 ?_; clear c4 c5 c6
     refine loadNX [(.int .i64 a1_0), (.int .i64 a1_1), (.string a1_2)] rfl c3 ?_; clear c3
     refine loadNX [(.int .i64 a2_0), (.int .i64 a2_1), (.string a2_2)] rfl c7 ?_; clear c7
     obtain ⟨y0, e, f9⟩ := bindS f8; clear f8
     have ey236 := e; clear e
     refine callFx (laws_eqNode_c a1_0 a1_1 a1_2 a2_0 a2_1 a2_2 y0 ey236) H trivial ?_; clear H ey236
     rintro _ _ w3 ⟨rfl, rfl⟩ hx H
     replace hX := hX.trans0 hx; clear hx
     refine hold hX ?_
     obtain ⟨a4, e, f10⟩ := bindS f9; clear f9
     refine boolO e ?_; clear e
     cases a4
     ·
      have f11 := condF f10; clear f10
      obtain ⟨a5, e, f12⟩ := bindS f11; clear f11
      refine arO e ?_; clear e
      have hs := Option.some.inj f12; subst hs; clear f12
      exact ⟨a5, (), rfl, ⟨rfl, rfl, rfl, trivial⟩, H.sel [0, 1] rfl⟩
     ·
      have f13 := condT f10; clear f10
      have hs := Option.some.inj f13; subst hs; clear f13
      have f14 : some _ = some _ := congrArg some (hrt _ rfl).symm
      have hs := Option.some.inj f14; subst hs; clear f14
      have f15 : some _ = some _ := f1; clear f1
      cases f15
      exact ⟨_, _, rfl, ⟨rfl, rfl⟩, (H.sel [] rfl).close trivial⟩
  ·
   clear f0 H
   rintro T1 _ w4 ⟨hr, (H : Cx w0 fp0 S0 w4 [])⟩
   subst hr
   cases f1
   exact ⟨_, _, rfl, ⟨rfl, rfl⟩, (H.sel [] rfl).close trivial⟩
 ·
  have f16 := condT hF4; clear hF4
  cases f16
  exact ⟨_, _, rfl, ⟨rfl, rfl⟩, (H.sel [] rfl).close trivial⟩

theorem laws_eqTerm_c (a__0 : List (Int × Int × ByteArray)) (a__0h : Hd) (b__0 : List (Int × Int × ByteArray)) (b__0h : Hd) (y : Bool) (hF : F_laws_eqTerm a__0 b__0 = some y) :
  ConF Tryz.prog 42 #[(.agg #[(a__0h).v]), (.agg #[(b__0h).v])] [Es (List (Int × Int × ByteArray)) a__0 a__0h, Es (List (Int × Int × ByteArray)) b__0 b__0h] [] (fun v Γ' => v = (.bool y) ∧ Γ' = []) := by
 intro w0 S0 fp0 hI hS
 have H : Cx w0 fp0 S0 w0 [Es (List (Int × Int × ByteArray)) a__0 a__0h, Es (List (Int × Int × ByteArray)) b__0 b__0h] := Cx.start hI hS
 clear hI hS
 refine enterC (args := [_, _]) gok Tryz.func42 rfl _ rfl rfl rfl ?_
 refine box_ H ?_; clear H; intro b4 w3 hx H
 clear hx
 refine box_ H ?_; clear H; intro b7 w6 hx H
 clear hx
 refine sq ?_
 refine fld gok rfl rfl rfl rfl ?_
 refine load1 (H.bx 1 rfl (j := 0) rfl) ?_
 refine fld gok rfl rfl rfl rfl ?_
 refine load1 (H.bx 0 rfl (j := 0) rfl) ?_
 obtain ⟨y9, e, f0⟩ := bindS hF; clear hF
 have ey9 := e; clear e
 refine callF (laws_eqNodeS_c a__0 a__0h b__0 b__0h y9 ey9) (Γi := []) H ⟨Vw.sh 2 rfl, Vw.sh 3 rfl, trivial⟩ ?_; clear H ey9
 rintro _ _ w1 ⟨rfl, rfl⟩ H
 obtain ⟨a0, e, f1⟩ := bindS f0; clear f0
 refine boolO e ?_; clear e
 cases a0
 ·
  have f2 := condF f1; clear f1
  cases f2
  exact ⟨_, _, rfl, ⟨rfl, rfl⟩, (H.sel [] rfl).close trivial⟩
 ·
  have f3 := condT f1; clear f1
  cases f3
  exact ⟨_, _, rfl, ⟨rfl, rfl⟩, (H.sel [] rfl).close trivial⟩

theorem laws_eqRule_c (a__0 : ByteArray) (a__1_0 : List (Int × Int × ByteArray)) (a__1_0h : Hd) (a__2_0 : List (Int × Int × ByteArray)) (a__2_0h : Hd) (b__0 : ByteArray) (b__1_0 : List (Int × Int × ByteArray)) (b__1_0h : Hd) (b__2_0 : List (Int × Int × ByteArray)) (b__2_0h : Hd) (y : Bool) (hF : F_laws_eqRule (a__0, a__1_0, a__2_0) (b__0, b__1_0, b__2_0) = some y) :
  ConF Tryz.prog 27 #[(.agg #[(.string a__0), (a__1_0h).v, (a__2_0h).v]), (.agg #[(.string b__0), (b__1_0h).v, (b__2_0h).v])] [Es (List (Int × Int × ByteArray)) a__1_0 a__1_0h, Es (List (Int × Int × ByteArray)) a__2_0 a__2_0h, Es (List (Int × Int × ByteArray)) b__1_0 b__1_0h, Es (List (Int × Int × ByteArray)) b__2_0 b__2_0h] [] (fun v Γ' => v = (.bool y) ∧ Γ' = []) := by
 intro w0 S0 fp0 hI hS
 have H : Cx w0 fp0 S0 w0 [Es (List (Int × Int × ByteArray)) a__1_0 a__1_0h, Es (List (Int × Int × ByteArray)) a__2_0 a__2_0h, Es (List (Int × Int × ByteArray)) b__1_0 b__1_0h, Es (List (Int × Int × ByteArray)) b__2_0 b__2_0h] := Cx.start hI hS
 clear hI hS
 refine enterC (args := [_, _]) gok Tryz.func27 rfl _ rfl rfl rfl ?_
 refine box_ H ?_; clear H; intro b6 w5 hx H
 clear hx
 refine box_ H ?_; clear H; intro b9 w8 hx H
 clear hx
 refine sq ?_
 refine fld gok rfl rfl rfl rfl ?_
 refine load1 (H.bx 1 rfl (j := 0) rfl) ?_
 refine fld gok rfl rfl rfl rfl ?_
 refine load1 (H.bx 0 rfl (j := 0) rfl) ?_
 obtain ⟨a0, e, f0⟩ := bindS hF; clear hF
 refine neqZ e ?_; clear e
 cases a0
 ·
  have f1 := condF f0; clear f0
  refine sq ?_
  refine fld gok rfl rfl rfl rfl ?_
  refine loadN [(a__1_0h).v] rfl (H.bxs 1 rfl 1 rfl) ?_
  refine fld gok rfl rfl rfl rfl ?_
  refine loadN [(b__1_0h).v] rfl (H.bxs 0 rfl 1 rfl) ?_
  obtain ⟨y0, e, f2⟩ := bindS f1; clear f1
  have ey14 := e; clear e
  refine callF (laws_eqTerm_c a__1_0 a__1_0h b__1_0 b__1_0h y0 ey14) (Γi := []) H ⟨Vw.sh 2 rfl, Vw.sh 4 rfl, trivial⟩ ?_; clear H ey14
  rintro _ _ w1 ⟨rfl, rfl⟩ H
  obtain ⟨a1, e, f3⟩ := bindS f2; clear f2
  refine boolO e ?_; clear e
  cases a1
  ·
   have f4 := condF f3; clear f3
   refine sq ?_
   refine fld gok rfl rfl rfl rfl ?_
   refine loadN [(a__2_0h).v] rfl (H.bxs 1 rfl 2 rfl) ?_
   refine fld gok rfl rfl rfl rfl ?_
   refine loadN [(b__2_0h).v] rfl (H.bxs 0 rfl 2 rfl) ?_
   obtain ⟨y1, e, f5⟩ := bindS f4; clear f4
   have ey20 := e; clear e
   refine callF (laws_eqTerm_c a__2_0 a__2_0h b__2_0 b__2_0h y1 ey20) (Γi := []) H ⟨Vw.sh 3 rfl, Vw.sh 5 rfl, trivial⟩ ?_; clear H ey20
   rintro _ _ w2 ⟨rfl, rfl⟩ H
   obtain ⟨a2, e, f6⟩ := bindS f5; clear f5
   refine boolO e ?_; clear e
   cases a2
   ·
    have f7 := condF f6; clear f6
    cases f7
    exact ⟨_, _, rfl, ⟨rfl, rfl⟩, (H.sel [] rfl).close trivial⟩
   ·
    have f8 := condT f6; clear f6
    cases f8
    exact ⟨_, _, rfl, ⟨rfl, rfl⟩, (H.sel [] rfl).close trivial⟩
  ·
   have f9 := condT f3; clear f3
   cases f9
   exact ⟨_, _, rfl, ⟨rfl, rfl⟩, (H.sel [] rfl).close trivial⟩
 ·
  have f10 := condT f0; clear f0
  cases f10
  exact ⟨_, _, rfl, ⟨rfl, rfl⟩, (H.sel [] rfl).close trivial⟩

theorem laws_eqRuleS_c (a_ : List (ByteArray × (List (Int × Int × ByteArray)) × (List (Int × Int × ByteArray)))) (a_h : Hd) (b_ : List (ByteArray × (List (Int × Int × ByteArray)) × (List (Int × Int × ByteArray)))) (b_h : Hd) (y : Bool) (hF : F_laws_eqRuleS a_ b_ = some y) :
  ConF Tryz.prog 9 #[(a_h).v, (b_h).v] [Es (List (ByteArray × (List (Int × Int × ByteArray)) × (List (Int × Int × ByteArray)))) a_ a_h, Es (List (ByteArray × (List (Int × Int × ByteArray)) × (List (Int × Int × ByteArray)))) b_ b_h] [] (fun v Γ' => v = (.bool y) ∧ Γ' = []) := by
 intro w0 S0 fp0 hI hS
 have H : Cx w0 fp0 S0 w0 [Es (List (ByteArray × (List (Int × Int × ByteArray)) × (List (Int × Int × ByteArray)))) a_ a_h, Es (List (ByteArray × (List (Int × Int × ByteArray)) × (List (Int × Int × ByteArray)))) b_ b_h] := Cx.start hI hS
 clear hI hS
 refine enterC (args := [_, _]) gok Tryz.func9 rfl _ rfl rfl rfl ?_
 refine sq ?_
 refine lenE (H.rs (α := List (ByteArray × (List (Int × Int × ByteArray)) × (List (Int × Int × ByteArray)))) 0 rfl).len ?_
 refine lenE (H.rs (α := List (ByteArray × (List (Int × Int × ByteArray)) × (List (Int × Int × ByteArray)))) 1 rfl).len ?_
 obtain ⟨a3, e, hF4⟩ := bindS hF; clear hF
 refine boolO e ?_; clear e
 cases a3
 ·
  have hF5 := condF hF4; clear hF4
  obtain ⟨r0, f0, f1⟩ := bindS hF5; clear hF5
  refine cut (fun (q0 : Unit) => []) (fun (q0 : Unit) w' => .inl () = r0 ∧ Cx w0 fp0 S0 w' []) ?_ ?_
  ·
   refine loopW _ (fun (s0 : Int) (_ : Unit) => [(0, (a_h).v), (1, (b_h).v), (5, (.int .i64 s0))]) (fun (s0 : Int) (_ : Unit) w' => Cx w0 fp0 S0 w' [Es (List (ByteArray × (List (Int × Int × ByteArray)) × (List (Int × Int × ByteArray)))) a_ a_h, Es (List (ByteArray × (List (Int × Int × ByteArray)) × (List (Int × Int × ByteArray)))) b_ b_h]) 0 () f0 ⟨rfl, rfl, rfl, trivial⟩ (H.sel [0, 1] rfl) ?_
   ·
    clear H
    rintro T0 s0 _ w1 o0 (H : Cx w0 fp0 S0 w1 [Es (List (ByteArray × (List (Int × Int × ByteArray)) × (List (Int × Int × ByteArray)))) a_ a_h, Es (List (ByteArray × (List (Int × Int × ByteArray)) × (List (Int × Int × ByteArray)))) b_ b_h]) hrt f2
    refine sq ?_
    refine lenE (H.rs (α := List (ByteArray × (List (Int × Int × ByteArray)) × (List (Int × Int × ByteArray)))) 0 rfl).len ?_
    obtain ⟨a0, e, f3⟩ := bindS f2; clear f2
    refine boolO e ?_; clear e
    cases a0
    ·
     have f4 := condF f3; clear f3
     have hs := Option.some.inj f4; subst hs; clear f4
     have f5 : some _ = some _ := congrArg some (hrt _ rfl).symm
     exact ⟨(), trivial, Option.some.inj f5, H.sel [] rfl⟩
    ·
     have f6 := condT f3; clear f3
     refine sq ?_
     refine heldX H [] (.fst 0 (.fst 1 (.fst 2 (.fst 4 (.fst 5 (.fst 6 (.fst 3 (.fst 7 (.act 8 (.fst 9 .done)))))))))) mixed [] trivial (by kernel_rfl) ?_
     clear H; intro w2 H
     have hX : Ext w2 w2 := Upd.refl _ _
     have H0 := H
     obtain ⟨a1, e, f7⟩ := bindS f6; clear f6
     have HH := H; clear H; obtain ⟨p0, m0, g0, c0, c1, c2, c3, H⟩ := HH.el (α := ByteArray × (List (Int × Int × ByteArray)) × (List (Int × Int × ByteArray))) 0 rfl e; clear HH
     clear e
     obtain ⟨a1_0, a1_1_0, a1_2_0⟩ := a1
     obtain ⟨_, h0, h1⟩ := g0
     replace H := H.part (β := List (Int × Int × ByteArray)) a1_1_0 (h0 : Hd) 0 rfl (fun S h => (And.left (And.right h)))
     replace H := H.part (β := List (Int × Int × ByteArray)) a1_2_0 (h1 : Hd) 1 rfl (fun S h => (And.right (And.right h)))
     replace H := H.sel [0, 1, 3, 4] rfl
     refine idxE c0 c1 c2 ?_; clear c0 c1 c2
     obtain ⟨a2, e, f8⟩ := bindS f7; clear f7
     have HH := H; clear H; obtain ⟨p1, m1, g1, c4, c5, c6, c7, H⟩ := HH.el (α := ByteArray × (List (Int × Int × ByteArray)) × (List (Int × Int × ByteArray))) 3 rfl e; clear HH
     clear e
     obtain ⟨a2_0, a2_1_0, a2_2_0⟩ := a2
     obtain ⟨_, h2, h3⟩ := g1
     replace H := H.part (β := List (Int × Int × ByteArray)) a2_1_0 (h2 : Hd) 0 rfl (fun S h => (And.left (And.right h)))
     replace H := H.part (β := List (Int × Int × ByteArray)) a2_2_0 (h3 : Hd) 1 rfl (fun S h => (And.right (And.right h)))
     replace H := H.sel [0, 1, 3, 4, 5, 6] rfl
     refine idxE c4 c5 c6 ?_; clear c4 c5 c6
     refine loadNX [(.string a1_0), (h0).v, (h1).v] rfl c3 ?_; clear c3
     refine loadNX [(.string a2_0), (h2).v, (h3).v] rfl c7 ?_; clear c7
     obtain ⟨y0, e, f9⟩ := bindS f8; clear f8
     have ey284 := e; clear e
     refine callFx (laws_eqRule_c a1_0 a1_1_0 h0 a1_2_0 h1 a2_0 a2_1_0 h2 a2_2_0 h3 y0 ey284) H ⟨Vw.sh 3 rfl, Vw.sh 2 rfl, Vw.sh 1 rfl, Vw.sh 0 rfl, trivial⟩ ?_; clear H ey284
     rintro _ _ w3 ⟨rfl, rfl⟩ hx H
     replace hX := hX.trans0 hx; clear hx
     refine hold hX ?_
     obtain ⟨a4, e, f10⟩ := bindS f9; clear f9
     refine boolO e ?_; clear e
     cases a4
     ·
      have f11 := condF f10; clear f10
      obtain ⟨a5, e, f12⟩ := bindS f11; clear f11
      refine arO e ?_; clear e
      have hs := Option.some.inj f12; subst hs; clear f12
      exact ⟨a5, (), rfl, ⟨rfl, rfl, rfl, trivial⟩, H.sel [4, 5] rfl⟩
     ·
      have f13 := condT f10; clear f10
      have hs := Option.some.inj f13; subst hs; clear f13
      have f14 : some _ = some _ := congrArg some (hrt _ rfl).symm
      have hs := Option.some.inj f14; subst hs; clear f14
      have f15 : some _ = some _ := f1; clear f1
      cases f15
      exact ⟨_, _, rfl, ⟨rfl, rfl⟩, (H.sel [] rfl).close trivial⟩
  ·
   clear f0 H
   rintro T1 _ w4 ⟨hr, (H : Cx w0 fp0 S0 w4 [])⟩
   subst hr
   cases f1
   exact ⟨_, _, rfl, ⟨rfl, rfl⟩, (H.sel [] rfl).close trivial⟩
 ·
  have f16 := condT hF4; clear hF4
  cases f16
  exact ⟨_, _, rfl, ⟨rfl, rfl⟩, (H.sel [] rfl).close trivial⟩

theorem laws_markText_c (k_ : Int) (y : ByteArray) (hF : F_laws_markText k_ = some y) :
  ConF Tryz.prog 28 #[(.int .i64 k_)] [] [] (fun v Γ' => v = (.string y) ∧ Γ' = []) := by
 intro w0 S0 fp0 hI hS
 have H : Cx w0 fp0 S0 w0 [] := Cx.start hI hS
 clear hI hS
 refine enterC (args := [_]) gok Tryz.func28 rfl _ rfl rfl rfl ?_
 refine sq ?_
 obtain ⟨a1, e, hF2⟩ := bindS hF; clear hF
 refine boolO e ?_; clear e
 cases a1
 ·
  have hF3 := condF hF2; clear hF2
  obtain ⟨r0, f0, f1⟩ := bindS hF3; clear hF3
  refine cut (fun (q0 : ByteArray) => [(3, (.string q0))]) (fun (q0 : ByteArray) w' => q0 = r0 ∧ Cx w0 fp0 S0 w' []) ?_ ?_
  ·
   refine loopW _ (fun (s0 : Int × ByteArray) (_ : Unit) => [(0, (.int .i64 s0.1)), (3, (.string s0.2))]) (fun (s0 : Int × ByteArray) (_ : Unit) w' => Cx w0 fp0 S0 w' []) (k_, .empty) () f0 ⟨rfl, rfl, trivial⟩ (H.sel [] rfl) ?_
   ·
    clear H
    rintro T0 ⟨s0_0, s0_1⟩ _ w1 o0 (H : Cx w0 fp0 S0 w1 []) hrt f2
    refine sq ?_
    obtain ⟨a0, e, f3⟩ := bindS f2; clear f2
    refine boolO e ?_; clear e
    cases a0
    ·
     have f4 := condF f3; clear f3
     have hs := Option.some.inj f4; subst hs; clear f4
     have f5 : some _ = some _ := congrArg some (hrt _ rfl).symm
     exact ⟨s0_1, ⟨rfl, trivial⟩, Option.some.inj f5, H.sel [] rfl⟩
    ·
     have f6 := condT f3; clear f3
     obtain ⟨a2, e, f7⟩ := bindS f6; clear f6
     refine remO_ e ?_; clear e
     obtain ⟨a3, e, f8⟩ := bindS f7; clear f7
     refine arO e ?_; clear e
     obtain ⟨a4, e, f9⟩ := bindS f8; clear f8
     refine convIY gok rfl rfl e ?_; clear e
     refine lit1S (α := By) gok rfl rfl rfl rfl H ?_; clear H; intro h0 w2 hx H
     clear hx
     obtain ⟨a5, e, f10⟩ := bindS f9; clear f9
     refine convBZ (xs := ([a4] : List By)) gok rfl rfl rfl (H.ro (α := List By) 0 rfl) e ?_; clear e
     obtain ⟨a6, e, f11⟩ := bindS f10; clear f10
     refine catZ e ?_; clear e
     obtain ⟨a7, e, f12⟩ := bindS f11; clear f11
     refine quoO_ e ?_; clear e
     have hs := Option.some.inj f12; subst hs; clear f12
     exact ⟨(a7, a6), (), rfl, ⟨rfl, rfl, trivial⟩, H.sel [] rfl⟩
  ·
   clear f0 H
   rintro T1 s1 w3 ⟨hr, (H : Cx w0 fp0 S0 w3 [])⟩
   subst hr
   obtain ⟨a8, e, f13⟩ := bindS f1; clear f1
   refine catZ e ?_; clear e
   cases f13
   exact ⟨_, _, rfl, ⟨rfl, rfl⟩, (H.sel [] rfl).close trivial⟩
 ·
  have f14 := condT hF2; clear hF2
  cases f14
  exact ⟨_, _, rfl, ⟨rfl, rfl⟩, (H.sel [] rfl).close trivial⟩

theorem laws_markNodeS_c (a_ : List (Int × Int × ByteArray)) (a_h : Hd) (k_ : Int) (y0 : List (Int × Int × ByteArray)) (y1 : Int) (hF : F_laws_markNodeS a_ k_ = some (y0, y1)) :
  ConF Tryz.prog 29 #[(a_h).v, (.int .i64 k_)] [] [E (List (Int × Int × ByteArray)) a_ a_h] (fun v Γ' => v = (.int .i64 y1) ∧ Γ' = [E (List (Int × Int × ByteArray)) y0 a_h]) := by
 intro w0 S0 fp0 hI hS
 have H : Cx w0 fp0 S0 w0 [E (List (Int × Int × ByteArray)) a_ a_h] := Cx.start hI hS
 clear hI hS
 refine enterC (args := [_, _]) gok Tryz.func29 rfl _ rfl rfl rfl ?_
 obtain ⟨r0, f0, f1⟩ := bindS hF; clear hF
 refine cut (fun (q0 : (List (Int × Int × ByteArray)) × Int) => [(1, (.int .i64 q0.2))]) (fun (q0 : (List (Int × Int × ByteArray)) × Int) w' => (q0.1, q0.2) = r0 ∧ Cx w0 fp0 S0 w' [E (List (Int × Int × ByteArray)) q0.1 a_h]) ?_ ?_
 ·
  refine loopW _ (fun (s0 : (List (Int × Int × ByteArray)) × Int × Int) (_ : Unit) => [(0, (a_h).v), (1, (.int .i64 s0.2.1)), (5, (.int .i64 s0.2.2))]) (fun (s0 : (List (Int × Int × ByteArray)) × Int × Int) (_ : Unit) w' => Cx w0 fp0 S0 w' [E (List (Int × Int × ByteArray)) s0.1 a_h]) (a_, k_, 0) () f0 ⟨rfl, rfl, rfl, trivial⟩ (H.sel [0] rfl) ?_
  ·
   clear H
   rintro T0 ⟨s0_0, s0_1, s0_2⟩ _ w1 o0 (H : Cx w0 fp0 S0 w1 [E (List (Int × Int × ByteArray)) s0_0 a_h]) hrt f2
   refine sq ?_
   refine lenE (H.ro (α := List (Int × Int × ByteArray)) 0 rfl).len ?_
   obtain ⟨a0, e, f3⟩ := bindS f2; clear f2
   refine boolO e ?_; clear e
   cases a0
   ·
    have f4 := condF f3; clear f3
    have hs := Option.some.inj f4; subst hs; clear f4
    have f5 : some _ = some _ := congrArg some (hrt _ rfl).symm
    exact ⟨(s0_0, s0_1), ⟨rfl, trivial⟩, Option.some.inj f5, H.sel [0] rfl⟩
   ·
    have f6 := condT f3; clear f3
    refine sq ?_
    obtain ⟨a1, e, f7⟩ := bindS f6; clear f6
    replace H := H.toEH (α := Int × Int × ByteArray)
    have HH := H; clear H; obtain ⟨p0, m0, g0, c0, c1, c2, c3, H⟩ := HH.peek e; clear HH
    clear e
    obtain ⟨a1_0, a1_1, a1_2⟩ := a1
    obtain ⟨_, _, _⟩ := g0
    refine idxE c0 c1 c2 ?_
    refine fld gok rfl rfl rfl rfl ?_
    replace H := H.takeK 0 rfl
    replace H := H.sel [1, 0] rfl
    refine stX (α := Int × Int × ByteArray) (j := 0) H c0 rfl rfl ?_; clear H; intro w2 H
    replace H := H.sel [1, 0] rfl
    replace H := H.split
    replace H := H.sel [1, 2] rfl
    replace H := H.split
    replace H := H.sel [1, 2] rfl
    replace H := H.sel [1] rfl
    replace H := H.sc (α := ByteArray) a1_2
    replace H := H.sc (α := Int) a1_1
    replace H := H.join (α := Int) (β := ByteArray)
    replace H := H.sc (α := Int) s0_1
    replace H := H.join (α := Int) (β := Int × ByteArray)
    obtain ⟨a2, e, f8⟩ := bindS f7; clear f7
    replace H := H.put c1 e; clear e
    obtain ⟨a3, e, f9⟩ := bindS f8; clear f8
    refine arO e ?_; clear e
    obtain ⟨a4, e, f10⟩ := bindS f9; clear f9
    replace H := H.toEH (α := Int × Int × ByteArray)
    have HH := H; clear H; obtain ⟨p1, m1, g1, c4, c5, c6, c7, H⟩ := HH.peek e; clear HH
    clear e
    obtain ⟨a4_0, a4_1, a4_2⟩ := a4
    obtain ⟨_, _, _⟩ := g1
    refine idxE c4 c5 c6 ?_
    refine fld gok rfl rfl rfl rfl ?_
    replace H := H.takeK 0 rfl
    replace H := H.sel [1, 0] rfl
    refine stX (α := Int × Int × ByteArray) (j := 1) H c4 rfl rfl ?_; clear H; intro w3 H
    replace H := H.sel [1, 0] rfl
    replace H := H.split
    replace H := H.sel [1, 2] rfl
    replace H := H.split
    replace H := H.sel [1, 2] rfl
    replace H := H.sel [1] rfl
    replace H := H.sc (α := ByteArray) a4_2
    replace H := H.sc (α := Int) a3
    replace H := H.join (α := Int) (β := ByteArray)
    replace H := H.sc (α := Int) a4_0
    replace H := H.join (α := Int) (β := Int × ByteArray)
    obtain ⟨a5, e, f11⟩ := bindS f10; clear f10
    replace H := H.put c5 e; clear e
    obtain ⟨a6, e, f12⟩ := bindS f11; clear f11
    refine arO e ?_; clear e
    obtain ⟨y2, e, f13⟩ := bindS f12; clear f12
    have ey493 := e; clear e
    refine callF (laws_markText_c a6 y2 ey493) (Γi := []) H trivial ?_; clear H ey493
    rintro _ _ w4 ⟨rfl, rfl⟩ H
    obtain ⟨a7, e, f14⟩ := bindS f13; clear f13
    replace H := H.toEH (α := Int × Int × ByteArray)
    have HH := H; clear H; obtain ⟨p2, m2, g2, c8, c9, c10, c11, H⟩ := HH.peek e; clear HH
    clear e
    obtain ⟨a7_0, a7_1, a7_2⟩ := a7
    obtain ⟨_, _, _⟩ := g2
    refine idxE c8 c9 c10 ?_
    refine fld gok rfl rfl rfl rfl ?_
    replace H := H.takeK 0 rfl
    replace H := H.sel [1, 0] rfl
    refine stX (α := Int × Int × ByteArray) (j := 2) H c8 rfl rfl ?_; clear H; intro w5 H
    replace H := H.sel [1, 0] rfl
    replace H := H.split
    replace H := H.sel [1, 2] rfl
    replace H := H.split
    replace H := H.sel [1, 2] rfl
    replace H := H.sel [1] rfl
    replace H := H.sc (α := ByteArray) y2
    replace H := H.sc (α := Int) a7_1
    replace H := H.join (α := Int) (β := ByteArray)
    replace H := H.sc (α := Int) a7_0
    replace H := H.join (α := Int) (β := Int × ByteArray)
    obtain ⟨a8, e, f15⟩ := bindS f14; clear f14
    replace H := H.put c9 e; clear e
    obtain ⟨a9, e, f16⟩ := bindS f15; clear f15
    refine arO e ?_; clear e
    obtain ⟨a10, e, f17⟩ := bindS f16; clear f16
    refine arO e ?_; clear e
    have hs := Option.some.inj f17; subst hs; clear f17
    exact ⟨(a8, a9, a10), (), rfl, ⟨rfl, rfl, rfl, trivial⟩, H.sel [0] rfl⟩
 ·
  clear f0 H
  rintro T1 ⟨s1_0, s1_1⟩ w6 ⟨hr, (H : Cx w0 fp0 S0 w6 [E (List (Int × Int × ByteArray)) s1_0 a_h])⟩
  subst hr
  cases f1
  exact ⟨_, _, rfl, ⟨rfl, rfl⟩, (H.sel [0] rfl).close ⟨cloE, trivial⟩⟩

theorem laws_markRuleS_c (a_ : List (ByteArray × (List (Int × Int × ByteArray)) × (List (Int × Int × ByteArray)))) (a_h : Hd) (k_ : Int) (y0 : List (ByteArray × (List (Int × Int × ByteArray)) × (List (Int × Int × ByteArray)))) (y1 : Int) (hF : F_laws_markRuleS a_ k_ = some (y0, y1)) :
  ConF Tryz.prog 10 #[(a_h).v, (.int .i64 k_)] [] [E (List (ByteArray × (List (Int × Int × ByteArray)) × (List (Int × Int × ByteArray)))) a_ a_h] (fun v Γ' => v = (.int .i64 y1) ∧ Γ' = [E (List (ByteArray × (List (Int × Int × ByteArray)) × (List (Int × Int × ByteArray)))) y0 a_h]) := by
 intro w0 S0 fp0 hI hS
 have H : Cx w0 fp0 S0 w0 [E (List (ByteArray × (List (Int × Int × ByteArray)) × (List (Int × Int × ByteArray)))) a_ a_h] := Cx.start hI hS
 clear hI hS
 refine enterC (args := [_, _]) gok Tryz.func10 rfl _ rfl rfl rfl ?_
 obtain ⟨r0, f0, f1⟩ := bindS hF; clear hF
 refine cut (fun (q0 : (List (ByteArray × (List (Int × Int × ByteArray)) × (List (Int × Int × ByteArray)))) × Int) => [(1, (.int .i64 q0.2))]) (fun (q0 : (List (ByteArray × (List (Int × Int × ByteArray)) × (List (Int × Int × ByteArray)))) × Int) w' => (q0.1, q0.2) = r0 ∧ Cx w0 fp0 S0 w' [E (List (ByteArray × (List (Int × Int × ByteArray)) × (List (Int × Int × ByteArray)))) q0.1 a_h]) ?_ ?_
 ·
  refine loopW _ (fun (s0 : (List (ByteArray × (List (Int × Int × ByteArray)) × (List (Int × Int × ByteArray)))) × Int × Int) (_ : Unit) => [(0, (a_h).v), (1, (.int .i64 s0.2.1)), (5, (.int .i64 s0.2.2))]) (fun (s0 : (List (ByteArray × (List (Int × Int × ByteArray)) × (List (Int × Int × ByteArray)))) × Int × Int) (_ : Unit) w' => Cx w0 fp0 S0 w' [E (List (ByteArray × (List (Int × Int × ByteArray)) × (List (Int × Int × ByteArray)))) s0.1 a_h]) (a_, k_, 0) () f0 ⟨rfl, rfl, rfl, trivial⟩ (H.sel [0] rfl) ?_
  ·
   clear H
   rintro T0 ⟨s0_0, s0_1, s0_2⟩ _ w1 o0 (H : Cx w0 fp0 S0 w1 [E (List (ByteArray × (List (Int × Int × ByteArray)) × (List (Int × Int × ByteArray)))) s0_0 a_h]) hrt f2
   refine sq ?_
   refine lenE (H.ro (α := List (ByteArray × (List (Int × Int × ByteArray)) × (List (Int × Int × ByteArray)))) 0 rfl).len ?_
   obtain ⟨a0, e, f3⟩ := bindS f2; clear f2
   refine boolO e ?_; clear e
   cases a0
   ·
    have f4 := condF f3; clear f3
    have hs := Option.some.inj f4; subst hs; clear f4
    have f5 : some _ = some _ := congrArg some (hrt _ rfl).symm
    exact ⟨(s0_0, s0_1), ⟨rfl, trivial⟩, Option.some.inj f5, H.sel [0] rfl⟩
   ·
    have f6 := condT f3; clear f3
    refine sq ?_
    obtain ⟨y2, e, f7⟩ := bindS f6; clear f6
    have ey445 := e; clear e
    refine callF (laws_markText_c s0_1 y2 ey445) (Γi := []) H trivial ?_; clear H ey445
    rintro _ _ w2 ⟨rfl, rfl⟩ H
    obtain ⟨a1, e, f8⟩ := bindS f7; clear f7
    replace H := H.toEH (α := ByteArray × (List (Int × Int × ByteArray)) × (List (Int × Int × ByteArray)))
    have HH := H; clear H; obtain ⟨p0, m0, g0, c0, c1, c2, c3, H⟩ := HH.peek e; clear HH
    clear e
    obtain ⟨a1_0, a1_1_0, a1_2_0⟩ := a1
    obtain ⟨_, h0, h1⟩ := g0
    refine idxE c0 c1 c2 ?_
    refine fld gok rfl rfl rfl rfl ?_
    replace H := H.takeK 0 rfl
    replace H := H.sel [1, 0] rfl
    refine stX (α := ByteArray × (List (Int × Int × ByteArray)) × (List (Int × Int × ByteArray))) (j := 0) H c0 rfl rfl ?_; clear H; intro w3 H
    replace H := H.sel [1, 0] rfl
    replace H := H.split
    replace H := H.sel [1, 2] rfl
    replace H := H.split
    replace H := H.join (α := (List (Int × Int × ByteArray))) (β := (List (Int × Int × ByteArray)))
    replace H := H.sc (α := ByteArray) y2
    replace H := H.join (α := ByteArray) (β := (List (Int × Int × ByteArray)) × (List (Int × Int × ByteArray)))
    obtain ⟨a2, e, f9⟩ := bindS f8; clear f8
    replace H := H.put c1 e; clear e
    obtain ⟨a3, e, f10⟩ := bindS f9; clear f9
    refine arO e ?_; clear e
    obtain ⟨a4, e, f11⟩ := bindS f10; clear f10
    replace H := H.toEH (α := ByteArray × (List (Int × Int × ByteArray)) × (List (Int × Int × ByteArray)))
    have HH := H; clear H; obtain ⟨p1, m1, g1, c4, c5, c6, c7, H⟩ := HH.peek e; clear HH
    clear e
    obtain ⟨a4_0, a4_1_0, a4_2_0⟩ := a4
    obtain ⟨_, h2, h3⟩ := g1
    refine idxE c4 c5 c6 ?_
    refine fld gok rfl rfl rfl rfl ?_
    refine fld0 gok rfl rfl rfl rfl ?_
    refine load1 (c7 1 _ rfl) ?_
    obtain ⟨y3, e, f12⟩ := bindS f11; clear f11
    obtain ⟨y3_0, y3_1⟩ := y3
    have ey483 := e; clear e
    replace H := H.takeK 0 rfl
    replace H := H.split
    replace H := H.sel [1, 2] rfl
    replace H := H.split
    refine callF (laws_markNodeS_c a4_1_0 h2 a3 y3_0 y3_1 ey483) (Γi := [E (List (Int × Int × ByteArray)) a4_1_0 h2]) H trivial ?_; clear H ey483
    rintro _ _ w4 ⟨rfl, rfl⟩ H
    replace H := H.join (α := (List (Int × Int × ByteArray))) (β := (List (Int × Int × ByteArray)))
    replace H := H.sc (α := ByteArray) a4_0
    replace H := H.join (α := ByteArray) (β := (List (Int × Int × ByteArray)) × (List (Int × Int × ByteArray)))
    obtain ⟨a5, e, f13⟩ := bindS f12; clear f12
    replace H := H.put c5 e; clear e
    obtain ⟨a6, e, f14⟩ := bindS f13; clear f13
    replace H := H.toEH (α := ByteArray × (List (Int × Int × ByteArray)) × (List (Int × Int × ByteArray)))
    have HH := H; clear H; obtain ⟨p2, m2, g2, c8, c9, c10, c11, H⟩ := HH.peek e; clear HH
    clear e
    obtain ⟨a6_0, a6_1_0, a6_2_0⟩ := a6
    obtain ⟨_, h4, h5⟩ := g2
    refine idxE c8 c9 c10 ?_
    refine fld gok rfl rfl rfl rfl ?_
    refine fld0 gok rfl rfl rfl rfl ?_
    refine load1 (c11 2 _ rfl) ?_
    obtain ⟨y4, e, f15⟩ := bindS f14; clear f14
    obtain ⟨y4_0, y4_1⟩ := y4
    have ey507 := e; clear e
    replace H := H.takeK 0 rfl
    replace H := H.split
    replace H := H.sel [1, 2] rfl
    replace H := H.split
    replace H := H.sel [1, 0, 2] rfl
    refine callF (laws_markNodeS_c a6_2_0 h5 y3_1 y4_0 y4_1 ey507) (Γi := [E (List (Int × Int × ByteArray)) a6_2_0 h5]) H trivial ?_; clear H ey507
    rintro _ _ w5 ⟨rfl, rfl⟩ H
    replace H := H.sel [1, 0, 2] rfl
    replace H := H.join (α := (List (Int × Int × ByteArray))) (β := (List (Int × Int × ByteArray)))
    replace H := H.sc (α := ByteArray) a6_0
    replace H := H.join (α := ByteArray) (β := (List (Int × Int × ByteArray)) × (List (Int × Int × ByteArray)))
    obtain ⟨a7, e, f16⟩ := bindS f15; clear f15
    replace H := H.put c9 e; clear e
    obtain ⟨a8, e, f17⟩ := bindS f16; clear f16
    refine arO e ?_; clear e
    have hs := Option.some.inj f17; subst hs; clear f17
    exact ⟨(a7, y4_1, a8), (), rfl, ⟨rfl, rfl, rfl, trivial⟩, H.sel [0] rfl⟩
 ·
  clear f0 H
  rintro T1 ⟨s1_0, s1_1⟩ w6 ⟨hr, (H : Cx w0 fp0 S0 w6 [E (List (ByteArray × (List (Int × Int × ByteArray)) × (List (Int × Int × ByteArray)))) s1_0 a_h])⟩
  subst hr
  cases f1
  exact ⟨_, _, rfl, ⟨rfl, rfl⟩, (H.sel [0] rfl).close ⟨cloE, trivial⟩⟩

theorem laws_markIntS_c (a_ : List Int) (a_h : Hd) (k_ : Int) (y0 : List Int) (y1 : Int) (hF : F_laws_markIntS a_ k_ = some (y0, y1)) :
  ConF Tryz.prog 11 #[(a_h).v, (.int .i64 k_)] [] [E (List Int) a_ a_h] (fun v Γ' => v = (.int .i64 y1) ∧ Γ' = [E (List Int) y0 a_h]) := by
 intro w0 S0 fp0 hI hS
 have H : Cx w0 fp0 S0 w0 [E (List Int) a_ a_h] := Cx.start hI hS
 clear hI hS
 refine enterC (args := [_, _]) gok Tryz.func11 rfl _ rfl rfl rfl ?_
 obtain ⟨r0, f0, f1⟩ := bindS hF; clear hF
 refine cut (fun (q0 : List Int × Int) => [(1, (.int .i64 q0.2))]) (fun (q0 : List Int × Int) w' => (q0.1, q0.2) = r0 ∧ Cx w0 fp0 S0 w' [E (List Int) q0.1 a_h]) ?_ ?_
 ·
  refine loopW _ (fun (s0 : List Int × Int × Int) (_ : Unit) => [(0, (a_h).v), (1, (.int .i64 s0.2.1)), (5, (.int .i64 s0.2.2))]) (fun (s0 : List Int × Int × Int) (_ : Unit) w' => Cx w0 fp0 S0 w' [E (List Int) s0.1 a_h]) (a_, k_, 0) () f0 ⟨rfl, rfl, rfl, trivial⟩ (H.sel [0] rfl) ?_
  ·
   clear H
   rintro T0 ⟨s0_0, s0_1, s0_2⟩ _ w1 o0 (H : Cx w0 fp0 S0 w1 [E (List Int) s0_0 a_h]) hrt f2
   refine sq ?_
   refine lenE (H.ro (α := List Int) 0 rfl).len ?_
   obtain ⟨a0, e, f3⟩ := bindS f2; clear f2
   refine boolO e ?_; clear e
   cases a0
   ·
    have f4 := condF f3; clear f3
    have hs := Option.some.inj f4; subst hs; clear f4
    have f5 : some _ = some _ := congrArg some (hrt _ rfl).symm
    exact ⟨(s0_0, s0_1), ⟨rfl, trivial⟩, Option.some.inj f5, H.sel [0] rfl⟩
   ·
    have f6 := condT f3; clear f3
    refine sq ?_
    obtain ⟨a1, e, f7⟩ := bindS f6; clear f6
    have ea131 := e; clear e
    obtain ⟨p0, m0, c0, c1, c2⟩ := (H.ro (α := List Int) 0 rfl).setp ea131
    refine idxE c0 c1 c2 ?_
    refine setS (α := Int) H c0 c1 ea131 ?_; clear H c0 c1 c2 ea131; intro w2 H
    obtain ⟨a2, e, f8⟩ := bindS f7; clear f7
    refine arO e ?_; clear e
    obtain ⟨a3, e, f9⟩ := bindS f8; clear f8
    refine arO e ?_; clear e
    have hs := Option.some.inj f9; subst hs; clear f9
    exact ⟨(a1, a2, a3), (), rfl, ⟨rfl, rfl, rfl, trivial⟩, H.sel [0] rfl⟩
 ·
  clear f0 H
  rintro T1 ⟨s1_0, s1_1⟩ w3 ⟨hr, (H : Cx w0 fp0 S0 w3 [E (List Int) s1_0 a_h])⟩
  subst hr
  cases f1
  exact ⟨_, _, rfl, ⟨rfl, rfl⟩, (H.sel [0] rfl).close ⟨cloE, trivial⟩⟩

theorem laws_heldIntS_c (a_ : List Int) (a_h : Hd) (k_ : Int) (y : Int) (hF : F_laws_heldIntS a_ k_ = some y) :
  ConF Tryz.prog 12 #[(a_h).v, (.int .i64 k_)] [Es (List Int) a_ a_h] [] (fun v Γ' => v = (.int .i64 y) ∧ Γ' = []) := by
 intro w0 S0 fp0 hI hS
 have H : Cx w0 fp0 S0 w0 [Es (List Int) a_ a_h] := Cx.start hI hS
 clear hI hS
 refine enterC (args := [_, _]) gok Tryz.func12 rfl _ rfl rfl rfl ?_
 obtain ⟨r0, f0, f1⟩ := bindS hF; clear hF
 refine cut (fun (q0 : Int) => [(1, (.int .i64 q0))]) (fun (q0 : Int) w' => .inl q0 = r0 ∧ Cx w0 fp0 S0 w' []) ?_ ?_
 ·
  refine loopW _ (fun (s0 : Int × Int) (_ : Unit) => [(0, (a_h).v), (1, (.int .i64 s0.1)), (5, (.int .i64 s0.2))]) (fun (s0 : Int × Int) (_ : Unit) w' => Cx w0 fp0 S0 w' [Es (List Int) a_ a_h]) (k_, 0) () f0 ⟨rfl, rfl, rfl, trivial⟩ (H.sel [0] rfl) ?_
  ·
   clear H
   rintro T0 ⟨s0_0, s0_1⟩ _ w1 o0 (H : Cx w0 fp0 S0 w1 [Es (List Int) a_ a_h]) hrt f2
   refine sq ?_
   refine lenE (H.rs (α := List Int) 0 rfl).len ?_
   obtain ⟨a0, e, f3⟩ := bindS f2; clear f2
   refine boolO e ?_; clear e
   cases a0
   ·
    have f4 := condF f3; clear f3
    have hs := Option.some.inj f4; subst hs; clear f4
    have f5 : some _ = some _ := congrArg some (hrt _ rfl).symm
    exact ⟨s0_0, ⟨rfl, trivial⟩, Option.some.inj f5, H.sel [] rfl⟩
   ·
    have f6 := condT f3; clear f3
    refine sq ?_
    refine sq ?_
    obtain ⟨a1, e, f7⟩ := bindS f6; clear f6
    obtain ⟨p0, m0, c0, c1, c2, c3⟩ := (H.rs (α := List Int) 0 rfl).at1 e; clear e
    refine idxE c0 c1 c2 ?_; clear c0 c1 c2
    refine load1 c3 ?_; clear c3
    obtain ⟨a2, e, f8⟩ := bindS f7; clear f7
    refine boolO e ?_; clear e
    cases a2
    ·
     have f9 := condF f8; clear f8
     obtain ⟨a3, e, f10⟩ := bindS f9; clear f9
     refine arO e ?_; clear e
     obtain ⟨a4, e, f11⟩ := bindS f10; clear f10
     refine arO e ?_; clear e
     have hs := Option.some.inj f11; subst hs; clear f11
     exact ⟨(a3, a4), (), rfl, ⟨rfl, rfl, rfl, trivial⟩, H.sel [0] rfl⟩
    ·
     have f12 := condT f8; clear f8
     have hs := Option.some.inj f12; subst hs; clear f12
     have f13 : some _ = some _ := congrArg some (hrt _ rfl).symm
     have hs := Option.some.inj f13; subst hs; clear f13
     have f14 : some _ = some _ := f1; clear f1
     cases f14
     exact ⟨_, _, rfl, ⟨rfl, rfl⟩, (H.sel [] rfl).close trivial⟩
 ·
  clear f0 H
  rintro T1 s1 w2 ⟨hr, (H : Cx w0 fp0 S0 w2 [])⟩
  subst hr
  cases f1
  exact ⟨_, _, rfl, ⟨rfl, rfl⟩, (H.sel [] rfl).close trivial⟩

theorem laws_FnExactFindWeights_c (aRules_ : List (ByteArray × (List (Int × Int × ByteArray)) × (List (Int × Int × ByteArray)))) (aRules_h : Hd) (aMost_ : Int) (y : Bool) (hF : F_laws_FnExactFindWeights aRules_ aMost_ = some y) :
  ConF Tryz.prog 3 #[(aRules_h).v, (.int .i64 aMost_)] [Es (List (ByteArray × (List (Int × Int × ByteArray)) × (List (Int × Int × ByteArray)))) aRules_ aRules_h] [] (fun v Γ' => v = (.bool y) ∧ Γ' = []) := by
 intro w0 S0 fp0 hI hS
 have H : Cx w0 fp0 S0 w0 [Es (List (ByteArray × (List (Int × Int × ByteArray)) × (List (Int × Int × ByteArray)))) aRules_ aRules_h] := Cx.start hI hS
 clear hI hS
 refine enterC (args := [_, _]) gok Tryz.func3 rfl _ rfl rfl rfl ?_
 obtain ⟨y2, e, hF3⟩ := bindS hF; clear hF
 have ey2 := e; clear e
 refine callF (laws_szRuleS_c aRules_ aRules_h 1048576 y2 ey2) (Γi := []) H ⟨Vw.sh 0 rfl, trivial⟩ ?_; clear H ey2
 rintro _ _ w4 ⟨rfl, rfl⟩ H
 refine sq ?_
 obtain ⟨a5, e, hF6⟩ := bindS hF3; clear hF3
 refine boolO e ?_; clear e
 cases a5
 ·
  have hF7 := condF hF6; clear hF6
  obtain ⟨y8, e, hF9⟩ := bindS hF7; clear hF7
  have ey8 := e; clear e
  refine callF (laws_toRuleS_c aRules_ aRules_h y8 ey8) (Γi := []) H ⟨Vw.sh 0 rfl, trivial⟩ ?_; clear H ey8
  rintro _ _ w1 ⟨h0, rfl, rfl⟩ H
  obtain ⟨y0, e, f0⟩ := bindS hF9; clear hF9
  obtain ⟨y0_0, y0_1⟩ := y0
  have ey13 := e; clear e
  refine callF (spec_FindWeights_c y8 h0 aMost_ y0_0 y0_1 ey13) (Γi := []) H ⟨Vw.own 0 rfl, trivial⟩ ?_; clear H ey13
  rintro _ _ w2 ⟨h1, rfl, rfl⟩ H
  obtain ⟨y1, e, f1⟩ := bindS f0; clear f0
  have ey18 := e; clear e
  refine callF (laws_toRuleS_c aRules_ aRules_h y1 ey18) (Γi := []) H ⟨Vw.sh 2 rfl, trivial⟩ ?_; clear H ey18
  rintro _ _ w3 ⟨h2, rfl, rfl⟩ H
  obtain ⟨y3, e, f2⟩ := bindS f1; clear f1
  obtain ⟨y3_0, y3_1⟩ := y3
  have ey23 := e; clear e
  refine callF (impl_FindWeights_c y1 h2 aMost_ y3_0 y3_1 ey23) (Γi := []) H ⟨Vw.own 0 rfl, trivial⟩ ?_; clear H ey23
  rintro _ _ w5 ⟨h3, rfl, rfl⟩ H
  refine sq ?_
  obtain ⟨r0, f3, f4⟩ := bindS f2; clear f2
  refine cut (fun (q0 : Bool) => [(0, (aRules_h).v), (1, (.int .i64 aMost_)), (6, (h1).v), (7, (.bool y0_1)), (8, (h2).v), (9, (h3).v), (10, (.bool y3_1)), (44, (.bool q0))]) (fun (q0 : Bool) w' => q0 = r0 ∧ Cx w0 fp0 S0 w' [Es (List (ByteArray × (List (Int × Int × ByteArray)) × (List (Int × Int × ByteArray)))) aRules_ aRules_h, E (List Int) y0_0 h1, E (List (ByteArray × (List (Int × Int × ByteArray)) × (List (Int × Int × ByteArray)))) y1 h2, E (List Int) y3_0 h3]) ?_ ?_
  ·
   obtain ⟨y4, e, f5⟩ := bindS f3; clear f3
   have ey43 := e; clear e
   refine callF (laws_eqIntS_c y3_0 h3 y0_0 h1 y4 ey43) (Γi := []) H ⟨Vw.own 0 rfl, Vw.own 2 rfl, trivial⟩ ?_; clear H ey43
   rintro _ _ w6 ⟨rfl, rfl⟩ H
   obtain ⟨a0, e, f6⟩ := bindS f5; clear f5
   refine boolO e ?_; clear e
   cases a0
   ·
    have f7 := condF f6; clear f6
    obtain ⟨a1, e, f8⟩ := bindS f7; clear f7
    refine boolO e ?_; clear e
    exact ⟨a1, ⟨rfl, rfl, rfl, rfl, rfl, rfl, rfl, rfl, trivial⟩, Option.some.inj f8, H.sel [4, 2, 1, 0] rfl⟩
   ·
    have f9 := condT f6; clear f6
    exact ⟨true, ⟨rfl, rfl, rfl, rfl, rfl, rfl, rfl, rfl, trivial⟩, Option.some.inj f9, H.sel [4, 2, 1, 0] rfl⟩
  ·
   clear f3 H
   rintro T0 s0 w7 ⟨hr, (H : Cx w0 fp0 S0 w7 [Es (List (ByteArray × (List (Int × Int × ByteArray)) × (List (Int × Int × ByteArray)))) aRules_ aRules_h, E (List Int) y0_0 h1, E (List (ByteArray × (List (Int × Int × ByteArray)) × (List (Int × Int × ByteArray)))) y1 h2, E (List Int) y3_0 h3])⟩
   subst hr
   cases s0
   ·
    have f10 := condF f4; clear f4
    refine sq ?_
    obtain ⟨y5, e, f11⟩ := bindS f10; clear f10
    have ey55 := e; clear e
    refine callF (laws_toRuleS_c aRules_ aRules_h y5 ey55) (Γi := []) H ⟨Vw.sh 0 rfl, trivial⟩ ?_; clear H ey55
    rintro _ _ w8 ⟨h4, rfl, rfl⟩ H
    obtain ⟨y6, e, f12⟩ := bindS f11; clear f11
    have ey60 := e; clear e
    refine callF (laws_eqRuleS_c y1 h2 y5 h4 y6 ey60) (Γi := []) H ⟨Vw.own 3 rfl, Vw.own 0 rfl, trivial⟩ ?_; clear H ey60
    rintro _ _ w9 ⟨rfl, rfl⟩ H
    obtain ⟨a2, e, f13⟩ := bindS f12; clear f12
    refine boolO e ?_; clear e
    cases a2
    ·
     have f14 := condF f13; clear f13
     obtain ⟨y7, e, f15⟩ := bindS f14; clear f14
     obtain ⟨y7_0, y7_1⟩ := y7
     have ey66 := e; clear e
     replace H := H.sel [3, 0, 1, 2, 4] rfl
     refine callF (laws_markRuleS_c y1 h2 1 y7_0 y7_1 ey66) (Γi := [E (List (ByteArray × (List (Int × Int × ByteArray)) × (List (Int × Int × ByteArray)))) y1 h2]) H trivial ?_; clear H ey66
     rintro _ _ w11 ⟨rfl, rfl⟩ H
     refine sq ?_
     obtain ⟨r1, f16, f17⟩ := bindS f15; clear f15
     refine cut (fun (q1 : Bool) => [(0, (aRules_h).v), (1, (.int .i64 aMost_)), (6, (h1).v), (7, (.bool y0_1)), (9, (h3).v), (65, (.bool q1))]) (fun (q1 : Bool) w' => q1 = r1 ∧ Cx w0 fp0 S0 w' [Es (List (ByteArray × (List (Int × Int × ByteArray)) × (List (Int × Int × ByteArray)))) aRules_ aRules_h, E (List Int) y0_0 h1, E (List Int) y3_0 h3]) ?_ ?_
     ·
      obtain ⟨a3, e, f18⟩ := bindS f16; clear f16
      refine boolO e ?_; clear e
      cases a3
      ·
       have f19 := condF f18; clear f18
       obtain ⟨y9, e, f20⟩ := bindS f19; clear f19
       have ey91 := e; clear e
       refine callF (laws_eqIntS_c y3_0 h3 y0_0 h1 y9 ey91) (Γi := []) H ⟨Vw.own 4 rfl, Vw.own 3 rfl, trivial⟩ ?_; clear H ey91
       rintro _ _ w12 ⟨rfl, rfl⟩ H
       obtain ⟨a4, e, f21⟩ := bindS f20; clear f20
       refine boolO e ?_; clear e
       cases a4
       ·
        have f22 := condF f21; clear f21
        obtain ⟨a6, e, f23⟩ := bindS f22; clear f22
        refine boolO e ?_; clear e
        exact ⟨a6, ⟨rfl, rfl, rfl, rfl, rfl, rfl, trivial⟩, Option.some.inj f23, H.sel [2, 3, 4] rfl⟩
       ·
        have f24 := condT f21; clear f21
        exact ⟨true, ⟨rfl, rfl, rfl, rfl, rfl, rfl, trivial⟩, Option.some.inj f24, H.sel [2, 3, 4] rfl⟩
      ·
       have f25 := condT f18; clear f18
       exact ⟨true, ⟨rfl, rfl, rfl, rfl, rfl, rfl, trivial⟩, Option.some.inj f25, H.sel [2, 3, 4] rfl⟩
     ·
      clear f16 H
      rintro T1 s1 w13 ⟨hr, (H : Cx w0 fp0 S0 w13 [Es (List (ByteArray × (List (Int × Int × ByteArray)) × (List (Int × Int × ByteArray)))) aRules_ aRules_h, E (List Int) y0_0 h1, E (List Int) y3_0 h3])⟩
      subst hr
      cases s1
      ·
       have f26 := condF f17; clear f17
       obtain ⟨y10, e, f27⟩ := bindS f26; clear f26
       obtain ⟨y10_0, y10_1⟩ := y10
       have ey104 := e; clear e
       replace H := H.sel [2, 0, 1] rfl
       refine callF (laws_markIntS_c y3_0 h3 1 y10_0 y10_1 ey104) (Γi := [E (List Int) y3_0 h3]) H trivial ?_; clear H ey104
       rintro _ _ w14 ⟨rfl, rfl⟩ H
       obtain ⟨y11, e, f28⟩ := bindS f27; clear f27
       have ey107 := e; clear e
       refine callF (laws_heldIntS_c y10_0 h3 1 y11 ey107) (Γi := []) H ⟨Vw.own 0 rfl, trivial⟩ ?_; clear H ey107
       rintro _ _ w16 ⟨rfl, rfl⟩ H
       refine sq ?_
       obtain ⟨a7, e, f29⟩ := bindS f28; clear f28
       refine boolO e ?_; clear e
       cases a7
       ·
        have f30 := condF f29; clear f29
        refine sq ?_
        obtain ⟨a8, e, f31⟩ := bindS f30; clear f30
        refine boolO e ?_; clear e
        cases a8
        ·
         have f32 := condF f31; clear f31
         obtain ⟨y12, e, f33⟩ := bindS f32; clear f32
         have ey116 := e; clear e
         refine callF (laws_toRuleS_c aRules_ aRules_h y12 ey116) (Γi := []) H ⟨Vw.sh 1 rfl, trivial⟩ ?_; clear H ey116
         rintro _ _ w17 ⟨h5, rfl, rfl⟩ H
         obtain ⟨y14, e, f34⟩ := bindS f33; clear f33
         obtain ⟨y14_0, y14_1⟩ := y14
         have ey121 := e; clear e
         refine callF (impl_FindWeights_c y12 h5 aMost_ y14_0 y14_1 ey121) (Γi := []) H ⟨Vw.own 0 rfl, trivial⟩ ?_; clear H ey121
         rintro _ _ w18 ⟨h6, rfl, rfl⟩ H
         refine sq ?_
         obtain ⟨r2, f35, f36⟩ := bindS f34; clear f34
         refine cut (fun (q2 : Bool) => [(9, (h3).v), (12, (.int .i64 y10_1)), (92, (.bool q2))]) (fun (q2 : Bool) w' => q2 = r2 ∧ Cx w0 fp0 S0 w' [E (List Int) y10_0 h3]) ?_ ?_
         ·
          obtain ⟨y15, e, f37⟩ := bindS f35; clear f35
          have ey141 := e; clear e
          refine callF (laws_eqIntS_c y14_0 h6 y0_0 h1 y15 ey141) (Γi := []) H ⟨Vw.own 0 rfl, Vw.own 4 rfl, trivial⟩ ?_; clear H ey141
          rintro _ _ w19 ⟨rfl, rfl⟩ H
          obtain ⟨a9, e, f38⟩ := bindS f37; clear f37
          refine boolO e ?_; clear e
          cases a9
          ·
           have f39 := condF f38; clear f38
           obtain ⟨a10, e, f40⟩ := bindS f39; clear f39
           refine boolO e ?_; clear e
           exact ⟨a10, ⟨rfl, rfl, rfl, trivial⟩, Option.some.inj f40, H.sel [2] rfl⟩
          ·
           have f41 := condT f38; clear f38
           exact ⟨true, ⟨rfl, rfl, rfl, trivial⟩, Option.some.inj f41, H.sel [2] rfl⟩
         ·
          clear f35 H
          rintro T2 s2 w21 ⟨hr, (H : Cx w0 fp0 S0 w21 [E (List Int) y10_0 h3])⟩
          subst hr
          cases s2
          ·
           have f42 := condF f36; clear f36
           obtain ⟨y16, e, f43⟩ := bindS f42; clear f42
           have ey153 := e; clear e
           refine callF (laws_heldIntS_c y10_0 h3 1 y16 ey153) (Γi := []) H ⟨Vw.own 0 rfl, trivial⟩ ?_; clear H ey153
           rintro _ _ w22 ⟨rfl, rfl⟩ H
           refine sq ?_
           obtain ⟨a11, e, f44⟩ := bindS f43; clear f43
           refine boolO e ?_; clear e
           cases a11
           ·
            have f45 := condF f44; clear f44
            refine sq ?_
            obtain ⟨a12, e, f46⟩ := bindS f45; clear f45
            refine boolO e ?_; clear e
            cases a12
            ·
             have f47 := condF f46; clear f46
             cases f47
             exact ⟨_, _, rfl, ⟨rfl, rfl⟩, (H.sel [] rfl).close trivial⟩
            ·
             have f48 := condT f46; clear f46
             cases f48
             exact ⟨_, _, rfl, ⟨rfl, rfl⟩, (H.sel [] rfl).close trivial⟩
           ·
            have f49 := condT f44; clear f44
            cases f49
            exact ⟨_, _, rfl, ⟨rfl, rfl⟩, (H.sel [] rfl).close trivial⟩
          ·
           have f50 := condT f36; clear f36
           cases f50
           exact ⟨_, _, rfl, ⟨rfl, rfl⟩, (H.sel [] rfl).close trivial⟩
        ·
         have f51 := condT f31; clear f31
         cases f51
         exact ⟨_, _, rfl, ⟨rfl, rfl⟩, (H.sel [] rfl).close trivial⟩
       ·
        have f52 := condT f29; clear f29
        cases f52
        exact ⟨_, _, rfl, ⟨rfl, rfl⟩, (H.sel [] rfl).close trivial⟩
      ·
       have f53 := condT f17; clear f17
       cases f53
       exact ⟨_, _, rfl, ⟨rfl, rfl⟩, (H.sel [] rfl).close trivial⟩
    ·
     have f54 := condT f13; clear f13
     cases f54
     exact ⟨_, _, rfl, ⟨rfl, rfl⟩, (H.sel [] rfl).close trivial⟩
   ·
    have f55 := condT f4; clear f4
    cases f55
    exact ⟨_, _, rfl, ⟨rfl, rfl⟩, (H.sel [] rfl).close trivial⟩
 ·
  have f56 := condT hF6; clear hF6
  cases f56
  exact ⟨_, _, rfl, ⟨rfl, rfl⟩, (H.sel [] rfl).close trivial⟩
end Go.Proofs.YtnfiffchbelapaaGreat
