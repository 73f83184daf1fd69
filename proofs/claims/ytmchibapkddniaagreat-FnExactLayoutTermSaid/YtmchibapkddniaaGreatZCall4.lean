/-
 Contracts, printed by a program (wip/y/gen.py): each function of Go computes its partial function. Condition of each: its partial function yields a value.
-/
import Derived.Test.YtmchibapkddniaaGreatZCall3
namespace Go.Proofs.YtmchibapkddniaaGreat
open Go Go.Proofs.YtmchibapkddniaaGreat.RW
set_option maxRecDepth 100000
set_option maxHeartbeats 1000000
set_option linter.unusedVariables false

theorem slices_IndexFunc_int_int_impl_Graph_edgeOrder_1_1_c (s_ : List Int) (s_h : Hd) (d0_b : Nat) (d0_ : List Bool) (d0_h : Hd) (y : Int) (hF : F_slices_IndexFunc_int_int_impl_Graph_edgeOrder_1_1 s_ d0_ = some y) :
  ConF Tryz.prog 43 #[(s_h).v, (.func (.func 47) #[] #[(.pointer (some ⟨d0_b, 0, none⟩))])] [Es (List Int) s_ s_h, Es (List Bool) d0_ d0_h] [Bx d0_b [(d0_h).v]] (fun v Γ' => v = (.int .i64 y) ∧ Γ' = [Bx d0_b [(d0_h).v]]) := by
 intro w0 S0 fp0 hI hS
 have H : Cx w0 fp0 S0 w0 [Es (List Int) s_ s_h, Es (List Bool) d0_ d0_h, Bx d0_b [(d0_h).v]] := Cx.start hI hS
 clear hI hS
 refine enterC (args := [_, _]) gok Tryz.func43 rfl _ rfl rfl rfl ?_
 refine sq ?_
 refine lenE (H.rs (α := List Int) 0 rfl).len ?_
 have x0 := (H.rs (α := List Int) 0 rfl).max
 obtain ⟨r0, e, f0⟩ := bindS hF; clear hF
 refine loopO _ s_.length (fun (k4 : Nat) (_ : Unit) (_ : Unit) => [(0, (s_h).v), (1, (.func (.func 47) #[] #[(.pointer (some ⟨d0_b, 0, none⟩))])), (7, (.int .i64 ((s_.length : Nat) : Int))), (8, (.int .i64 ((k4 : Nat) : Int)))]) (fun _ (_ : Unit) (_ : Unit) w' => Cx w0 fp0 S0 w' [Es (List Int) s_ s_h, Bx d0_b [(d0_h).v], Es (List Bool) d0_ d0_h]) () () e ⟨rfl, rfl, rfl, rfl, trivial⟩ (H.sel [0, 2, 1] rfl) ?_ ?_
 ·
  clear H e
  rintro T0 k4 _ _ w1 o0 hk (H : Cx w0 fp0 S0 w1 [Es (List Int) s_ s_h, Bx d0_b [(d0_h).v], Es (List Bool) d0_ d0_h]) hrt f1
  refine boolE (z := true) (ltLen hk) ?_
  refine sq ?_
  refine sq ?_
  obtain ⟨a0, e, f2⟩ := bindS f1; clear f1
  obtain ⟨p0, m0, c0, c1, c2, c3⟩ := (H.rs (α := List Int) 0 rfl).at1 e; clear e
  refine idxE c0 c1 c2 ?_; clear c0 c1 c2
  refine load1 c3 ?_; clear c3
  obtain ⟨y0, e, f3⟩ := bindS f2; clear f2
  have i0 := e; clear e
  replace H := H.sel [1, 0, 2] rfl
  refine callF (impl_Graph_edgeOrder_1_1_c a0 d0_b d0_ d0_h y0 i0) (Γi := [Bx d0_b [(d0_h).v]]) H ⟨Vw.sh 1 rfl, trivial⟩ ?_; clear H i0
  rintro _ _ w2 ⟨rfl, rfl⟩ H
  cases y0
  ·
   have f4 := condF f3; clear f3
   refine arK hk x0 ?_
   have hs := Option.some.inj f4; subst hs; clear f4
   exact ⟨(), (), rfl, ⟨rfl, rfl, rfl, rfl, trivial⟩, H.sel [1, 0, 2] rfl⟩
  ·
   have f5 := condT f3; clear f3
   have hs := Option.some.inj f5; subst hs; clear f5
   have hr := hrt _ rfl; subst hr
   have f6 : some _ = some _ := f0
   cases f6
   exact ⟨_, _, rfl, ⟨rfl, rfl⟩, (H.sel [0] rfl).close ⟨cloB, trivial⟩⟩
 ·
  clear H e
  rintro T1 _ _ w3 hr (H : Cx w0 fp0 S0 w3 [Es (List Int) s_ s_h, Bx d0_b [(d0_h).v], Es (List Bool) d0_ d0_h])
  subst hr
  refine boolE (z := false) geLen ?_
  refine sq ?_
  cases f0
  exact ⟨_, _, rfl, ⟨rfl, rfl⟩, (H.sel [1] rfl).close ⟨cloB, trivial⟩⟩

theorem slices_ContainsFunc_int_int_impl_Graph_edgeOrder_1_1_c (s_ : List Int) (s_h : Hd) (d0_b : Nat) (d0_ : List Bool) (d0_h : Hd) (y : Bool) (hF : F_slices_ContainsFunc_int_int_impl_Graph_edgeOrder_1_1 s_ d0_ = some y) :
  ConF Tryz.prog 46 #[(s_h).v, (.func (.func 47) #[] #[(.pointer (some ⟨d0_b, 0, none⟩))])] [Es (List Int) s_ s_h, Es (List Bool) d0_ d0_h] [Bx d0_b [(d0_h).v]] (fun v Γ' => v = (.bool y) ∧ Γ' = [Bx d0_b [(d0_h).v]]) := by
 intro w0 S0 fp0 hI hS
 have H : Cx w0 fp0 S0 w0 [Es (List Int) s_ s_h, Es (List Bool) d0_ d0_h, Bx d0_b [(d0_h).v]] := Cx.start hI hS
 clear hI hS
 refine enterC (args := [_, _]) gok Tryz.func46 rfl _ rfl rfl rfl ?_
 obtain ⟨y4, e, hF5⟩ := bindS hF; clear hF
 have ey4 := e; clear e
 replace H := H.sel [2, 0, 1] rfl
 refine callF (slices_IndexFunc_int_int_impl_Graph_edgeOrder_1_1_c s_ s_h d0_b d0_ d0_h y4 ey4) (Γi := [Bx d0_b [(d0_h).v]]) H ⟨Vw.sh 0 rfl, Vw.sh 1 rfl, trivial⟩ ?_; clear H ey4
 rintro _ _ w6 ⟨rfl, rfl⟩ H
 obtain ⟨a7, e, hF8⟩ := bindS hF5; clear hF5
 refine boolO e ?_; clear e
 cases hF8
 exact ⟨_, _, rfl, ⟨rfl, rfl⟩, (H.sel [0] rfl).close ⟨cloB, trivial⟩⟩

theorem impl_Graph_edgeOrder_1_c (i_ : Int) (c0_b : Nat) (c0_ : List Bool) (c0_h : Hd) (c1_b : Nat) (c1_ : List (List Int)) (c1_h : Hd) (y : Bool) (hF : F_impl_Graph_edgeOrder_1 i_ c0_ c1_ = some y) :
  ConF Tryz.prog 45 #[(.int .i64 i_), (.pointer (some ⟨c0_b, 0, none⟩)), (.pointer (some ⟨c1_b, 0, none⟩))] [Es (List Bool) c0_ c0_h, Es (List (List Int)) c1_ c1_h] [Bx c0_b [(c0_h).v], Bx c1_b [(c1_h).v]] (fun v Γ' => v = (.bool y) ∧ Γ' = [Bx c0_b [(c0_h).v], Bx c1_b [(c1_h).v]]) := by
 intro w0 S0 fp0 hI hS
 have H : Cx w0 fp0 S0 w0 [Es (List Bool) c0_ c0_h, Es (List (List Int)) c1_ c1_h, Bx c0_b [(c0_h).v], Bx c1_b [(c1_h).v]] := Cx.start hI hS
 clear hI hS
 refine enterC (args := [_, _, _]) gok Tryz.func45 rfl _ rfl rfl rfl ?_
 obtain ⟨r0, f0, f1⟩ := bindS hF; clear hF
 refine cut (fun (q0 : Bool) => [(4, (.bool q0))]) (fun (q0 : Bool) w' => q0 = r0 ∧ Cx w0 fp0 S0 w' [Bx c0_b [(c0_h).v], Bx c1_b [(c1_h).v], Es (List Bool) c0_ c0_h, Es (List (List Int)) c1_ c1_h]) ?_ ?_
 ·
  refine load1 (H.bx0 2 rfl) ?_
  obtain ⟨a0, e, f2⟩ := bindS f0; clear f0
  obtain ⟨p0, m0, c0, c1, c2, c3⟩ := (H.rs (α := List Bool) 0 rfl).at1 e; clear e
  refine idxE c0 c1 c2 ?_; clear c0 c1 c2
  refine load1 c3 ?_; clear c3
  obtain ⟨a1, e, f3⟩ := bindS f2; clear f2
  refine boolO e ?_; clear e
  cases a1
  ·
   have f4 := condF f3; clear f3
   exact ⟨false, ⟨rfl, trivial⟩, Option.some.inj f4, H.sel [2, 3, 0, 1] rfl⟩
  ·
   have f5 := condT f3; clear f3
   refine load1 (H.bx0 3 rfl) ?_
   obtain ⟨a2, e, f6⟩ := bindS f5; clear f5
   have HH := H; clear H; obtain ⟨p1, m1, h0, c4, c5, c6, c7, H⟩ := HH.elL 1 rfl e; clear HH
   clear e
   refine idxE c4 c5 c6 ?_; clear c4 c5 c6
   refine load1 c7 ?_; clear c7
   obtain ⟨y0, e, f7⟩ := bindS f6; clear f6
   have i0 := e; clear e
   replace H := H.sel [3, 0, 1, 2, 4] rfl
   refine callF (slices_ContainsFunc_int_int_impl_Graph_edgeOrder_1_1_c a2 h0 c0_b c0_ c0_h y0 i0) (Γi := [Bx c0_b [(c0_h).v]]) H ⟨Vw.sh 0 rfl, Vw.sh 1 rfl, trivial⟩ ?_; clear H i0
   rintro _ _ w1 ⟨rfl, rfl⟩ H
   obtain ⟨a3, e, f8⟩ := bindS f7; clear f7
   refine boolO e ?_; clear e
   exact ⟨a3, ⟨rfl, trivial⟩, Option.some.inj f8, H.sel [0, 4, 2, 3] rfl⟩
 ·
  clear f0 H
  rintro T0 s0 w2 ⟨hr, (H : Cx w0 fp0 S0 w2 [Bx c0_b [(c0_h).v], Bx c1_b [(c1_h).v], Es (List Bool) c0_ c0_h, Es (List (List Int)) c1_ c1_h])⟩
  subst hr
  cases f1
  exact ⟨_, _, rfl, ⟨rfl, rfl⟩, (H.sel [0, 1] rfl).close ⟨cloB, cloB, trivial⟩⟩

theorem slices_IndexFunc_int_int_impl_Graph_edgeOrder_1_c (s_ : List Int) (s_h : Hd) (d0_b : Nat) (d0_ : List Bool) (d0_h : Hd) (d1_b : Nat) (d1_ : List (List Int)) (d1_h : Hd) (y : Int) (hF : F_slices_IndexFunc_int_int_impl_Graph_edgeOrder_1 s_ d0_ d1_ = some y) :
  ConF Tryz.prog 43 #[(s_h).v, (.func (.func 45) #[] #[(.pointer (some ⟨d0_b, 0, none⟩)), (.pointer (some ⟨d1_b, 0, none⟩))])] [Es (List Int) s_ s_h, Es (List Bool) d0_ d0_h, Es (List (List Int)) d1_ d1_h] [Bx d0_b [(d0_h).v], Bx d1_b [(d1_h).v]] (fun v Γ' => v = (.int .i64 y) ∧ Γ' = [Bx d0_b [(d0_h).v], Bx d1_b [(d1_h).v]]) := by
 intro w0 S0 fp0 hI hS
 have H : Cx w0 fp0 S0 w0 [Es (List Int) s_ s_h, Es (List Bool) d0_ d0_h, Es (List (List Int)) d1_ d1_h, Bx d0_b [(d0_h).v], Bx d1_b [(d1_h).v]] := Cx.start hI hS
 clear hI hS
 refine enterC (args := [_, _]) gok Tryz.func43 rfl _ rfl rfl rfl ?_
 refine sq ?_
 refine lenE (H.rs (α := List Int) 0 rfl).len ?_
 have x0 := (H.rs (α := List Int) 0 rfl).max
 obtain ⟨r0, e, f0⟩ := bindS hF; clear hF
 refine loopO _ s_.length (fun (k6 : Nat) (_ : Unit) (_ : Unit) => [(0, (s_h).v), (1, (.func (.func 45) #[] #[(.pointer (some ⟨d0_b, 0, none⟩)), (.pointer (some ⟨d1_b, 0, none⟩))])), (7, (.int .i64 ((s_.length : Nat) : Int))), (8, (.int .i64 ((k6 : Nat) : Int)))]) (fun _ (_ : Unit) (_ : Unit) w' => Cx w0 fp0 S0 w' [Es (List Int) s_ s_h, Bx d0_b [(d0_h).v], Es (List Bool) d0_ d0_h, Bx d1_b [(d1_h).v], Es (List (List Int)) d1_ d1_h]) () () e ⟨rfl, rfl, rfl, rfl, trivial⟩ (H.sel [0, 3, 1, 4, 2] rfl) ?_ ?_
 ·
  clear H e
  rintro T0 k6 _ _ w1 o0 hk (H : Cx w0 fp0 S0 w1 [Es (List Int) s_ s_h, Bx d0_b [(d0_h).v], Es (List Bool) d0_ d0_h, Bx d1_b [(d1_h).v], Es (List (List Int)) d1_ d1_h]) hrt f1
  refine boolE (z := true) (ltLen hk) ?_
  refine sq ?_
  refine sq ?_
  obtain ⟨a0, e, f2⟩ := bindS f1; clear f1
  obtain ⟨p0, m0, c0, c1, c2, c3⟩ := (H.rs (α := List Int) 0 rfl).at1 e; clear e
  refine idxE c0 c1 c2 ?_; clear c0 c1 c2
  refine load1 c3 ?_; clear c3
  obtain ⟨y0, e, f3⟩ := bindS f2; clear f2
  have i0 := e; clear e
  replace H := H.sel [1, 3, 0, 2, 4] rfl
  refine callF (impl_Graph_edgeOrder_1_c a0 d0_b d0_ d0_h d1_b d1_ d1_h y0 i0) (Γi := [Bx d0_b [(d0_h).v], Bx d1_b [(d1_h).v]]) H ⟨Vw.sh 1 rfl, Vw.sh 2 rfl, trivial⟩ ?_; clear H i0
  rintro _ _ w2 ⟨rfl, rfl⟩ H
  cases y0
  ·
   have f4 := condF f3; clear f3
   refine arK hk x0 ?_
   have hs := Option.some.inj f4; subst hs; clear f4
   exact ⟨(), (), rfl, ⟨rfl, rfl, rfl, rfl, trivial⟩, H.sel [2, 0, 3, 1, 4] rfl⟩
  ·
   have f5 := condT f3; clear f3
   have hs := Option.some.inj f5; subst hs; clear f5
   have hr := hrt _ rfl; subst hr
   have f6 : some _ = some _ := f0
   cases f6
   exact ⟨_, _, rfl, ⟨rfl, rfl⟩, (H.sel [0, 1] rfl).close ⟨cloB, cloB, trivial⟩⟩
 ·
  clear H e
  rintro T1 _ _ w3 hr (H : Cx w0 fp0 S0 w3 [Es (List Int) s_ s_h, Bx d0_b [(d0_h).v], Es (List Bool) d0_ d0_h, Bx d1_b [(d1_h).v], Es (List (List Int)) d1_ d1_h])
  subst hr
  refine boolE (z := false) geLen ?_
  refine sq ?_
  cases f0
  exact ⟨_, _, rfl, ⟨rfl, rfl⟩, (H.sel [1, 3] rfl).close ⟨cloB, cloB, trivial⟩⟩

theorem impl_Graph_edgeOrder_c (g__0 : Int) (g__1 : List (Int × Int × List Int × List Int)) (g__1h : Hd) (g__2 : List Int) (g__2h : Hd) (g__3 : List Int) (g__3h : Hd) (y : List Int) (hF : F_impl_Graph_edgeOrder (g__0, g__1, g__2, g__3) = some y) :
  ConF Tryz.prog 17 #[(.agg #[(.int .i64 g__0), (g__1h).v, (g__2h).v, (g__3h).v])] [Es (List (Int × Int × List Int × List Int)) g__1 g__1h, Es (List Int) g__2 g__2h, Es (List Int) g__3 g__3h] [] (fun v Γ' => ∃ z0 : Hd, v = (z0).v ∧ Γ' = [E (List Int) y z0]) := by
 intro w0 S0 fp0 hI hS
 have H : Cx w0 fp0 S0 w0 [Es (List (Int × Int × List Int × List Int)) g__1 g__1h, Es (List Int) g__2 g__2h, Es (List Int) g__3 g__3h] := Cx.start hI hS
 clear hI hS
 refine enterC (args := [_]) gok Tryz.func17 rfl _ rfl rfl rfl ?_
 refine box_ H ?_; clear H; intro b5 w4 hx H
 clear hx
 refine loadN [(.int .i64 g__0), (g__1h).v, (g__2h).v, (g__3h).v] rfl (fun j u hj => H.bx 0 rfl hj) ?_
 obtain ⟨y7, e, hF8⟩ := bindS hF; clear hF
 have ey7 := e; clear e
 refine callF (impl_Graph_needs_c g__0 g__1 g__1h g__2 g__2h g__3 g__3h y7 ey7) (Γi := []) H ⟨Vw.sh 1 rfl, Vw.sh 2 rfl, Vw.sh 3 rfl, trivial⟩ ?_; clear H ey7
 rintro _ _ w9 ⟨h0, rfl, rfl⟩ H
 refine alloc_ gok rfl H ?_; clear H; intro b0 w1 hx H
 clear hx
 refine stB0 H rfl ?_; clear H; intro w2 H
 refine load1 (H.bx0 0 rfl) ?_
 refine lenE (H.ro (α := List (List Int)) 1 rfl).len ?_
 obtain ⟨a0, e, f0⟩ := bindS hF8; clear hF8
 refine make_ (α := Bool) gok rfl rfl rfl rfl (makeCO_of e) H ?_; clear e H; intro h1 w3 hx H
 clear hx
 refine alloc_ gok rfl H ?_; clear H; intro b1 w5 hx H
 clear hx
 refine stB0 H rfl ?_; clear H; intro w6 H
 refine lit0 (α := Int) gok rfl rfl H ?_; clear H; intro h2 w7 hx H
 clear hx
 obtain ⟨r0, f1, f2⟩ := bindS f0; clear f0
 refine cut (fun (q0 : (List Bool × List Int) × Hd) => [(5, (q0.2).v)]) (fun (q0 : (List Bool × List Int) × Hd) w' => .inl (q0.1.1, q0.1.2) = r0 ∧ Cx w0 fp0 S0 w' [E (List Int) q0.1.2 q0.2]) ?_ ?_
 ·
  refine loopW _ (fun (s0 : List Bool × List Int) (g0 : Hd) => [(3, (.pointer (some ⟨b0, 0, none⟩))), (4, (.pointer (some ⟨b1, 0, none⟩))), (5, (g0).v)]) (fun (s0 : List Bool × List Int) (g0 : Hd) w' => Cx w0 fp0 S0 w' [Bx b0 [(h0).v], E (List (List Int)) y7 h0, Bx b1 [(h1).v], E (List Bool) s0.1 h1, E (List Int) s0.2 g0]) (a0, ([] : List Int)) h2 f1 ⟨rfl, rfl, rfl, trivial⟩ (H.sel [3, 4, 1, 2, 0] rfl) ?_
  ·
   clear H
   rintro T0 ⟨s0_0, s0_1⟩ g0 w8 o0 (H : Cx w0 fp0 S0 w8 [Bx b0 [(h0).v], E (List (List Int)) y7 h0, Bx b1 [(h1).v], E (List Bool) s0_0 h1, E (List Int) s0_1 g0]) hrt f3
   refine sq ?_
   refine lenE (H.ro (α := List Int) 4 rfl).len ?_
   refine load1 (H.bx0 0 rfl) ?_
   refine lenE (H.ro (α := List (List Int)) 1 rfl).len ?_
   obtain ⟨a1, e, f4⟩ := bindS f3; clear f3
   refine boolO e ?_; clear e
   cases a1
   ·
    have f5 := condF f4; clear f4
    have hs := Option.some.inj f5; subst hs; clear f5
    have f6 : some _ = some _ := congrArg some (hrt _ rfl).symm
    exact ⟨((s0_0, s0_1), g0), ⟨rfl, trivial⟩, Option.some.inj f6, H.sel [4] rfl⟩
   ·
    have f7 := condT f4; clear f4
    refine load1 (H.bx0 0 rfl) ?_
    refine lenE (H.ro (α := List (List Int)) 1 rfl).len ?_
    obtain ⟨y0, e, f8⟩ := bindS f7; clear f7
    have i0 := e; clear e
    refine callF (impl_upTo_c ((y7.length : Nat) : Int) y0 i0) (Γi := []) H trivial ?_; clear H i0
    rintro _ _ w10 ⟨h3, rfl, rfl⟩ H
    obtain ⟨y1, e, f9⟩ := bindS f8; clear f8
    have i1 := e; clear e
    replace H := H.sel [3, 1, 0, 2, 4, 5] rfl
    refine callF (slices_IndexFunc_int_int_impl_Graph_edgeOrder_1_c y0 h3 b1 s0_0 h1 b0 y7 h0 y1 i1) (Γi := [Bx b1 [(h1).v], Bx b0 [(h0).v]]) H ⟨Vw.own 0 rfl, Vw.own 2 rfl, Vw.own 1 rfl, trivial⟩ ?_; clear H i1
    rintro _ _ w11 ⟨rfl, rfl⟩ H
    refine sq ?_
    obtain ⟨a2, e, f10⟩ := bindS f9; clear f9
    refine boolO e ?_; clear e
    cases a2
    ·
     have f11 := condF f10; clear f10
     refine load1 (H.bx0 0 rfl) ?_
     obtain ⟨a3, e, f12⟩ := bindS f11; clear f11
     have i2 := e; clear e
     obtain ⟨p0, m0, c0, c1, c2⟩ := (H.ro (α := List Bool) 4 rfl).setp i2
     refine idxE c0 c1 c2 ?_
     replace H := H.sel [4, 0, 1, 2, 3, 5] rfl
     refine setS (α := Bool) H c0 c1 i2 ?_; clear H c0 c1 c2 i2; intro w13 H
     refine lit1S (α := Int) gok rfl rfl rfl rfl H ?_; clear H; intro h4 w14 hx H
     clear hx
     obtain ⟨a4, e, f13⟩ := bindS f12; clear f12
     replace H := H.sel [6, 0, 1, 2, 3, 4, 5] rfl
     refine append_ (α := Int) gok rfl rfl rfl rfl H e ?_; clear e H; intro h5 w16 H
     have hs := Option.some.inj f13; subst hs; clear f13
     exact ⟨(a3, a4), h5, rfl, ⟨rfl, rfl, rfl, trivial⟩, H.sel [3, 5, 2, 1, 0] rfl⟩
    ·
     have f14 := condT f10; clear f10
     have hs := Option.some.inj f14; subst hs; clear f14
     have f15 : some _ = some _ := congrArg some (hrt _ rfl).symm
     have hs := Option.some.inj f15; subst hs; clear f15
     have f16 : some _ = some _ := f2; clear f2
     cases f16
     exact ⟨_, _, rfl, ⟨g0, rfl, rfl⟩, (H.sel [5] rfl).close ⟨cloE, trivial⟩⟩
 ·
  clear f1 H
  rintro T1 ⟨⟨s1_0, s1_1⟩, g1⟩ w17 ⟨hr, (H : Cx w0 fp0 S0 w17 [E (List Int) s1_1 g1])⟩
  subst hr
  cases f2
  exact ⟨_, _, rfl, ⟨g1, rfl, rfl⟩, (H.sel [0] rfl).close ⟨cloE, trivial⟩⟩

theorem slices_Concat_impl_Node_impl_Node_c (slices_ : List (List (Int × Int × ByteArray))) (slices_h : Hd) (y : List (Int × Int × ByteArray)) (hF : F_slices_Concat_impl_Node_impl_Node slices_ = some y) :
  ConF Tryz.prog 72 #[(slices_h).v] [Es (List (List (Int × Int × ByteArray))) slices_ slices_h] [] (fun v Γ' => ∃ z0 : Hd, v = (z0).v ∧ Γ' = [E (List (Int × Int × ByteArray)) y z0]) := by
 intro w0 S0 fp0 hI hS
 have H : Cx w0 fp0 S0 w0 [Es (List (List (Int × Int × ByteArray))) slices_ slices_h] := Cx.start hI hS
 clear hI hS
 refine enterC (args := [_]) gok Tryz.func72 rfl _ rfl rfl rfl ?_
 refine sq ?_
 refine lenE (H.rs (α := List (List (Int × Int × ByteArray))) 0 rfl).len ?_
 have x0 := (H.rs (α := List (List (Int × Int × ByteArray))) 0 rfl).max
 obtain ⟨r0, e, f0⟩ := bindS hF; clear hF
 refine loopS _ slices_.length (fun (k2 : Nat) (s0 : Int) (_ : Unit) => [(0, (slices_h).v), (3, (.int .i64 s0)), (9, (slices_h).v), (10, (.int .i64 ((slices_.length : Nat) : Int))), (11, (.int .i64 ((k2 : Nat) : Int)))]) (fun _ (s0 : Int) (_ : Unit) w' => Cx w0 fp0 S0 w' [Es (List (List (Int × Int × ByteArray))) slices_ slices_h]) 0 () e ⟨rfl, rfl, rfl, rfl, rfl, trivial⟩ (H.sel [0] rfl) ?_ ?_
 ·
  clear H e
  rintro T0 k2 s0 _ w1 o0 hk (H : Cx w0 fp0 S0 w1 [Es (List (List (Int × Int × ByteArray))) slices_ slices_h]) f1
  refine boolE (z := true) (ltLen hk) ?_
  refine sq ?_
  refine sq ?_
  obtain ⟨a0, e, f2⟩ := bindS f1; clear f1
  have HH := H; clear H; obtain ⟨p0, m0, h0, c0, c1, c2, c3, H⟩ := HH.elL 0 rfl e; clear HH
  clear e
  refine idxE c0 c1 c2 ?_; clear c0 c1 c2
  refine load1 c3 ?_; clear c3
  refine lenE (H.rs (α := List (Int × Int × ByteArray)) 0 rfl).len ?_
  obtain ⟨a1, e, f3⟩ := bindS f2; clear f2
  refine arO e ?_; clear e
  obtain ⟨a2, e, f4⟩ := bindS f3; clear f3
  refine boolO e ?_; clear e
  cases a2
  ·
   have f5 := condF f4; clear f4
   refine arK hk x0 ?_
   have hs := Option.some.inj f5; subst hs; clear f5
   exact ⟨(), ⟨rfl, rfl, rfl, rfl, rfl, trivial⟩, H.sel [1] rfl⟩
  ·
   have f6 := condT f4; clear f4
   cases f6
 ·
  clear H e
  rintro T1 _ w2 (H : Cx w0 fp0 S0 w2 [Es (List (List (Int × Int × ByteArray))) slices_ slices_h])
  refine boolE (z := false) geLen ?_
  refine sq ?_
  obtain ⟨y0, e, f7⟩ := bindS f0; clear f0
  have i0 := e; clear e
  refine callF (slices_Grow_impl_Node_impl_Node_c r0 y0 i0) (Γi := []) H trivial ?_; clear H i0
  rintro _ _ w3 ⟨h1, rfl, rfl⟩ H
  refine sq ?_
  refine lenE (H.rs (α := List (List (Int × Int × ByteArray))) 1 rfl).len ?_
  have x1 := (H.rs (α := List (List (Int × Int × ByteArray))) 1 rfl).max
  obtain ⟨r1, e, f8⟩ := bindS f7; clear f7
  refine loopS _ slices_.length (fun (k0 : Nat) (s1 : List (Int × Int × ByteArray)) (g0 : Hd) => [(6, (g0).v), (25, (slices_h).v), (26, (.int .i64 ((slices_.length : Nat) : Int))), (27, (.int .i64 ((k0 : Nat) : Int)))]) (fun _ (s1 : List (Int × Int × ByteArray)) (g0 : Hd) w' => Cx w0 fp0 S0 w' [E (List (Int × Int × ByteArray)) s1 g0, Es (List (List (Int × Int × ByteArray))) slices_ slices_h]) y0 h1 e ⟨rfl, rfl, rfl, rfl, trivial⟩ (H.sel [0, 1] rfl) ?_ ?_
  ·
   clear H e
   rintro T2 k0 s1 g0 w4 o1 hk (H : Cx w0 fp0 S0 w4 [E (List (Int × Int × ByteArray)) s1 g0, Es (List (List (Int × Int × ByteArray))) slices_ slices_h]) f9
   refine boolE (z := true) (ltLen hk) ?_
   refine sq ?_
   refine sq ?_
   obtain ⟨a3, e, f10⟩ := bindS f9; clear f9
   have HH := H; clear H; obtain ⟨p1, m1, h2, c4, c5, c6, c7, H⟩ := HH.elL 1 rfl e; clear HH
   clear e
   refine idxE c4 c5 c6 ?_; clear c4 c5 c6
   refine load1 c7 ?_; clear c7
   obtain ⟨a4, e, f11⟩ := bindS f10; clear f10
   replace H := H.sel [1, 0, 2] rfl
   replace H := H.frzE (α := Int × Int × ByteArray)
   refine appendSh (α := Int × Int × ByteArray) gok rfl rfl rfl rfl rfl H 0 rfl e ?_; clear e H; intro h3 w5 H
   replace H := H.unSh
   refine arK hk x1 ?_
   have hs := Option.some.inj f11; subst hs; clear f11
   exact ⟨h3, ⟨rfl, rfl, rfl, rfl, trivial⟩, H.sel [0, 2] rfl⟩
  ·
   clear H e
   rintro T3 g1 w6 (H : Cx w0 fp0 S0 w6 [E (List (Int × Int × ByteArray)) r1 g1, Es (List (List (Int × Int × ByteArray))) slices_ slices_h])
   refine boolE (z := false) geLen ?_
   refine sq ?_
   cases f8
   exact ⟨_, _, rfl, ⟨g1, rfl, rfl⟩, (H.sel [0] rfl).close ⟨cloE, trivial⟩⟩

theorem impl_joinNodes_c (kind_ : Int) (a_ : List (Int × Int × ByteArray)) (a_h : Hd) (b_ : List (Int × Int × ByteArray)) (b_h : Hd) (y : List (Int × Int × ByteArray)) (hF : F_impl_joinNodes kind_ a_ b_ = some y) :
  ConF Tryz.prog 32 #[(.int .i64 kind_), (a_h).v, (b_h).v] [Es (List (Int × Int × ByteArray)) a_ a_h, Es (List (Int × Int × ByteArray)) b_ b_h] [] (fun v Γ' => ∃ z0 : Hd, v = (z0).v ∧ Γ' = [E (List (Int × Int × ByteArray)) y z0]) := by
 intro w0 S0 fp0 hI hS
 have H : Cx w0 fp0 S0 w0 [Es (List (Int × Int × ByteArray)) a_ a_h, Es (List (Int × Int × ByteArray)) b_ b_h] := Cx.start hI hS
 clear hI hS
 refine enterC (args := [_, _, _]) gok Tryz.func32 rfl _ rfl rfl rfl ?_
 replace H := H.dup 1 rfl persS
 replace H := H.dup 1 rfl persS
 refine litN (α := Sh (List (Int × Int × ByteArray))) (us := [(a_h).v, (b_h).v]) (xs := [a_, b_]) (gs := ([a_h, b_h] : List Hd)) gok rfl rfl rfl ⟨rfl, rfl, trivial⟩ rfl rfl H ?_; clear H; intro h4 w3 hx H
 clear hx
 obtain ⟨y8, e, hF9⟩ := bindS hF; clear hF
 have ey8 := e; clear e
 refine callF (slices_Concat_impl_Node_impl_Node_c [a_, b_] h4 y8 ey8) (Γi := []) H ⟨Vw.part (β := List (List (Int × Int × ByteArray))) (Vw.own (α := List (Sh (List (Int × Int × ByteArray)))) 0 rfl) [a_, b_] h4 (fun S h => h), trivial⟩ ?_; clear H ey8
 rintro _ _ w1 ⟨h0, rfl, rfl⟩ H
 refine build_ (cs := #[(.int .i64 kind_), (.int .i64 0), (.string .empty)]) gok rfl rfl rfl ?_
 replace H := H.sc (α := ByteArray) .empty
 replace H := H.sc (α := Int) 0
 replace H := H.join (α := Int) (β := ByteArray)
 replace H := H.sc (α := Int) kind_
 replace H := H.join (α := Int) (β := Int × ByteArray)
 refine lit1 (α := Int × Int × ByteArray) (g := ((), (), ())) gok rfl rfl rfl rfl rfl H ?_; clear H; intro h1 w2 hx H
 clear hx
 obtain ⟨a0, e, f0⟩ := bindS hF9; clear hF9
 replace H := H.sel [1, 0, 2, 3, 4] rfl
 refine append_ (α := Int × Int × ByteArray) gok rfl rfl rfl rfl H e ?_; clear e H; intro h2 w4 H
 cases f0
 exact ⟨_, _, rfl, ⟨h2, rfl, rfl⟩, (H.sel [0] rfl).close ⟨cloE, trivial⟩⟩

theorem slices_Equal_int_int_c (s1_ : List Int) (s1_h : Hd) (s2_ : List Int) (s2_h : Hd) (y : Bool) (hF : F_slices_Equal_int_int s1_ s2_ = some y) :
  ConF Tryz.prog 34 #[(s1_h).v, (s2_h).v] [Es (List Int) s1_ s1_h, Es (List Int) s2_ s2_h] [] (fun v Γ' => v = (.bool y) ∧ Γ' = []) := by
 intro w0 S0 fp0 hI hS
 have H : Cx w0 fp0 S0 w0 [Es (List Int) s1_ s1_h, Es (List Int) s2_ s2_h] := Cx.start hI hS
 clear hI hS
 refine enterC (args := [_, _]) gok Tryz.func34 rfl _ rfl rfl rfl ?_
 refine sq ?_
 refine lenE (H.rs (α := List Int) 0 rfl).len ?_
 refine lenE (H.rs (α := List Int) 1 rfl).len ?_
 obtain ⟨a3, e, hF4⟩ := bindS hF; clear hF
 refine boolO e ?_; clear e
 cases a3
 ·
  have hF5 := condF hF4; clear hF4
  refine sq ?_
  refine lenE (H.rs (α := List Int) 0 rfl).len ?_
  have x0 := (H.rs (α := List Int) 0 rfl).max
  obtain ⟨r0, e, f0⟩ := bindS hF5; clear hF5
  refine loopO _ s1_.length (fun (k6 : Nat) (_ : Unit) (_ : Unit) => [(0, (s1_h).v), (1, (s2_h).v), (12, (.int .i64 ((s1_.length : Nat) : Int))), (13, (.int .i64 ((k6 : Nat) : Int)))]) (fun _ (_ : Unit) (_ : Unit) w' => Cx w0 fp0 S0 w' [Es (List Int) s1_ s1_h, Es (List Int) s2_ s2_h]) () () e ⟨rfl, rfl, rfl, rfl, trivial⟩ (H.sel [0, 1] rfl) ?_ ?_
  ·
   clear H e
   rintro T0 k6 _ _ w1 o0 hk (H : Cx w0 fp0 S0 w1 [Es (List Int) s1_ s1_h, Es (List Int) s2_ s2_h]) hrt f1
   refine boolE (z := true) (ltLen hk) ?_
   refine sq ?_
   refine sq ?_
   refine heldX H [] (.fst 0 (.fst 1 (.fst 2 (.fst 4 (.fst 5 (.fst 6 (.fst 3 (.fst 7 (.fst 8 .done))))))))) mixed [] trivial (by kernel_rfl) ?_
   clear H; intro w2 H
   have hX : Ext w2 w2 := Upd.refl _ _
   have H0 := H
   obtain ⟨a0, e, f2⟩ := bindS f1; clear f1
   obtain ⟨p0, m0, c0, c1, c2, c3⟩ := (H.rs (α := List Int) 0 rfl).at1 e; clear e
   refine idxE c0 c1 c2 ?_; clear c0 c1 c2
   obtain ⟨a1, e, f3⟩ := bindS f2; clear f2
   obtain ⟨p1, m1, c4, c5, c6, c7⟩ := (H.rs (α := List Int) 1 rfl).at1 e; clear e
   refine idxE c4 c5 c6 ?_; clear c4 c5 c6
   refine load1X c3 ?_; clear c3
   refine load1X c7 ?_; clear c7
   obtain ⟨a2, e, f4⟩ := bindS f3; clear f3
   refine boolO e ?_; clear e
   cases a2
   ·
    have f5 := condF f4; clear f4
    refine arK hk x0 ?_
    have hs := Option.some.inj f5; subst hs; clear f5
    exact ⟨(), (), rfl, ⟨rfl, rfl, rfl, rfl, trivial⟩, H.sel [0, 1] rfl⟩
   ·
    have f6 := condT f4; clear f4
    have hs := Option.some.inj f6; subst hs; clear f6
    have hr := hrt _ rfl; subst hr
    have f7 : some _ = some _ := f0
    cases f7
    exact ⟨_, _, rfl, ⟨rfl, rfl⟩, (H.sel [] rfl).close trivial⟩
  ·
   clear H e
   rintro T1 _ _ w3 hr (H : Cx w0 fp0 S0 w3 [Es (List Int) s1_ s1_h, Es (List Int) s2_ s2_h])
   subst hr
   refine boolE (z := false) geLen ?_
   refine sq ?_
   cases f0
   exact ⟨_, _, rfl, ⟨rfl, rfl⟩, (H.sel [] rfl).close trivial⟩
 ·
  have f8 := condT hF4; clear hF4
  cases f8
  exact ⟨_, _, rfl, ⟨rfl, rfl⟩, (H.sel [] rfl).close trivial⟩

theorem impl_placesIn_c (list_ : List Int) (list_h : Hd) (target_ : List Int) (target_h : Hd) (y : List Int) (hF : F_impl_placesIn list_ target_ = some y) :
  ConF Tryz.prog 36 #[(list_h).v, (target_h).v] [Es (List Int) list_ list_h, Es (List Int) target_ target_h] [] (fun v Γ' => ∃ z0 : Hd, v = (z0).v ∧ Γ' = [E (List Int) y z0]) := by
 intro w0 S0 fp0 hI hS
 have H : Cx w0 fp0 S0 w0 [Es (List Int) list_ list_h, Es (List Int) target_ target_h] := Cx.start hI hS
 clear hI hS
 refine enterC (args := [_, _]) gok Tryz.func36 rfl _ rfl rfl rfl ?_
 refine lit0 (α := Int) gok rfl rfl H ?_; clear H; intro h4 w3 hx H
 clear hx
 refine sq ?_
 refine lenE (H.rs (α := List Int) 1 rfl).len ?_
 have x0 := (H.rs (α := List Int) 1 rfl).max
 obtain ⟨r0, e, f0⟩ := bindS hF; clear hF
 refine loopS _ list_.length (fun (k6 : Nat) (s0 : List Int) (g0 : Hd) => [(1, (target_h).v), (5, (g0).v), (9, (list_h).v), (10, (.int .i64 ((list_.length : Nat) : Int))), (11, (.int .i64 ((k6 : Nat) : Int)))]) (fun _ (s0 : List Int) (g0 : Hd) w' => Cx w0 fp0 S0 w' [Es (List Int) target_ target_h, E (List Int) s0 g0, Es (List Int) list_ list_h]) ([] : List Int) h4 e ⟨rfl, rfl, rfl, rfl, rfl, trivial⟩ (H.sel [2, 0, 1] rfl) ?_ ?_
 ·
  clear H e
  rintro T0 k6 s0 g0 w1 o0 hk (H : Cx w0 fp0 S0 w1 [Es (List Int) target_ target_h, E (List Int) s0 g0, Es (List Int) list_ list_h]) f1
  refine boolE (z := true) (ltLen hk) ?_
  refine sq ?_
  refine sq ?_
  obtain ⟨a0, e, f2⟩ := bindS f1; clear f1
  obtain ⟨p0, m0, c0, c1, c2, c3⟩ := (H.rs (α := List Int) 2 rfl).at1 e; clear e
  refine idxE c0 c1 c2 ?_; clear c0 c1 c2
  refine load1 c3 ?_; clear c3
  obtain ⟨y0, e, f3⟩ := bindS f2; clear f2
  have i0 := e; clear e
  refine callF (slices_Index_int_int_c target_ target_h a0 y0 i0) (Γi := []) H ⟨Vw.sh 0 rfl, trivial⟩ ?_; clear H i0
  rintro _ _ w2 ⟨rfl, rfl⟩ H
  refine lit1S (α := Int) gok rfl rfl rfl rfl H ?_; clear H; intro h0 w4 hx H
  clear hx
  obtain ⟨a1, e, f4⟩ := bindS f3; clear f3
  replace H := H.sel [2, 0, 1, 3] rfl
  refine append_ (α := Int) gok rfl rfl rfl rfl H e ?_; clear e H; intro h1 w5 H
  refine arK hk x0 ?_
  have hs := Option.some.inj f4; subst hs; clear f4
  exact ⟨h1, ⟨rfl, rfl, rfl, rfl, rfl, trivial⟩, H.sel [1, 0, 2] rfl⟩
 ·
  clear H e
  rintro T1 g1 w6 (H : Cx w0 fp0 S0 w6 [Es (List Int) target_ target_h, E (List Int) r0 g1, Es (List Int) list_ list_h])
  refine boolE (z := false) geLen ?_
  refine sq ?_
  cases f0
  exact ⟨_, _, rfl, ⟨g1, rfl, rfl⟩, (H.sel [1] rfl).close ⟨cloE, trivial⟩⟩

theorem impl_leafOf_c (kind_ : Int) (value_ : Int) (y_0 : Int) (y_1 : Int) (y_2 : ByteArray) (hF : F_impl_leafOf kind_ value_ = some (y_0, y_1, y_2)) :
  ConF Tryz.prog 39 #[(.int .i64 kind_), (.int .i64 value_)] [] [] (fun v Γ' => v = (.agg #[(.int .i64 y_0), (.int .i64 y_1), (.string y_2)]) ∧ Γ' = []) := by
 intro w0 S0 fp0 hI hS
 have H : Cx w0 fp0 S0 w0 [] := Cx.start hI hS
 clear hI hS
 refine enterC (args := [_, _]) gok Tryz.func39 rfl _ rfl rfl rfl ?_
 refine alloc_ gok rfl H ?_; clear H; intro b2 w1 hx H
 clear hx
 refine build_ (cs := #[(.int .i64 kind_), (.int .i64 value_), (.string .empty)]) gok rfl rfl rfl ?_
 refine stA gok [(.int .i64 kind_), (.int .i64 value_), (.string .empty)] rfl H rfl rfl rfl ?_; clear H; intro w4 H
 refine loadN [(.int .i64 kind_), (.int .i64 value_), (.string .empty)] rfl (fun j u hj => H.bx 0 rfl hj) ?_
 cases hF
 exact ⟨_, _, rfl, ⟨rfl, rfl⟩, (H.sel [] rfl).close trivial⟩

theorem impl_layer_c (n_ : Int) (i_ : Int) (y : List (Int × Int × ByteArray)) (hF : F_impl_layer n_ i_ = some y) :
  ConF Tryz.prog 74 #[(.int .i64 n_), (.int .i64 i_)] [] [] (fun v Γ' => ∃ z0 : Hd, v = (z0).v ∧ Γ' = [E (List (Int × Int × ByteArray)) y z0]) := by
 intro w0 S0 fp0 hI hS
 have H : Cx w0 fp0 S0 w0 [] := Cx.start hI hS
 clear hI hS
 refine enterC (args := [_, _]) gok Tryz.func74 rfl _ rfl rfl rfl ?_
 obtain ⟨y1, e, hF2⟩ := bindS hF; clear hF
 obtain ⟨y1_0, y1_1, y1_2⟩ := y1
 have ey1 := e; clear e
 refine callF (impl_leafOf_c 2 0 y1_0 y1_1 y1_2 ey1) (Γi := []) H trivial ?_; clear H ey1
 rintro _ _ w3 ⟨rfl, rfl⟩ H
 replace H := H.sc (α := ByteArray) y1_2
 replace H := H.sc (α := Int) y1_1
 replace H := H.join (α := Int) (β := ByteArray)
 replace H := H.sc (α := Int) y1_0
 replace H := H.join (α := Int) (β := Int × ByteArray)
 refine lit1 (α := Int × Int × ByteArray) (g := ((), (), ())) gok rfl rfl rfl rfl rfl H ?_; clear H; intro h5 w4 hx H
 clear hx
 obtain ⟨r0, f0, f1⟩ := bindS hF2; clear hF2
 refine cut (fun (q0 : (List (Int × Int × ByteArray)) × Hd) => [(0, (.int .i64 n_)), (1, (.int .i64 i_)), (5, (q0.2).v)]) (fun (q0 : (List (Int × Int × ByteArray)) × Hd) w' => q0.1 = r0 ∧ Cx w0 fp0 S0 w' [E (List (Int × Int × ByteArray)) q0.1 q0.2]) ?_ ?_
 ·
  obtain ⟨a0, e, f2⟩ := bindS f0; clear f0
  refine boolO e ?_; clear e
  cases a0
  ·
   have f3 := condF f2; clear f2
   exact ⟨([(y1_0, y1_1, y1_2)], h5), ⟨rfl, rfl, rfl, trivial⟩, Option.some.inj f3, H.sel [0] rfl⟩
  ·
   have f4 := condT f2; clear f2
   obtain ⟨y0, e, f5⟩ := bindS f4; clear f4
   obtain ⟨y0_0, y0_1, y0_2⟩ := y0
   have i0 := e; clear e
   refine callF (impl_leafOf_c 1 i_ y0_0 y0_1 y0_2 i0) (Γi := []) H trivial ?_; clear H i0
   rintro _ _ w1 ⟨rfl, rfl⟩ H
   replace H := H.sc (α := ByteArray) y0_2
   replace H := H.sc (α := Int) y0_1
   replace H := H.join (α := Int) (β := ByteArray)
   replace H := H.sc (α := Int) y0_0
   replace H := H.join (α := Int) (β := Int × ByteArray)
   refine lit1 (α := Int × Int × ByteArray) (g := ((), (), ())) gok rfl rfl rfl rfl rfl H ?_; clear H; intro h0 w2 hx H
   clear hx
   obtain ⟨y2, e, f6⟩ := bindS f5; clear f5
   have i1 := e; clear e
   refine callF (impl_joinNodes_c 16 [(y0_0, y0_1, y0_2)] h0 [(y1_0, y1_1, y1_2)] h5 y2 i1) (Γi := []) H ⟨Vw.own 0 rfl, Vw.own 1 rfl, trivial⟩ ?_; clear H i1
   rintro _ _ w5 ⟨h1, rfl, rfl⟩ H
   exact ⟨(y2, h1), ⟨rfl, rfl, rfl, trivial⟩, Option.some.inj f6, H.sel [0] rfl⟩
 ·
  clear f0 H
  rintro T0 ⟨s0, g0⟩ w6 ⟨hr, (H : Cx w0 fp0 S0 w6 [E (List (Int × Int × ByteArray)) s0 g0])⟩
  subst hr
  refine sq ?_
  obtain ⟨a1, e, f7⟩ := bindS f1; clear f1
  refine arO e ?_; clear e
  obtain ⟨a2, e, f8⟩ := bindS f7; clear f7
  refine arO e ?_; clear e
  obtain ⟨a3, e, f9⟩ := bindS f8; clear f8
  refine boolO e ?_; clear e
  cases a3
  ·
   have f10 := condF f9; clear f9
   cases f10
   exact ⟨_, _, rfl, ⟨g0, rfl, rfl⟩, (H.sel [0] rfl).close ⟨cloE, trivial⟩⟩
  ·
   have f11 := condT f9; clear f9
   obtain ⟨y3, e, f12⟩ := bindS f11; clear f11
   obtain ⟨y3_0, y3_1, y3_2⟩ := y3
   have i2 := e; clear e
   refine callF (impl_leafOf_c 1 a2 y3_0 y3_1 y3_2 i2) (Γi := []) H trivial ?_; clear H i2
   rintro _ _ w7 ⟨rfl, rfl⟩ H
   replace H := H.sc (α := ByteArray) y3_2
   replace H := H.sc (α := Int) y3_1
   replace H := H.join (α := Int) (β := ByteArray)
   replace H := H.sc (α := Int) y3_0
   replace H := H.join (α := Int) (β := Int × ByteArray)
   refine lit1 (α := Int × Int × ByteArray) (g := ((), (), ())) gok rfl rfl rfl rfl rfl H ?_; clear H; intro h2 w8 hx H
   clear hx
   obtain ⟨y4, e, f13⟩ := bindS f12; clear f12
   have i3 := e; clear e
   refine callF (impl_joinNodes_c 16 s0 g0 [(y3_0, y3_1, y3_2)] h2 y4 i3) (Γi := []) H ⟨Vw.own 1 rfl, Vw.own 0 rfl, trivial⟩ ?_; clear H i3
   rintro _ _ w9 ⟨h3, rfl, rfl⟩ H
   cases f13
   exact ⟨_, _, rfl, ⟨h3, rfl, rfl⟩, (H.sel [0] rfl).close ⟨cloE, trivial⟩⟩

theorem impl_permutationNodes_c (perm_ : List Int) (perm_h : Hd) (y : List (Int × Int × ByteArray)) (hF : F_impl_permutationNodes perm_ = some y) :
  ConF Tryz.prog 35 #[(perm_h).v] [Es (List Int) perm_ perm_h] [] (fun v Γ' => ∃ z0 : Hd, v = (z0).v ∧ Γ' = [E (List (Int × Int × ByteArray)) y z0]) := by
 intro w0 S0 fp0 hI hS
 have H : Cx w0 fp0 S0 w0 [Es (List Int) perm_ perm_h] := Cx.start hI hS
 clear hI hS
 refine enterC (args := [_]) gok Tryz.func35 rfl _ rfl rfl rfl ?_
 obtain ⟨y2, e, hF3⟩ := bindS hF; clear hF
 have ey2 := e; clear e
 refine callF (impl_clone_c perm_ perm_h y2 ey2) (Γi := []) H ⟨Vw.sh 0 rfl, trivial⟩ ?_; clear H ey2
 rintro _ _ w4 ⟨h5, rfl, rfl⟩ H
 refine lit0 (α := Int × Int × ByteArray) gok rfl rfl H ?_; clear H; intro h8 w7 hx H
 clear hx
 obtain ⟨r0, f0, f1⟩ := bindS hF3; clear hF3
 refine cut (fun (q0 : (List Int × (List (Int × Int × ByteArray))) × Hd) => [(3, (h5).v), (4, (q0.2).v)]) (fun (q0 : (List Int × (List (Int × Int × ByteArray))) × Hd) w' => (q0.1.1, q0.1.2) = r0 ∧ Cx w0 fp0 S0 w' [E (List Int) q0.1.1 h5, E (List (Int × Int × ByteArray)) q0.1.2 q0.2]) ?_ ?_
 ·
  refine loopW _ (fun (s0 : List Int × (List (Int × Int × ByteArray)) × Int) (g0 : Hd) => [(3, (h5).v), (4, (g0).v), (5, (.int .i64 s0.2.2))]) (fun (s0 : List Int × (List (Int × Int × ByteArray)) × Int) (g0 : Hd) w' => Cx w0 fp0 S0 w' [E (List Int) s0.1 h5, E (List (Int × Int × ByteArray)) s0.2.1 g0]) (y2, ([] : List (Int × Int × ByteArray)), 0) h8 f0 ⟨rfl, rfl, rfl, trivial⟩ (H.sel [1, 0] rfl) ?_
  ·
   clear H
   rintro T0 ⟨s0_0, s0_1, s0_2⟩ g0 w1 o0 (H : Cx w0 fp0 S0 w1 [E (List Int) s0_0 h5, E (List (Int × Int × ByteArray)) s0_1 g0]) hrt f2
   refine sq ?_
   obtain ⟨a0, e, f3⟩ := bindS f2; clear f2
   refine arO e ?_; clear e
   refine lenE (H.ro (α := List Int) 0 rfl).len ?_
   obtain ⟨a1, e, f4⟩ := bindS f3; clear f3
   refine boolO e ?_; clear e
   cases a1
   ·
    have f5 := condF f4; clear f4
    have hs := Option.some.inj f5; subst hs; clear f5
    have f6 : some _ = some _ := congrArg some (hrt _ rfl).symm
    exact ⟨((s0_0, s0_1), g0), ⟨rfl, rfl, trivial⟩, Option.some.inj f6, H.sel [0, 1] rfl⟩
   ·
    have f7 := condT f4; clear f4
    refine sq ?_
    refine heldX H [] (.fst 0 (.fst 1 (.fst 2 (.fst 4 (.fst 5 (.fst 6 (.fst 7 (.fst 3 (.fst 8 (.fst 9 .done)))))))))) mixed [] trivial (by kernel_rfl) ?_
    clear H; intro w2 H
    have hX : Ext w2 w2 := Upd.refl _ _
    have H0 := H
    obtain ⟨a2, e, f8⟩ := bindS f7; clear f7
    obtain ⟨p0, m0, c0, c1, c2, c3⟩ := (H.ro (α := List Int) 0 rfl).at1 e; clear e
    refine idxE c0 c1 c2 ?_; clear c0 c1 c2
    obtain ⟨a3, e, f9⟩ := bindS f8; clear f8
    refine arO e ?_; clear e
    obtain ⟨a4, e, f10⟩ := bindS f9; clear f9
    obtain ⟨p1, m1, c4, c5, c6, c7⟩ := (H.ro (α := List Int) 0 rfl).at1 e; clear e
    refine idxE c4 c5 c6 ?_; clear c4 c5 c6
    refine load1X c3 ?_; clear c3
    refine load1X c7 ?_; clear c7
    obtain ⟨a5, e, f11⟩ := bindS f10; clear f10
    refine boolO e ?_; clear e
    cases a5
    ·
     have f12 := condF f11; clear f11
     refine heldX H [15, 17, 16, 0, 1, 2, 3, 4] (.pure 0 (.pure 1 (.pure 2 (.pure 3 (.pure 4 (.fst 5 (.fst 6 (.fst 7 (.fst 8 (.fst 10 (.fst 11 (.fst 12 (.fst 9 (.fst 13 (.fst 14 (.act 15 (.act 16 (.act 17 .done)))))))))))))))))) mixed [] trivial (by kernel_rfl) ?_
     clear H; intro w3 H
     have hX : Ext w3 w3 := Upd.refl _ _
     have H0 := H
     obtain ⟨a6, e, f13⟩ := bindS f12; clear f12
     refine arO e ?_; clear e
     obtain ⟨a7, e, f14⟩ := bindS f13; clear f13
     refine arO e ?_; clear e
     obtain ⟨a8, e, f15⟩ := bindS f14; clear f14
     obtain ⟨p2, m2, c8, c9, c10, c11⟩ := (H.ro (α := List Int) 0 rfl).at1 e; clear e
     refine idxE c8 c9 c10 ?_; clear c8 c9 c10
     obtain ⟨a9, e, f16⟩ := bindS f15; clear f15
     obtain ⟨p3, m3, c12, c13, c14, c15⟩ := (H.ro (α := List Int) 0 rfl).at1 e; clear e
     refine idxE c12 c13 c14 ?_; clear c12 c13 c14
     refine load1X c11 ?_; clear c11
     refine load1X c15 ?_; clear c15
     obtain ⟨a10, e, f17⟩ := bindS f16; clear f16
     have i0 := e; clear e
     obtain ⟨p4, m4, c16, c17, c18⟩ := (H.ro (α := List Int) 0 rfl).setp i0
     refine idxE c16 c17 c18 ?_
     refine setS (α := Int) H c16 c17 i0 ?_; clear H c16 c17 c18 i0; intro w5 H
     refine hold trivial ?_
     obtain ⟨a11, e, f18⟩ := bindS f17; clear f17
     have i1 := e; clear e
     obtain ⟨p5, m5, c19, c20, c21⟩ := (H.ro (α := List Int) 0 rfl).setp i1
     refine idxE c19 c20 c21 ?_
     refine hold trivial ?_
     refine setS (α := Int) H c19 c20 i1 ?_; clear H c19 c20 c21 i1; intro w6 H
     refine hold trivial ?_
     refine lenE (H.ro (α := List Int) 0 rfl).len ?_
     obtain ⟨y0, e, f19⟩ := bindS f18; clear f18
     have i2 := e; clear e
     refine callF (impl_layer_c ((a11.length : Nat) : Int) s0_2 y0 i2) (Γi := []) H trivial ?_; clear H i2
     rintro _ _ w8 ⟨h0, rfl, rfl⟩ H
     refine sq ?_
     refine lenE (H.ro (α := List (Int × Int × ByteArray)) 2 rfl).len ?_
     obtain ⟨a12, e, f20⟩ := bindS f19; clear f19
     refine boolO e ?_; clear e
     cases a12
     ·
      have f21 := condF f20; clear f20
      have hs := Option.some.inj f21; subst hs; clear f21
      exact ⟨(a11, y0, 0), h0, rfl, ⟨rfl, rfl, rfl, trivial⟩, H.sel [1, 0] rfl⟩
     ·
      have f22 := condT f20; clear f20
      obtain ⟨y1, e, f23⟩ := bindS f22; clear f22
      have i3 := e; clear e
      refine callF (impl_joinNodes_c 15 s0_1 g0 y0 h0 y1 i3) (Γi := []) H ⟨Vw.own 2 rfl, Vw.own 0 rfl, trivial⟩ ?_; clear H i3
      rintro _ _ w9 ⟨h1, rfl, rfl⟩ H
      have hs := Option.some.inj f23; subst hs; clear f23
      exact ⟨(a11, y1, 0), h1, rfl, ⟨rfl, rfl, rfl, trivial⟩, H.sel [2, 0] rfl⟩
    ·
     have f24 := condT f11; clear f11
     obtain ⟨a13, e, f25⟩ := bindS f24; clear f24
     refine arO e ?_; clear e
     have hs := Option.some.inj f25; subst hs; clear f25
     exact ⟨(s0_0, s0_1, a13), g0, rfl, ⟨rfl, rfl, rfl, trivial⟩, H.sel [0, 1] rfl⟩
 ·
  clear f0 H
  rintro T1 ⟨⟨s1_0, s1_1⟩, g1⟩ w10 ⟨hr, (H : Cx w0 fp0 S0 w10 [E (List Int) s1_0 h5, E (List (Int × Int × ByteArray)) s1_1 g1])⟩
  subst hr
  refine sq ?_
  refine lenE (H.ro (α := List (Int × Int × ByteArray)) 1 rfl).len ?_
  obtain ⟨a14, e, f26⟩ := bindS f1; clear f1
  refine boolO e ?_; clear e
  cases a14
  ·
   have f27 := condF f26; clear f26
   cases f27
   exact ⟨_, _, rfl, ⟨g1, rfl, rfl⟩, (H.sel [1] rfl).close ⟨cloE, trivial⟩⟩
  ·
   have f28 := condT f26; clear f26
   refine lenE (H.ro (α := List Int) 0 rfl).len ?_
   obtain ⟨y3, e, f29⟩ := bindS f28; clear f28
   obtain ⟨y3_0, y3_1, y3_2⟩ := y3
   have i4 := e; clear e
   refine callF (impl_leafOf_c 1 ((s1_0.length : Nat) : Int) y3_0 y3_1 y3_2 i4) (Γi := []) H trivial ?_; clear H i4
   rintro _ _ w11 ⟨rfl, rfl⟩ H
   replace H := H.sc (α := ByteArray) y3_2
   replace H := H.sc (α := Int) y3_1
   replace H := H.join (α := Int) (β := ByteArray)
   replace H := H.sc (α := Int) y3_0
   replace H := H.join (α := Int) (β := Int × ByteArray)
   refine lit1 (α := Int × Int × ByteArray) (g := ((), (), ())) gok rfl rfl rfl rfl rfl H ?_; clear H; intro h2 w12 hx H
   clear hx
   cases f29
   exact ⟨_, _, rfl, ⟨h2, rfl, rfl⟩, (H.sel [0] rfl).close ⟨cloE, trivial⟩⟩

theorem impl_others_c (list_ : List Int) (list_h : Hd) (without_ : List Int) (without_h : Hd) (y : List Int) (hF : F_impl_others list_ without_ = some y) :
  ConF Tryz.prog 37 #[(list_h).v, (without_h).v] [Es (List Int) list_ list_h, Es (List Int) without_ without_h] [] (fun v Γ' => ∃ z0 : Hd, v = (z0).v ∧ Γ' = [E (List Int) y z0]) := by
 intro w0 S0 fp0 hI hS
 have H : Cx w0 fp0 S0 w0 [Es (List Int) list_ list_h, Es (List Int) without_ without_h] := Cx.start hI hS
 clear hI hS
 refine enterC (args := [_, _]) gok Tryz.func37 rfl _ rfl rfl rfl ?_
 refine lit0 (α := Int) gok rfl rfl H ?_; clear H; intro h4 w3 hx H
 clear hx
 refine sq ?_
 refine lenE (H.rs (α := List Int) 1 rfl).len ?_
 have x0 := (H.rs (α := List Int) 1 rfl).max
 obtain ⟨r0, e, f0⟩ := bindS hF; clear hF
 refine loopS _ list_.length (fun (k6 : Nat) (s0 : List Int) (g0 : Hd) => [(1, (without_h).v), (5, (g0).v), (9, (list_h).v), (10, (.int .i64 ((list_.length : Nat) : Int))), (11, (.int .i64 ((k6 : Nat) : Int)))]) (fun _ (s0 : List Int) (g0 : Hd) w' => Cx w0 fp0 S0 w' [Es (List Int) without_ without_h, E (List Int) s0 g0, Es (List Int) list_ list_h]) ([] : List Int) h4 e ⟨rfl, rfl, rfl, rfl, rfl, trivial⟩ (H.sel [2, 0, 1] rfl) ?_ ?_
 ·
  clear H e
  rintro T0 k6 s0 g0 w1 o0 hk (H : Cx w0 fp0 S0 w1 [Es (List Int) without_ without_h, E (List Int) s0 g0, Es (List Int) list_ list_h]) f1
  refine boolE (z := true) (ltLen hk) ?_
  refine sq ?_
  refine sq ?_
  obtain ⟨a0, e, f2⟩ := bindS f1; clear f1
  obtain ⟨p0, m0, c0, c1, c2, c3⟩ := (H.rs (α := List Int) 2 rfl).at1 e; clear e
  refine idxE c0 c1 c2 ?_; clear c0 c1 c2
  refine load1 c3 ?_; clear c3
  obtain ⟨y0, e, f3⟩ := bindS f2; clear f2
  have i0 := e; clear e
  refine callF (slices_Contains_int_int_c without_ without_h a0 y0 i0) (Γi := []) H ⟨Vw.sh 0 rfl, trivial⟩ ?_; clear H i0
  rintro _ _ w2 ⟨rfl, rfl⟩ H
  obtain ⟨a1, e, f4⟩ := bindS f3; clear f3
  refine boolO e ?_; clear e
  cases a1
  ·
   have f5 := condF f4; clear f4
   refine arK hk x0 ?_
   have hs := Option.some.inj f5; subst hs; clear f5
   exact ⟨g0, ⟨rfl, rfl, rfl, rfl, rfl, trivial⟩, H.sel [0, 1, 2] rfl⟩
  ·
   have f6 := condT f4; clear f4
   refine lit1S (α := Int) gok rfl rfl rfl rfl H ?_; clear H; intro h0 w4 hx H
   clear hx
   obtain ⟨a2, e, f7⟩ := bindS f6; clear f6
   replace H := H.sel [2, 0, 1, 3] rfl
   refine append_ (α := Int) gok rfl rfl rfl rfl H e ?_; clear e H; intro h1 w5 H
   refine arK hk x0 ?_
   have hs := Option.some.inj f7; subst hs; clear f7
   exact ⟨h1, ⟨rfl, rfl, rfl, rfl, rfl, trivial⟩, H.sel [1, 0, 2] rfl⟩
 ·
  clear H e
  rintro T1 g1 w6 (H : Cx w0 fp0 S0 w6 [Es (List Int) without_ without_h, E (List Int) r0 g1, Es (List Int) list_ list_h])
  refine boolE (z := false) geLen ?_
  refine sq ?_
  cases f0
  exact ⟨_, _, rfl, ⟨g1, rfl, rfl⟩, (H.sel [1] rfl).close ⟨cloE, trivial⟩⟩

theorem impl_cutBehind_c (cut_ : List Int) (cut_h : Hd) (e__0 : Int) (e__1 : Int) (e__2 : List Int) (e__2h : Hd) (e__3 : List Int) (e__3h : Hd) (y : List Int) (hF : F_impl_cutBehind cut_ (e__0, e__1, e__2, e__3) = some y) :
  ConF Tryz.prog 40 #[(cut_h).v, (.agg #[(.int .i64 e__0), (.int .i64 e__1), (e__2h).v, (e__3h).v])] [Es (List Int) cut_ cut_h, Es (List Int) e__2 e__2h, Es (List Int) e__3 e__3h] [] (fun v Γ' => ∃ z0 : Hd, v = (z0).v ∧ Γ' = [E (List Int) y z0]) := by
 intro w0 S0 fp0 hI hS
 have H : Cx w0 fp0 S0 w0 [Es (List Int) cut_ cut_h, Es (List Int) e__2 e__2h, Es (List Int) e__3 e__3h] := Cx.start hI hS
 clear hI hS
 refine enterC (args := [_, _]) gok Tryz.func40 rfl _ rfl rfl rfl ?_
 refine box_ H ?_; clear H; intro b5 w4 hx H
 clear hx
 refine heldX H [] (.fst 0 (.fst 2 (.fst 3 (.fst 1 (.fst 4 (.act 5 (.act 6 (.act 7 (.fst 8 .done))))))))) mixed [] trivial (by kernel_rfl) ?_
 clear H; intro w7 H
 have hX : Ext w7 w7 := Upd.refl _ _
 have H0 := H
 refine anyH (fun _ => fld gok rfl rfl rfl rfl ⟨rfl, rfl⟩) ?_
 refine anyH (fun _ => fld gok rfl rfl rfl rfl ⟨rfl, rfl⟩) ?_
 refine load1X (H.bx 0 rfl (j := 3) rfl) ?_
 refine load1X (H.bx 0 rfl (j := 2) rfl) ?_
 obtain ⟨y8, e, hF9⟩ := bindS hF; clear hF
 have ey8 := e; clear e
 refine callFx (impl_others_c cut_ cut_h e__2 e__2h y8 ey8) H ⟨Vw.sh 1 rfl, Vw.sh 2 rfl, trivial⟩ ?_; clear H ey8
 rintro _ _ w1 ⟨h0, rfl, rfl⟩ hx H
 replace hX := hX.trans0 hx; clear hx
 refine hold hX ?_
 replace H := H.frz
 replace H := H.dup 0 rfl persS
 replace H := H.dup 5 rfl persS
 refine litN (α := Sh (List Int)) (us := [(e__3h).v, (h0).v]) (xs := [e__3, y8]) (gs := ([e__3h, h0] : List Hd)) gok rfl rfl rfl ⟨rfl, rfl, trivial⟩ rfl rfl H ?_; clear H; intro h1 w2 hx H
 replace hX := hX.trans0 hx; clear hx
 refine hold hX ?_
 obtain ⟨y0, e, f0⟩ := bindS hF9; clear hF9
 have i0 := e; clear e
 refine callFx (impl_joined_c [e__3, y8] h1 y0 i0) H ⟨Vw.part (β := List (List Int)) (Vw.own (α := List (Sh (List Int))) 0 rfl) [e__3, y8] h1 (fun S h => h), trivial⟩ ?_; clear H i0
 rintro _ _ w3 ⟨h2, rfl, rfl⟩ hx H
 replace hX := hX.trans0 hx; clear hx
 refine hold hX ?_
 cases f0
 exact ⟨_, _, rfl, ⟨h2, rfl, rfl⟩, (H.sel [0] rfl).close ⟨cloE, trivial⟩⟩

theorem impl_validTerm_c (nodes_ : List (Int × Int × ByteArray)) (nodes_h : Hd) (y0_0 : List (Int × Int × ByteArray)) (y1 : Bool) (hF : F_impl_validTerm nodes_ = some (y0_0, y1)) :
  ConF Tryz.prog 41 #[(nodes_h).v] [] [E (List (Int × Int × ByteArray)) nodes_ nodes_h] (fun v Γ' => ∃ z0 : Hd, v = (.tuple #[(.agg #[(z0).v]), (.bool y1)]) ∧ Γ' = [E (List (Int × Int × ByteArray)) y0_0 z0]) := by
 intro w0 S0 fp0 hI hS
 have H : Cx w0 fp0 S0 w0 [E (List (Int × Int × ByteArray)) nodes_ nodes_h] := Cx.start hI hS
 clear hI hS
 refine enterC (args := [_]) gok Tryz.func41 rfl _ rfl rfl rfl ?_
 refine alloc_ gok rfl H ?_; clear H; intro b3 w2 hx H
 clear hx
 refine build_ (cs := #[(nodes_h).v]) gok rfl rfl rfl ?_
 refine alloc_ gok rfl H ?_; clear H; intro b6 w5 hx H
 clear hx
 refine stA gok [(nodes_h).v] rfl H rfl rfl rfl ?_; clear H; intro w8 H
 refine sq ?_
 refine loadN [(nodes_h).v] rfl (fun j u hj => H.bx 0 rfl hj) ?_
 obtain ⟨y9, e, f0⟩ := bindS hF; clear hF
 have ey9 := e; clear e
 refine callF (impl_Term_isValid_c nodes_ nodes_h y9 ey9) (Γi := []) H ⟨Vw.own 2 rfl, trivial⟩ ?_; clear H ey9
 rintro _ _ w1 ⟨rfl, rfl⟩ H
 obtain ⟨a0, e, f1⟩ := bindS f0; clear f0
 refine boolO e ?_; clear e
 cases a0
 ·
  have f2 := condF f1; clear f1
  refine loadN [(nodes_h).v] rfl (fun j u hj => H.bx 0 rfl hj) ?_
  replace H := H.sel [1, 0, 2] rfl
  refine stA gok [(nodes_h).v] rfl H rfl rfl rfl ?_; clear H; intro w3 H
  refine loadN [(nodes_h).v] rfl (fun j u hj => H.bx 0 rfl hj) ?_
  cases f2
  exact ⟨_, _, rfl, ⟨nodes_h, rfl, rfl⟩, (H.sel [2] rfl).close ⟨cloE, trivial⟩⟩
 ·
  have f3 := condT f1; clear f1
  refine build_ (cs := #[(.slice none 0 0)]) gok rfl rfl rfl ?_
  replace H := H.sel [1, 0, 2] rfl
  refine stA gok [(.slice none 0 0)] rfl H rfl rfl rfl ?_; clear H; intro w4 H
  refine loadN [(.slice none 0 0)] rfl (fun j u hj => H.bx 0 rfl hj) ?_
  replace H := H.nil (α := Int × Int × ByteArray)
  cases f3
  exact ⟨_, _, rfl, ⟨nilH, rfl, rfl⟩, (H.sel [0] rfl).close ⟨cloE, trivial⟩⟩

theorem impl_Graph_termByOrder_1_c (factor_ : List (Int × Int × ByteArray)) (factor_h : Hd) (c0_b : Nat) (c0_ : List (Int × Int × ByteArray)) (c0_h : Hd) (y : List (Int × Int × ByteArray)) (hF : F_impl_Graph_termByOrder_1 factor_ c0_ = some y) :
  ConF Tryz.prog 31 #[(factor_h).v, (.pointer (some ⟨c0_b, 0, none⟩))] [] [E (List (Int × Int × ByteArray)) factor_ factor_h, Bx c0_b [(c0_h).v], E (List (Int × Int × ByteArray)) c0_ c0_h] (fun v Γ' => ∃ z0 : Hd, v = (.tuple #[]) ∧ Γ' = [Bx c0_b [(z0).v], E (List (Int × Int × ByteArray)) y z0]) := by
 intro w0 S0 fp0 hI hS
 have H : Cx w0 fp0 S0 w0 [E (List (Int × Int × ByteArray)) factor_ factor_h, Bx c0_b [(c0_h).v], E (List (Int × Int × ByteArray)) c0_ c0_h] := Cx.start hI hS
 clear hI hS
 refine enterC (args := [_, _]) gok Tryz.func31 rfl _ rfl rfl rfl ?_
 obtain ⟨r0, f0, f1⟩ := bindS hF; clear hF
 refine cut (fun (q0 : (List (Int × Int × ByteArray)) × Hd) => [(0, (q0.2).v), (1, (.pointer (some ⟨c0_b, 0, none⟩)))]) (fun (q0 : (List (Int × Int × ByteArray)) × Hd) w' => q0.1 = r0 ∧ Cx w0 fp0 S0 w' [E (List (Int × Int × ByteArray)) q0.1 q0.2, Bx c0_b [(c0_h).v], E (List (Int × Int × ByteArray)) c0_ c0_h]) ?_ ?_
 ·
  refine load1 (H.bx0 1 rfl) ?_
  refine lenE (H.ro (α := List (Int × Int × ByteArray)) 2 rfl).len ?_
  obtain ⟨a0, e, f2⟩ := bindS f0; clear f0
  refine boolO e ?_; clear e
  cases a0
  ·
   have f3 := condF f2; clear f2
   exact ⟨(factor_, factor_h), ⟨rfl, rfl, trivial⟩, Option.some.inj f3, H.sel [0, 1, 2] rfl⟩
  ·
   have f4 := condT f2; clear f2
   refine load1 (H.bx0 1 rfl) ?_
   obtain ⟨y0, e, f5⟩ := bindS f4; clear f4
   have i0 := e; clear e
   refine callF (impl_joinNodes_c 15 c0_ c0_h factor_ factor_h y0 i0) (Γi := []) H ⟨Vw.own 2 rfl, Vw.own 0 rfl, trivial⟩ ?_; clear H i0
   rintro _ _ w1 ⟨h0, rfl, rfl⟩ H
   exact ⟨(y0, h0), ⟨rfl, rfl, trivial⟩, Option.some.inj f5, H.sel [0, 2, 3] rfl⟩
 ·
  clear f0 H
  rintro T0 ⟨s0, g0⟩ w2 ⟨hr, (H : Cx w0 fp0 S0 w2 [E (List (Int × Int × ByteArray)) s0 g0, Bx c0_b [(c0_h).v], E (List (Int × Int × ByteArray)) c0_ c0_h])⟩
  subst hr
  replace H := H.sel [1, 0, 2] rfl
  refine stB0 H rfl ?_; clear H; intro w3 H
  cases f1
  exact ⟨_, _, rfl, ⟨g0, rfl, rfl⟩, (H.sel [0, 1] rfl).close ⟨cloB, cloE, trivial⟩⟩

theorem impl_Graph_termByOrder_2_c (cut_ : List Int) (cut_h : Hd) (target_ : List Int) (target_h : Hd) (c0_b : Nat) (d0_b : Nat) (d0_ : List (Int × Int × ByteArray)) (d0_h : Hd) (y : List (Int × Int × ByteArray)) (hF : F_impl_Graph_termByOrder_2 cut_ target_ d0_ = some y) :
  ConF Tryz.prog 33 #[(cut_h).v, (target_h).v, (.pointer (some ⟨c0_b, 0, none⟩))] [Es (List Int) cut_ cut_h, Es (List Int) target_ target_h] [Bx c0_b [(.func (.func 31) #[] #[(.pointer (some ⟨d0_b, 0, none⟩))])], Bx d0_b [(d0_h).v], E (List (Int × Int × ByteArray)) d0_ d0_h] (fun v Γ' => ∃ z0 : Hd, v = (.tuple #[]) ∧ Γ' = [Bx c0_b [(.func (.func 31) #[] #[(.pointer (some ⟨d0_b, 0, none⟩))])], Bx d0_b [(z0).v], E (List (Int × Int × ByteArray)) y z0]) := by
 intro w0 S0 fp0 hI hS
 have H : Cx w0 fp0 S0 w0 [Es (List Int) cut_ cut_h, Es (List Int) target_ target_h, Bx c0_b [(.func (.func 31) #[] #[(.pointer (some ⟨d0_b, 0, none⟩))])], Bx d0_b [(d0_h).v], E (List (Int × Int × ByteArray)) d0_ d0_h] := Cx.start hI hS
 clear hI hS
 refine enterC (args := [_, _, _]) gok Tryz.func33 rfl _ rfl rfl rfl ?_
 obtain ⟨y6, e, hF7⟩ := bindS hF; clear hF
 have ey6 := e; clear e
 refine callF (slices_Equal_int_int_c cut_ cut_h target_ target_h y6 ey6) (Γi := []) H ⟨Vw.sh 0 rfl, Vw.sh 1 rfl, trivial⟩ ?_; clear H ey6
 rintro _ _ w8 ⟨rfl, rfl⟩ H
 obtain ⟨a9, e, f0⟩ := bindS hF7; clear hF7
 refine boolO e ?_; clear e
 cases a9
 ·
  have f1 := condF f0; clear f0
  cases f1
  exact ⟨_, _, rfl, ⟨d0_h, rfl, rfl⟩, (H.sel [2, 3, 4] rfl).close ⟨cloB, cloB, cloE, trivial⟩⟩
 ·
  have f2 := condT f0; clear f0
  refine heldX H [5] (.fst 1 (.fst 2 (.fst 0 (.act 3 (.act 4 (.act 5 .done)))))) mixed [] trivial (by kernel_rfl) ?_
  clear H; intro w1 H
  have hX : Ext w1 w1 := Upd.refl _ _
  have H0 := H
  refine load1X (H.bx0 2 rfl) ?_
  obtain ⟨y0, e, f3⟩ := bindS f2; clear f2
  have i0 := e; clear e
  refine callFx (impl_placesIn_c cut_ cut_h target_ target_h y0 i0) H ⟨Vw.sh 0 rfl, Vw.sh 1 rfl, trivial⟩ ?_; clear H i0
  rintro _ _ w2 ⟨h0, rfl, rfl⟩ hx H
  replace hX := hX.trans0 hx; clear hx
  refine hold hX ?_
  obtain ⟨y1, e, f4⟩ := bindS f3; clear f3
  have i1 := e; clear e
  refine callFx (impl_permutationNodes_c y0 h0 y1 i1) H ⟨Vw.own 0 rfl, trivial⟩ ?_; clear H i1
  rintro _ _ w3 ⟨h1, rfl, rfl⟩ hx H
  replace hX := hX.trans0 hx; clear hx
  refine hold hX ?_
  obtain ⟨y2, e, f5⟩ := bindS f4; clear f4
  have i2 := e; clear e
  replace H := H.sel [0, 5, 6, 1, 2, 3, 4] rfl
  refine callF (impl_Graph_termByOrder_1_c y1 h1 d0_b d0_ d0_h y2 i2) (Γi := [E (List (Int × Int × ByteArray)) y1 h1, Bx d0_b [(d0_h).v], E (List (Int × Int × ByteArray)) d0_ d0_h]) H trivial ?_; clear H i2
  rintro _ _ w4 ⟨h2, rfl, rfl⟩ H
  refine hold trivial ?_
  cases f5
  exact ⟨_, _, rfl, ⟨h2, rfl, rfl⟩, (H.sel [5, 0, 1] rfl).close ⟨cloB, cloB, cloE, trivial⟩⟩

theorem impl_Graph_termByOrder_c (g__0 : Int) (g__1 : List (Int × Int × List Int × List Int)) (g__1h : Hd) (g__2 : List Int) (g__2h : Hd) (g__3 : List Int) (g__3h : Hd) (order_ : List Int) (order_h : Hd) (y0_0 : List (Int × Int × ByteArray)) (y1 : Bool) (hF : F_impl_Graph_termByOrder (g__0, g__1, g__2, g__3) order_ = some (y0_0, y1)) :
  ConF Tryz.prog 16 #[(.agg #[(.int .i64 g__0), (g__1h).v, (g__2h).v, (g__3h).v]), (order_h).v] [Es (List (Int × Int × List Int × List Int)) g__1 g__1h, Es (List Int) g__2 g__2h, Es (List Int) g__3 g__3h, Es (List Int) order_ order_h] [] (fun v Γ' => ∃ z0 : Hd, v = (.tuple #[(.agg #[(z0).v]), (.bool y1)]) ∧ Γ' = [E (List (Int × Int × ByteArray)) y0_0 z0]) := by
 intro w0 S0 fp0 hI hS
 have H : Cx w0 fp0 S0 w0 [Es (List (Int × Int × List Int × List Int)) g__1 g__1h, Es (List Int) g__2 g__2h, Es (List Int) g__3 g__3h, Es (List Int) order_ order_h] := Cx.start hI hS
 clear hI hS
 refine enterC (args := [_, _]) gok Tryz.func16 rfl _ rfl rfl rfl ?_
 refine box_ H ?_; clear H; intro b6 w5 hx H
 clear hx
 refine alloc_ gok rfl H ?_; clear H; intro b9 w8 hx H
 clear hx
 refine lit0 (α := Int × Int × ByteArray) gok rfl rfl H ?_; clear H; intro h0 w1 hx H
 clear hx
 refine alloc_ gok rfl H ?_; clear H; intro b0 w2 hx H
 clear hx
 refine stB0 H rfl ?_; clear H; intro w3 H
 refine alloc_ gok rfl H ?_; clear H; intro b1 w4 hx H
 clear hx
 refine stB0 H rfl ?_; clear H; intro w6 H
 refine fld gok rfl rfl rfl rfl ?_
 refine load1 (H.bx 4 rfl (j := 2) rfl) ?_
 refine sq ?_
 refine lenE (H.rs (α := List Int) 8 rfl).len ?_
 have x0 := (H.rs (α := List Int) 8 rfl).max
 obtain ⟨r0, e, f0⟩ := bindS hF; clear hF
 replace H := H.dup 6 rfl persS
 refine loopO _ order_.length (fun (k0 : Nat) (s0 : (List (Int × Int × ByteArray)) × List Int) (g0 : Hd × Hd) => [(2, (.pointer (some ⟨b6, 0, none⟩))), (4, (.pointer (some ⟨b9, 0, none⟩))), (6, (.pointer (some ⟨b0, 0, none⟩))), (7, (.pointer (some ⟨b1, 0, none⟩))), (8, (.func (.func 33) #[] #[(.pointer (some ⟨b1, 0, none⟩))])), (9, (g0.2).v), (20, (order_h).v), (21, (.int .i64 ((order_.length : Nat) : Int))), (22, (.int .i64 ((k0 : Nat) : Int)))]) (fun _ (s0 : (List (Int × Int × ByteArray)) × List Int) (g0 : Hd × Hd) w' => Cx w0 fp0 S0 w' [Bx b6 [(.int .i64 g__0), (g__1h).v, (g__2h).v, (g__3h).v], Es (List (Int × Int × List Int × List Int)) g__1 g__1h, Es (List Int) g__2 g__2h, Es (List Int) g__3 g__3h, Bx b9 [(.slice none 0 0)], Bx b0 [(g0.1).v], E (List (Int × Int × ByteArray)) s0.1 g0.1, Bx b1 [(.func (.func 31) #[] #[(.pointer (some ⟨b0, 0, none⟩))])], Es (List Int) s0.2 g0.2, Es (List Int) order_ order_h]) (([] : List (Int × Int × ByteArray)), g__2) (h0, g__2h) e ⟨rfl, rfl, rfl, rfl, rfl, rfl, rfl, rfl, rfl, trivial⟩ (H.sel [5, 6, 7, 8, 4, 2, 3, 1, 0, 9] rfl) ?_ ?_
 ·
  clear H e
  rintro T0 k0 ⟨s0_0, s0_1⟩ ⟨g0_0, g0_1⟩ w7 o0 hk (H : Cx w0 fp0 S0 w7 [Bx b6 [(.int .i64 g__0), (g__1h).v, (g__2h).v, (g__3h).v], Es (List (Int × Int × List Int × List Int)) g__1 g__1h, Es (List Int) g__2 g__2h, Es (List Int) g__3 g__3h, Bx b9 [(.slice none 0 0)], Bx b0 [(g0_0).v], E (List (Int × Int × ByteArray)) s0_0 g0_0, Bx b1 [(.func (.func 31) #[] #[(.pointer (some ⟨b0, 0, none⟩))])], Es (List Int) s0_1 g0_1, Es (List Int) order_ order_h]) hrt f1
  refine boolE (z := true) (ltLen hk) ?_
  refine sq ?_
  refine sq ?_
  obtain ⟨a0, e, f2⟩ := bindS f1; clear f1
  obtain ⟨p0, m0, c0, c1, c2, c3⟩ := (H.rs (α := List Int) 9 rfl).at1 e; clear e
  refine idxE c0 c1 c2 ?_; clear c0 c1 c2
  refine load1 c3 ?_; clear c3
  refine fld gok rfl rfl rfl rfl ?_
  refine load1 (H.bx 0 rfl (j := 1) rfl) ?_
  obtain ⟨a1, e, f3⟩ := bindS f2; clear f2
  have HH := H; clear H; obtain ⟨p1, m1, g1, c4, c5, c6, c7, H⟩ := HH.el (α := Int × Int × List Int × List Int) 1 rfl e; clear HH
  clear e
  obtain ⟨a1_0, a1_1, a1_2, a1_3⟩ := a1
  obtain ⟨_, _, h1, h2⟩ := g1
  replace H := H.part (β := List Int) a1_2 (h1 : Hd) 0 rfl (fun S h => (And.left (And.right (And.right h))))
  replace H := H.part (β := List Int) a1_3 (h2 : Hd) 1 rfl (fun S h => (And.right (And.right (And.right h))))
  replace H := H.sel [0, 1, 3, 4, 5, 6, 7, 8, 9, 10, 11, 12] rfl
  refine idxE c4 c5 c6 ?_; clear c4 c5 c6
  refine loadN [(.int .i64 a1_0), (.int .i64 a1_1), (h1).v, (h2).v] rfl c7 ?_; clear c7
  refine alloc_ gok rfl H ?_; clear H; intro b2 w9 hx H
  clear hx
  refine stA gok [(.int .i64 a1_0), (.int .i64 a1_1), (h1).v, (h2).v] rfl H rfl rfl rfl ?_; clear H; intro w10 H
  refine fld gok rfl rfl rfl rfl ?_
  refine load1 (H.bx 0 rfl (j := 2) rfl) ?_
  obtain ⟨y0, e, f4⟩ := bindS f3; clear f3
  have i0 := e; clear e
  refine callF (impl_others_c s0_1 g0_1 a1_2 h1 y0 i0) (Γi := []) H ⟨Vw.sh 11 rfl, Vw.sh 2 rfl, trivial⟩ ?_; clear H i0
  rintro _ _ w12 ⟨h3, rfl, rfl⟩ H
  refine sq ?_
  obtain ⟨r1, f5, f6⟩ := bindS f4; clear f4
  refine cut (fun (q0 : Bool) => [(2, (.pointer (some ⟨b6, 0, none⟩))), (4, (.pointer (some ⟨b9, 0, none⟩))), (6, (.pointer (some ⟨b0, 0, none⟩))), (7, (.pointer (some ⟨b1, 0, none⟩))), (8, (.func (.func 33) #[] #[(.pointer (some ⟨b1, 0, none⟩))])), (9, (g0_1).v), (12, (.pointer (some ⟨b2, 0, none⟩))), (13, (h3).v), (20, (order_h).v), (21, (.int .i64 ((order_.length : Nat) : Int))), (22, (.int .i64 ((k0 : Nat) : Int))), (42, (.bool q0))]) (fun (q0 : Bool) w' => q0 = r1 ∧ Cx w0 fp0 S0 w' [Bx b6 [(.int .i64 g__0), (g__1h).v, (g__2h).v, (g__3h).v], Es (List (Int × Int × List Int × List Int)) g__1 g__1h, Es (List Int) g__2 g__2h, Es (List Int) g__3 g__3h, Bx b9 [(.slice none 0 0)], Bx b0 [(g0_0).v], E (List (Int × Int × ByteArray)) s0_0 g0_0, Bx b1 [(.func (.func 31) #[] #[(.pointer (some ⟨b0, 0, none⟩))])], Es (List Int) s0_1 g0_1, Bx b2 [(.int .i64 a1_0), (.int .i64 a1_1), (h1).v, (h2).v], Es (List Int) a1_2 h1, Es (List Int) a1_3 h2, E (List Int) y0 h3, Es (List Int) order_ order_h]) ?_ ?_
  ·
   refine lenE (H.rs (α := List Int) 12 rfl).len ?_
   obtain ⟨a2, e, f7⟩ := bindS f5; clear f5
   refine boolO e ?_; clear e
   cases a2
   ·
    have f8 := condF f7; clear f7
    refine load1 (H.bx0 9 rfl) ?_
    refine lenE (H.ro (α := List (Int × Int × ByteArray)) 10 rfl).len ?_
    obtain ⟨a3, e, f9⟩ := bindS f8; clear f8
    refine boolO e ?_; clear e
    exact ⟨a3, ⟨rfl, rfl, rfl, rfl, rfl, rfl, rfl, rfl, rfl, rfl, rfl, rfl, trivial⟩, Option.some.inj f9, H.sel [4, 5, 6, 7, 8, 9, 10, 11, 12, 1, 3, 2, 0, 13] rfl⟩
   ·
    have f10 := condT f7; clear f7
    exact ⟨true, ⟨rfl, rfl, rfl, rfl, rfl, rfl, rfl, rfl, rfl, rfl, rfl, rfl, trivial⟩, Option.some.inj f10, H.sel [4, 5, 6, 7, 8, 9, 10, 11, 12, 1, 3, 2, 0, 13] rfl⟩
  ·
   clear f5 H
   rintro T1 s1 w13 ⟨hr, (H : Cx w0 fp0 S0 w13 [Bx b6 [(.int .i64 g__0), (g__1h).v, (g__2h).v, (g__3h).v], Es (List (Int × Int × List Int × List Int)) g__1 g__1h, Es (List Int) g__2 g__2h, Es (List Int) g__3 g__3h, Bx b9 [(.slice none 0 0)], Bx b0 [(g0_0).v], E (List (Int × Int × ByteArray)) s0_0 g0_0, Bx b1 [(.func (.func 31) #[] #[(.pointer (some ⟨b0, 0, none⟩))])], Es (List Int) s0_1 g0_1, Bx b2 [(.int .i64 a1_0), (.int .i64 a1_1), (h1).v, (h2).v], Es (List Int) a1_2 h1, Es (List Int) a1_3 h2, E (List Int) y0 h3, Es (List Int) order_ order_h])⟩
   subst hr
   cases s1
   ·
    have f11 := condF f6; clear f6
    refine fld gok rfl rfl rfl rfl ?_
    refine load1 (H.bx 9 rfl (j := 2) rfl) ?_
    replace H := H.sel [12, 0, 1, 2, 3, 4, 5, 6, 7, 8, 9, 10, 11, 13] rfl
    replace H := H.frz
    replace H := H.dup 0 rfl persS
    replace H := H.dup 12 rfl persS
    refine litN (α := Sh (List Int)) (us := [(h1).v, (h3).v]) (xs := [a1_2, y0]) (gs := ([h1, h3] : List Hd)) gok rfl rfl rfl ⟨rfl, rfl, trivial⟩ rfl rfl H ?_; clear H; intro h4 w15 hx H
    clear hx
    obtain ⟨y2, e, f12⟩ := bindS f11; clear f11
    have i1 := e; clear e
    refine callF (impl_joined_c [a1_2, y0] h4 y2 i1) (Γi := []) H ⟨Vw.part (β := List (List Int)) (Vw.own (α := List (Sh (List Int))) 0 rfl) [a1_2, y0] h4 (fun S h => h), trivial⟩ ?_; clear H i1
    rintro _ _ w16 ⟨h5, rfl, rfl⟩ H
    obtain ⟨y3, e, f13⟩ := bindS f12; clear f12
    have i2 := e; clear e
    replace H := H.sel [10, 8, 9, 0, 1, 2, 3, 4, 5, 6, 7, 11, 12, 13, 14, 15] rfl
    refine callF (impl_Graph_termByOrder_2_c s0_1 g0_1 y2 h5 b1 b0 s0_0 g0_0 y3 i2) (Γi := [Bx b1 [(.func (.func 31) #[] #[(.pointer (some ⟨b0, 0, none⟩))])], Bx b0 [(g0_0).v], E (List (Int × Int × ByteArray)) s0_0 g0_0]) H ⟨Vw.sh 8 rfl, Vw.own 0 rfl, trivial⟩ ?_; clear H i2
    rintro _ _ w19 ⟨h6, rfl, rfl⟩ H
    refine fld gok rfl rfl rfl rfl ?_
    refine load1 (H.bx 12 rfl (j := 0) rfl) ?_
    refine fld gok rfl rfl rfl rfl ?_
    refine load1 (H.bx 12 rfl (j := 1) rfl) ?_
    obtain ⟨y4, e, f14⟩ := bindS f13; clear f13
    obtain ⟨y4_0, y4_1, y4_2⟩ := y4
    have i3 := e; clear e
    refine callF (impl_leafOf_c a1_0 a1_1 y4_0 y4_1 y4_2 i3) (Γi := []) H trivial ?_; clear H i3
    rintro _ _ w20 ⟨rfl, rfl⟩ H
    replace H := H.sc (α := ByteArray) y4_2
    replace H := H.sc (α := Int) y4_1
    replace H := H.join (α := Int) (β := ByteArray)
    replace H := H.sc (α := Int) y4_0
    replace H := H.join (α := Int) (β := Int × ByteArray)
    refine lit1 (α := Int × Int × ByteArray) (g := ((), (), ())) gok rfl rfl rfl rfl rfl H ?_; clear H; intro h7 w22 hx H
    clear hx
    obtain ⟨r2, f15, f16⟩ := bindS f14; clear f14
    refine cut (fun (q1 : (List (Int × Int × ByteArray)) × Hd) => [(2, (.pointer (some ⟨b6, 0, none⟩))), (4, (.pointer (some ⟨b9, 0, none⟩))), (6, (.pointer (some ⟨b0, 0, none⟩))), (7, (.pointer (some ⟨b1, 0, none⟩))), (8, (.func (.func 33) #[] #[(.pointer (some ⟨b1, 0, none⟩))])), (9, (g0_1).v), (12, (.pointer (some ⟨b2, 0, none⟩))), (14, (q1.2).v), (20, (order_h).v), (21, (.int .i64 ((order_.length : Nat) : Int))), (22, (.int .i64 ((k0 : Nat) : Int)))]) (fun (q1 : (List (Int × Int × ByteArray)) × Hd) w' => q1.1 = r2 ∧ Cx w0 fp0 S0 w' [Bx b6 [(.int .i64 g__0), (g__1h).v, (g__2h).v, (g__3h).v], Es (List (Int × Int × List Int × List Int)) g__1 g__1h, Es (List Int) g__2 g__2h, Es (List Int) g__3 g__3h, Bx b9 [(.slice none 0 0)], Bx b0 [(h6).v], E (List (Int × Int × ByteArray)) y3 h6, Bx b1 [(.func (.func 31) #[] #[(.pointer (some ⟨b0, 0, none⟩))])], Es (List Int) s0_1 g0_1, Bx b2 [(.int .i64 a1_0), (.int .i64 a1_1), (h1).v, (h2).v], Es (List Int) a1_2 h1, Es (List Int) a1_3 h2, E (List (Int × Int × ByteArray)) q1.1 q1.2, Es (List Int) order_ order_h]) ?_ ?_
    ·
     refine lenE (H.rs (α := List Int) 6 rfl).len ?_
     obtain ⟨a4, e, f17⟩ := bindS f15; clear f15
     refine boolO e ?_; clear e
     cases a4
     ·
      have f18 := condF f17; clear f17
      exact ⟨([(y4_0, y4_1, y4_2)], h7), ⟨rfl, rfl, rfl, rfl, rfl, rfl, rfl, rfl, rfl, rfl, rfl, trivial⟩, Option.some.inj f18, H.sel [7, 8, 9, 10, 11, 2, 3, 1, 12, 13, 14, 15, 0, 16] rfl⟩
     ·
      have f19 := condT f17; clear f17
      refine lenE (H.rs (α := List Int) 6 rfl).len ?_
      obtain ⟨y5, e, f20⟩ := bindS f19; clear f19
      obtain ⟨y5_0, y5_1, y5_2⟩ := y5
      have i4 := e; clear e
      refine callF (impl_leafOf_c 1 ((y0.length : Nat) : Int) y5_0 y5_1 y5_2 i4) (Γi := []) H trivial ?_; clear H i4
      rintro _ _ w23 ⟨rfl, rfl⟩ H
      replace H := H.sc (α := ByteArray) y5_2
      replace H := H.sc (α := Int) y5_1
      replace H := H.join (α := Int) (β := ByteArray)
      replace H := H.sc (α := Int) y5_0
      replace H := H.join (α := Int) (β := Int × ByteArray)
      refine lit1 (α := Int × Int × ByteArray) (g := ((), (), ())) gok rfl rfl rfl rfl rfl H ?_; clear H; intro h8 w24 hx H
      clear hx
      obtain ⟨y6, e, f21⟩ := bindS f20; clear f20
      have i5 := e; clear e
      refine callF (impl_joinNodes_c 16 [(y4_0, y4_1, y4_2)] h7 [(y5_0, y5_1, y5_2)] h8 y6 i5) (Γi := []) H ⟨Vw.own 1 rfl, Vw.own 0 rfl, trivial⟩ ?_; clear H i5
      rintro _ _ w25 ⟨h9, rfl, rfl⟩ H
      exact ⟨(y6, h9), ⟨rfl, rfl, rfl, rfl, rfl, rfl, rfl, rfl, rfl, rfl, rfl, trivial⟩, Option.some.inj f21, H.sel [9, 10, 11, 12, 13, 4, 5, 3, 14, 15, 16, 17, 0, 18] rfl⟩
    ·
     clear f15 H
     rintro T2 ⟨s2, g2⟩ w26 ⟨hr, (H : Cx w0 fp0 S0 w26 [Bx b6 [(.int .i64 g__0), (g__1h).v, (g__2h).v, (g__3h).v], Es (List (Int × Int × List Int × List Int)) g__1 g__1h, Es (List Int) g__2 g__2h, Es (List Int) g__3 g__3h, Bx b9 [(.slice none 0 0)], Bx b0 [(h6).v], E (List (Int × Int × ByteArray)) y3 h6, Bx b1 [(.func (.func 31) #[] #[(.pointer (some ⟨b0, 0, none⟩))])], Es (List Int) s0_1 g0_1, Bx b2 [(.int .i64 a1_0), (.int .i64 a1_1), (h1).v, (h2).v], Es (List Int) a1_2 h1, Es (List Int) a1_3 h2, E (List (Int × Int × ByteArray)) s2 g2, Es (List Int) order_ order_h])⟩
     subst hr
     refine load1 (H.bx0 7 rfl) ?_
     obtain ⟨y7, e, f22⟩ := bindS f16; clear f16
     have i6 := e; clear e
     replace H := H.sel [12, 5, 6, 0, 1, 2, 3, 4, 7, 8, 9, 10, 11, 13] rfl
     refine callF (impl_Graph_termByOrder_1_c s2 g2 b0 y3 h6 y7 i6) (Γi := [E (List (Int × Int × ByteArray)) s2 g2, Bx b0 [(h6).v], E (List (Int × Int × ByteArray)) y3 h6]) H trivial ?_; clear H i6
     rintro _ _ w27 ⟨h10, rfl, rfl⟩ H
     refine loadN [(.int .i64 a1_0), (.int .i64 a1_1), (h1).v, (h2).v] rfl (fun j u hj => H.bx 9 rfl hj) ?_
     obtain ⟨y8, e, f23⟩ := bindS f22; clear f22
     have i7 := e; clear e
     refine callF (impl_cutBehind_c s0_1 g0_1 a1_0 a1_1 a1_2 h1 a1_3 h2 y8 i7) (Γi := []) H ⟨Vw.sh 8 rfl, Vw.sh 10 rfl, Vw.sh 11 rfl, trivial⟩ ?_; clear H i7
     rintro _ _ w28 ⟨h11, rfl, rfl⟩ H
     refine arK hk x0 ?_
     replace H := H.frz
     have hs := Option.some.inj f23; subst hs; clear f23
     exact ⟨(y7, y8), (h10, h11), rfl, ⟨rfl, rfl, rfl, rfl, rfl, rfl, rfl, rfl, rfl, trivial⟩, H.sel [3, 4, 5, 6, 7, 1, 2, 8, 0, 13] rfl⟩
   ·
    have f24 := condT f6; clear f6
    refine build_ (cs := #[(.slice none 0 0)]) gok rfl rfl rfl ?_
    replace H := H.sel [4, 0, 1, 2, 3, 5, 6, 7, 8, 9, 10, 11, 12, 13] rfl
    refine stA gok [(.slice none 0 0)] rfl H rfl rfl rfl ?_; clear H; intro w29 H
    have hs := Option.some.inj f24; subst hs; clear f24
    have hr := hrt _ rfl; subst hr
    have f25 : some _ = some _ := f0
    refine loadN [(.slice none 0 0)] rfl (fun j u hj => H.bx 0 rfl hj) ?_
    replace H := H.nil (α := Int × Int × ByteArray)
    cases f25
    exact ⟨_, _, rfl, ⟨nilH, rfl, rfl⟩, (H.sel [0] rfl).close ⟨cloE, trivial⟩⟩
 ·
  clear H e
  rintro T3 ⟨s3_0, s3_1⟩ ⟨g3_0, g3_1⟩ w30 hr (H : Cx w0 fp0 S0 w30 [Bx b6 [(.int .i64 g__0), (g__1h).v, (g__2h).v, (g__3h).v], Es (List (Int × Int × List Int × List Int)) g__1 g__1h, Es (List Int) g__2 g__2h, Es (List Int) g__3 g__3h, Bx b9 [(.slice none 0 0)], Bx b0 [(g3_0).v], E (List (Int × Int × ByteArray)) s3_0 g3_0, Bx b1 [(.func (.func 31) #[] #[(.pointer (some ⟨b0, 0, none⟩))])], Es (List Int) s3_1 g3_1, Es (List Int) order_ order_h])
  subst hr
  refine boolE (z := false) geLen ?_
  refine sq ?_
  refine fld gok rfl rfl rfl rfl ?_
  refine load1 (H.bx 0 rfl (j := 3) rfl) ?_
  obtain ⟨y9, e, f26⟩ := bindS f0; clear f0
  have i8 := e; clear e
  replace H := H.sel [7, 5, 6, 0, 1, 2, 3, 4, 8, 9] rfl
  refine callF (impl_Graph_termByOrder_2_c s3_1 g3_1 g__3 g__3h b1 b0 s3_0 g3_0 y9 i8) (Γi := [Bx b1 [(.func (.func 31) #[] #[(.pointer (some ⟨b0, 0, none⟩))])], Bx b0 [(g3_0).v], E (List (Int × Int × ByteArray)) s3_0 g3_0]) H ⟨Vw.sh 5 rfl, Vw.sh 3 rfl, trivial⟩ ?_; clear H i8
  rintro _ _ w31 ⟨h13, rfl, rfl⟩ H
  obtain ⟨r3, f27, f28⟩ := bindS f26; clear f26
  refine cut (fun (q2 : (List (Int × Int × ByteArray)) × Hd) => [(4, (.pointer (some ⟨b9, 0, none⟩))), (6, (.pointer (some ⟨b0, 0, none⟩)))]) (fun (q2 : (List (Int × Int × ByteArray)) × Hd) w' => q2.1 = r3 ∧ Cx w0 fp0 S0 w' [Bx b9 [(.slice none 0 0)], Bx b0 [(q2.2).v], E (List (Int × Int × ByteArray)) q2.1 q2.2]) ?_ ?_
  ·
   refine load1 (H.bx0 1 rfl) ?_
   refine lenE (H.ro (α := List (Int × Int × ByteArray)) 2 rfl).len ?_
   obtain ⟨a5, e, f29⟩ := bindS f27; clear f27
   refine boolO e ?_; clear e
   cases a5
   ·
    have f30 := condF f29; clear f29
    exact ⟨(y9, h13), ⟨rfl, rfl, trivial⟩, Option.some.inj f30, H.sel [7, 1, 2] rfl⟩
   ·
    have f31 := condT f29; clear f29
    refine fld gok rfl rfl rfl rfl ?_
    refine load1 (H.bx 3 rfl (j := 2) rfl) ?_
    refine lenE (H.rs (α := List Int) 5 rfl).len ?_
    obtain ⟨y10, e, f32⟩ := bindS f31; clear f31
    obtain ⟨y10_0, y10_1, y10_2⟩ := y10
    have i9 := e; clear e
    refine callF (impl_leafOf_c 1 ((g__2.length : Nat) : Int) y10_0 y10_1 y10_2 i9) (Γi := []) H trivial ?_; clear H i9
    rintro _ _ w32 ⟨rfl, rfl⟩ H
    replace H := H.sc (α := ByteArray) y10_2
    replace H := H.sc (α := Int) y10_1
    replace H := H.join (α := Int) (β := ByteArray)
    replace H := H.sc (α := Int) y10_0
    replace H := H.join (α := Int) (β := Int × ByteArray)
    refine lit1 (α := Int × Int × ByteArray) (g := ((), (), ())) gok rfl rfl rfl rfl rfl H ?_; clear H; intro h14 w33 hx H
    clear hx
    replace H := H.sel [2, 0, 1, 3, 4, 5, 6, 7, 8, 9, 10] rfl
    refine stB0 H rfl ?_; clear H; intro w34 H
    exact ⟨([(y10_0, y10_1, y10_2)], h14), ⟨rfl, rfl, trivial⟩, Option.some.inj f32, H.sel [8, 0, 1] rfl⟩
  ·
   clear f27 H
   rintro T4 ⟨s4, g4⟩ w35 ⟨hr, (H : Cx w0 fp0 S0 w35 [Bx b9 [(.slice none 0 0)], Bx b0 [(g4).v], E (List (Int × Int × ByteArray)) s4 g4])⟩
   subst hr
   refine load1 (H.bx0 1 rfl) ?_
   obtain ⟨y11, e, f33⟩ := bindS f28; clear f28
   obtain ⟨y11_0_0, y11_1⟩ := y11
   have i10 := e; clear e
   replace H := H.sel [2, 0, 1] rfl
   refine callF (impl_validTerm_c s4 g4 y11_0_0 y11_1 i10) (Γi := [E (List (Int × Int × ByteArray)) s4 g4]) H trivial ?_; clear H i10
   rintro _ _ w36 ⟨h15, rfl, rfl⟩ H
   replace H := H.sel [1, 0, 2] rfl
   refine stA gok [(h15).v] rfl H rfl rfl rfl ?_; clear H; intro w37 H
   refine loadN [(h15).v] rfl (fun j u hj => H.bx 0 rfl hj) ?_
   cases f33
   exact ⟨_, _, rfl, ⟨h15, rfl, rfl⟩, (H.sel [1] rfl).close ⟨cloE, trivial⟩⟩

theorem impl_LayoutTerm_c (t__0 : List (Int × Int × ByteArray)) (t__0h : Hd) (y0_0 : List (Int × Int × ByteArray)) (y1 : Bool) (hF : F_impl_LayoutTerm t__0 = some (y0_0, y1)) :
  ConF Tryz.prog 7 #[(.agg #[(t__0h).v])] [Es (List (Int × Int × ByteArray)) t__0 t__0h] [] (fun v Γ' => ∃ z0 : Hd, v = (.tuple #[(.agg #[(z0).v]), (.bool y1)]) ∧ Γ' = [E (List (Int × Int × ByteArray)) y0_0 z0]) := by
 intro w0 S0 fp0 hI hS
 have H : Cx w0 fp0 S0 w0 [Es (List (Int × Int × ByteArray)) t__0 t__0h] := Cx.start hI hS
 clear hI hS
 refine enterC (args := [_]) gok Tryz.func7 rfl _ rfl rfl rfl ?_
 refine box_ H ?_; clear H; intro b3 w2 hx H
 clear hx
 refine alloc_ gok rfl H ?_; clear H; intro b6 w5 hx H
 clear hx
 refine loadN [(t__0h).v] rfl (fun j u hj => H.bx 1 rfl hj) ?_
 obtain ⟨y8, e, hF9⟩ := bindS hF; clear hF
 obtain ⟨⟨y8_0_0, y8_0_1, y8_0_2, y8_0_3⟩, y8_1⟩ := y8
 have ey8 := e; clear e
 refine callF (impl_GraphOf_c t__0 t__0h y8_0_0 y8_0_1 y8_0_2 y8_0_3 y8_1 ey8) (Γi := []) H ⟨Vw.sh 2 rfl, trivial⟩ ?_; clear H ey8
 rintro _ _ w1 ⟨h0, h1, h2, rfl, rfl⟩ H
 refine alloc_ gok rfl H ?_; clear H; intro b0 w3 hx H
 clear hx
 refine stA gok [(.int .i64 y8_0_0), (h0).v, (h1).v, (h2).v] rfl H rfl rfl rfl ?_; clear H; intro w4 H
 refine sq ?_
 obtain ⟨a0, e, f0⟩ := bindS hF9; clear hF9
 refine boolO e ?_; clear e
 cases a0
 ·
  have f1 := condF f0; clear f0
  refine heldX H [6, 7] (.fst 0 (.fst 1 (.act 2 (.act 3 (.fst 4 (.fst 5 (.act 6 (.act 7 .done)))))))) mixed [] trivial (by kernel_rfl) ?_
  clear H; intro w6 H
  have hX : Ext w6 w6 := Upd.refl _ _
  have H0 := H
  refine loadNX [(.int .i64 y8_0_0), (h0).v, (h1).v, (h2).v] rfl (fun j u hj => H.bx 0 rfl hj) ?_
  refine loadNX [(.int .i64 y8_0_0), (h0).v, (h1).v, (h2).v] rfl (fun j u hj => H.bx 0 rfl hj) ?_
  obtain ⟨y0, e, f2⟩ := bindS f1; clear f1
  have i0 := e; clear e
  refine callFx (impl_Graph_edgeOrder_c y8_0_0 y8_0_1 h0 y8_0_2 h1 y8_0_3 h2 y0 i0) H ⟨Vw.own 1 rfl, Vw.own 2 rfl, Vw.own 3 rfl, trivial⟩ ?_; clear H i0
  rintro _ _ w7 ⟨h3, rfl, rfl⟩ hx H
  replace hX := hX.trans0 hx; clear hx
  refine hold hX ?_
  obtain ⟨y2, e, f3⟩ := bindS f2; clear f2
  obtain ⟨y2_0_0, y2_1⟩ := y2
  have i1 := e; clear e
  refine callFx (impl_Graph_termByOrder_c y8_0_0 y8_0_1 h0 y8_0_2 h1 y8_0_3 h2 y0 h3 y2_0_0 y2_1 i1) H ⟨Vw.own 2 rfl, Vw.own 3 rfl, Vw.own 4 rfl, Vw.own 0 rfl, trivial⟩ ?_; clear H i1
  rintro _ _ w8 ⟨h4, rfl, rfl⟩ hx H
  replace hX := hX.trans0 hx; clear hx
  refine hold hX ?_
  replace H := H.sel [6, 0, 1, 2, 3, 4, 5, 7, 8] rfl
  refine stA gok [(h4).v] rfl H rfl rfl rfl ?_; clear H; intro w9 H
  refine hold trivial ?_
  refine hold trivial ?_
  refine loadN [(h4).v] rfl (fun j u hj => H.bx 0 rfl hj) ?_
  cases f3
  exact ⟨_, _, rfl, ⟨h4, rfl, rfl⟩, (H.sel [1] rfl).close ⟨cloE, trivial⟩⟩
 ·
  have f4 := condT f0; clear f0
  refine build_ (cs := #[(.slice none 0 0)]) gok rfl rfl rfl ?_
  replace H := H.sel [4, 0, 1, 2, 3, 5, 6] rfl
  refine stA gok [(.slice none 0 0)] rfl H rfl rfl rfl ?_; clear H; intro w11 H
  refine loadN [(.slice none 0 0)] rfl (fun j u hj => H.bx 0 rfl hj) ?_
  replace H := H.nil (α := Int × Int × ByteArray)
  cases f4
  exact ⟨_, _, rfl, ⟨nilH, rfl, rfl⟩, (H.sel [0] rfl).close ⟨cloE, trivial⟩⟩

theorem laws_eqNode_c (a__0 : Int) (a__1 : Int) (a__2 : ByteArray) (b__0 : Int) (b__1 : Int) (b__2 : ByteArray) (y : Bool) (hF : F_laws_eqNode (a__0, a__1, a__2) (b__0, b__1, b__2) = some y) :
  ConF Tryz.prog 48 #[(.agg #[(.int .i64 a__0), (.int .i64 a__1), (.string a__2)]), (.agg #[(.int .i64 b__0), (.int .i64 b__1), (.string b__2)])] [] [] (fun v Γ' => v = (.bool y) ∧ Γ' = []) := by
 intro w0 S0 fp0 hI hS
 have H : Cx w0 fp0 S0 w0 [] := Cx.start hI hS
 clear hI hS
 refine enterC (args := [_, _]) gok Tryz.func48 rfl _ rfl rfl rfl ?_
 refine box_ H ?_; clear H; intro b2 w1 hx H
 clear hx
 refine box_ H ?_; clear H; intro b5 w4 hx H
 clear hx
 refine sq ?_
 refine fld gok rfl rfl rfl rfl ?_
 refine load1 (H.bx 1 rfl (j := 0) rfl) ?_
 refine fld gok rfl rfl rfl rfl ?_
 refine load1 (H.bx 0 rfl (j := 0) rfl) ?_
 obtain ⟨a7, e, hF8⟩ := bindS hF; clear hF
 refine boolO e ?_; clear e
 cases a7
 ·
  have hF9 := condF hF8; clear hF8
  refine sq ?_
  refine fld gok rfl rfl rfl rfl ?_
  refine load1 (H.bx 1 rfl (j := 1) rfl) ?_
  refine fld gok rfl rfl rfl rfl ?_
  refine load1 (H.bx 0 rfl (j := 1) rfl) ?_
  obtain ⟨a0, e, f0⟩ := bindS hF9; clear hF9
  refine boolO e ?_; clear e
  cases a0
  ·
   have f1 := condF f0; clear f0
   refine sq ?_
   refine fld gok rfl rfl rfl rfl ?_
   refine load1 (H.bx 1 rfl (j := 2) rfl) ?_
   refine fld gok rfl rfl rfl rfl ?_
   refine load1 (H.bx 0 rfl (j := 2) rfl) ?_
   obtain ⟨a1, e, f2⟩ := bindS f1; clear f1
   refine neqZ e ?_; clear e
   cases a1
   ·
    have f3 := condF f2; clear f2
    cases f3
    exact ⟨_, _, rfl, ⟨rfl, rfl⟩, (H.sel [] rfl).close trivial⟩
   ·
    have f4 := condT f2; clear f2
    cases f4
    exact ⟨_, _, rfl, ⟨rfl, rfl⟩, (H.sel [] rfl).close trivial⟩
  ·
   have f5 := condT f0; clear f0
   cases f5
   exact ⟨_, _, rfl, ⟨rfl, rfl⟩, (H.sel [] rfl).close trivial⟩
 ·
  have f6 := condT hF8; clear hF8
  cases f6
  exact ⟨_, _, rfl, ⟨rfl, rfl⟩, (H.sel [] rfl).close trivial⟩

theorem laws_eqNodeS_c (a_ : List (Int × Int × ByteArray)) (a_h : Hd) (b_ : List (Int × Int × ByteArray)) (b_h : Hd) (y : Bool) (hF : F_laws_eqNodeS a_ b_ = some y) :
  ConF Tryz.prog 18 #[(a_h).v, (b_h).v] [Es (List (Int × Int × ByteArray)) a_ a_h, Es (List (Int × Int × ByteArray)) b_ b_h] [] (fun v Γ' => v = (.bool y) ∧ Γ' = []) := by
 intro w0 S0 fp0 hI hS
 have H : Cx w0 fp0 S0 w0 [Es (List (Int × Int × ByteArray)) a_ a_h, Es (List (Int × Int × ByteArray)) b_ b_h] := Cx.start hI hS
 clear hI hS
 refine enterC (args := [_, _]) gok Tryz.func18 rfl _ rfl rfl rfl ?_
 refine sq ?_
 refine lenE (H.rs (α := List (Int × Int × ByteArray)) 0 rfl).len ?_
 refine lenE (H.rs (α := List (Int × Int × ByteArray)) 1 rfl).len ?_
 obtain ⟨a3, e, hF4⟩ := bindS hF; clear hF
 refine boolO e ?_; clear e
 cases a3
 ·
  have hF5 := condF hF4; clear hF4
  obtain ⟨r0, f0, f1⟩ := bindS hF5; clear hF5
  refine cut (fun (q0 : Unit) => []) (fun (q0 : Unit) w' => .inl () = r0 ∧ Cx w0 fp0 S0 w' []) ?_ ?_
  ·
   refine loopW _ (fun (s0 : Int) (_ : Unit) => [(0, (a_h).v), (1, (b_h).v), (5, (.int .i64 s0))]) (fun (s0 : Int) (_ : Unit) w' => Cx w0 fp0 S0 w' [Es (List (Int × Int × ByteArray)) a_ a_h, Es (List (Int × Int × ByteArray)) b_ b_h]) 0 () f0 ⟨rfl, rfl, rfl, trivial⟩ (H.sel [0, 1] rfl) ?_
   ·
    clear H
    rintro T0 s0 _ w1 o0 (H : Cx w0 fp0 S0 w1 [Es (List (Int × Int × ByteArray)) a_ a_h, Es (List (Int × Int × ByteArray)) b_ b_h]) hrt f2
    refine sq ?_
    refine lenE (H.rs (α := List (Int × Int × ByteArray)) 0 rfl).len ?_
    obtain ⟨a0, e, f3⟩ := bindS f2; clear f2
    refine boolO e ?_; clear e
    cases a0
    ·
     have f4 := condF f3; clear f3
     have hs := Option.some.inj f4; subst hs; clear f4
     have f5 : some _ = some _ := congrArg some (hrt _ rfl).symm
     exact ⟨(), trivial, Option.some.inj f5, H.sel [] rfl⟩
    ·
     have f6 := condT f3; clear f3
     refine sq ?_
     refine heldX H [] (.fst 0 (.fst 1 (.fst 2 (.fst 4 (.fst 5 (.fst 6 (.fst 3 (.fst 7 (.act 8 (.fst 9 .done)))))))))) mixed [] trivial (by kernel_rfl) ?_
     clear H; intro w2 H
     have hX : Ext w2 w2 := Upd.refl _ _
     have H0 := H
     obtain ⟨a1, e, f7⟩ := bindS f6; clear f6
     have HH := H; clear H; obtain ⟨p0, m0, g0, c0, c1, c2, c3, H⟩ := HH.el (α := Int × Int × ByteArray) 0 rfl e; clear HH
     clear e
     obtain ⟨a1_0, a1_1, a1_2⟩ := a1
     obtain ⟨_, _, _⟩ := g0
     replace H := H.sel [1, 2] rfl
     refine idxE c0 c1 c2 ?_; clear c0 c1 c2
     obtain ⟨a2, e, f8⟩ := bindS f7; clear f7
     have HH := H; clear H; obtain ⟨p1, m1, g1, c4, c5, c6, c7, H⟩ := HH.el (α := Int × Int × ByteArray) 1 rfl e; clear HH
     clear e
     obtain ⟨a2_0, a2_1, a2_2⟩ := a2
     obtain ⟨_, _, _⟩ := g1
     replace H := H.sel [1, 2] rfl
     refine idxE c4 c5 c6 ?_; clear c4 c5 c6
     refine loadNX [(.int .i64 a1_0), (.int .i64 a1_1), (.string a1_2)] rfl c3 ?_; clear c3
     refine loadNX [(.int .i64 a2_0), (.int .i64 a2_1), (.string a2_2)] rfl c7 ?_; clear c7
     obtain ⟨y0, e, f9⟩ := bindS f8; clear f8
     have i0 := e; clear e
     refine callFx (laws_eqNode_c a1_0 a1_1 a1_2 a2_0 a2_1 a2_2 y0 i0) H trivial ?_; clear H i0
     rintro _ _ w3 ⟨rfl, rfl⟩ hx H
     replace hX := hX.trans0 hx; clear hx
     refine hold hX ?_
     obtain ⟨a4, e, f10⟩ := bindS f9; clear f9
     refine boolO e ?_; clear e
     cases a4
     ·
      have f11 := condF f10; clear f10
      obtain ⟨a5, e, f12⟩ := bindS f11; clear f11
      refine arO e ?_; clear e
      have hs := Option.some.inj f12; subst hs; clear f12
      exact ⟨a5, (), rfl, ⟨rfl, rfl, rfl, trivial⟩, H.sel [0, 1] rfl⟩
     ·
      have f13 := condT f10; clear f10
      have hs := Option.some.inj f13; subst hs; clear f13
      have f14 : some _ = some _ := congrArg some (hrt _ rfl).symm
      have hs := Option.some.inj f14; subst hs; clear f14
      have f15 : some _ = some _ := f1; clear f1
      cases f15
      exact ⟨_, _, rfl, ⟨rfl, rfl⟩, (H.sel [] rfl).close trivial⟩
  ·
   clear f0 H
   rintro T1 _ w4 ⟨hr, (H : Cx w0 fp0 S0 w4 [])⟩
   subst hr
   cases f1
   exact ⟨_, _, rfl, ⟨rfl, rfl⟩, (H.sel [] rfl).close trivial⟩
 ·
  have f16 := condT hF4; clear hF4
  cases f16
  exact ⟨_, _, rfl, ⟨rfl, rfl⟩, (H.sel [] rfl).close trivial⟩

theorem laws_eqTerm_c (a__0 : List (Int × Int × ByteArray)) (a__0h : Hd) (b__0 : List (Int × Int × ByteArray)) (b__0h : Hd) (y : Bool) (hF : F_laws_eqTerm a__0 b__0 = some y) :
  ConF Tryz.prog 8 #[(.agg #[(a__0h).v]), (.agg #[(b__0h).v])] [Es (List (Int × Int × ByteArray)) a__0 a__0h, Es (List (Int × Int × ByteArray)) b__0 b__0h] [] (fun v Γ' => v = (.bool y) ∧ Γ' = []) := by
 intro w0 S0 fp0 hI hS
 have H : Cx w0 fp0 S0 w0 [Es (List (Int × Int × ByteArray)) a__0 a__0h, Es (List (Int × Int × ByteArray)) b__0 b__0h] := Cx.start hI hS
 clear hI hS
 refine enterC (args := [_, _]) gok Tryz.func8 rfl _ rfl rfl rfl ?_
 refine box_ H ?_; clear H; intro b4 w3 hx H
 clear hx
 refine box_ H ?_; clear H; intro b7 w6 hx H
 clear hx
 refine sq ?_
 refine fld gok rfl rfl rfl rfl ?_
 refine load1 (H.bx 1 rfl (j := 0) rfl) ?_
 refine fld gok rfl rfl rfl rfl ?_
 refine load1 (H.bx 0 rfl (j := 0) rfl) ?_
 obtain ⟨y9, e, f0⟩ := bindS hF; clear hF
 have ey9 := e; clear e
 refine callF (laws_eqNodeS_c a__0 a__0h b__0 b__0h y9 ey9) (Γi := []) H ⟨Vw.sh 2 rfl, Vw.sh 3 rfl, trivial⟩ ?_; clear H ey9
 rintro _ _ w1 ⟨rfl, rfl⟩ H
 obtain ⟨a0, e, f1⟩ := bindS f0; clear f0
 refine boolO e ?_; clear e
 cases a0
 ·
  have f2 := condF f1; clear f1
  cases f2
  exact ⟨_, _, rfl, ⟨rfl, rfl⟩, (H.sel [] rfl).close trivial⟩
 ·
  have f3 := condT f1; clear f1
  cases f3
  exact ⟨_, _, rfl, ⟨rfl, rfl⟩, (H.sel [] rfl).close trivial⟩

theorem laws_markText_c (k_ : Int) (y : ByteArray) (hF : F_laws_markText k_ = some y) :
  ConF Tryz.prog 49 #[(.int .i64 k_)] [] [] (fun v Γ' => v = (.string y) ∧ Γ' = []) := by
 intro w0 S0 fp0 hI hS
 have H : Cx w0 fp0 S0 w0 [] := Cx.start hI hS
 clear hI hS
 refine enterC (args := [_]) gok Tryz.func49 rfl _ rfl rfl rfl ?_
 refine sq ?_
 obtain ⟨a1, e, hF2⟩ := bindS hF; clear hF
 refine boolO e ?_; clear e
 cases a1
 ·
  have hF3 := condF hF2; clear hF2
  obtain ⟨r0, f0, f1⟩ := bindS hF3; clear hF3
  refine cut (fun (q0 : ByteArray) => [(3, (.string q0))]) (fun (q0 : ByteArray) w' => q0 = r0 ∧ Cx w0 fp0 S0 w' []) ?_ ?_
  ·
   refine loopW _ (fun (s0 : Int × ByteArray) (_ : Unit) => [(0, (.int .i64 s0.1)), (3, (.string s0.2))]) (fun (s0 : Int × ByteArray) (_ : Unit) w' => Cx w0 fp0 S0 w' []) (k_, .empty) () f0 ⟨rfl, rfl, trivial⟩ (H.sel [] rfl) ?_
   ·
    clear H
    rintro T0 ⟨s0_0, s0_1⟩ _ w1 o0 (H : Cx w0 fp0 S0 w1 []) hrt f2
    refine sq ?_
    obtain ⟨a0, e, f3⟩ := bindS f2; clear f2
    refine boolO e ?_; clear e
    cases a0
    ·
     have f4 := condF f3; clear f3
     have hs := Option.some.inj f4; subst hs; clear f4
     have f5 : some _ = some _ := congrArg some (hrt _ rfl).symm
     exact ⟨s0_1, ⟨rfl, trivial⟩, Option.some.inj f5, H.sel [] rfl⟩
    ·
     have f6 := condT f3; clear f3
     obtain ⟨a2, e, f7⟩ := bindS f6; clear f6
     refine remO_ e ?_; clear e
     obtain ⟨a3, e, f8⟩ := bindS f7; clear f7
     refine arO e ?_; clear e
     obtain ⟨a4, e, f9⟩ := bindS f8; clear f8
     refine convIY gok rfl rfl e ?_; clear e
     refine lit1S (α := By) gok rfl rfl rfl rfl H ?_; clear H; intro h0 w2 hx H
     clear hx
     obtain ⟨a5, e, f10⟩ := bindS f9; clear f9
     refine convBZ (xs := ([a4] : List By)) gok rfl rfl rfl (H.ro (α := List By) 0 rfl) e ?_; clear e
     obtain ⟨a6, e, f11⟩ := bindS f10; clear f10
     refine catZ e ?_; clear e
     obtain ⟨a7, e, f12⟩ := bindS f11; clear f11
     refine quoO_ e ?_; clear e
     have hs := Option.some.inj f12; subst hs; clear f12
     exact ⟨(a7, a6), (), rfl, ⟨rfl, rfl, trivial⟩, H.sel [] rfl⟩
  ·
   clear f0 H
   rintro T1 s1 w3 ⟨hr, (H : Cx w0 fp0 S0 w3 [])⟩
   subst hr
   obtain ⟨a8, e, f13⟩ := bindS f1; clear f1
   refine catZ e ?_; clear e
   cases f13
   exact ⟨_, _, rfl, ⟨rfl, rfl⟩, (H.sel [] rfl).close trivial⟩
 ·
  have f14 := condT hF2; clear hF2
  cases f14
  exact ⟨_, _, rfl, ⟨rfl, rfl⟩, (H.sel [] rfl).close trivial⟩

theorem laws_markNodeS_c (a_ : List (Int × Int × ByteArray)) (a_h : Hd) (k_ : Int) (y0 : List (Int × Int × ByteArray)) (y1 : Int) (hF : F_laws_markNodeS a_ k_ = some (y0, y1)) :
  ConF Tryz.prog 19 #[(a_h).v, (.int .i64 k_)] [] [E (List (Int × Int × ByteArray)) a_ a_h] (fun v Γ' => v = (.int .i64 y1) ∧ Γ' = [E (List (Int × Int × ByteArray)) y0 a_h]) := by
 intro w0 S0 fp0 hI hS
 have H : Cx w0 fp0 S0 w0 [E (List (Int × Int × ByteArray)) a_ a_h] := Cx.start hI hS
 clear hI hS
 refine enterC (args := [_, _]) gok Tryz.func19 rfl _ rfl rfl rfl ?_
 obtain ⟨r0, f0, f1⟩ := bindS hF; clear hF
 refine cut (fun (q0 : (List (Int × Int × ByteArray)) × Int) => [(1, (.int .i64 q0.2))]) (fun (q0 : (List (Int × Int × ByteArray)) × Int) w' => (q0.1, q0.2) = r0 ∧ Cx w0 fp0 S0 w' [E (List (Int × Int × ByteArray)) q0.1 a_h]) ?_ ?_
 ·
  refine loopW _ (fun (s0 : (List (Int × Int × ByteArray)) × Int × Int) (_ : Unit) => [(0, (a_h).v), (1, (.int .i64 s0.2.1)), (5, (.int .i64 s0.2.2))]) (fun (s0 : (List (Int × Int × ByteArray)) × Int × Int) (_ : Unit) w' => Cx w0 fp0 S0 w' [E (List (Int × Int × ByteArray)) s0.1 a_h]) (a_, k_, 0) () f0 ⟨rfl, rfl, rfl, trivial⟩ (H.sel [0] rfl) ?_
  ·
   clear H
   rintro T0 ⟨s0_0, s0_1, s0_2⟩ _ w1 o0 (H : Cx w0 fp0 S0 w1 [E (List (Int × Int × ByteArray)) s0_0 a_h]) hrt f2
   refine sq ?_
   refine lenE (H.ro (α := List (Int × Int × ByteArray)) 0 rfl).len ?_
   obtain ⟨a0, e, f3⟩ := bindS f2; clear f2
   refine boolO e ?_; clear e
   cases a0
   ·
    have f4 := condF f3; clear f3
    have hs := Option.some.inj f4; subst hs; clear f4
    have f5 : some _ = some _ := congrArg some (hrt _ rfl).symm
    exact ⟨(s0_0, s0_1), ⟨rfl, trivial⟩, Option.some.inj f5, H.sel [0] rfl⟩
   ·
    have f6 := condT f3; clear f3
    refine sq ?_
    obtain ⟨a1, e, f7⟩ := bindS f6; clear f6
    replace H := H.toEH (α := Int × Int × ByteArray)
    have HH := H; clear H; obtain ⟨p0, m0, g0, c0, c1, c2, c3, H⟩ := HH.peek e; clear HH
    clear e
    obtain ⟨a1_0, a1_1, a1_2⟩ := a1
    obtain ⟨_, _, _⟩ := g0
    refine idxE c0 c1 c2 ?_
    refine fld gok rfl rfl rfl rfl ?_
    replace H := H.takeK 0 rfl
    replace H := H.sel [1, 0] rfl
    refine stX (α := Int × Int × ByteArray) (j := 0) H c0 rfl rfl ?_; clear H; intro w2 H
    replace H := H.sel [1, 0] rfl
    replace H := H.split
    replace H := H.sel [1, 2] rfl
    replace H := H.split
    replace H := H.sel [1, 2] rfl
    replace H := H.sel [1] rfl
    replace H := H.sc (α := ByteArray) a1_2
    replace H := H.sc (α := Int) a1_1
    replace H := H.join (α := Int) (β := ByteArray)
    replace H := H.sc (α := Int) s0_1
    replace H := H.join (α := Int) (β := Int × ByteArray)
    obtain ⟨a2, e, f8⟩ := bindS f7; clear f7
    replace H := H.put c1 e; clear e
    obtain ⟨a3, e, f9⟩ := bindS f8; clear f8
    refine arO e ?_; clear e
    obtain ⟨a4, e, f10⟩ := bindS f9; clear f9
    replace H := H.toEH (α := Int × Int × ByteArray)
    have HH := H; clear H; obtain ⟨p1, m1, g1, c4, c5, c6, c7, H⟩ := HH.peek e; clear HH
    clear e
    obtain ⟨a4_0, a4_1, a4_2⟩ := a4
    obtain ⟨_, _, _⟩ := g1
    refine idxE c4 c5 c6 ?_
    refine fld gok rfl rfl rfl rfl ?_
    replace H := H.takeK 0 rfl
    replace H := H.sel [1, 0] rfl
    refine stX (α := Int × Int × ByteArray) (j := 1) H c4 rfl rfl ?_; clear H; intro w3 H
    replace H := H.sel [1, 0] rfl
    replace H := H.split
    replace H := H.sel [1, 2] rfl
    replace H := H.split
    replace H := H.sel [1, 2] rfl
    replace H := H.sel [1] rfl
    replace H := H.sc (α := ByteArray) a4_2
    replace H := H.sc (α := Int) a3
    replace H := H.join (α := Int) (β := ByteArray)
    replace H := H.sc (α := Int) a4_0
    replace H := H.join (α := Int) (β := Int × ByteArray)
    obtain ⟨a5, e, f11⟩ := bindS f10; clear f10
    replace H := H.put c5 e; clear e
    obtain ⟨a6, e, f12⟩ := bindS f11; clear f11
    refine arO e ?_; clear e
    obtain ⟨y2, e, f13⟩ := bindS f12; clear f12
    have i0 := e; clear e
    refine callF (laws_markText_c a6 y2 i0) (Γi := []) H trivial ?_; clear H i0
    rintro _ _ w4 ⟨rfl, rfl⟩ H
    obtain ⟨a7, e, f14⟩ := bindS f13; clear f13
    replace H := H.toEH (α := Int × Int × ByteArray)
    have HH := H; clear H; obtain ⟨p2, m2, g2, c8, c9, c10, c11, H⟩ := HH.peek e; clear HH
    clear e
    obtain ⟨a7_0, a7_1, a7_2⟩ := a7
    obtain ⟨_, _, _⟩ := g2
    refine idxE c8 c9 c10 ?_
    refine fld gok rfl rfl rfl rfl ?_
    replace H := H.takeK 0 rfl
    replace H := H.sel [1, 0] rfl
    refine stX (α := Int × Int × ByteArray) (j := 2) H c8 rfl rfl ?_; clear H; intro w5 H
    replace H := H.sel [1, 0] rfl
    replace H := H.split
    replace H := H.sel [1, 2] rfl
    replace H := H.split
    replace H := H.sel [1, 2] rfl
    replace H := H.sel [1] rfl
    replace H := H.sc (α := ByteArray) y2
    replace H := H.sc (α := Int) a7_1
    replace H := H.join (α := Int) (β := ByteArray)
    replace H := H.sc (α := Int) a7_0
    replace H := H.join (α := Int) (β := Int × ByteArray)
    obtain ⟨a8, e, f15⟩ := bindS f14; clear f14
    replace H := H.put c9 e; clear e
    obtain ⟨a9, e, f16⟩ := bindS f15; clear f15
    refine arO e ?_; clear e
    obtain ⟨a10, e, f17⟩ := bindS f16; clear f16
    refine arO e ?_; clear e
    have hs := Option.some.inj f17; subst hs; clear f17
    exact ⟨(a8, a9, a10), (), rfl, ⟨rfl, rfl, rfl, trivial⟩, H.sel [0] rfl⟩
 ·
  clear f0 H
  rintro T1 ⟨s1_0, s1_1⟩ w6 ⟨hr, (H : Cx w0 fp0 S0 w6 [E (List (Int × Int × ByteArray)) s1_0 a_h])⟩
  subst hr
  cases f1
  exact ⟨_, _, rfl, ⟨rfl, rfl⟩, (H.sel [0] rfl).close ⟨cloE, trivial⟩⟩

theorem laws_markTerm_c (a__0 : List (Int × Int × ByteArray)) (a__0h : Hd) (k_ : Int) (y0_0 : List (Int × Int × ByteArray)) (y1 : Int) (hF : F_laws_markTerm a__0 k_ = some (y0_0, y1)) :
  ConF Tryz.prog 9 #[(.agg #[(a__0h).v]), (.int .i64 k_)] [] [E (List (Int × Int × ByteArray)) a__0 a__0h] (fun v Γ' => v = (.int .i64 y1) ∧ Γ' = [E (List (Int × Int × ByteArray)) y0_0 a__0h]) := by
 intro w0 S0 fp0 hI hS
 have H : Cx w0 fp0 S0 w0 [E (List (Int × Int × ByteArray)) a__0 a__0h] := Cx.start hI hS
 clear hI hS
 refine enterC (args := [_, _]) gok Tryz.func9 rfl _ rfl rfl rfl ?_
 refine box_ H ?_; clear H; intro b3 w2 hx H
 clear hx
 refine fld gok rfl rfl rfl rfl ?_
 refine load1 (H.bx 0 rfl (j := 0) rfl) ?_
 obtain ⟨y5, e, hF6⟩ := bindS hF; clear hF
 obtain ⟨y5_0, y5_1⟩ := y5
 have ey5 := e; clear e
 replace H := H.sel [1, 0] rfl
 refine callF (laws_markNodeS_c a__0 a__0h k_ y5_0 y5_1 ey5) (Γi := [E (List (Int × Int × ByteArray)) a__0 a__0h]) H trivial ?_; clear H ey5
 rintro _ _ w7 ⟨rfl, rfl⟩ H
 cases hF6
 exact ⟨_, _, rfl, ⟨rfl, rfl⟩, (H.sel [0] rfl).close ⟨cloE, trivial⟩⟩

theorem laws_heldNodeS_c (a_ : List (Int × Int × ByteArray)) (a_h : Hd) (k_ : Int) (y : Int) (hF : F_laws_heldNodeS a_ k_ = some y) :
  ConF Tryz.prog 20 #[(a_h).v, (.int .i64 k_)] [Es (List (Int × Int × ByteArray)) a_ a_h] [] (fun v Γ' => v = (.int .i64 y) ∧ Γ' = []) := by
 intro w0 S0 fp0 hI hS
 have H : Cx w0 fp0 S0 w0 [Es (List (Int × Int × ByteArray)) a_ a_h] := Cx.start hI hS
 clear hI hS
 refine enterC (args := [_, _]) gok Tryz.func20 rfl _ rfl rfl rfl ?_
 obtain ⟨r0, f0, f1⟩ := bindS hF; clear hF
 refine cut (fun (q0 : Int) => [(1, (.int .i64 q0))]) (fun (q0 : Int) w' => .inl q0 = r0 ∧ Cx w0 fp0 S0 w' []) ?_ ?_
 ·
  refine loopW _ (fun (s0 : Int × Int) (_ : Unit) => [(0, (a_h).v), (1, (.int .i64 s0.1)), (5, (.int .i64 s0.2))]) (fun (s0 : Int × Int) (_ : Unit) w' => Cx w0 fp0 S0 w' [Es (List (Int × Int × ByteArray)) a_ a_h]) (k_, 0) () f0 ⟨rfl, rfl, rfl, trivial⟩ (H.sel [0] rfl) ?_
  ·
   clear H
   rintro T0 ⟨s0_0, s0_1⟩ _ w1 o0 (H : Cx w0 fp0 S0 w1 [Es (List (Int × Int × ByteArray)) a_ a_h]) hrt f2
   refine sq ?_
   refine lenE (H.rs (α := List (Int × Int × ByteArray)) 0 rfl).len ?_
   obtain ⟨a0, e, f3⟩ := bindS f2; clear f2
   refine boolO e ?_; clear e
   cases a0
   ·
    have f4 := condF f3; clear f3
    have hs := Option.some.inj f4; subst hs; clear f4
    have f5 : some _ = some _ := congrArg some (hrt _ rfl).symm
    exact ⟨s0_0, ⟨rfl, trivial⟩, Option.some.inj f5, H.sel [] rfl⟩
   ·
    have f6 := condT f3; clear f3
    refine sq ?_
    refine sq ?_
    obtain ⟨a1, e, f7⟩ := bindS f6; clear f6
    have HH := H; clear H; obtain ⟨p0, m0, g0, c0, c1, c2, c3, H⟩ := HH.el (α := Int × Int × ByteArray) 0 rfl e; clear HH
    clear e
    obtain ⟨a1_0, a1_1, a1_2⟩ := a1
    obtain ⟨_, _, _⟩ := g0
    replace H := H.sel [1] rfl
    refine idxE c0 c1 c2 ?_; clear c0 c1 c2
    refine fld gok rfl rfl rfl rfl ?_
    refine load1 (c3 0 _ rfl) ?_
    obtain ⟨a2, e, f8⟩ := bindS f7; clear f7
    refine boolO e ?_; clear e
    cases a2
    ·
     have f9 := condF f8; clear f8
     obtain ⟨a3, e, f10⟩ := bindS f9; clear f9
     refine arO e ?_; clear e
     refine sq ?_
     obtain ⟨a4, e, f11⟩ := bindS f10; clear f10
     have HH := H; clear H; obtain ⟨p1, m1, g1, c4, c5, c6, c7, H⟩ := HH.el (α := Int × Int × ByteArray) 0 rfl e; clear HH
     clear e
     obtain ⟨a4_0, a4_1, a4_2⟩ := a4
     obtain ⟨_, _, _⟩ := g1
     replace H := H.sel [1] rfl
     refine idxE c4 c5 c6 ?_; clear c4 c5 c6
     refine fld gok rfl rfl rfl rfl ?_
     refine load1 (c7 1 _ rfl) ?_
     obtain ⟨a5, e, f12⟩ := bindS f11; clear f11
     refine boolO e ?_; clear e
     cases a5
     ·
      have f13 := condF f12; clear f12
      obtain ⟨a6, e, f14⟩ := bindS f13; clear f13
      refine arO e ?_; clear e
      refine sq ?_
      refine heldX H [] (.fst 0 (.fst 1 (.fst 2 (.fst 3 (.fst 5 (.fst 4 (.act 6 (.act 7 .done)))))))) mixed [] trivial (by kernel_rfl) ?_
      clear H; intro w2 H
      have hX : Ext w2 w2 := Upd.refl _ _
      have H0 := H
      obtain ⟨a7, e, f15⟩ := bindS f14; clear f14
      have HH := H; clear H; obtain ⟨p2, m2, g2, c8, c9, c10, c11, H⟩ := HH.el (α := Int × Int × ByteArray) 0 rfl e; clear HH
      clear e
      obtain ⟨a7_0, a7_1, a7_2⟩ := a7
      obtain ⟨_, _, _⟩ := g2
      replace H := H.sel [1] rfl
      refine idxE c8 c9 c10 ?_; clear c8 c9 c10
      refine anyH (fun _ => fld gok rfl rfl rfl rfl ⟨rfl, rfl⟩) ?_
      refine load1X (c11 2 _ rfl) ?_
      obtain ⟨y0, e, f16⟩ := bindS f15; clear f15
      have i0 := e; clear e
      refine callFx (laws_markText_c a6 y0 i0) H trivial ?_; clear H i0
      rintro _ _ w3 ⟨rfl, rfl⟩ hx H
      replace hX := hX.trans0 hx; clear hx
      refine hold hX ?_
      obtain ⟨a8, e, f17⟩ := bindS f16; clear f16
      refine neqZ e ?_; clear e
      refine hold hX ?_
      cases a8
      ·
       have f18 := condF f17; clear f17
       obtain ⟨a9, e, f19⟩ := bindS f18; clear f18
       refine arO e ?_; clear e
       obtain ⟨a10, e, f20⟩ := bindS f19; clear f19
       refine arO e ?_; clear e
       have hs := Option.some.inj f20; subst hs; clear f20
       exact ⟨(a9, a10), (), rfl, ⟨rfl, rfl, rfl, trivial⟩, H.sel [0] rfl⟩
      ·
       have f21 := condT f17; clear f17
       have hs := Option.some.inj f21; subst hs; clear f21
       have f22 : some _ = some _ := congrArg some (hrt _ rfl).symm
       have hs := Option.some.inj f22; subst hs; clear f22
       have f23 : some _ = some _ := f1; clear f1
       cases f23
       exact ⟨_, _, rfl, ⟨rfl, rfl⟩, (H.sel [] rfl).close trivial⟩
     ·
      have f24 := condT f12; clear f12
      have hs := Option.some.inj f24; subst hs; clear f24
      have f25 : some _ = some _ := congrArg some (hrt _ rfl).symm
      have hs := Option.some.inj f25; subst hs; clear f25
      have f26 : some _ = some _ := f1; clear f1
      cases f26
      exact ⟨_, _, rfl, ⟨rfl, rfl⟩, (H.sel [] rfl).close trivial⟩
    ·
     have f27 := condT f8; clear f8
     have hs := Option.some.inj f27; subst hs; clear f27
     have f28 : some _ = some _ := congrArg some (hrt _ rfl).symm
     have hs := Option.some.inj f28; subst hs; clear f28
     have f29 : some _ = some _ := f1; clear f1
     cases f29
     exact ⟨_, _, rfl, ⟨rfl, rfl⟩, (H.sel [] rfl).close trivial⟩
 ·
  clear f0 H
  rintro T1 s1 w4 ⟨hr, (H : Cx w0 fp0 S0 w4 [])⟩
  subst hr
  cases f1
  exact ⟨_, _, rfl, ⟨rfl, rfl⟩, (H.sel [] rfl).close trivial⟩

theorem laws_heldTerm_c (a__0 : List (Int × Int × ByteArray)) (a__0h : Hd) (k_ : Int) (y : Int) (hF : F_laws_heldTerm a__0 k_ = some y) :
  ConF Tryz.prog 10 #[(.agg #[(a__0h).v]), (.int .i64 k_)] [Es (List (Int × Int × ByteArray)) a__0 a__0h] [] (fun v Γ' => v = (.int .i64 y) ∧ Γ' = []) := by
 intro w0 S0 fp0 hI hS
 have H : Cx w0 fp0 S0 w0 [Es (List (Int × Int × ByteArray)) a__0 a__0h] := Cx.start hI hS
 clear hI hS
 refine enterC (args := [_, _]) gok Tryz.func10 rfl _ rfl rfl rfl ?_
 refine box_ H ?_; clear H; intro b3 w2 hx H
 clear hx
 refine fld gok rfl rfl rfl rfl ?_
 refine load1 (H.bx 0 rfl (j := 0) rfl) ?_
 obtain ⟨y5, e, hF6⟩ := bindS hF; clear hF
 have ey5 := e; clear e
 refine callF (laws_heldNodeS_c a__0 a__0h k_ y5 ey5) (Γi := []) H ⟨Vw.sh 1 rfl, trivial⟩ ?_; clear H ey5
 rintro _ _ w7 ⟨rfl, rfl⟩ H
 refine sq ?_
 obtain ⟨a8, e, hF9⟩ := bindS hF6; clear hF6
 refine boolO e ?_; clear e
 cases a8
 ·
  have f0 := condF hF9; clear hF9
  cases f0
  exact ⟨_, _, rfl, ⟨rfl, rfl⟩, (H.sel [] rfl).close trivial⟩
 ·
  have f1 := condT hF9; clear hF9
  cases f1
  exact ⟨_, _, rfl, ⟨rfl, rfl⟩, (H.sel [] rfl).close trivial⟩

theorem laws_FnExactLayoutTerm_c (aT__0 : List (Int × Int × ByteArray)) (aT__0h : Hd) (y : Bool) (hF : F_laws_FnExactLayoutTerm aT__0 = some y) :
  ConF Tryz.prog 3 #[(.agg #[(aT__0h).v])] [Es (List (Int × Int × ByteArray)) aT__0 aT__0h] [] (fun v Γ' => v = (.bool y) ∧ Γ' = []) := by
 intro w0 S0 fp0 hI hS
 have H : Cx w0 fp0 S0 w0 [Es (List (Int × Int × ByteArray)) aT__0 aT__0h] := Cx.start hI hS
 clear hI hS
 refine enterC (args := [_]) gok Tryz.func3 rfl _ rfl rfl rfl ?_
 refine box_ H ?_; clear H; intro b3 w2 hx H
 clear hx
 refine loadN [(aT__0h).v] rfl (fun j u hj => H.bx 0 rfl hj) ?_
 obtain ⟨y5, e, hF6⟩ := bindS hF; clear hF
 have ey5 := e; clear e
 refine callF (laws_szTerm_c aT__0 aT__0h 1048576 y5 ey5) (Γi := []) H ⟨Vw.sh 1 rfl, trivial⟩ ?_; clear H ey5
 rintro _ _ w7 ⟨rfl, rfl⟩ H
 refine sq ?_
 obtain ⟨a8, e, hF9⟩ := bindS hF6; clear hF6
 refine boolO e ?_; clear e
 cases a8
 ·
  have f0 := condF hF9; clear hF9
  refine loadN [(aT__0h).v] rfl (fun j u hj => H.bx 0 rfl hj) ?_
  obtain ⟨y0, e, f1⟩ := bindS f0; clear f0
  obtain ⟨y0_0, rfl⟩ : ∃ z, z = y0 := ⟨_, rfl⟩
  have i0 := e; clear e
  refine callF (laws_toTerm_c aT__0 aT__0h y0_0 i0) (Γi := []) H ⟨Vw.sh 1 rfl, trivial⟩ ?_; clear H i0
  rintro _ _ w1 ⟨h0, rfl, rfl⟩ H
  obtain ⟨y1, e, f2⟩ := bindS f1; clear f1
  obtain ⟨y1_0_0, y1_1⟩ := y1
  have i1 := e; clear e
  replace H := H.frz
  refine callS (spec_LayoutTerm_c y0_0 h0 y1_0_0 y1_1 i1) (Γi := []) H [0] rfl (persC persS persN) ?_; clear H i1
  rintro _ _ w3 ⟨h1, rfl, rfl⟩ H
  refine alloc_ gok rfl H ?_; clear H; intro b0 w4 hx H
  clear hx
  refine stA gok [(h1).v] rfl H rfl rfl rfl ?_; clear H; intro w5 H
  refine loadN [(aT__0h).v] rfl (fun j u hj => H.bx 3 rfl hj) ?_
  obtain ⟨y2, e, f3⟩ := bindS f2; clear f2
  obtain ⟨y2_0, rfl⟩ : ∃ z, z = y2 := ⟨_, rfl⟩
  have i2 := e; clear e
  refine callF (laws_toTerm_c aT__0 aT__0h y2_0 i2) (Γi := []) H ⟨Vw.sh 4 rfl, trivial⟩ ?_; clear H i2
  rintro _ _ w6 ⟨h2, rfl, rfl⟩ H
  refine alloc_ gok rfl H ?_; clear H; intro b1 w8 hx H
  clear hx
  refine stA gok [(h2).v] rfl H rfl rfl rfl ?_; clear H; intro w9 H
  refine loadN [(h2).v] rfl (fun j u hj => H.bx 0 rfl hj) ?_
  obtain ⟨y3, e, f4⟩ := bindS f3; clear f3
  obtain ⟨y3_0_0, y3_1⟩ := y3
  have i3 := e; clear e
  refine callF (impl_LayoutTerm_c y2_0 h2 y3_0_0 y3_1 i3) (Γi := []) H ⟨Vw.own 1 rfl, trivial⟩ ?_; clear H i3
  rintro _ _ w10 ⟨h3, rfl, rfl⟩ H
  refine alloc_ gok rfl H ?_; clear H; intro b2 w11 hx H
  clear hx
  refine stA gok [(h3).v] rfl H rfl rfl rfl ?_; clear H; intro w12 H
  refine sq ?_
  obtain ⟨r0, f5, f6⟩ := bindS f4; clear f4
  refine cut (fun (q0 : Bool) => [(1, (.pointer (some ⟨b3, 0, none⟩))), (4, (.pointer (some ⟨b0, 0, none⟩))), (5, (.bool y1_1)), (6, (.pointer (some ⟨b1, 0, none⟩))), (7, (.pointer (some ⟨b2, 0, none⟩))), (8, (.bool y3_1)), (40, (.bool q0))]) (fun (q0 : Bool) w' => q0 = r0 ∧ Cx w0 fp0 S0 w' [Bx b3 [(aT__0h).v], Es (List (Int × Int × ByteArray)) aT__0 aT__0h, Bx b0 [(h1).v], Es (List (Int × Int × ByteArray)) y1_0_0 h1, Bx b1 [(h2).v], E (List (Int × Int × ByteArray)) y2_0 h2, Bx b2 [(h3).v], E (List (Int × Int × ByteArray)) y3_0_0 h3]) ?_ ?_
  ·
   refine loadN [(h3).v] rfl (fun j u hj => H.bx 0 rfl hj) ?_
   refine loadN [(h1).v] rfl (fun j u hj => H.bx 4 rfl hj) ?_
   obtain ⟨y4, e, f7⟩ := bindS f5; clear f5
   have i4 := e; clear e
   refine callF (laws_eqTerm_c y3_0_0 h3 y1_0_0 h1 y4 i4) (Γi := []) H ⟨Vw.own 1 rfl, Vw.sh 5 rfl, trivial⟩ ?_; clear H i4
   rintro _ _ w14 ⟨rfl, rfl⟩ H
   obtain ⟨a0, e, f8⟩ := bindS f7; clear f7
   refine boolO e ?_; clear e
   cases a0
   ·
    have f9 := condF f8; clear f8
    obtain ⟨a1, e, f10⟩ := bindS f9; clear f9
    refine boolO e ?_; clear e
    exact ⟨a1, ⟨rfl, rfl, rfl, rfl, rfl, rfl, rfl, trivial⟩, Option.some.inj f10, H.sel [7, 8, 4, 5, 2, 3, 0, 1] rfl⟩
   ·
    have f11 := condT f8; clear f8
    exact ⟨true, ⟨rfl, rfl, rfl, rfl, rfl, rfl, rfl, trivial⟩, Option.some.inj f11, H.sel [7, 8, 4, 5, 2, 3, 0, 1] rfl⟩
  ·
   clear f5 H
   rintro T0 s0 w15 ⟨hr, (H : Cx w0 fp0 S0 w15 [Bx b3 [(aT__0h).v], Es (List (Int × Int × ByteArray)) aT__0 aT__0h, Bx b0 [(h1).v], Es (List (Int × Int × ByteArray)) y1_0_0 h1, Bx b1 [(h2).v], E (List (Int × Int × ByteArray)) y2_0 h2, Bx b2 [(h3).v], E (List (Int × Int × ByteArray)) y3_0_0 h3])⟩
   subst hr
   cases s0
   ·
    have f12 := condF f6; clear f6
    refine sq ?_
    refine heldX H [] (.fst 0 (.fst 1 (.act 2 (.act 3 (.fst 4 .done))))) mixed [] trivial (by kernel_rfl) ?_
    clear H; intro w16 H
    have hX : Ext w16 w16 := Upd.refl _ _
    have H0 := H
    refine loadNX [(h2).v] rfl (fun j u hj => H.bx 4 rfl hj) ?_
    refine loadNX [(aT__0h).v] rfl (fun j u hj => H.bx 0 rfl hj) ?_
    obtain ⟨y6, e, f13⟩ := bindS f12; clear f12
    obtain ⟨y6_0, rfl⟩ : ∃ z, z = y6 := ⟨_, rfl⟩
    have i5 := e; clear e
    refine callFx (laws_toTerm_c aT__0 aT__0h y6_0 i5) H ⟨Vw.sh 1 rfl, trivial⟩ ?_; clear H i5
    rintro _ _ w17 ⟨h4, rfl, rfl⟩ hx H
    replace hX := hX.trans0 hx; clear hx
    refine hold hX ?_
    obtain ⟨y7, e, f14⟩ := bindS f13; clear f13
    have i6 := e; clear e
    refine callFx (laws_eqTerm_c y2_0 h2 y6_0 h4 y7 i6) H ⟨Vw.own 6 rfl, Vw.own 0 rfl, trivial⟩ ?_; clear H i6
    rintro _ _ w19 ⟨rfl, rfl⟩ hx H
    replace hX := hX.trans0 hx; clear hx
    refine hold hX ?_
    obtain ⟨a2, e, f15⟩ := bindS f14; clear f14
    refine boolO e ?_; clear e
    cases a2
    ·
     have f16 := condF f15; clear f15
     refine loadN [(h2).v] rfl (fun j u hj => H.bx 5 rfl hj) ?_
     obtain ⟨y8, e, f17⟩ := bindS f16; clear f16
     obtain ⟨y8_0_0, y8_1⟩ := y8
     have i7 := e; clear e
     replace H := H.sel [6, 0, 1, 2, 3, 4, 5, 7, 8] rfl
     refine callF (laws_markTerm_c y2_0 h2 1 y8_0_0 y8_1 i7) (Γi := [E (List (Int × Int × ByteArray)) y2_0 h2]) H trivial ?_; clear H i7
     rintro _ _ w20 ⟨rfl, rfl⟩ H
     refine sq ?_
     obtain ⟨r1, f18, f19⟩ := bindS f17; clear f17
     refine cut (fun (q1 : Bool) => [(1, (.pointer (some ⟨b3, 0, none⟩))), (4, (.pointer (some ⟨b0, 0, none⟩))), (5, (.bool y1_1)), (7, (.pointer (some ⟨b2, 0, none⟩))), (61, (.bool q1))]) (fun (q1 : Bool) w' => q1 = r1 ∧ Cx w0 fp0 S0 w' [Bx b3 [(aT__0h).v], Es (List (Int × Int × ByteArray)) aT__0 aT__0h, Bx b0 [(h1).v], Es (List (Int × Int × ByteArray)) y1_0_0 h1, Bx b2 [(h3).v], E (List (Int × Int × ByteArray)) y3_0_0 h3]) ?_ ?_
     ·
      obtain ⟨a3, e, f20⟩ := bindS f18; clear f18
      refine boolO e ?_; clear e
      cases a3
      ·
       have f21 := condF f20; clear f20
       refine loadN [(h3).v] rfl (fun j u hj => H.bx 7 rfl hj) ?_
       refine loadN [(h1).v] rfl (fun j u hj => H.bx 4 rfl hj) ?_
       obtain ⟨y9, e, f22⟩ := bindS f21; clear f21
       have i8 := e; clear e
       refine callF (laws_eqTerm_c y3_0_0 h3 y1_0_0 h1 y9 i8) (Γi := []) H ⟨Vw.own 8 rfl, Vw.sh 5 rfl, trivial⟩ ?_; clear H i8
       rintro _ _ w22 ⟨rfl, rfl⟩ H
       obtain ⟨a4, e, f23⟩ := bindS f22; clear f22
       refine boolO e ?_; clear e
       cases a4
       ·
        have f24 := condF f23; clear f23
        obtain ⟨a5, e, f25⟩ := bindS f24; clear f24
        refine boolO e ?_; clear e
        exact ⟨a5, ⟨rfl, rfl, rfl, rfl, rfl, trivial⟩, Option.some.inj f25, H.sel [2, 3, 4, 5, 7, 8] rfl⟩
       ·
        have f26 := condT f23; clear f23
        exact ⟨true, ⟨rfl, rfl, rfl, rfl, rfl, trivial⟩, Option.some.inj f26, H.sel [2, 3, 4, 5, 7, 8] rfl⟩
      ·
       have f27 := condT f20; clear f20
       exact ⟨true, ⟨rfl, rfl, rfl, rfl, rfl, trivial⟩, Option.some.inj f27, H.sel [2, 3, 4, 5, 7, 8] rfl⟩
     ·
      clear f18 H
      rintro T1 s1 w23 ⟨hr, (H : Cx w0 fp0 S0 w23 [Bx b3 [(aT__0h).v], Es (List (Int × Int × ByteArray)) aT__0 aT__0h, Bx b0 [(h1).v], Es (List (Int × Int × ByteArray)) y1_0_0 h1, Bx b2 [(h3).v], E (List (Int × Int × ByteArray)) y3_0_0 h3])⟩
      subst hr
      cases s1
      ·
       have f28 := condF f19; clear f19
       refine loadN [(h3).v] rfl (fun j u hj => H.bx 4 rfl hj) ?_
       obtain ⟨y10, e, f29⟩ := bindS f28; clear f28
       obtain ⟨y10_0_0, y10_1⟩ := y10
       have i9 := e; clear e
       replace H := H.sel [5, 0, 1, 2, 3, 4] rfl
       refine callF (laws_markTerm_c y3_0_0 h3 1 y10_0_0 y10_1 i9) (Γi := [E (List (Int × Int × ByteArray)) y3_0_0 h3]) H trivial ?_; clear H i9
       rintro _ _ w25 ⟨rfl, rfl⟩ H
       refine loadN [(h3).v] rfl (fun j u hj => H.bx 5 rfl hj) ?_
       obtain ⟨y12, e, f30⟩ := bindS f29; clear f29
       have i10 := e; clear e
       refine callF (laws_heldTerm_c y10_0_0 h3 1 y12 i10) (Γi := []) H ⟨Vw.own 0 rfl, trivial⟩ ?_; clear H i10
       rintro _ _ w26 ⟨rfl, rfl⟩ H
       refine sq ?_
       obtain ⟨a6, e, f31⟩ := bindS f30; clear f30
       refine boolO e ?_; clear e
       cases a6
       ·
        have f32 := condF f31; clear f31
        refine sq ?_
        obtain ⟨a7, e, f33⟩ := bindS f32; clear f32
        refine boolO e ?_; clear e
        cases a7
        ·
         have f34 := condF f33; clear f33
         refine loadN [(aT__0h).v] rfl (fun j u hj => H.bx 1 rfl hj) ?_
         obtain ⟨y13, e, f35⟩ := bindS f34; clear f34
         obtain ⟨y13_0, rfl⟩ : ∃ z, z = y13 := ⟨_, rfl⟩
         have i11 := e; clear e
         refine callF (laws_toTerm_c aT__0 aT__0h y13_0 i11) (Γi := []) H ⟨Vw.sh 2 rfl, trivial⟩ ?_; clear H i11
         rintro _ _ w28 ⟨h5, rfl, rfl⟩ H
         obtain ⟨y14, e, f36⟩ := bindS f35; clear f35
         obtain ⟨y14_0_0, y14_1⟩ := y14
         have i12 := e; clear e
         refine callF (impl_LayoutTerm_c y13_0 h5 y14_0_0 y14_1 i12) (Γi := []) H ⟨Vw.own 0 rfl, trivial⟩ ?_; clear H i12
         rintro _ _ w29 ⟨h6, rfl, rfl⟩ H
         refine alloc_ gok rfl H ?_; clear H; intro b4 w31 hx H
         clear hx
         refine stA gok [(h6).v] rfl H rfl rfl rfl ?_; clear H; intro w32 H
         refine sq ?_
         obtain ⟨r2, f37, f38⟩ := bindS f36; clear f36
         refine cut (fun (q2 : Bool) => [(7, (.pointer (some ⟨b2, 0, none⟩))), (10, (.int .i64 y10_1)), (87, (.bool q2))]) (fun (q2 : Bool) w' => q2 = r2 ∧ Cx w0 fp0 S0 w' [Bx b2 [(h3).v], E (List (Int × Int × ByteArray)) y10_0_0 h3]) ?_ ?_
         ·
          refine loadN [(h6).v] rfl (fun j u hj => H.bx 0 rfl hj) ?_
          refine loadN [(h1).v] rfl (fun j u hj => H.bx 6 rfl hj) ?_
          obtain ⟨y15, e, f39⟩ := bindS f37; clear f37
          have i13 := e; clear e
          refine callF (laws_eqTerm_c y14_0_0 h6 y1_0_0 h1 y15 i13) (Γi := []) H ⟨Vw.own 1 rfl, Vw.sh 7 rfl, trivial⟩ ?_; clear H i13
          rintro _ _ w34 ⟨rfl, rfl⟩ H
          obtain ⟨a9, e, f40⟩ := bindS f39; clear f39
          refine boolO e ?_; clear e
          cases a9
          ·
           have f41 := condF f40; clear f40
           obtain ⟨a10, e, f42⟩ := bindS f41; clear f41
           refine boolO e ?_; clear e
           exact ⟨a10, ⟨rfl, rfl, rfl, trivial⟩, Option.some.inj f42, H.sel [8, 3] rfl⟩
          ·
           have f43 := condT f40; clear f40
           exact ⟨true, ⟨rfl, rfl, rfl, trivial⟩, Option.some.inj f43, H.sel [8, 3] rfl⟩
         ·
          clear f37 H
          rintro T2 s2 w35 ⟨hr, (H : Cx w0 fp0 S0 w35 [Bx b2 [(h3).v], E (List (Int × Int × ByteArray)) y10_0_0 h3])⟩
          subst hr
          cases s2
          ·
           have f44 := condF f38; clear f38
           refine loadN [(h3).v] rfl (fun j u hj => H.bx 0 rfl hj) ?_
           obtain ⟨y17, e, f45⟩ := bindS f44; clear f44
           have i14 := e; clear e
           refine callF (laws_heldTerm_c y10_0_0 h3 1 y17 i14) (Γi := []) H ⟨Vw.own 1 rfl, trivial⟩ ?_; clear H i14
           rintro _ _ w37 ⟨rfl, rfl⟩ H
           refine sq ?_
           obtain ⟨a11, e, f46⟩ := bindS f45; clear f45
           refine boolO e ?_; clear e
           cases a11
           ·
            have f47 := condF f46; clear f46
            refine sq ?_
            obtain ⟨a12, e, f48⟩ := bindS f47; clear f47
            refine boolO e ?_; clear e
            cases a12
            ·
             have f49 := condF f48; clear f48
             cases f49
             exact ⟨_, _, rfl, ⟨rfl, rfl⟩, (H.sel [] rfl).close trivial⟩
            ·
             have f50 := condT f48; clear f48
             cases f50
             exact ⟨_, _, rfl, ⟨rfl, rfl⟩, (H.sel [] rfl).close trivial⟩
           ·
            have f51 := condT f46; clear f46
            cases f51
            exact ⟨_, _, rfl, ⟨rfl, rfl⟩, (H.sel [] rfl).close trivial⟩
          ·
           have f52 := condT f38; clear f38
           cases f52
           exact ⟨_, _, rfl, ⟨rfl, rfl⟩, (H.sel [] rfl).close trivial⟩
        ·
         have f53 := condT f33; clear f33
         cases f53
         exact ⟨_, _, rfl, ⟨rfl, rfl⟩, (H.sel [] rfl).close trivial⟩
       ·
        have f54 := condT f31; clear f31
        cases f54
        exact ⟨_, _, rfl, ⟨rfl, rfl⟩, (H.sel [] rfl).close trivial⟩
      ·
       have f55 := condT f19; clear f19
       cases f55
       exact ⟨_, _, rfl, ⟨rfl, rfl⟩, (H.sel [] rfl).close trivial⟩
    ·
     have f56 := condT f15; clear f15
     cases f56
     exact ⟨_, _, rfl, ⟨rfl, rfl⟩, (H.sel [] rfl).close trivial⟩
   ·
    have f57 := condT f6; clear f6
    cases f57
    exact ⟨_, _, rfl, ⟨rfl, rfl⟩, (H.sel [] rfl).close trivial⟩
 ·
  have f58 := condT hF9; clear hF9
  cases f58
  exact ⟨_, _, rfl, ⟨rfl, rfl⟩, (H.sel [] rfl).close trivial⟩
end Go.Proofs.YtmchibapkddniaaGreat
