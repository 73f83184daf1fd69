/-
 Contracts, printed by a program (wip/y/gen.py): each function of Go computes its partial function. Condition of each: its partial function yields a value.
-/
import Derived.Test.YtmchibapkddniaaGreatZCall2
namespace Go.Proofs.YtmchibapkddniaaGreat
open Go Go.Proofs.YtmchibapkddniaaGreat.RW
set_option maxRecDepth 100000
set_option maxHeartbeats 1000000
set_option linter.unusedVariables false

theorem impl_Graph_moved_c (g__0 : Int) (g__1 : List (Int × Int × List Int × List Int)) (g__1h : Hd) (g__2 : List Int) (g__2h : Hd) (g__3 : List Int) (g__3h : Hd) (count_ : Int) (to_ : List Int) (to_h : Hd) (y_0 : Int) (y_1 : List (Int × Int × List Int × List Int)) (y_2 : List Int) (y_3 : List Int) (hF : F_impl_Graph_moved (g__0, g__1, g__2, g__3) count_ to_ = some (y_0, y_1, y_2, y_3)) :
  ConF Tryz.prog 119 #[(.agg #[(.int .i64 g__0), (g__1h).v, (g__2h).v, (g__3h).v]), (.int .i64 count_), (to_h).v] [Es (List (Int × Int × List Int × List Int)) g__1 g__1h, Es (List Int) g__2 g__2h, Es (List Int) g__3 g__3h, Es (List Int) to_ to_h] [] (fun v Γ' => ∃ z0 z1 z2 : Hd, v = (.agg #[(.int .i64 y_0), (z0).v, (z1).v, (z2).v]) ∧ Γ' = [E (List (Int × Int × List Int × List Int)) y_1 z0, E (List Int) y_2 z1, E (List Int) y_3 z2]) := by
 intro w0 S0 fp0 hI hS
 have H : Cx w0 fp0 S0 w0 [Es (List (Int × Int × List Int × List Int)) g__1 g__1h, Es (List Int) g__2 g__2h, Es (List Int) g__3 g__3h, Es (List Int) to_ to_h] := Cx.start hI hS
 clear hI hS
 refine enterC (args := [_, _, _]) gok Tryz.func119 rfl _ rfl rfl rfl ?_
 refine box_ H ?_; clear H; intro b6 w5 hx H
 clear hx
 refine alloc_ gok rfl H ?_; clear H; intro b9 w8 hx H
 clear hx
 obtain ⟨r0, f0, f1⟩ := bindS hF; clear hF
 refine heldJ H [] (.fst 0 (.fst 1 (.fst 3 (.fst 5 (.fst 7 (.fst 2 (.fst 6 (.alts (.alt 4 (.alts (.alt 8 (.fst 9 (.act 10 (.act 11 .done))) (.alt 10 (.act 8 (.fst 9 (.act 11 .done))) .no))) (.alt 10 (.act 4 (.act 8 (.fst 9 (.act 11 .done)))) .no)))))))))) mixed [] trivial (by kernel_rfl) (fun (q0 : (Int × List Int × List Int) × (Hd × Hd × Nat)) => [(2, (to_h).v), (3, (.pointer (some ⟨b6, 0, none⟩))), (6, (.pointer (some ⟨b9, 0, none⟩))), (7, (.pointer (some ⟨q0.2.2.2, 0, none⟩)))]) (fun (q0 : (Int × List Int × List Int) × (Hd × Hd × Nat)) w' => (q0.1.1, q0.1.2.1, q0.1.2.2) = r0 ∧ Cx w0 fp0 S0 w' [Es (List Int) to_ to_h, Bx b6 [(.int .i64 g__0), (g__1h).v, (g__2h).v, (g__3h).v], Es (List (Int × Int × List Int × List Int)) g__1 g__1h, Es (List Int) g__2 g__2h, Es (List Int) g__3 g__3h, Bx b9 [(.int .i64 0), (.slice none 0 0), (.slice none 0 0), (.slice none 0 0)], Bx q0.2.2.2 [(.int .i64 q0.1.1), (.slice none 0 0), (q0.2.1).v, (q0.2.2.1).v], E (List Int) q0.1.2.1 q0.2.1, E (List Int) q0.1.2.2 q0.2.2.1]) ?_ ?_
 ·
  clear H; intro w1 H
  have hX : Ext w1 w1 := Upd.refl _ _
  have H0 := H
  refine anyH (fun _ => fld gok rfl rfl rfl rfl ⟨rfl, rfl⟩) ?_
  refine anyH (fun _ => fld gok rfl rfl rfl rfl ⟨rfl, rfl⟩) ?_
  refine load1X (H.bx 1 rfl (j := 2) rfl) ?_
  refine load1X (H.bx 1 rfl (j := 3) rfl) ?_
  refine both ?_ ?_
  ·
   obtain ⟨y0, e, f2⟩ := bindS f0; clear f0
   have i0 := e; clear e
   refine callFx (impl_mapped_c g__2 g__2h to_ to_h y0 i0) H ⟨Vw.sh 3 rfl, Vw.sh 5 rfl, trivial⟩ ?_; clear H i0
   rintro _ _ w2 ⟨h0, rfl, rfl⟩ hx H
   replace hX := hX.trans0 hx; clear hx
   refine hold hX ?_
   refine both ?_ ?_
   ·
    obtain ⟨y1, e, f3⟩ := bindS f2; clear f2
    have i1 := e; clear e
    refine callFx (impl_mapped_c g__3 g__3h to_ to_h y1 i1) H ⟨Vw.sh 5 rfl, Vw.sh 6 rfl, trivial⟩ ?_; clear H i1
    rintro _ _ w3 ⟨h1, rfl, rfl⟩ hx H
    replace hX := hX.trans0 hx; clear hx
    refine hold hX ?_
    refine anyH (fun _ => build_ (cs := #[(.int .i64 count_), (.slice none 0 0), (h0).v, (h1).v]) gok rfl rfl rfl ⟨rfl, rfl⟩) ?_
    refine allocX gok rfl H ?_; clear H; intro b0 w4 hx v0 H; replace v0 := Nat.le_trans hX.size v0
    replace hX := hX.trans0 hx; clear hx
    refine hold hX ?_
    refine stAX gok [(.int .i64 count_), (.slice none 0 0), (h0).v, (h1).v] rfl H rfl rfl rfl ?_; clear H; intro w6 hu H
    replace hX := hX.fresh hu v0; clear hu
    refine hold hX ?_
    exact ⟨((count_, y0, y1), (h0, h1, b0)), ⟨rfl, rfl, rfl, rfl, trivial⟩, Option.some.inj f3, H.sel [8, 4, 5, 6, 7, 3, 0, 2, 1] rfl⟩
   ·
    refine both ?_ ?_
    ·
     obtain ⟨a0, o0, f4⟩ := bindS f2; clear f2
     refine allocX gok rfl H ?_; clear H; intro b1 w7 hx v1 H; replace v1 := Nat.le_trans hX.size v1
     replace hX := hX.trans0 hx; clear hx
     refine hold hX ?_
     have e := o0; clear o0
     have i2 := e; clear e
     refine callFx (impl_mapped_c g__3 g__3h to_ to_h a0 i2) H ⟨Vw.sh 6 rfl, Vw.sh 7 rfl, trivial⟩ ?_; clear H i2
     rintro _ _ w9 ⟨h2, rfl, rfl⟩ hx H
     replace hX := hX.trans0 hx; clear hx
     refine hold hX ?_
     refine anyH (fun _ => build_ (cs := #[(.int .i64 count_), (.slice none 0 0), (h0).v, (h2).v]) gok rfl rfl rfl ⟨rfl, rfl⟩) ?_
     replace H := H.sel [1, 0, 2, 3, 4, 5, 6, 7, 8] rfl
     refine stAX gok [(.int .i64 count_), (.slice none 0 0), (h0).v, (h2).v] rfl H rfl rfl rfl ?_; clear H; intro w10 hu H
     replace hX := hX.fresh hu v1; clear hu
     refine hold hX ?_
     exact ⟨((count_, y0, a0), (h0, h2, b1)), ⟨rfl, rfl, rfl, rfl, trivial⟩, Option.some.inj f4, H.sel [8, 4, 5, 6, 7, 3, 0, 2, 1] rfl⟩
    ·
     exact trivial
  ·
   refine both ?_ ?_
   ·
    obtain ⟨a1, o1, f5⟩ := bindS f0; clear f0
    obtain ⟨a2, o2, f6⟩ := bindS f5; clear f5
    refine allocX gok rfl H ?_; clear H; intro b2 w11 hx v2 H; replace v2 := Nat.le_trans hX.size v2
    replace hX := hX.trans0 hx; clear hx
    refine hold hX ?_
    have e := o1; clear o1
    have i3 := e; clear e
    refine callFx (impl_mapped_c g__2 g__2h to_ to_h a1 i3) H ⟨Vw.sh 4 rfl, Vw.sh 6 rfl, trivial⟩ ?_; clear H i3
    rintro _ _ w12 ⟨h3, rfl, rfl⟩ hx H
    replace hX := hX.trans0 hx; clear hx
    refine hold hX ?_
    have e := o2; clear o2
    have i4 := e; clear e
    refine callFx (impl_mapped_c g__3 g__3h to_ to_h a2 i4) H ⟨Vw.sh 6 rfl, Vw.sh 7 rfl, trivial⟩ ?_; clear H i4
    rintro _ _ w13 ⟨h4, rfl, rfl⟩ hx H
    replace hX := hX.trans0 hx; clear hx
    refine hold hX ?_
    refine anyH (fun _ => build_ (cs := #[(.int .i64 count_), (.slice none 0 0), (h3).v, (h4).v]) gok rfl rfl rfl ⟨rfl, rfl⟩) ?_
    replace H := H.sel [2, 0, 1, 3, 4, 5, 6, 7, 8] rfl
    refine stAX gok [(.int .i64 count_), (.slice none 0 0), (h3).v, (h4).v] rfl H rfl rfl rfl ?_; clear H; intro w14 hu H
    replace hX := hX.fresh hu v2; clear hu
    refine hold hX ?_
    exact ⟨((count_, a1, a2), (h3, h4, b2)), ⟨rfl, rfl, rfl, rfl, trivial⟩, Option.some.inj f6, H.sel [8, 4, 5, 6, 7, 3, 0, 2, 1] rfl⟩
   ·
    exact trivial
 ·
  clear f0 H
  rintro T0 ⟨⟨s0_0, s0_1, s0_2⟩, ⟨g0_0, g0_1, g0_2⟩⟩ w15 ⟨hr, (H : Cx w0 fp0 S0 w15 [Es (List Int) to_ to_h, Bx b6 [(.int .i64 g__0), (g__1h).v, (g__2h).v, (g__3h).v], Es (List (Int × Int × List Int × List Int)) g__1 g__1h, Es (List Int) g__2 g__2h, Es (List Int) g__3 g__3h, Bx b9 [(.int .i64 0), (.slice none 0 0), (.slice none 0 0), (.slice none 0 0)], Bx g0_2 [(.int .i64 s0_0), (.slice none 0 0), (g0_0).v, (g0_1).v], E (List Int) s0_1 g0_0, E (List Int) s0_2 g0_1])⟩
  subst hr
  refine sq ?_
  refine fld gok rfl rfl rfl rfl ?_
  refine load1 (H.bx 1 rfl (j := 1) rfl) ?_
  refine lenE (H.rs (α := List (Int × Int × List Int × List Int)) 2 rfl).len ?_
  have x0 := (H.rs (α := List (Int × Int × List Int × List Int)) 2 rfl).max
  obtain ⟨r1, e, f7⟩ := bindS f1; clear f1
  replace H := H.nil (α := Int × Int × List Int × List Int)
  refine loopS _ g__1.length (fun (k0 : Nat) (s1 : List (Int × Int × List Int × List Int)) (g1 : Hd) => [(2, (to_h).v), (6, (.pointer (some ⟨b9, 0, none⟩))), (7, (.pointer (some ⟨g0_2, 0, none⟩))), (21, (g__1h).v), (22, (.int .i64 ((g__1.length : Nat) : Int))), (23, (.int .i64 ((k0 : Nat) : Int)))]) (fun _ (s1 : List (Int × Int × List Int × List Int)) (g1 : Hd) w' => Cx w0 fp0 S0 w' [Es (List Int) to_ to_h, Bx b9 [(.int .i64 0), (.slice none 0 0), (.slice none 0 0), (.slice none 0 0)], Bx g0_2 [(.int .i64 s0_0), (g1).v, (g0_0).v, (g0_1).v], E (List (Int × Int × List Int × List Int)) s1 g1, E (List Int) s0_1 g0_0, E (List Int) s0_2 g0_1, Es (List (Int × Int × List Int × List Int)) g__1 g__1h]) [] nilH e ⟨rfl, rfl, rfl, rfl, rfl, rfl, trivial⟩ (H.sel [1, 6, 7, 0, 8, 9, 3] rfl) ?_ ?_
  ·
   clear H e
   rintro T1 k0 s1 g1 w16 o3 hk (H : Cx w0 fp0 S0 w16 [Es (List Int) to_ to_h, Bx b9 [(.int .i64 0), (.slice none 0 0), (.slice none 0 0), (.slice none 0 0)], Bx g0_2 [(.int .i64 s0_0), (g1).v, (g0_0).v, (g0_1).v], E (List (Int × Int × List Int × List Int)) s1 g1, E (List Int) s0_1 g0_0, E (List Int) s0_2 g0_1, Es (List (Int × Int × List Int × List Int)) g__1 g__1h]) f8
   refine boolE (z := true) (ltLen hk) ?_
   refine sq ?_
   refine sq ?_
   obtain ⟨a3, e, f9⟩ := bindS f8; clear f8
   have HH := H; clear H; obtain ⟨p0, m0, g2, c0, c1, c2, c3, H⟩ := HH.el (α := Int × Int × List Int × List Int) 6 rfl e; clear HH
   clear e
   obtain ⟨a3_0, a3_1, a3_2, a3_3⟩ := a3
   obtain ⟨_, _, h5, h6⟩ := g2
   replace H := H.part (β := List Int) a3_2 (h5 : Hd) 0 rfl (fun S h => (And.left (And.right (And.right h))))
   replace H := H.part (β := List Int) a3_3 (h6 : Hd) 1 rfl (fun S h => (And.right (And.right (And.right h))))
   replace H := H.sel [0, 1, 3, 4, 5, 6, 7, 8, 9] rfl
   refine idxE c0 c1 c2 ?_; clear c0 c1 c2
   refine loadN [(.int .i64 a3_0), (.int .i64 a3_1), (h5).v, (h6).v] rfl c3 ?_; clear c3
   refine alloc_ gok rfl H ?_; clear H; intro b3 w17 hx H
   clear hx
   refine stA gok [(.int .i64 a3_0), (.int .i64 a3_1), (h5).v, (h6).v] rfl H rfl rfl rfl ?_; clear H; intro w18 H
   refine heldX H [16, 18, 17] (.fst 0 (.fst 2 (.fst 4 (.fst 6 (.fst 8 (.fst 10 (.fst 12 (.fst 1 (.fst 3 (.fst 5 (.fst 7 (.fst 11 (.act 9 (.act 13 (.fst 14 (.act 15 (.act 16 (.act 17 (.act 18 .done))))))))))))))))))) mixed [] trivial (by kernel_rfl) ?_
   clear H; intro w19 H
   have hX : Ext w19 w19 := Upd.refl _ _
   have H0 := H
   refine anyH (fun _ => fld gok rfl rfl rfl rfl ⟨rfl, rfl⟩) ?_
   refine anyH (fun _ => fld gok rfl rfl rfl rfl ⟨rfl, rfl⟩) ?_
   refine anyH (fun _ => fld gok rfl rfl rfl rfl ⟨rfl, rfl⟩) ?_
   refine anyH (fun _ => fld gok rfl rfl rfl rfl ⟨rfl, rfl⟩) ?_
   refine anyH (fun _ => fld gok rfl rfl rfl rfl ⟨rfl, rfl⟩) ?_
   refine load1X (H.bx 5 rfl (j := 1) rfl) ?_
   refine load1X (H.bx 0 rfl (j := 0) rfl) ?_
   refine load1X (H.bx 0 rfl (j := 1) rfl) ?_
   refine load1X (H.bx 0 rfl (j := 2) rfl) ?_
   refine load1X (H.bx 0 rfl (j := 3) rfl) ?_
   obtain ⟨y2, e, f10⟩ := bindS f9; clear f9
   have i5 := e; clear e
   refine callFx (impl_mapped_c a3_2 h5 to_ to_h y2 i5) H ⟨Vw.sh 2 rfl, Vw.sh 3 rfl, trivial⟩ ?_; clear H i5
   rintro _ _ w20 ⟨h7, rfl, rfl⟩ hx H
   replace hX := hX.trans0 hx; clear hx
   refine hold hX ?_
   obtain ⟨y3, e, f11⟩ := bindS f10; clear f10
   have i6 := e; clear e
   refine callFx (impl_mapped_c a3_3 h6 to_ to_h y3 i6) H ⟨Vw.sh 2 rfl, Vw.sh 4 rfl, trivial⟩ ?_; clear H i6
   rintro _ _ w21 ⟨h8, rfl, rfl⟩ hx H
   replace hX := hX.trans0 hx; clear hx
   refine hold hX ?_
   refine anyH (fun _ => build_ (cs := #[(.int .i64 a3_0), (.int .i64 a3_1), (h7).v, (h8).v]) gok rfl rfl rfl ⟨rfl, rfl⟩) ?_
   replace H := H.sel [1, 0, 2, 3, 4, 5, 6, 7, 8, 9, 10, 11] rfl
   replace H := H.join (α := List Int) (β := List Int)
   replace H := H.sc (α := Int) a3_1
   replace H := H.join (α := Int) (β := List Int × List Int)
   replace H := H.sc (α := Int) a3_0
   replace H := H.join (α := Int) (β := Int × List Int × List Int)
   refine lit1 (α := Int × Int × List Int × List Int) (g := ((), (), h7, h8)) gok rfl rfl rfl rfl rfl H ?_; clear H; intro h9 w22 hx H
   replace hX := hX.trans0 hx; clear hx
   refine hold hX ?_
   obtain ⟨a4, e, f12⟩ := bindS f11; clear f11
   replace H := H.sel [7, 0, 1, 2, 3, 4, 5, 6, 8, 9, 10] rfl
   refine append_ (α := Int × Int × List Int × List Int) gok rfl rfl rfl rfl H e ?_; clear e H; intro h10 w23 H
   refine hold trivial ?_
   refine fld gok rfl rfl rfl rfl ?_
   refine hold trivial ?_
   replace H := H.sel [6, 0, 1, 2, 3, 4, 5, 7, 8, 9] rfl
   refine stB (j := 1) H rfl rfl ?_; clear H; intro w24 H
   refine hold trivial ?_
   refine arK hk x0 ?_
   have hs := Option.some.inj f12; subst hs; clear f12
   exact ⟨h10, ⟨rfl, rfl, rfl, rfl, rfl, rfl, trivial⟩, H.sel [5, 6, 0, 1, 7, 8, 9] rfl⟩
  ·
   clear H e
   rintro T2 g3 w25 (H : Cx w0 fp0 S0 w25 [Es (List Int) to_ to_h, Bx b9 [(.int .i64 0), (.slice none 0 0), (.slice none 0 0), (.slice none 0 0)], Bx g0_2 [(.int .i64 s0_0), (g3).v, (g0_0).v, (g0_1).v], E (List (Int × Int × List Int × List Int)) r1 g3, E (List Int) s0_1 g0_0, E (List Int) s0_2 g0_1, Es (List (Int × Int × List Int × List Int)) g__1 g__1h])
   refine boolE (z := false) geLen ?_
   refine sq ?_
   refine loadN [(.int .i64 s0_0), (g3).v, (g0_0).v, (g0_1).v] rfl (fun j u hj => H.bx 2 rfl hj) ?_
   replace H := H.sel [1, 0, 2, 3, 4, 5, 6] rfl
   refine stA gok [(.int .i64 s0_0), (g3).v, (g0_0).v, (g0_1).v] rfl H rfl rfl rfl ?_; clear H; intro w26 H
   refine loadN [(.int .i64 s0_0), (g3).v, (g0_0).v, (g0_1).v] rfl (fun j u hj => H.bx 0 rfl hj) ?_
   cases f7
   exact ⟨_, _, rfl, ⟨g3, g0_0, g0_1, rfl, rfl⟩, (H.sel [3, 4, 5] rfl).close ⟨cloE, cloE, cloE, trivial⟩⟩

theorem impl_from_c (first_ : Int) (n_ : Int) (y : List Int) (hF : F_impl_from first_ n_ = some y) :
  ConF Tryz.prog 98 #[(.int .i64 first_), (.int .i64 n_)] [] [] (fun v Γ' => ∃ z0 : Hd, v = (z0).v ∧ Γ' = [E (List Int) y z0]) := by
 intro w0 S0 fp0 hI hS
 have H : Cx w0 fp0 S0 w0 [] := Cx.start hI hS
 clear hI hS
 refine enterC (args := [_, _]) gok Tryz.func98 rfl _ rfl rfl rfl ?_
 obtain ⟨y1, e, hF2⟩ := bindS hF; clear hF
 have ey1 := e; clear e
 refine callF (impl_upTo_c n_ y1 ey1) (Γi := []) H trivial ?_; clear H ey1
 rintro _ _ w3 ⟨h4, rfl, rfl⟩ H
 refine sq ?_
 refine lenE (H.ro (α := List Int) 0 rfl).len ?_
 have x0 := (H.ro (α := List Int) 0 rfl).max
 obtain ⟨r0, e, f0⟩ := bindS hF2; clear hF2
 refine loopS _ y1.length (fun (k6 : Nat) (s0 : List Int) (_ : Unit) => [(0, (.int .i64 first_)), (5, (h4).v), (10, (.int .i64 ((y1.length : Nat) : Int))), (11, (.int .i64 ((k6 : Nat) : Int)))]) (fun _ (s0 : List Int) (_ : Unit) w' => Cx w0 fp0 S0 w' [E (List Int) s0 h4]) y1 () e ⟨rfl, rfl, rfl, rfl, trivial⟩ (H.sel [0] rfl) ?_ ?_
 ·
  clear H e
  rintro T0 k6 s0 _ w1 o0 hk (H : Cx w0 fp0 S0 w1 [E (List Int) s0 h4]) f1
  refine boolE (z := true) (ltLen hk) ?_
  refine sq ?_
  refine sq ?_
  obtain ⟨a0, e, f2⟩ := bindS f1; clear f1
  obtain ⟨p0, m0, c0, c1, c2, c3⟩ := (H.ro (α := List Int) 0 rfl).at1 e; clear e
  refine idxE c0 c1 c2 ?_; clear c0 c1 c2
  refine load1 c3 ?_; clear c3
  obtain ⟨a1, e, f3⟩ := bindS f2; clear f2
  refine arO e ?_; clear e
  obtain ⟨a2, e, f4⟩ := bindS f3; clear f3
  have i0 := e; clear e
  obtain ⟨p1, m1, c4, c5, c6⟩ := (H.ro (α := List Int) 0 rfl).setp i0
  refine idxE c4 c5 c6 ?_
  refine setS (α := Int) H c4 c5 i0 ?_; clear H c4 c5 c6 i0; intro w2 H
  refine arK hk x0 ?_
  have hs := Option.some.inj f4; subst hs; clear f4
  exact ⟨(), ⟨rfl, rfl, rfl, rfl, trivial⟩, H.sel [0] rfl⟩
 ·
  clear H e
  rintro T1 _ w4 (H : Cx w0 fp0 S0 w4 [E (List Int) r0 h4])
  refine boolE (z := false) geLen ?_
  refine sq ?_
  cases f0
  exact ⟨_, _, rfl, ⟨h4, rfl, rfl⟩, (H.sel [0] rfl).close ⟨cloE, trivial⟩⟩

theorem impl_Graph_beside_c (g__0 : Int) (g__1 : List (Int × Int × List Int × List Int)) (g__1h : Hd) (g__2 : List Int) (g__2h : Hd) (g__3 : List Int) (g__3h : Hd) (h__0 : Int) (h__1 : List (Int × Int × List Int × List Int)) (h__1h : Hd) (h__2 : List Int) (h__2h : Hd) (h__3 : List Int) (h__3h : Hd) (y_0 : Int) (y_1 : List (Int × Int × List Int × List Int)) (y_2 : List Int) (y_3 : List Int) (hF : F_impl_Graph_beside (g__0, g__1, g__2, g__3) (h__0, h__1, h__2, h__3) = some (y_0, y_1, y_2, y_3)) :
  ConF Tryz.prog 96 #[(.agg #[(.int .i64 g__0), (g__1h).v, (g__2h).v, (g__3h).v]), (.agg #[(.int .i64 h__0), (h__1h).v, (h__2h).v, (h__3h).v])] [Es (List (Int × Int × List Int × List Int)) g__1 g__1h, Es (List Int) g__2 g__2h, Es (List Int) g__3 g__3h, Es (List (Int × Int × List Int × List Int)) h__1 h__1h, Es (List Int) h__2 h__2h, Es (List Int) h__3 h__3h] [] (fun v Γ' => ∃ z0 z1 z2 : Hd, v = (.agg #[(.int .i64 y_0), (z0).v, (z1).v, (z2).v]) ∧ Γ' = [E (List (Int × Int × List Int × List Int)) y_1 z0, E (List Int) y_2 z1, E (List Int) y_3 z2]) := by
 intro w0 S0 fp0 hI hS
 have H : Cx w0 fp0 S0 w0 [Es (List (Int × Int × List Int × List Int)) g__1 g__1h, Es (List Int) g__2 g__2h, Es (List Int) g__3 g__3h, Es (List (Int × Int × List Int × List Int)) h__1 h__1h, Es (List Int) h__2 h__2h, Es (List Int) h__3 h__3h] := Cx.start hI hS
 clear hI hS
 refine enterC (args := [_, _]) gok Tryz.func96 rfl _ rfl rfl rfl ?_
 refine box_ H ?_; clear H; intro b8 w7 hx H
 clear hx
 refine box_ H ?_; clear H; intro b0 w1 hx H
 clear hx
 refine alloc_ gok rfl H ?_; clear H; intro b1 w2 hx H
 clear hx
 refine fld gok rfl rfl rfl rfl ?_
 refine load1 (H.bx 2 rfl (j := 0) rfl) ?_
 refine fld gok rfl rfl rfl rfl ?_
 refine load1 (H.bx 1 rfl (j := 0) rfl) ?_
 obtain ⟨a0, e, f0⟩ := bindS hF; clear hF
 refine arO e ?_; clear e
 refine build_ (cs := #[(.int .i64 a0), (.slice none 0 0), (.slice none 0 0), (.slice none 0 0)]) gok rfl rfl rfl ?_
 refine alloc_ gok rfl H ?_; clear H; intro b2 w3 hx H
 clear hx
 refine stA gok [(.int .i64 a0), (.slice none 0 0), (.slice none 0 0), (.slice none 0 0)] rfl H rfl rfl rfl ?_; clear H; intro w4 H
 obtain ⟨r0, f1, f2⟩ := bindS f0; clear f0
 refine heldJ H [] (.fst 1 (.fst 3 (.fst 0 (.fst 2 (.fst 4 (.alts (.alt 5 (.alts (.alt 6 (.act 7 (.act 8 .done)) (.alt 7 (.act 6 (.act 8 .done)) .no))) (.alt 7 (.act 5 (.act 6 (.act 8 .done))) .no)))))))) mixed [] trivial (by kernel_rfl) (fun (q0 : (Int × (List (Int × Int × List Int × List Int)) × List Int × List Int) × (Hd × Hd × Hd × Nat)) => [(2, (.pointer (some ⟨b8, 0, none⟩))), (3, (.pointer (some ⟨b0, 0, none⟩))), (4, (.pointer (some ⟨b1, 0, none⟩))), (5, (.pointer (some ⟨b2, 0, none⟩))), (6, (.pointer (some ⟨q0.2.2.2.2, 0, none⟩)))]) (fun (q0 : (Int × (List (Int × Int × List Int × List Int)) × List Int × List Int) × (Hd × Hd × Hd × Nat)) w' => (q0.1.1, q0.1.2.1, q0.1.2.2.1, q0.1.2.2.2) = r0 ∧ Cx w0 fp0 S0 w' [Bx b8 [(.int .i64 g__0), (g__1h).v, (g__2h).v, (g__3h).v], Es (List (Int × Int × List Int × List Int)) g__1 g__1h, Es (List Int) g__2 g__2h, Es (List Int) g__3 g__3h, Bx b0 [(.int .i64 h__0), (h__1h).v, (h__2h).v, (h__3h).v], Es (List (Int × Int × List Int × List Int)) h__1 h__1h, Es (List Int) h__2 h__2h, Es (List Int) h__3 h__3h, Bx b1 [(.int .i64 0), (.slice none 0 0), (.slice none 0 0), (.slice none 0 0)], Bx b2 [(.int .i64 a0), (.slice none 0 0), (.slice none 0 0), (.slice none 0 0)], Bx q0.2.2.2.2 [(.int .i64 q0.1.1), (q0.2.1).v, (q0.2.2.1).v, (q0.2.2.2.1).v], E (List (Int × Int × List Int × List Int)) q0.1.2.1 q0.2.1, E (List Int) q0.1.2.2.1 q0.2.2.1, E (List Int) q0.1.2.2.2 q0.2.2.2.1]) ?_ ?_
 ·
  clear H; intro w5 H
  have hX : Ext w5 w5 := Upd.refl _ _
  have H0 := H
  refine anyH (fun _ => fld gok rfl rfl rfl rfl ⟨rfl, rfl⟩) ?_
  refine anyH (fun _ => fld gok rfl rfl rfl rfl ⟨rfl, rfl⟩) ?_
  refine loadNX [(.int .i64 g__0), (g__1h).v, (g__2h).v, (g__3h).v] rfl (fun j u hj => H.bx 3 rfl hj) ?_
  refine load1X (H.bx 3 rfl (j := 0) rfl) ?_
  refine load1X (H.bx 3 rfl (j := 0) rfl) ?_
  refine both ?_ ?_
  ·
   obtain ⟨y0, e, f3⟩ := bindS f1; clear f1
   have i0 := e; clear e
   refine callFx (impl_upTo_c g__0 y0 i0) H trivial ?_; clear H i0
   rintro _ _ w6 ⟨h0, rfl, rfl⟩ hx H
   replace hX := hX.trans0 hx; clear hx
   refine hold hX ?_
   refine both ?_ ?_
   ·
    obtain ⟨y1, e, f4⟩ := bindS f3; clear f3
    obtain ⟨y1_0, y1_1, y1_2, y1_3⟩ := y1
    have i1 := e; clear e
    refine callFx (impl_Graph_moved_c g__0 g__1 g__1h g__2 g__2h g__3 g__3h g__0 y0 h0 y1_0 y1_1 y1_2 y1_3 i1) H ⟨Vw.sh 5 rfl, Vw.sh 6 rfl, Vw.sh 7 rfl, Vw.own 0 rfl, trivial⟩ ?_; clear H i1
    rintro _ _ w8 ⟨h1, h2, h3, rfl, rfl⟩ hx H
    replace hX := hX.trans0 hx; clear hx
    refine hold hX ?_
    refine allocX gok rfl H ?_; clear H; intro b3 w9 hx v0 H; replace v0 := Nat.le_trans hX.size v0
    replace hX := hX.trans0 hx; clear hx
    refine hold hX ?_
    refine stAX gok [(.int .i64 y1_0), (h1).v, (h2).v, (h3).v] rfl H rfl rfl rfl ?_; clear H; intro w11 hu H
    replace hX := hX.fresh hu v0; clear hu
    refine hold hX ?_
    exact ⟨((y1_0, y1_1, y1_2, y1_3), (h1, h2, h3, b3)), ⟨rfl, rfl, rfl, rfl, rfl, trivial⟩, Option.some.inj f4, H.sel [8, 9, 10, 11, 7, 12, 13, 14, 6, 5, 0, 1, 2, 3] rfl⟩
   ·
    refine both ?_ ?_
    ·
     obtain ⟨a1, o0, f5⟩ := bindS f3; clear f3
     refine allocX gok rfl H ?_; clear H; intro b4 w12 hx v1 H; replace v1 := Nat.le_trans hX.size v1
     replace hX := hX.trans0 hx; clear hx
     refine hold hX ?_
     have e := o0; clear o0
     obtain ⟨a1_0, a1_1, a1_2, a1_3⟩ := a1
     have i2 := e; clear e
     refine callFx (impl_Graph_moved_c g__0 g__1 g__1h g__2 g__2h g__3 g__3h g__0 y0 h0 a1_0 a1_1 a1_2 a1_3 i2) H ⟨Vw.sh 6 rfl, Vw.sh 7 rfl, Vw.sh 8 rfl, Vw.own 1 rfl, trivial⟩ ?_; clear H i2
     rintro _ _ w14 ⟨h4, h5, h6, rfl, rfl⟩ hx H
     replace hX := hX.trans0 hx; clear hx
     refine hold hX ?_
     replace H := H.sel [3, 0, 1, 2, 4, 5, 6, 7, 8, 9, 10, 11, 12, 13, 14] rfl
     refine stAX gok [(.int .i64 a1_0), (h4).v, (h5).v, (h6).v] rfl H rfl rfl rfl ?_; clear H; intro w15 hu H
     replace hX := hX.fresh hu v1; clear hu
     refine hold hX ?_
     exact ⟨((a1_0, a1_1, a1_2, a1_3), (h4, h5, h6, b4)), ⟨rfl, rfl, rfl, rfl, rfl, trivial⟩, Option.some.inj f5, H.sel [8, 9, 10, 11, 7, 12, 13, 14, 6, 5, 0, 1, 2, 3] rfl⟩
    ·
     exact trivial
  ·
   refine both ?_ ?_
   ·
    obtain ⟨a2, o1, f6⟩ := bindS f1; clear f1
    obtain ⟨a3, o2, f7⟩ := bindS f6; clear f6
    refine allocX gok rfl H ?_; clear H; intro b5 w16 hx v2 H; replace v2 := Nat.le_trans hX.size v2
    replace hX := hX.trans0 hx; clear hx
    refine hold hX ?_
    have e := o1; clear o1
    have i3 := e; clear e
    refine callFx (impl_upTo_c g__0 a2 i3) H trivial ?_; clear H i3
    rintro _ _ w17 ⟨h7, rfl, rfl⟩ hx H
    replace hX := hX.trans0 hx; clear hx
    refine hold hX ?_
    have e := o2; clear o2
    obtain ⟨a3_0, a3_1, a3_2, a3_3⟩ := a3
    have i4 := e; clear e
    refine callFx (impl_Graph_moved_c g__0 g__1 g__1h g__2 g__2h g__3 g__3h g__0 a2 h7 a3_0 a3_1 a3_2 a3_3 i4) H ⟨Vw.sh 6 rfl, Vw.sh 7 rfl, Vw.sh 8 rfl, Vw.own 0 rfl, trivial⟩ ?_; clear H i4
    rintro _ _ w19 ⟨h8, h9, h10, rfl, rfl⟩ hx H
    replace hX := hX.trans0 hx; clear hx
    refine hold hX ?_
    replace H := H.sel [4, 0, 1, 2, 3, 5, 6, 7, 8, 9, 10, 11, 12, 13, 14] rfl
    refine stAX gok [(.int .i64 a3_0), (h8).v, (h9).v, (h10).v] rfl H rfl rfl rfl ?_; clear H; intro w20 hu H
    replace hX := hX.fresh hu v2; clear hu
    refine hold hX ?_
    exact ⟨((a3_0, a3_1, a3_2, a3_3), (h8, h9, h10, b5)), ⟨rfl, rfl, rfl, rfl, rfl, trivial⟩, Option.some.inj f7, H.sel [8, 9, 10, 11, 7, 12, 13, 14, 6, 5, 0, 1, 2, 3] rfl⟩
   ·
    exact trivial
 ·
  clear f1 H
  rintro T0 ⟨⟨s0_0, s0_1, s0_2, s0_3⟩, ⟨g0_0, g0_1, g0_2, g0_3⟩⟩ w22 ⟨hr, (H : Cx w0 fp0 S0 w22 [Bx b8 [(.int .i64 g__0), (g__1h).v, (g__2h).v, (g__3h).v], Es (List (Int × Int × List Int × List Int)) g__1 g__1h, Es (List Int) g__2 g__2h, Es (List Int) g__3 g__3h, Bx b0 [(.int .i64 h__0), (h__1h).v, (h__2h).v, (h__3h).v], Es (List (Int × Int × List Int × List Int)) h__1 h__1h, Es (List Int) h__2 h__2h, Es (List Int) h__3 h__3h, Bx b1 [(.int .i64 0), (.slice none 0 0), (.slice none 0 0), (.slice none 0 0)], Bx b2 [(.int .i64 a0), (.slice none 0 0), (.slice none 0 0), (.slice none 0 0)], Bx g0_3 [(.int .i64 s0_0), (g0_0).v, (g0_1).v, (g0_2).v], E (List (Int × Int × List Int × List Int)) s0_1 g0_0, E (List Int) s0_2 g0_1, E (List Int) s0_3 g0_2])⟩
  subst hr
  obtain ⟨r1, f8, f9⟩ := bindS f2; clear f2
  refine heldJ H [] (.fst 1 (.fst 3 (.fst 5 (.fst 0 (.fst 2 (.fst 4 (.fst 6 (.alts (.alt 7 (.alts (.alt 8 (.act 9 (.act 10 .done)) (.alt 9 (.act 8 (.act 10 .done)) .no))) (.alt 9 (.act 7 (.act 8 (.act 10 .done))) .no)))))))))) mixed [] trivial (by kernel_rfl) (fun (q1 : (Int × (List (Int × Int × List Int × List Int)) × List Int × List Int) × (Hd × Hd × Hd × Nat)) => [(4, (.pointer (some ⟨b1, 0, none⟩))), (5, (.pointer (some ⟨b2, 0, none⟩))), (6, (.pointer (some ⟨g0_3, 0, none⟩))), (7, (.pointer (some ⟨q1.2.2.2.2, 0, none⟩)))]) (fun (q1 : (Int × (List (Int × Int × List Int × List Int)) × List Int × List Int) × (Hd × Hd × Hd × Nat)) w' => (q1.1.1, q1.1.2.1, q1.1.2.2.1, q1.1.2.2.2) = r1 ∧ Cx w0 fp0 S0 w' [Bx b1 [(.int .i64 0), (.slice none 0 0), (.slice none 0 0), (.slice none 0 0)], Bx b2 [(.int .i64 a0), (.slice none 0 0), (.slice none 0 0), (.slice none 0 0)], Bx g0_3 [(.int .i64 s0_0), (g0_0).v, (g0_1).v, (g0_2).v], E (List (Int × Int × List Int × List Int)) s0_1 g0_0, E (List Int) s0_2 g0_1, E (List Int) s0_3 g0_2, Bx q1.2.2.2.2 [(.int .i64 q1.1.1), (q1.2.1).v, (q1.2.2.1).v, (q1.2.2.2.1).v], E (List (Int × Int × List Int × List Int)) q1.1.2.1 q1.2.1, E (List Int) q1.1.2.2.1 q1.2.2.1, E (List Int) q1.1.2.2.2 q1.2.2.2.1]) ?_ ?_
  ·
   clear H; intro w23 H
   have hX : Ext w23 w23 := Upd.refl _ _
   have H0 := H
   refine anyH (fun _ => fld gok rfl rfl rfl rfl ⟨rfl, rfl⟩) ?_
   refine anyH (fun _ => fld gok rfl rfl rfl rfl ⟨rfl, rfl⟩) ?_
   refine anyH (fun _ => fld gok rfl rfl rfl rfl ⟨rfl, rfl⟩) ?_
   refine loadNX [(.int .i64 h__0), (h__1h).v, (h__2h).v, (h__3h).v] rfl (fun j u hj => H.bx 4 rfl hj) ?_
   refine load1X (H.bx 4 rfl (j := 0) rfl) ?_
   refine load1X (H.bx 0 rfl (j := 0) rfl) ?_
   refine load1X (H.bx 4 rfl (j := 0) rfl) ?_
   refine both ?_ ?_
   ·
    obtain ⟨y2, e, f10⟩ := bindS f8; clear f8
    have i5 := e; clear e
    refine callFx (impl_from_c g__0 h__0 y2 i5) H trivial ?_; clear H i5
    rintro _ _ w24 ⟨h11, rfl, rfl⟩ hx H
    replace hX := hX.trans0 hx; clear hx
    refine hold hX ?_
    refine both ?_ ?_
    ·
     obtain ⟨y3, e, f11⟩ := bindS f10; clear f10
     obtain ⟨y3_0, y3_1, y3_2, y3_3⟩ := y3
     have i6 := e; clear e
     refine callFx (impl_Graph_moved_c h__0 h__1 h__1h h__2 h__2h h__3 h__3h h__0 y2 h11 y3_0 y3_1 y3_2 y3_3 i6) H ⟨Vw.sh 6 rfl, Vw.sh 7 rfl, Vw.sh 8 rfl, Vw.own 0 rfl, trivial⟩ ?_; clear H i6
     rintro _ _ w25 ⟨h12, h13, h14, rfl, rfl⟩ hx H
     replace hX := hX.trans0 hx; clear hx
     refine hold hX ?_
     refine allocX gok rfl H ?_; clear H; intro b6 w26 hx v3 H; replace v3 := Nat.le_trans hX.size v3
     replace hX := hX.trans0 hx; clear hx
     refine hold hX ?_
     refine stAX gok [(.int .i64 y3_0), (h12).v, (h13).v, (h14).v] rfl H rfl rfl rfl ?_; clear H; intro w27 hu H
     replace hX := hX.fresh hu v3; clear hu
     refine hold hX ?_
     exact ⟨((y3_0, y3_1, y3_2, y3_3), (h12, h13, h14, b6)), ⟨rfl, rfl, rfl, rfl, trivial⟩, Option.some.inj f11, H.sel [13, 14, 15, 16, 17, 18, 0, 1, 2, 3] rfl⟩
    ·
     refine both ?_ ?_
     ·
      obtain ⟨a4, o3, f12⟩ := bindS f10; clear f10
      refine allocX gok rfl H ?_; clear H; intro b7 w28 hx v4 H; replace v4 := Nat.le_trans hX.size v4
      replace hX := hX.trans0 hx; clear hx
      refine hold hX ?_
      have e := o3; clear o3
      obtain ⟨a4_0, a4_1, a4_2, a4_3⟩ := a4
      have i7 := e; clear e
      refine callFx (impl_Graph_moved_c h__0 h__1 h__1h h__2 h__2h h__3 h__3h h__0 y2 h11 a4_0 a4_1 a4_2 a4_3 i7) H ⟨Vw.sh 7 rfl, Vw.sh 8 rfl, Vw.sh 9 rfl, Vw.own 1 rfl, trivial⟩ ?_; clear H i7
      rintro _ _ w29 ⟨h15, h16, h17, rfl, rfl⟩ hx H
      replace hX := hX.trans0 hx; clear hx
      refine hold hX ?_
      replace H := H.sel [3, 0, 1, 2, 4, 5, 6, 7, 8, 9, 10, 11, 12, 13, 14, 15, 16, 17, 18] rfl
      refine stAX gok [(.int .i64 a4_0), (h15).v, (h16).v, (h17).v] rfl H rfl rfl rfl ?_; clear H; intro w30 hu H
      replace hX := hX.fresh hu v4; clear hu
      refine hold hX ?_
      exact ⟨((a4_0, a4_1, a4_2, a4_3), (h15, h16, h17, b7)), ⟨rfl, rfl, rfl, rfl, trivial⟩, Option.some.inj f12, H.sel [13, 14, 15, 16, 17, 18, 0, 1, 2, 3] rfl⟩
     ·
      exact trivial
   ·
    refine both ?_ ?_
    ·
     obtain ⟨a5, o4, f13⟩ := bindS f8; clear f8
     obtain ⟨a6, o5, f14⟩ := bindS f13; clear f13
     refine allocX gok rfl H ?_; clear H; intro b9 w31 hx v5 H; replace v5 := Nat.le_trans hX.size v5
     replace hX := hX.trans0 hx; clear hx
     refine hold hX ?_
     have e := o4; clear o4
     have i8 := e; clear e
     refine callFx (impl_from_c g__0 h__0 a5 i8) H trivial ?_; clear H i8
     rintro _ _ w32 ⟨h18, rfl, rfl⟩ hx H
     replace hX := hX.trans0 hx; clear hx
     refine hold hX ?_
     have e := o5; clear o5
     obtain ⟨a6_0, a6_1, a6_2, a6_3⟩ := a6
     have i9 := e; clear e
     refine callFx (impl_Graph_moved_c h__0 h__1 h__1h h__2 h__2h h__3 h__3h h__0 a5 h18 a6_0 a6_1 a6_2 a6_3 i9) H ⟨Vw.sh 7 rfl, Vw.sh 8 rfl, Vw.sh 9 rfl, Vw.own 0 rfl, trivial⟩ ?_; clear H i9
     rintro _ _ w33 ⟨h19, h20, h21, rfl, rfl⟩ hx H
     replace hX := hX.trans0 hx; clear hx
     refine hold hX ?_
     replace H := H.sel [4, 0, 1, 2, 3, 5, 6, 7, 8, 9, 10, 11, 12, 13, 14, 15, 16, 17, 18] rfl
     refine stAX gok [(.int .i64 a6_0), (h19).v, (h20).v, (h21).v] rfl H rfl rfl rfl ?_; clear H; intro w34 hu H
     replace hX := hX.fresh hu v5; clear hu
     refine hold hX ?_
     exact ⟨((a6_0, a6_1, a6_2, a6_3), (h19, h20, h21, b9)), ⟨rfl, rfl, rfl, rfl, trivial⟩, Option.some.inj f14, H.sel [13, 14, 15, 16, 17, 18, 0, 1, 2, 3] rfl⟩
    ·
     exact trivial
  ·
   clear f8 H
   rintro T1 ⟨⟨s1_0, s1_1, s1_2, s1_3⟩, ⟨g1_0, g1_1, g1_2, g1_3⟩⟩ w35 ⟨hr, (H : Cx w0 fp0 S0 w35 [Bx b1 [(.int .i64 0), (.slice none 0 0), (.slice none 0 0), (.slice none 0 0)], Bx b2 [(.int .i64 a0), (.slice none 0 0), (.slice none 0 0), (.slice none 0 0)], Bx g0_3 [(.int .i64 s0_0), (g0_0).v, (g0_1).v, (g0_2).v], E (List (Int × Int × List Int × List Int)) s0_1 g0_0, E (List Int) s0_2 g0_1, E (List Int) s0_3 g0_2, Bx g1_3 [(.int .i64 s1_0), (g1_0).v, (g1_1).v, (g1_2).v], E (List (Int × Int × List Int × List Int)) s1_1 g1_0, E (List Int) s1_2 g1_1, E (List Int) s1_3 g1_2])⟩
   subst hr
   refine fld gok rfl rfl rfl rfl ?_
   refine load1 (H.bx 2 rfl (j := 1) rfl) ?_
   refine fld gok rfl rfl rfl rfl ?_
   refine load1 (H.bx 6 rfl (j := 1) rfl) ?_
   obtain ⟨a7, e, f15⟩ := bindS f9; clear f9
   replace H := H.sel [3, 7, 0, 1, 2, 4, 5, 6, 8, 9] rfl
   refine append_ (α := Int × Int × List Int × List Int) gok rfl rfl rfl rfl H e ?_; clear e H; intro h22 w36 H
   refine fld gok rfl rfl rfl rfl ?_
   replace H := H.sel [2, 0, 1, 3, 4, 5, 6, 7, 8] rfl
   refine stB (j := 1) H rfl rfl ?_; clear H; intro w37 H
   refine loadN [(.int .i64 a0), (h22).v, (.slice none 0 0), (.slice none 0 0)] rfl (fun j u hj => H.bx 0 rfl hj) ?_
   replace H := H.sel [2, 0, 1, 3, 4, 5, 6, 7, 8] rfl
   refine stA gok [(.int .i64 a0), (h22).v, (.slice none 0 0), (.slice none 0 0)] rfl H rfl rfl rfl ?_; clear H; intro w38 H
   refine loadN [(.int .i64 a0), (h22).v, (.slice none 0 0), (.slice none 0 0)] rfl (fun j u hj => H.bx 0 rfl hj) ?_
   replace H := H.nil (α := Int)
   replace H := H.nil (α := Int)
   cases f15
   exact ⟨_, _, rfl, ⟨h22, nilH, nilH, rfl, rfl⟩, (H.sel [4, 1, 0] rfl).close ⟨cloE, cloE, cloE, trivial⟩⟩

theorem impl_clone_c (list_ : List Int) (list_h : Hd) (y : List Int) (hF : F_impl_clone list_ = some y) :
  ConF Tryz.prog 73 #[(list_h).v] [Es (List Int) list_ list_h] [] (fun v Γ' => ∃ z0 : Hd, v = (z0).v ∧ Γ' = [E (List Int) y z0]) := by
 intro w0 S0 fp0 hI hS
 have H : Cx w0 fp0 S0 w0 [Es (List Int) list_ list_h] := Cx.start hI hS
 clear hI hS
 refine enterC (args := [_]) gok Tryz.func73 rfl _ rfl rfl rfl ?_
 refine lit0 (α := Int) gok rfl rfl H ?_; clear H; intro h3 w2 hx H
 clear hx
 obtain ⟨a5, e, hF6⟩ := bindS hF; clear hF
 refine appendS (α := Int) gok rfl rfl rfl rfl H (Vw.sh 0 rfl) e ?_; clear e H; intro h8 w7 H
 cases hF6
 exact ⟨_, _, rfl, ⟨h8, rfl, rfl⟩, (H.sel [0] rfl).close ⟨cloE, trivial⟩⟩

theorem impl_classes_root_c (c_ : List Int) (c_h : Hd) (w_ : Int) (y : Int) (hF : F_impl_classes_root c_ w_ = some y) :
  ConF Tryz.prog 123 #[(c_h).v, (.int .i64 w_)] [Es (List Int) c_ c_h] [] (fun v Γ' => v = (.int .i64 y) ∧ Γ' = []) := by
 intro w0 S0 fp0 hI hS
 have H : Cx w0 fp0 S0 w0 [Es (List Int) c_ c_h] := Cx.start hI hS
 clear hI hS
 refine enterC (args := [_, _]) gok Tryz.func123 rfl _ rfl rfl rfl ?_
 obtain ⟨r0, f0, f1⟩ := bindS hF; clear hF
 refine cut (fun (q0 : Int) => [(1, (.int .i64 q0))]) (fun (q0 : Int) w' => q0 = r0 ∧ Cx w0 fp0 S0 w' []) ?_ ?_
 ·
  refine loopW _ (fun (s0 : Int) (_ : Unit) => [(0, (c_h).v), (1, (.int .i64 s0))]) (fun (s0 : Int) (_ : Unit) w' => Cx w0 fp0 S0 w' [Es (List Int) c_ c_h]) w_ () f0 ⟨rfl, rfl, trivial⟩ (H.sel [0] rfl) ?_
  ·
   clear H
   rintro T0 s0 _ w1 o0 (H : Cx w0 fp0 S0 w1 [Es (List Int) c_ c_h]) hrt f2
   refine sq ?_
   obtain ⟨a0, e, f3⟩ := bindS f2; clear f2
   obtain ⟨p0, m0, c0, c1, c2, c3⟩ := (H.rs (α := List Int) 0 rfl).at1 e; clear e
   refine idxE c0 c1 c2 ?_; clear c0 c1 c2
   refine load1 c3 ?_; clear c3
   obtain ⟨a1, e, f4⟩ := bindS f3; clear f3
   refine boolO e ?_; clear e
   cases a1
   ·
    have f5 := condF f4; clear f4
    have hs := Option.some.inj f5; subst hs; clear f5
    have f6 : some _ = some _ := congrArg some (hrt _ rfl).symm
    exact ⟨s0, ⟨rfl, trivial⟩, Option.some.inj f6, H.sel [] rfl⟩
   ·
    have f7 := condT f4; clear f4
    obtain ⟨a2, e, f8⟩ := bindS f7; clear f7
    obtain ⟨p1, m1, c4, c5, c6, c7⟩ := (H.rs (α := List Int) 0 rfl).at1 e; clear e
    refine idxE c4 c5 c6 ?_; clear c4 c5 c6
    refine load1 c7 ?_; clear c7
    have hs := Option.some.inj f8; subst hs; clear f8
    exact ⟨a2, (), rfl, ⟨rfl, rfl, trivial⟩, H.sel [0] rfl⟩
 ·
  clear f0 H
  rintro T1 s1 w2 ⟨hr, (H : Cx w0 fp0 S0 w2 [])⟩
  subst hr
  cases f1
  exact ⟨_, _, rfl, ⟨rfl, rfl⟩, (H.sel [] rfl).close trivial⟩

theorem impl_classes_join_c (c_ : List Int) (c_h : Hd) (v_ : Int) (w_ : Int) (y : List Int) (hF : F_impl_classes_join c_ v_ w_ = some y) :
  ConF Tryz.prog 121 #[(c_h).v, (.int .i64 v_), (.int .i64 w_)] [] [E (List Int) c_ c_h] (fun v Γ' => v = (.tuple #[]) ∧ Γ' = [E (List Int) y c_h]) := by
 intro w0 S0 fp0 hI hS
 have H : Cx w0 fp0 S0 w0 [E (List Int) c_ c_h] := Cx.start hI hS
 clear hI hS
 refine enterC (args := [_, _, _]) gok Tryz.func121 rfl _ rfl rfl rfl ?_
 obtain ⟨y2, e, hF3⟩ := bindS hF; clear hF
 have ey2 := e; clear e
 refine callF (impl_classes_root_c c_ c_h v_ y2 ey2) (Γi := []) H ⟨Vw.own 0 rfl, trivial⟩ ?_; clear H ey2
 rintro _ _ w4 ⟨rfl, rfl⟩ H
 obtain ⟨y5, e, hF6⟩ := bindS hF3; clear hF3
 have ey5 := e; clear e
 refine callF (impl_classes_root_c c_ c_h w_ y5 ey5) (Γi := []) H ⟨Vw.own 0 rfl, trivial⟩ ?_; clear H ey5
 rintro _ _ w7 ⟨rfl, rfl⟩ H
 obtain ⟨a8, e, hF9⟩ := bindS hF6; clear hF6
 refine max_ e ?_; clear e
 obtain ⟨a0, e, f0⟩ := bindS hF9; clear hF9
 refine min_ e ?_; clear e
 obtain ⟨a1, e, f1⟩ := bindS f0; clear f0
 have i0 := e; clear e
 obtain ⟨p0, m0, c0, c1, c2⟩ := (H.ro (α := List Int) 0 rfl).setp i0
 refine idxE c0 c1 c2 ?_
 refine setS (α := Int) H c0 c1 i0 ?_; clear H c0 c1 c2 i0; intro w1 H
 cases f1
 exact ⟨_, _, rfl, ⟨rfl, rfl⟩, (H.sel [0] rfl).close ⟨cloE, trivial⟩⟩

theorem impl_Graph_glue_1_c (list_ : List Int) (list_h : Hd) (c0_b : Nat) (c0_ : List Bool) (c0_h : Hd) (c1_b : Nat) (c1_ : List Int) (c1_h : Hd) (y : List Bool) (hF : F_impl_Graph_glue_1 list_ c0_ c1_ = some y) :
  ConF Tryz.prog 122 #[(list_h).v, (.pointer (some ⟨c0_b, 0, none⟩)), (.pointer (some ⟨c1_b, 0, none⟩))] [Es (List Int) list_ list_h, Es (List Int) c1_ c1_h] [Bx c0_b [(c0_h).v], E (List Bool) c0_ c0_h, Bx c1_b [(c1_h).v]] (fun v Γ' => v = (.tuple #[]) ∧ Γ' = [Bx c0_b [(c0_h).v], E (List Bool) y c0_h, Bx c1_b [(c1_h).v]]) := by
 intro w0 S0 fp0 hI hS
 have H : Cx w0 fp0 S0 w0 [Es (List Int) list_ list_h, Es (List Int) c1_ c1_h, Bx c0_b [(c0_h).v], E (List Bool) c0_ c0_h, Bx c1_b [(c1_h).v]] := Cx.start hI hS
 clear hI hS
 refine enterC (args := [_, _, _]) gok Tryz.func122 rfl _ rfl rfl rfl ?_
 refine lenE (H.rs (α := List Int) 0 rfl).len ?_
 have x0 := (H.rs (α := List Int) 0 rfl).max
 obtain ⟨r0, e, f0⟩ := bindS hF; clear hF
 refine loopS _ list_.length (fun (k6 : Nat) (s0 : List Bool) (_ : Unit) => [(1, (.pointer (some ⟨c0_b, 0, none⟩))), (2, (.pointer (some ⟨c1_b, 0, none⟩))), (6, (list_h).v), (7, (.int .i64 ((list_.length : Nat) : Int))), (8, (.int .i64 ((k6 : Nat) : Int)))]) (fun _ (s0 : List Bool) (_ : Unit) w' => Cx w0 fp0 S0 w' [Bx c0_b [(c0_h).v], E (List Bool) s0 c0_h, Bx c1_b [(c1_h).v], Es (List Int) c1_ c1_h, Es (List Int) list_ list_h]) c0_ () e ⟨rfl, rfl, rfl, rfl, rfl, trivial⟩ (H.sel [2, 3, 4, 1, 0] rfl) ?_ ?_
 ·
  clear H e
  rintro T0 k6 s0 _ w1 o0 hk (H : Cx w0 fp0 S0 w1 [Bx c0_b [(c0_h).v], E (List Bool) s0 c0_h, Bx c1_b [(c1_h).v], Es (List Int) c1_ c1_h, Es (List Int) list_ list_h]) f1
  refine boolE (z := true) (ltLen hk) ?_
  refine sq ?_
  refine sq ?_
  obtain ⟨a0, e, f2⟩ := bindS f1; clear f1
  obtain ⟨p0, m0, c0, c1, c2, c3⟩ := (H.rs (α := List Int) 4 rfl).at1 e; clear e
  refine idxE c0 c1 c2 ?_; clear c0 c1 c2
  refine load1 c3 ?_; clear c3
  refine heldX H [5] (.fst 2 (.fst 0 (.fst 1 (.act 3 (.fst 4 (.act 5 .done)))))) mixed [] trivial (by kernel_rfl) ?_
  clear H; intro w2 H
  have hX : Ext w2 w2 := Upd.refl _ _
  have H0 := H
  refine load1X (H.bx0 0 rfl) ?_
  refine load1X (H.bx0 2 rfl) ?_
  obtain ⟨y0, e, f3⟩ := bindS f2; clear f2
  have i0 := e; clear e
  refine callFx (impl_classes_root_c c1_ c1_h a0 y0 i0) H ⟨Vw.sh 3 rfl, trivial⟩ ?_; clear H i0
  rintro _ _ w3 ⟨rfl, rfl⟩ hx H
  replace hX := hX.trans0 hx; clear hx
  refine hold hX ?_
  obtain ⟨a1, e, f4⟩ := bindS f3; clear f3
  have i1 := e; clear e
  obtain ⟨p1, m1, c4, c5, c6⟩ := (H.ro (α := List Bool) 1 rfl).setp i1
  refine idxE c4 c5 c6 ?_
  replace H := H.sel [1, 0, 2, 3, 4] rfl
  refine setS (α := Bool) H c4 c5 i1 ?_; clear H c4 c5 c6 i1; intro w4 H
  refine hold trivial ?_
  refine arK hk x0 ?_
  have hs := Option.some.inj f4; subst hs; clear f4
  exact ⟨(), ⟨rfl, rfl, rfl, rfl, rfl, trivial⟩, H.sel [1, 0, 2, 3, 4] rfl⟩
 ·
  clear H e
  rintro T1 _ w5 (H : Cx w0 fp0 S0 w5 [Bx c0_b [(c0_h).v], E (List Bool) r0 c0_h, Bx c1_b [(c1_h).v], Es (List Int) c1_ c1_h, Es (List Int) list_ list_h])
  refine boolE (z := false) geLen ?_
  refine sq ?_
  cases f0
  exact ⟨_, _, rfl, ⟨rfl, rfl⟩, (H.sel [0, 1, 2] rfl).close ⟨cloB, cloE, cloB, trivial⟩⟩

theorem impl_Graph_lists_impl_Graph_glue_1_c (g__0 : Int) (g__1 : List (Int × Int × List Int × List Int)) (g__1h : Hd) (g__2 : List Int) (g__2h : Hd) (g__3 : List Int) (g__3h : Hd) (d0_b : Nat) (d0_ : List Bool) (d0_h : Hd) (d1_b : Nat) (d1_ : List Int) (d1_h : Hd) (y : List Bool) (hF : F_impl_Graph_lists_impl_Graph_glue_1 (g__0, g__1, g__2, g__3) d0_ d1_ = some y) :
  ConF Tryz.prog 104 #[(.agg #[(.int .i64 g__0), (g__1h).v, (g__2h).v, (g__3h).v]), (.func (.func 122) #[] #[(.pointer (some ⟨d0_b, 0, none⟩)), (.pointer (some ⟨d1_b, 0, none⟩))])] [Es (List (Int × Int × List Int × List Int)) g__1 g__1h, Es (List Int) g__2 g__2h, Es (List Int) g__3 g__3h, Es (List Int) d1_ d1_h] [Bx d0_b [(d0_h).v], E (List Bool) d0_ d0_h, Bx d1_b [(d1_h).v]] (fun v Γ' => v = (.tuple #[]) ∧ Γ' = [Bx d0_b [(d0_h).v], E (List Bool) y d0_h, Bx d1_b [(d1_h).v]]) := by
 intro w0 S0 fp0 hI hS
 have H : Cx w0 fp0 S0 w0 [Es (List (Int × Int × List Int × List Int)) g__1 g__1h, Es (List Int) g__2 g__2h, Es (List Int) g__3 g__3h, Es (List Int) d1_ d1_h, Bx d0_b [(d0_h).v], E (List Bool) d0_ d0_h, Bx d1_b [(d1_h).v]] := Cx.start hI hS
 clear hI hS
 refine enterC (args := [_, _]) gok Tryz.func104 rfl _ rfl rfl rfl ?_
 refine box_ H ?_; clear H; intro b9 w8 hx H
 clear hx
 refine fld gok rfl rfl rfl rfl ?_
 refine load1 (H.bx 0 rfl (j := 2) rfl) ?_
 obtain ⟨y0, e, f0⟩ := bindS hF; clear hF
 have i0 := e; clear e
 replace H := H.sel [5, 6, 7, 0, 1, 2, 3, 4] rfl
 refine callF (impl_Graph_glue_1_c g__2 g__2h d0_b d0_ d0_h d1_b d1_ d1_h y0 i0) (Γi := [Bx d0_b [(d0_h).v], E (List Bool) d0_ d0_h, Bx d1_b [(d1_h).v]]) H ⟨Vw.sh 2 rfl, Vw.sh 4 rfl, trivial⟩ ?_; clear H i0
 rintro _ _ w1 ⟨rfl, rfl⟩ H
 refine fld gok rfl rfl rfl rfl ?_
 refine load1 (H.bx 3 rfl (j := 3) rfl) ?_
 obtain ⟨y1, e, f1⟩ := bindS f0; clear f0
 have i1 := e; clear e
 refine callF (impl_Graph_glue_1_c g__3 g__3h d0_b y0 d0_h d1_b d1_ d1_h y1 i1) (Γi := [Bx d0_b [(d0_h).v], E (List Bool) y0 d0_h, Bx d1_b [(d1_h).v]]) H ⟨Vw.sh 3 rfl, Vw.sh 4 rfl, trivial⟩ ?_; clear H i1
 rintro _ _ w2 ⟨rfl, rfl⟩ H
 refine fld gok rfl rfl rfl rfl ?_
 refine load1 (H.bx 3 rfl (j := 1) rfl) ?_
 refine lenE (H.rs (α := List (Int × Int × List Int × List Int)) 4 rfl).len ?_
 have x0 := (H.rs (α := List (Int × Int × List Int × List Int)) 4 rfl).max
 obtain ⟨r0, e, f2⟩ := bindS f1; clear f1
 refine loopS _ g__1.length (fun (k0 : Nat) (s0 : List Bool) (_ : Unit) => [(1, (.func (.func 122) #[] #[(.pointer (some ⟨d0_b, 0, none⟩)), (.pointer (some ⟨d1_b, 0, none⟩))])), (15, (g__1h).v), (16, (.int .i64 ((g__1.length : Nat) : Int))), (17, (.int .i64 ((k0 : Nat) : Int)))]) (fun _ (s0 : List Bool) (_ : Unit) w' => Cx w0 fp0 S0 w' [Bx d0_b [(d0_h).v], E (List Bool) s0 d0_h, Bx d1_b [(d1_h).v], Es (List Int) d1_ d1_h, Es (List (Int × Int × List Int × List Int)) g__1 g__1h]) y1 () e ⟨rfl, rfl, rfl, rfl, trivial⟩ (H.sel [0, 1, 2, 7, 4] rfl) ?_ ?_
 ·
  clear H e
  rintro T0 k0 s0 _ w3 o0 hk (H : Cx w0 fp0 S0 w3 [Bx d0_b [(d0_h).v], E (List Bool) s0 d0_h, Bx d1_b [(d1_h).v], Es (List Int) d1_ d1_h, Es (List (Int × Int × List Int × List Int)) g__1 g__1h]) f3
  refine boolE (z := true) (ltLen hk) ?_
  refine sq ?_
  refine sq ?_
  obtain ⟨a0, e, f4⟩ := bindS f3; clear f3
  have HH := H; clear H; obtain ⟨p0, m0, g0, c0, c1, c2, c3, H⟩ := HH.el (α := Int × Int × List Int × List Int) 4 rfl e; clear HH
  clear e
  obtain ⟨a0_0, a0_1, a0_2, a0_3⟩ := a0
  obtain ⟨_, _, h0, h1⟩ := g0
  replace H := H.part (β := List Int) a0_2 (h0 : Hd) 0 rfl (fun S h => (And.left (And.right (And.right h))))
  replace H := H.part (β := List Int) a0_3 (h1 : Hd) 1 rfl (fun S h => (And.right (And.right (And.right h))))
  replace H := H.sel [0, 1, 3, 4, 5, 6, 7] rfl
  refine idxE c0 c1 c2 ?_; clear c0 c1 c2
  refine loadN [(.int .i64 a0_0), (.int .i64 a0_1), (h0).v, (h1).v] rfl c3 ?_; clear c3
  refine alloc_ gok rfl H ?_; clear H; intro b0 w4 hx H
  clear hx
  refine stA gok [(.int .i64 a0_0), (.int .i64 a0_1), (h0).v, (h1).v] rfl H rfl rfl rfl ?_; clear H; intro w5 H
  refine fld gok rfl rfl rfl rfl ?_
  refine load1 (H.bx 0 rfl (j := 2) rfl) ?_
  obtain ⟨y2, e, f5⟩ := bindS f4; clear f4
  have i2 := e; clear e
  replace H := H.sel [3, 4, 5, 0, 1, 2, 6, 7] rfl
  refine callF (impl_Graph_glue_1_c a0_2 h0 d0_b s0 d0_h d1_b d1_ d1_h y2 i2) (Γi := [Bx d0_b [(d0_h).v], E (List Bool) s0 d0_h, Bx d1_b [(d1_h).v]]) H ⟨Vw.sh 2 rfl, Vw.sh 3 rfl, trivial⟩ ?_; clear H i2
  rintro _ _ w6 ⟨rfl, rfl⟩ H
  refine fld gok rfl rfl rfl rfl ?_
  refine load1 (H.bx 3 rfl (j := 3) rfl) ?_
  obtain ⟨y3, e, f6⟩ := bindS f5; clear f5
  have i3 := e; clear e
  refine callF (impl_Graph_glue_1_c a0_3 h1 d0_b y2 d0_h d1_b d1_ d1_h y3 i3) (Γi := [Bx d0_b [(d0_h).v], E (List Bool) y2 d0_h, Bx d1_b [(d1_h).v]]) H ⟨Vw.sh 1 rfl, Vw.sh 3 rfl, trivial⟩ ?_; clear H i3
  rintro _ _ w7 ⟨rfl, rfl⟩ H
  refine arK hk x0 ?_
  have hs := Option.some.inj f6; subst hs; clear f6
  exact ⟨(), ⟨rfl, rfl, rfl, rfl, trivial⟩, H.sel [0, 1, 2, 6, 7] rfl⟩
 ·
  clear H e
  rintro T1 _ w9 (H : Cx w0 fp0 S0 w9 [Bx d0_b [(d0_h).v], E (List Bool) r0 d0_h, Bx d1_b [(d1_h).v], Es (List Int) d1_ d1_h, Es (List (Int × Int × List Int × List Int)) g__1 g__1h])
  refine boolE (z := false) geLen ?_
  refine sq ?_
  cases f2
  exact ⟨_, _, rfl, ⟨rfl, rfl⟩, (H.sel [0, 1, 2] rfl).close ⟨cloB, cloE, cloB, trivial⟩⟩

theorem impl_Graph_glue_c (g__0 : Int) (g__1 : List (Int × Int × List Int × List Int)) (g__1h : Hd) (g__2 : List Int) (g__2h : Hd) (g__3 : List Int) (g__3h : Hd) (pairs_ : List (Int × Int)) (pairs_h : Hd) (y_0_0 : Int) (y_0_1 : List (Int × Int × List Int × List Int)) (y_0_2 : List Int) (y_0_3 : List Int) (y_1 : List Int) (hF : F_impl_Graph_glue (g__0, g__1, g__2, g__3) pairs_ = some ((y_0_0, y_0_1, y_0_2, y_0_3), y_1)) :
  ConF Tryz.prog 99 #[(.agg #[(.int .i64 g__0), (g__1h).v, (g__2h).v, (g__3h).v]), (pairs_h).v] [Es (List (Int × Int × List Int × List Int)) g__1 g__1h, Es (List Int) g__2 g__2h, Es (List Int) g__3 g__3h, Es (List (Int × Int)) pairs_ pairs_h] [] (fun v Γ' => ∃ z0 z1 z2 z3 : Hd, v = (.agg #[(.int .i64 y_0_0), (z0).v, (z1).v, (z2).v, (z3).v]) ∧ Γ' = [E (List (Int × Int × List Int × List Int)) y_0_1 z0, E (List Int) y_0_2 z1, E (List Int) y_0_3 z2, E (List Int) y_1 z3]) := by
 intro w0 S0 fp0 hI hS
 have H : Cx w0 fp0 S0 w0 [Es (List (Int × Int × List Int × List Int)) g__1 g__1h, Es (List Int) g__2 g__2h, Es (List Int) g__3 g__3h, Es (List (Int × Int)) pairs_ pairs_h] := Cx.start hI hS
 clear hI hS
 refine enterC (args := [_, _]) gok Tryz.func99 rfl _ rfl rfl rfl ?_
 refine box_ H ?_; clear H; intro b6 w5 hx H
 clear hx
 refine alloc_ gok rfl H ?_; clear H; intro b9 w8 hx H
 clear hx
 refine fld gok rfl rfl rfl rfl ?_
 refine load1 (H.bx 1 rfl (j := 0) rfl) ?_
 obtain ⟨y0, e, f0⟩ := bindS hF; clear hF
 have i0 := e; clear e
 refine callF (impl_upTo_c g__0 y0 i0) (Γi := []) H trivial ?_; clear H i0
 rintro _ _ w1 ⟨h0, rfl, rfl⟩ H
 refine alloc_ gok rfl H ?_; clear H; intro b0 w2 hx H
 clear hx
 refine stB0 H rfl ?_; clear H; intro w3 H
 refine sq ?_
 refine lenE (H.rs (α := List (Int × Int)) 7 rfl).len ?_
 have x0 := (H.rs (α := List (Int × Int)) 7 rfl).max
 obtain ⟨r0, e, f1⟩ := bindS f0; clear f0
 refine loopS _ pairs_.length (fun (k0 : Nat) (s0 : List Int) (_ : Unit) => [(2, (.pointer (some ⟨b6, 0, none⟩))), (4, (.pointer (some ⟨b9, 0, none⟩))), (5, (.pointer (some ⟨b0, 0, none⟩))), (16, (pairs_h).v), (17, (.int .i64 ((pairs_.length : Nat) : Int))), (18, (.int .i64 ((k0 : Nat) : Int)))]) (fun _ (s0 : List Int) (_ : Unit) w' => Cx w0 fp0 S0 w' [Bx b6 [(.int .i64 g__0), (g__1h).v, (g__2h).v, (g__3h).v], Es (List (Int × Int × List Int × List Int)) g__1 g__1h, Es (List Int) g__2 g__2h, Es (List Int) g__3 g__3h, Bx b9 [(.int .i64 0), (.slice none 0 0), (.slice none 0 0), (.slice none 0 0), (.slice none 0 0)], Bx b0 [(h0).v], E (List Int) s0 h0, Es (List (Int × Int)) pairs_ pairs_h]) y0 () e ⟨rfl, rfl, rfl, rfl, rfl, rfl, trivial⟩ (H.sel [3, 4, 5, 6, 2, 0, 1, 7] rfl) ?_ ?_
 ·
  clear H e
  rintro T0 k0 s0 _ w4 o0 hk (H : Cx w0 fp0 S0 w4 [Bx b6 [(.int .i64 g__0), (g__1h).v, (g__2h).v, (g__3h).v], Es (List (Int × Int × List Int × List Int)) g__1 g__1h, Es (List Int) g__2 g__2h, Es (List Int) g__3 g__3h, Bx b9 [(.int .i64 0), (.slice none 0 0), (.slice none 0 0), (.slice none 0 0), (.slice none 0 0)], Bx b0 [(h0).v], E (List Int) s0 h0, Es (List (Int × Int)) pairs_ pairs_h]) f2
  refine boolE (z := true) (ltLen hk) ?_
  refine sq ?_
  refine sq ?_
  obtain ⟨a0, e, f3⟩ := bindS f2; clear f2
  have HH := H; clear H; obtain ⟨p0, m0, g0, c0, c1, c2, c3, H⟩ := HH.el (α := Int × Int) 7 rfl e; clear HH
  clear e
  obtain ⟨a0_0, a0_1⟩ := a0
  obtain ⟨_, _⟩ := g0
  replace H := H.sel [1, 2, 3, 4, 5, 6, 7, 8] rfl
  refine idxE c0 c1 c2 ?_; clear c0 c1 c2
  refine loadN [(.int .i64 a0_0), (.int .i64 a0_1)] rfl c3 ?_; clear c3
  refine alloc_ gok rfl H ?_; clear H; intro b1 w6 hx H
  clear hx
  refine stA gok [(.int .i64 a0_0), (.int .i64 a0_1)] rfl H rfl rfl rfl ?_; clear H; intro w7 H
  refine load1 (H.bx0 6 rfl) ?_
  refine idxAr gok rfl rfl (m := 0) rfl rfl ?_
  refine load1 (H.bx 0 rfl (j := 0) rfl) ?_
  refine idxAr gok rfl rfl (m := 1) rfl rfl ?_
  refine load1 (H.bx 0 rfl (j := 1) rfl) ?_
  obtain ⟨y1, e, f4⟩ := bindS f3; clear f3
  have i1 := e; clear e
  replace H := H.sel [7, 0, 1, 2, 3, 4, 5, 6, 8] rfl
  refine callF (impl_classes_join_c s0 h0 a0_0 a0_1 y1 i1) (Γi := [E (List Int) s0 h0]) H trivial ?_; clear H i1
  rintro _ _ w9 ⟨rfl, rfl⟩ H
  refine arK hk x0 ?_
  have hs := Option.some.inj f4; subst hs; clear f4
  exact ⟨(), ⟨rfl, rfl, rfl, rfl, rfl, rfl, trivial⟩, H.sel [2, 3, 4, 5, 6, 7, 0, 8] rfl⟩
 ·
  clear H e
  rintro T1 _ w10 (H : Cx w0 fp0 S0 w10 [Bx b6 [(.int .i64 g__0), (g__1h).v, (g__2h).v, (g__3h).v], Es (List (Int × Int × List Int × List Int)) g__1 g__1h, Es (List Int) g__2 g__2h, Es (List Int) g__3 g__3h, Bx b9 [(.int .i64 0), (.slice none 0 0), (.slice none 0 0), (.slice none 0 0), (.slice none 0 0)], Bx b0 [(h0).v], E (List Int) r0 h0, Es (List (Int × Int)) pairs_ pairs_h])
  refine boolE (z := false) geLen ?_
  refine sq ?_
  refine fld gok rfl rfl rfl rfl ?_
  refine load1 (H.bx 0 rfl (j := 0) rfl) ?_
  obtain ⟨a1, e, f5⟩ := bindS f1; clear f1
  refine make_ (α := Bool) gok rfl rfl rfl rfl (makeCO_of e) H ?_; clear e H; intro h1 w11 hx H
  clear hx
  refine alloc_ gok rfl H ?_; clear H; intro b2 w12 hx H
  clear hx
  refine stB0 H rfl ?_; clear H; intro w14 H
  refine loadN [(.int .i64 g__0), (g__1h).v, (g__2h).v, (g__3h).v] rfl (fun j u hj => H.bx 2 rfl hj) ?_
  obtain ⟨y2, e, f6⟩ := bindS f5; clear f5
  have i2 := e; clear e
  replace H := H.sel [0, 1, 7, 2, 3, 4, 5, 6, 8, 9] rfl
  refine callF (impl_Graph_lists_impl_Graph_glue_1_c g__0 g__1 g__1h g__2 g__2h g__3 g__3h b2 a1 h1 b0 r0 h0 y2 i2) (Γi := [Bx b2 [(h1).v], E (List Bool) a1 h1, Bx b0 [(h0).v]]) H ⟨Vw.sh 1 rfl, Vw.sh 2 rfl, Vw.sh 3 rfl, Vw.own 5 rfl, trivial⟩ ?_; clear H i2
  rintro _ _ w15 ⟨rfl, rfl⟩ H
  refine fld gok rfl rfl rfl rfl ?_
  refine load1 (H.bx 3 rfl (j := 0) rfl) ?_
  obtain ⟨y3, e, f7⟩ := bindS f6; clear f6
  have i3 := e; clear e
  refine callF (impl_zeros_c g__0 y3 i3) (Γi := []) H trivial ?_; clear H i3
  rintro _ _ w17 ⟨h2, rfl, rfl⟩ H
  refine sq ?_
  refine lenE (H.ro (α := List Int) 0 rfl).len ?_
  have x1 := (H.ro (α := List Int) 0 rfl).max
  obtain ⟨r1, e, f8⟩ := bindS f7; clear f7
  refine loopS _ y3.length (fun (k1 : Nat) (s1 : List Int × Int) (_ : Unit) => [(2, (.pointer (some ⟨b6, 0, none⟩))), (4, (.pointer (some ⟨b9, 0, none⟩))), (5, (.pointer (some ⟨b0, 0, none⟩))), (8, (.pointer (some ⟨b2, 0, none⟩))), (9, (h2).v), (10, (.int .i64 s1.2)), (39, (.int .i64 ((y3.length : Nat) : Int))), (40, (.int .i64 ((k1 : Nat) : Int)))]) (fun _ (s1 : List Int × Int) (_ : Unit) w' => Cx w0 fp0 S0 w' [Bx b6 [(.int .i64 g__0), (g__1h).v, (g__2h).v, (g__3h).v], Es (List (Int × Int × List Int × List Int)) g__1 g__1h, Es (List Int) g__2 g__2h, Es (List Int) g__3 g__3h, Bx b9 [(.int .i64 0), (.slice none 0 0), (.slice none 0 0), (.slice none 0 0), (.slice none 0 0)], Bx b0 [(h0).v], E (List Int) r0 h0, Bx b2 [(h1).v], E (List Bool) y2 h1, E (List Int) s1.1 h2]) (y3, 0) () e ⟨rfl, rfl, rfl, rfl, rfl, rfl, rfl, rfl, trivial⟩ (H.sel [4, 5, 6, 7, 8, 3, 9, 1, 2, 0] rfl) ?_ ?_
  ·
   clear H e
   rintro T2 k1 ⟨s1_0, s1_1⟩ _ w18 o1 hk (H : Cx w0 fp0 S0 w18 [Bx b6 [(.int .i64 g__0), (g__1h).v, (g__2h).v, (g__3h).v], Es (List (Int × Int × List Int × List Int)) g__1 g__1h, Es (List Int) g__2 g__2h, Es (List Int) g__3 g__3h, Bx b9 [(.int .i64 0), (.slice none 0 0), (.slice none 0 0), (.slice none 0 0), (.slice none 0 0)], Bx b0 [(h0).v], E (List Int) r0 h0, Bx b2 [(h1).v], E (List Bool) y2 h1, E (List Int) s1_0 h2]) f9
   refine boolE (z := true) (ltLen hk) ?_
   refine sq ?_
   refine sq ?_
   refine load1 (H.bx0 5 rfl) ?_
   obtain ⟨y4, e, f10⟩ := bindS f9; clear f9
   have i4 := e; clear e
   refine callF (impl_classes_root_c r0 h0 ((k1 : Nat) : Int) y4 i4) (Γi := []) H ⟨Vw.own 6 rfl, trivial⟩ ?_; clear H i4
   rintro _ _ w20 ⟨rfl, rfl⟩ H
   refine load1 (H.bx0 7 rfl) ?_
   obtain ⟨a2, e, f11⟩ := bindS f10; clear f10
   obtain ⟨p1, m1, c4, c5, c6, c7⟩ := (H.ro (α := List Bool) 8 rfl).at1 e; clear e
   refine idxE c4 c5 c6 ?_; clear c4 c5 c6
   refine load1 c7 ?_; clear c7
   obtain ⟨a3, e, f12⟩ := bindS f11; clear f11
   refine boolO e ?_; clear e
   cases a3
   ·
    have f13 := condF f12; clear f12
    obtain ⟨a4, e, f14⟩ := bindS f13; clear f13
    refine boolO e ?_; clear e
    cases a4
    ·
     have f15 := condF f14; clear f14
     obtain ⟨a5, e, f16⟩ := bindS f15; clear f15
     have i5 := e; clear e
     obtain ⟨p2, m2, c8, c9, c10⟩ := (H.ro (α := List Int) 9 rfl).setp i5
     refine idxE c8 c9 c10 ?_
     replace H := H.sel [9, 0, 1, 2, 3, 4, 5, 6, 7, 8] rfl
     refine setS (α := Int) H c8 c9 i5 ?_; clear H c8 c9 c10 i5; intro w21 H
     obtain ⟨a6, e, f17⟩ := bindS f16; clear f16
     refine arO e ?_; clear e
     refine arK hk x1 ?_
     have hs := Option.some.inj f17; subst hs; clear f17
     exact ⟨(), ⟨rfl, rfl, rfl, rfl, rfl, rfl, rfl, rfl, trivial⟩, H.sel [1, 2, 3, 4, 5, 6, 7, 8, 9, 0] rfl⟩
    ·
     have f18 := condT f14; clear f14
     obtain ⟨a7, e, f19⟩ := bindS f18; clear f18
     obtain ⟨p3, m3, c11, c12, c13, c14⟩ := (H.ro (α := List Int) 9 rfl).at1 e; clear e
     refine idxE c11 c12 c13 ?_; clear c11 c12 c13
     refine load1 c14 ?_; clear c14
     obtain ⟨a8, e, f20⟩ := bindS f19; clear f19
     have i6 := e; clear e
     obtain ⟨p4, m4, c15, c16, c17⟩ := (H.ro (α := List Int) 9 rfl).setp i6
     refine idxE c15 c16 c17 ?_
     replace H := H.sel [9, 0, 1, 2, 3, 4, 5, 6, 7, 8] rfl
     refine setS (α := Int) H c15 c16 i6 ?_; clear H c15 c16 c17 i6; intro w22 H
     refine arK hk x1 ?_
     have hs := Option.some.inj f20; subst hs; clear f20
     exact ⟨(), ⟨rfl, rfl, rfl, rfl, rfl, rfl, rfl, rfl, trivial⟩, H.sel [1, 2, 3, 4, 5, 6, 7, 8, 9, 0] rfl⟩
   ·
    have f21 := condT f12; clear f12
    obtain ⟨a9, e, f22⟩ := bindS f21; clear f21
    have i7 := e; clear e
    obtain ⟨p5, m5, c18, c19, c20⟩ := (H.ro (α := List Int) 9 rfl).setp i7
    refine idxE c18 c19 c20 ?_
    replace H := H.sel [9, 0, 1, 2, 3, 4, 5, 6, 7, 8] rfl
    refine setS (α := Int) H c18 c19 i7 ?_; clear H c18 c19 c20 i7; intro w23 H
    refine arK hk x1 ?_
    have hs := Option.some.inj f22; subst hs; clear f22
    exact ⟨(), ⟨rfl, rfl, rfl, rfl, rfl, rfl, rfl, rfl, trivial⟩, H.sel [1, 2, 3, 4, 5, 6, 7, 8, 9, 0] rfl⟩
  ·
   clear H e
   obtain ⟨s2_0, s2_1⟩ := r1
   rintro T3 _ w24 (H : Cx w0 fp0 S0 w24 [Bx b6 [(.int .i64 g__0), (g__1h).v, (g__2h).v, (g__3h).v], Es (List (Int × Int × List Int × List Int)) g__1 g__1h, Es (List Int) g__2 g__2h, Es (List Int) g__3 g__3h, Bx b9 [(.int .i64 0), (.slice none 0 0), (.slice none 0 0), (.slice none 0 0), (.slice none 0 0)], Bx b0 [(h0).v], E (List Int) r0 h0, Bx b2 [(h1).v], E (List Bool) y2 h1, E (List Int) s2_0 h2])
   refine boolE (z := false) geLen ?_
   refine sq ?_
   refine loadN [(.int .i64 g__0), (g__1h).v, (g__2h).v, (g__3h).v] rfl (fun j u hj => H.bx 0 rfl hj) ?_
   obtain ⟨y5, e, f23⟩ := bindS f8; clear f8
   obtain ⟨y5_0, y5_1, y5_2, y5_3⟩ := y5
   have i8 := e; clear e
   refine callF (impl_Graph_moved_c g__0 g__1 g__1h g__2 g__2h g__3 g__3h s2_1 s2_0 h2 y5_0 y5_1 y5_2 y5_3 i8) (Γi := []) H ⟨Vw.sh 1 rfl, Vw.sh 2 rfl, Vw.sh 3 rfl, Vw.own 9 rfl, trivial⟩ ?_; clear H i8
   rintro _ _ w25 ⟨h3, h4, h5, rfl, rfl⟩ H
   refine build_ (cs := #[(.int .i64 y5_0), (h3).v, (h4).v, (h5).v, (h2).v]) gok rfl rfl rfl ?_
   replace H := H.sel [7, 0, 1, 2, 3, 4, 5, 6, 8, 9, 10, 11, 12] rfl
   refine stA gok [(.int .i64 y5_0), (h3).v, (h4).v, (h5).v, (h2).v] rfl H rfl rfl rfl ?_; clear H; intro w26 H
   refine loadN [(.int .i64 y5_0), (h3).v, (h4).v, (h5).v, (h2).v] rfl (fun j u hj => H.bx 0 rfl hj) ?_
   cases f23
   exact ⟨_, _, rfl, ⟨h3, h4, h5, h2, rfl, rfl⟩, (H.sel [1, 2, 3, 12] rfl).close ⟨cloE, cloE, cloE, cloE, trivial⟩⟩

theorem impl_seqGraphs_c (a__0 : Int) (a__1 : List (Int × Int × List Int × List Int)) (a__1h : Hd) (a__2 : List Int) (a__2h : Hd) (a__3 : List Int) (a__3h : Hd) (b__0 : Int) (b__1 : List (Int × Int × List Int × List Int)) (b__1h : Hd) (b__2 : List Int) (b__2h : Hd) (b__3 : List Int) (b__3h : Hd) (y_0 : Int) (y_1 : List (Int × Int × List Int × List Int)) (y_2 : List Int) (y_3 : List Int) (hF : F_impl_seqGraphs (a__0, a__1, a__2, a__3) (b__0, b__1, b__2, b__3) = some (y_0, y_1, y_2, y_3)) :
  ConF Tryz.prog 68 #[(.agg #[(.int .i64 a__0), (a__1h).v, (a__2h).v, (a__3h).v]), (.agg #[(.int .i64 b__0), (b__1h).v, (b__2h).v, (b__3h).v])] [Es (List (Int × Int × List Int × List Int)) a__1 a__1h, Es (List Int) a__2 a__2h, Es (List Int) a__3 a__3h, Es (List (Int × Int × List Int × List Int)) b__1 b__1h, Es (List Int) b__2 b__2h, Es (List Int) b__3 b__3h] [] (fun v Γ' => ∃ z0 z1 z2 : Hd, v = (.agg #[(.int .i64 y_0), (z0).v, (z1).v, (z2).v]) ∧ Γ' = [E (List (Int × Int × List Int × List Int)) y_1 z0, E (List Int) y_2 z1, E (List Int) y_3 z2]) := by
 intro w0 S0 fp0 hI hS
 have H : Cx w0 fp0 S0 w0 [Es (List (Int × Int × List Int × List Int)) a__1 a__1h, Es (List Int) a__2 a__2h, Es (List Int) a__3 a__3h, Es (List (Int × Int × List Int × List Int)) b__1 b__1h, Es (List Int) b__2 b__2h, Es (List Int) b__3 b__3h] := Cx.start hI hS
 clear hI hS
 refine enterC (args := [_, _]) gok Tryz.func68 rfl _ rfl rfl rfl ?_
 refine box_ H ?_; clear H; intro b8 w7 hx H
 clear hx
 refine box_ H ?_; clear H; intro b0 w1 hx H
 clear hx
 refine alloc_ gok rfl H ?_; clear H; intro b1 w2 hx H
 clear hx
 refine loadN [(.int .i64 a__0), (a__1h).v, (a__2h).v, (a__3h).v] rfl (fun j u hj => H.bx 2 rfl hj) ?_
 refine loadN [(.int .i64 b__0), (b__1h).v, (b__2h).v, (b__3h).v] rfl (fun j u hj => H.bx 1 rfl hj) ?_
 obtain ⟨y0, e, f0⟩ := bindS hF; clear hF
 obtain ⟨y0_0, y0_1, y0_2, y0_3⟩ := y0
 have i0 := e; clear e
 refine callF (impl_Graph_beside_c a__0 a__1 a__1h a__2 a__2h a__3 a__3h b__0 b__1 b__1h b__2 b__2h b__3 b__3h y0_0 y0_1 y0_2 y0_3 i0) (Γi := []) H ⟨Vw.sh 3 rfl, Vw.sh 4 rfl, Vw.sh 5 rfl, Vw.sh 6 rfl, Vw.sh 7 rfl, Vw.sh 8 rfl, trivial⟩ ?_; clear H i0
 rintro _ _ w3 ⟨h0, h1, h2, rfl, rfl⟩ H
 refine alloc_ gok rfl H ?_; clear H; intro b2 w4 hx H
 clear hx
 refine stA gok [(.int .i64 y0_0), (h0).v, (h1).v, (h2).v] rfl H rfl rfl rfl ?_; clear H; intro w5 H
 refine lit0 (α := Int × Int) gok rfl rfl H ?_; clear H; intro h3 w6 hx H
 clear hx
 refine sq ?_
 refine fld gok rfl rfl rfl rfl ?_
 refine load1 (H.bx 7 rfl (j := 3) rfl) ?_
 refine lenE (H.rs (α := List Int) 10 rfl).len ?_
 have x0 := (H.rs (α := List Int) 10 rfl).max
 obtain ⟨r0, e, f1⟩ := bindS f0; clear f0
 refine loopS _ a__3.length (fun (k0 : Nat) (s0 : List (Int × Int)) (g0 : Hd) => [(2, (.pointer (some ⟨b8, 0, none⟩))), (3, (.pointer (some ⟨b0, 0, none⟩))), (4, (.pointer (some ⟨b1, 0, none⟩))), (5, (.pointer (some ⟨b2, 0, none⟩))), (6, (g0).v), (14, (a__3h).v), (15, (.int .i64 ((a__3.length : Nat) : Int))), (16, (.int .i64 ((k0 : Nat) : Int)))]) (fun _ (s0 : List (Int × Int)) (g0 : Hd) w' => Cx w0 fp0 S0 w' [Bx b8 [(.int .i64 a__0), (a__1h).v, (a__2h).v, (a__3h).v], Es (List (Int × Int × List Int × List Int)) a__1 a__1h, Es (List Int) a__2 a__2h, Es (List Int) a__3 a__3h, Bx b0 [(.int .i64 b__0), (b__1h).v, (b__2h).v, (b__3h).v], Es (List (Int × Int × List Int × List Int)) b__1 b__1h, Es (List Int) b__2 b__2h, Es (List Int) b__3 b__3h, Bx b1 [(.int .i64 0), (.slice none 0 0), (.slice none 0 0), (.slice none 0 0)], Bx b2 [(.int .i64 y0_0), (h0).v, (h1).v, (h2).v], E (List (Int × Int × List Int × List Int)) y0_1 h0, E (List Int) y0_2 h1, E (List Int) y0_3 h2, E (List (Int × Int)) s0 g0]) ([] : List (Int × Int)) h3 e ⟨rfl, rfl, rfl, rfl, rfl, rfl, rfl, rfl, trivial⟩ (H.sel [7, 8, 9, 10, 6, 11, 12, 13, 5, 1, 2, 3, 4, 0] rfl) ?_ ?_
 ·
  clear H e
  rintro T0 k0 s0 g0 w8 o0 hk (H : Cx w0 fp0 S0 w8 [Bx b8 [(.int .i64 a__0), (a__1h).v, (a__2h).v, (a__3h).v], Es (List (Int × Int × List Int × List Int)) a__1 a__1h, Es (List Int) a__2 a__2h, Es (List Int) a__3 a__3h, Bx b0 [(.int .i64 b__0), (b__1h).v, (b__2h).v, (b__3h).v], Es (List (Int × Int × List Int × List Int)) b__1 b__1h, Es (List Int) b__2 b__2h, Es (List Int) b__3 b__3h, Bx b1 [(.int .i64 0), (.slice none 0 0), (.slice none 0 0), (.slice none 0 0)], Bx b2 [(.int .i64 y0_0), (h0).v, (h1).v, (h2).v], E (List (Int × Int × List Int × List Int)) y0_1 h0, E (List Int) y0_2 h1, E (List Int) y0_3 h2, E (List (Int × Int)) s0 g0]) f2
  refine boolE (z := true) (ltLen hk) ?_
  refine sq ?_
  refine sq ?_
  obtain ⟨a0, e, f3⟩ := bindS f2; clear f2
  obtain ⟨p0, m0, c0, c1, c2, c3⟩ := (H.rs (α := List Int) 3 rfl).at1 e; clear e
  refine idxE c0 c1 c2 ?_; clear c0 c1 c2
  refine load1 c3 ?_; clear c3
  refine heldX H [12, 13] (.fst 0 (.fst 1 (.fst 2 (.fst 4 (.fst 6 (.fst 3 (.fst 5 (.fst 7 (.fst 8 (.fst 9 (.fst 10 (.act 11 (.act 12 (.act 13 .done)))))))))))))) mixed [] trivial (by kernel_rfl) ?_
  clear H; intro w9 H
  have hX : Ext w9 w9 := Upd.refl _ _
  have H0 := H
  refine anyH (fun _ => fld gok rfl rfl rfl rfl ⟨rfl, rfl⟩) ?_
  refine anyH (fun _ => fld gok rfl rfl rfl rfl ⟨rfl, rfl⟩) ?_
  refine load1X (H.bx 0 rfl (j := 0) rfl) ?_
  refine load1X (H.bx 4 rfl (j := 2) rfl) ?_
  obtain ⟨a1, e, f4⟩ := bindS f3; clear f3
  obtain ⟨p1, m1, c4, c5, c6, c7⟩ := (H.rs (α := List Int) 6 rfl).at1 e; clear e
  refine idxE c4 c5 c6 ?_; clear c4 c5 c6
  refine load1X c7 ?_; clear c7
  obtain ⟨a2, e, f5⟩ := bindS f4; clear f4
  refine arO e ?_; clear e
  refine anyH (fun _ => buildAr (cs := #[(.int .i64 a0), (.int .i64 a2)]) gok rfl rfl rfl ⟨rfl, rfl⟩) ?_
  replace H := H.sc (α := Int) a2
  replace H := H.sc (α := Int) a0
  replace H := H.join (α := Int) (β := Int)
  refine lit1 (α := Int × Int) (g := ((), ())) gok rfl rfl rfl rfl rfl H ?_; clear H; intro h4 w11 hx H
  replace hX := hX.trans0 hx; clear hx
  refine hold hX ?_
  obtain ⟨a3, e, f6⟩ := bindS f5; clear f5
  replace H := H.sel [14, 0, 1, 2, 3, 4, 5, 6, 7, 8, 9, 10, 11, 12, 13] rfl
  refine append_ (α := Int × Int) gok rfl rfl rfl rfl H e ?_; clear e H; intro h5 w12 H
  refine hold trivial ?_
  refine hold trivial ?_
  refine arK hk x0 ?_
  have hs := Option.some.inj f6; subst hs; clear f6
  exact ⟨h5, ⟨rfl, rfl, rfl, rfl, rfl, rfl, rfl, rfl, trivial⟩, H.sel [1, 2, 3, 4, 5, 6, 7, 8, 9, 10, 11, 12, 13, 0] rfl⟩
 ·
  clear H e
  rintro T1 g1 w14 (H : Cx w0 fp0 S0 w14 [Bx b8 [(.int .i64 a__0), (a__1h).v, (a__2h).v, (a__3h).v], Es (List (Int × Int × List Int × List Int)) a__1 a__1h, Es (List Int) a__2 a__2h, Es (List Int) a__3 a__3h, Bx b0 [(.int .i64 b__0), (b__1h).v, (b__2h).v, (b__3h).v], Es (List (Int × Int × List Int × List Int)) b__1 b__1h, Es (List Int) b__2 b__2h, Es (List Int) b__3 b__3h, Bx b1 [(.int .i64 0), (.slice none 0 0), (.slice none 0 0), (.slice none 0 0)], Bx b2 [(.int .i64 y0_0), (h0).v, (h1).v, (h2).v], E (List (Int × Int × List Int × List Int)) y0_1 h0, E (List Int) y0_2 h1, E (List Int) y0_3 h2, E (List (Int × Int)) r0 g1])
  refine boolE (z := false) geLen ?_
  refine sq ?_
  refine heldX H [12, 14, 13] (.fst 0 (.fst 3 (.fst 5 (.fst 7 (.fst 1 (.fst 4 (.fst 6 (.fst 8 (.act 2 (.fst 11 (.act 9 (.act 10 (.act 12 (.act 13 (.act 14 .done))))))))))))))) mixed [] trivial (by kernel_rfl) ?_
  clear H; intro w15 H
  have hX : Ext w15 w15 := Upd.refl _ _
  have H0 := H
  refine anyH (fun _ => fld gok rfl rfl rfl rfl ⟨rfl, rfl⟩) ?_
  refine anyH (fun _ => fld gok rfl rfl rfl rfl ⟨rfl, rfl⟩) ?_
  refine anyH (fun _ => fld gok rfl rfl rfl rfl ⟨rfl, rfl⟩) ?_
  refine anyH (fun _ => fld gok rfl rfl rfl rfl ⟨rfl, rfl⟩) ?_
  refine load1X (H.bx 0 rfl (j := 2) rfl) ?_
  refine load1X (H.bx 4 rfl (j := 3) rfl) ?_
  refine load1X (H.bx 0 rfl (j := 0) rfl) ?_
  refine load1X (H.bx 4 rfl (j := 0) rfl) ?_
  obtain ⟨y1, e, f7⟩ := bindS f1; clear f1
  have i1 := e; clear e
  refine callFx (impl_clone_c a__2 a__2h y1 i1) H ⟨Vw.sh 2 rfl, trivial⟩ ?_; clear H i1
  rintro _ _ w16 ⟨h6, rfl, rfl⟩ hx H
  replace hX := hX.trans0 hx; clear hx
  refine hold hX ?_
  refine anyH (fun _ => fld gok rfl rfl rfl rfl ⟨rfl, rfl⟩) ?_
  obtain ⟨y2, e, f8⟩ := bindS f7; clear f7
  have i2 := e; clear e
  refine callFx (impl_from_c a__0 b__0 y2 i2) H trivial ?_; clear H i2
  rintro _ _ w17 ⟨h7, rfl, rfl⟩ hx H
  replace hX := hX.trans0 hx; clear hx
  refine hold hX ?_
  obtain ⟨y3, e, f9⟩ := bindS f8; clear f8
  have i3 := e; clear e
  refine callFx (impl_mapped_c b__3 b__3h y2 h7 y3 i3) H ⟨Vw.sh 9 rfl, Vw.own 0 rfl, trivial⟩ ?_; clear H i3
  rintro _ _ w19 ⟨h8, rfl, rfl⟩ hx H
  replace hX := hX.trans0 hx; clear hx
  refine hold hX ?_
  replace H := H.sel [12, 0, 1, 2, 3, 4, 5, 6, 7, 8, 9, 10, 11, 13, 14, 15, 16] rfl
  refine stB (j := 2) H rfl rfl ?_; clear H; intro w20 H
  refine hold trivial ?_
  refine fld gok rfl rfl rfl rfl ?_
  refine hold trivial ?_
  refine stB (j := 3) H rfl rfl ?_; clear H; intro w21 H
  refine hold trivial ?_
  refine loadN [(.int .i64 y0_0), (h0).v, (h6).v, (h8).v] rfl (fun j u hj => H.bx 0 rfl hj) ?_
  obtain ⟨y4, e, f10⟩ := bindS f9; clear f9
  obtain ⟨⟨y4_0_0, y4_0_1, y4_0_2, y4_0_3⟩, y4_1⟩ := y4
  have i4 := e; clear e
  refine callF (impl_Graph_glue_c y0_0 y0_1 h0 y1 h6 y3 h8 r0 g1 y4_0_0 y4_0_1 y4_0_2 y4_0_3 y4_1 i4) (Γi := []) H ⟨Vw.own 13 rfl, Vw.own 3 rfl, Vw.own 1 rfl, Vw.own 16 rfl, trivial⟩ ?_; clear H i4
  rintro _ _ w22 ⟨h9, h10, h11, h12, rfl, rfl⟩ H
  replace H := H.sel [16, 0, 1, 2, 3, 4, 5, 6, 7, 8, 9, 10, 11, 12, 13, 14, 15, 17, 18, 19, 20] rfl
  refine stA gok [(.int .i64 y4_0_0), (h9).v, (h10).v, (h11).v] rfl H rfl rfl rfl ?_; clear H; intro w23 H
  refine loadN [(.int .i64 y4_0_0), (h9).v, (h10).v, (h11).v] rfl (fun j u hj => H.bx 0 rfl hj) ?_
  cases f10
  exact ⟨_, _, rfl, ⟨h9, h10, h11, rfl, rfl⟩, (H.sel [1, 2, 3] rfl).close ⟨cloE, cloE, cloE, trivial⟩⟩

theorem impl_joined_c (lists_ : List (List Int)) (lists_h : Hd) (y : List Int) (hF : F_impl_joined lists_ = some y) :
  ConF Tryz.prog 38 #[(lists_h).v] [Es (List (List Int)) lists_ lists_h] [] (fun v Γ' => ∃ z0 : Hd, v = (z0).v ∧ Γ' = [E (List Int) y z0]) := by
 intro w0 S0 fp0 hI hS
 have H : Cx w0 fp0 S0 w0 [Es (List (List Int)) lists_ lists_h] := Cx.start hI hS
 clear hI hS
 refine enterC (args := [_]) gok Tryz.func38 rfl _ rfl rfl rfl ?_
 refine lit0 (α := Int) gok rfl rfl H ?_; clear H; intro h3 w2 hx H
 clear hx
 refine sq ?_
 refine lenE (H.rs (α := List (List Int)) 1 rfl).len ?_
 have x0 := (H.rs (α := List (List Int)) 1 rfl).max
 obtain ⟨r0, e, f0⟩ := bindS hF; clear hF
 refine loopS _ lists_.length (fun (k5 : Nat) (s0 : List Int) (g0 : Hd) => [(3, (g0).v), (7, (lists_h).v), (8, (.int .i64 ((lists_.length : Nat) : Int))), (9, (.int .i64 ((k5 : Nat) : Int)))]) (fun _ (s0 : List Int) (g0 : Hd) w' => Cx w0 fp0 S0 w' [E (List Int) s0 g0, Es (List (List Int)) lists_ lists_h]) ([] : List Int) h3 e ⟨rfl, rfl, rfl, rfl, trivial⟩ (H.sel [0, 1] rfl) ?_ ?_
 ·
  clear H e
  rintro T0 k5 s0 g0 w1 o0 hk (H : Cx w0 fp0 S0 w1 [E (List Int) s0 g0, Es (List (List Int)) lists_ lists_h]) f1
  refine boolE (z := true) (ltLen hk) ?_
  refine sq ?_
  refine sq ?_
  obtain ⟨a0, e, f2⟩ := bindS f1; clear f1
  have HH := H; clear H; obtain ⟨p0, m0, h0, c0, c1, c2, c3, H⟩ := HH.elL 1 rfl e; clear HH
  clear e
  refine idxE c0 c1 c2 ?_; clear c0 c1 c2
  refine load1 c3 ?_; clear c3
  obtain ⟨a1, e, f3⟩ := bindS f2; clear f2
  replace H := H.sel [1, 0, 2] rfl
  refine appendS (α := Int) gok rfl rfl rfl rfl H (Vw.sh 0 rfl) e ?_; clear e H; intro h1 w3 H
  refine arK hk x0 ?_
  have hs := Option.some.inj f3; subst hs; clear f3
  exact ⟨h1, ⟨rfl, rfl, rfl, rfl, trivial⟩, H.sel [0, 2] rfl⟩
 ·
  clear H e
  rintro T1 g1 w4 (H : Cx w0 fp0 S0 w4 [E (List Int) r0 g1, Es (List (List Int)) lists_ lists_h])
  refine boolE (z := false) geLen ?_
  refine sq ?_
  cases f0
  exact ⟨_, _, rfl, ⟨g1, rfl, rfl⟩, (H.sel [0] rfl).close ⟨cloE, trivial⟩⟩

theorem impl_parGraphs_c (a__0 : Int) (a__1 : List (Int × Int × List Int × List Int)) (a__1h : Hd) (a__2 : List Int) (a__2h : Hd) (a__3 : List Int) (a__3h : Hd) (b__0 : Int) (b__1 : List (Int × Int × List Int × List Int)) (b__1h : Hd) (b__2 : List Int) (b__2h : Hd) (b__3 : List Int) (b__3h : Hd) (y_0 : Int) (y_1 : List (Int × Int × List Int × List Int)) (y_2 : List Int) (y_3 : List Int) (hF : F_impl_parGraphs (a__0, a__1, a__2, a__3) (b__0, b__1, b__2, b__3) = some (y_0, y_1, y_2, y_3)) :
  ConF Tryz.prog 69 #[(.agg #[(.int .i64 a__0), (a__1h).v, (a__2h).v, (a__3h).v]), (.agg #[(.int .i64 b__0), (b__1h).v, (b__2h).v, (b__3h).v])] [Es (List (Int × Int × List Int × List Int)) a__1 a__1h, Es (List Int) a__2 a__2h, Es (List Int) a__3 a__3h, Es (List (Int × Int × List Int × List Int)) b__1 b__1h, Es (List Int) b__2 b__2h, Es (List Int) b__3 b__3h] [] (fun v Γ' => ∃ z0 z1 z2 : Hd, v = (.agg #[(.int .i64 y_0), (z0).v, (z1).v, (z2).v]) ∧ Γ' = [E (List (Int × Int × List Int × List Int)) y_1 z0, E (List Int) y_2 z1, E (List Int) y_3 z2]) := by
 intro w0 S0 fp0 hI hS
 have H : Cx w0 fp0 S0 w0 [Es (List (Int × Int × List Int × List Int)) a__1 a__1h, Es (List Int) a__2 a__2h, Es (List Int) a__3 a__3h, Es (List (Int × Int × List Int × List Int)) b__1 b__1h, Es (List Int) b__2 b__2h, Es (List Int) b__3 b__3h] := Cx.start hI hS
 clear hI hS
 refine enterC (args := [_, _]) gok Tryz.func69 rfl _ rfl rfl rfl ?_
 refine box_ H ?_; clear H; intro b8 w7 hx H
 clear hx
 refine box_ H ?_; clear H; intro b0 w1 hx H
 clear hx
 refine alloc_ gok rfl H ?_; clear H; intro b1 w2 hx H
 clear hx
 refine loadN [(.int .i64 a__0), (a__1h).v, (a__2h).v, (a__3h).v] rfl (fun j u hj => H.bx 2 rfl hj) ?_
 refine loadN [(.int .i64 b__0), (b__1h).v, (b__2h).v, (b__3h).v] rfl (fun j u hj => H.bx 1 rfl hj) ?_
 obtain ⟨y0, e, f0⟩ := bindS hF; clear hF
 obtain ⟨y0_0, y0_1, y0_2, y0_3⟩ := y0
 have i0 := e; clear e
 refine callF (impl_Graph_beside_c a__0 a__1 a__1h a__2 a__2h a__3 a__3h b__0 b__1 b__1h b__2 b__2h b__3 b__3h y0_0 y0_1 y0_2 y0_3 i0) (Γi := []) H ⟨Vw.sh 3 rfl, Vw.sh 4 rfl, Vw.sh 5 rfl, Vw.sh 6 rfl, Vw.sh 7 rfl, Vw.sh 8 rfl, trivial⟩ ?_; clear H i0
 rintro _ _ w3 ⟨h0, h1, h2, rfl, rfl⟩ H
 refine alloc_ gok rfl H ?_; clear H; intro b2 w4 hx H
 clear hx
 refine stA gok [(.int .i64 y0_0), (h0).v, (h1).v, (h2).v] rfl H rfl rfl rfl ?_; clear H; intro w5 H
 refine fld gok rfl rfl rfl rfl ?_
 refine load1 (H.bx 6 rfl (j := 0) rfl) ?_
 refine fld gok rfl rfl rfl rfl ?_
 refine load1 (H.bx 5 rfl (j := 0) rfl) ?_
 obtain ⟨y1, e, f1⟩ := bindS f0; clear f0
 have i1 := e; clear e
 refine callF (impl_from_c a__0 b__0 y1 i1) (Γi := []) H trivial ?_; clear H i1
 rintro _ _ w6 ⟨h3, rfl, rfl⟩ H
 refine heldX H [17, 19, 18] (.fst 0 (.fst 2 (.fst 4 (.fst 8 (.fst 10 (.fst 12 (.fst 1 (.fst 3 (.fst 9 (.fst 11 (.act 5 (.act 6 (.act 7 (.fst 16 (.act 13 (.act 14 (.act 15 (.act 17 (.act 18 (.act 19 .done)))))))))))))))))))) mixed [] trivial (by kernel_rfl) ?_
 clear H; intro w8 H
 have hX : Ext w8 w8 := Upd.refl _ _
 have H0 := H
 refine anyH (fun _ => fld gok rfl rfl rfl rfl ⟨rfl, rfl⟩) ?_
 refine anyH (fun _ => fld gok rfl rfl rfl rfl ⟨rfl, rfl⟩) ?_
 refine anyH (fun _ => fld gok rfl rfl rfl rfl ⟨rfl, rfl⟩) ?_
 refine anyH (fun _ => fld gok rfl rfl rfl rfl ⟨rfl, rfl⟩) ?_
 refine load1X (H.bx 7 rfl (j := 2) rfl) ?_
 refine load1X (H.bx 6 rfl (j := 2) rfl) ?_
 refine load1X (H.bx 7 rfl (j := 3) rfl) ?_
 refine load1X (H.bx 6 rfl (j := 3) rfl) ?_
 obtain ⟨y2, e, f2⟩ := bindS f1; clear f1
 have i2 := e; clear e
 refine callFx (impl_mapped_c b__2 b__2h y1 h3 y2 i2) H ⟨Vw.sh 12 rfl, Vw.own 0 rfl, trivial⟩ ?_; clear H i2
 rintro _ _ w9 ⟨h4, rfl, rfl⟩ hx H
 replace hX := hX.trans0 hx; clear hx
 refine hold hX ?_
 replace H := H.frz
 replace H := H.dup 0 rfl persS
 replace H := H.dup 11 rfl persS
 refine litN (α := Sh (List Int)) (us := [(a__2h).v, (h4).v]) (xs := [a__2, y2]) (gs := ([a__2h, h4] : List Hd)) gok rfl rfl rfl ⟨rfl, rfl, trivial⟩ rfl rfl H ?_; clear H; intro h5 w11 hx H
 replace hX := hX.trans0 hx; clear hx
 refine hold hX ?_
 obtain ⟨y3, e, f3⟩ := bindS f2; clear f2
 have i3 := e; clear e
 refine callFx (impl_joined_c [a__2, y2] h5 y3 i3) H ⟨Vw.part (β := List (List Int)) (Vw.own (α := List (Sh (List Int))) 0 rfl) [a__2, y2] h5 (fun S h => h), trivial⟩ ?_; clear H i3
 rintro _ _ w12 ⟨h6, rfl, rfl⟩ hx H
 replace hX := hX.trans0 hx; clear hx
 refine hold hX ?_
 refine anyH (fun _ => fld gok rfl rfl rfl rfl ⟨rfl, rfl⟩) ?_
 obtain ⟨y4, e, f4⟩ := bindS f3; clear f3
 have i4 := e; clear e
 refine callFx (impl_mapped_c b__3 b__3h y1 h3 y4 i4) H ⟨Vw.sh 16 rfl, Vw.own 3 rfl, trivial⟩ ?_; clear H i4
 rintro _ _ w14 ⟨h7, rfl, rfl⟩ hx H
 replace hX := hX.trans0 hx; clear hx
 refine hold hX ?_
 replace H := H.frz
 replace H := H.dup 0 rfl persS
 replace H := H.dup 15 rfl persS
 refine litN (α := Sh (List Int)) (us := [(a__3h).v, (h7).v]) (xs := [a__3, y4]) (gs := ([a__3h, h7] : List Hd)) gok rfl rfl rfl ⟨rfl, rfl, trivial⟩ rfl rfl H ?_; clear H; intro h8 w15 hx H
 replace hX := hX.trans0 hx; clear hx
 refine hold hX ?_
 obtain ⟨y5, e, f5⟩ := bindS f4; clear f4
 have i5 := e; clear e
 refine callFx (impl_joined_c [a__3, y4] h8 y5 i5) H ⟨Vw.part (β := List (List Int)) (Vw.own (α := List (Sh (List Int))) 0 rfl) [a__3, y4] h8 (fun S h => h), trivial⟩ ?_; clear H i5
 rintro _ _ w16 ⟨h9, rfl, rfl⟩ hx H
 replace hX := hX.trans0 hx; clear hx
 refine hold hX ?_
 replace H := H.sel [7, 0, 1, 2, 3, 4, 5, 6, 8, 9, 10, 11, 12, 13, 14, 15, 16, 17, 18, 19] rfl
 refine stB (j := 2) H rfl rfl ?_; clear H; intro w17 H
 refine hold trivial ?_
 refine fld gok rfl rfl rfl rfl ?_
 refine hold trivial ?_
 refine stB (j := 3) H rfl rfl ?_; clear H; intro w19 H
 refine hold trivial ?_
 refine loadN [(.int .i64 y0_0), (h0).v, (h6).v, (h9).v] rfl (fun j u hj => H.bx 0 rfl hj) ?_
 replace H := H.sel [11, 0, 1, 2, 3, 4, 5, 6, 7, 8, 9, 10, 12, 13, 14, 15, 16, 17, 18, 19] rfl
 refine stA gok [(.int .i64 y0_0), (h0).v, (h6).v, (h9).v] rfl H rfl rfl rfl ?_; clear H; intro w20 H
 refine loadN [(.int .i64 y0_0), (h0).v, (h6).v, (h9).v] rfl (fun j u hj => H.bx 0 rfl hj) ?_
 cases f5
 exact ⟨_, _, rfl, ⟨h0, h6, h9, rfl, rfl⟩, (H.sel [9, 5, 2] rfl).close ⟨cloE, cloE, cloE, trivial⟩⟩

theorem impl_identityGraph_c (n_ : Int) (y_0 : Int) (y_1 : List (Int × Int × List Int × List Int)) (y_2 : List Int) (y_3 : List Int) (hF : F_impl_identityGraph n_ = some (y_0, y_1, y_2, y_3)) :
  ConF Tryz.prog 100 #[(.int .i64 n_)] [] [] (fun v Γ' => ∃ z0 z1 z2 : Hd, v = (.agg #[(.int .i64 y_0), (z0).v, (z1).v, (z2).v]) ∧ Γ' = [E (List (Int × Int × List Int × List Int)) y_1 z0, E (List Int) y_2 z1, E (List Int) y_3 z2]) := by
 intro w0 S0 fp0 hI hS
 have H : Cx w0 fp0 S0 w0 [] := Cx.start hI hS
 clear hI hS
 refine enterC (args := [_]) gok Tryz.func100 rfl _ rfl rfl rfl ?_
 refine alloc_ gok rfl H ?_; clear H; intro b2 w1 hx H
 clear hx
 obtain ⟨y4, e, hF5⟩ := bindS hF; clear hF
 have ey4 := e; clear e
 refine callF (impl_upTo_c n_ y4 ey4) (Γi := []) H trivial ?_; clear H ey4
 rintro _ _ w6 ⟨h7, rfl, rfl⟩ H
 obtain ⟨y9, e, f0⟩ := bindS hF5; clear hF5
 have ey9 := e; clear e
 refine callF (impl_upTo_c n_ y9 ey9) (Γi := []) H trivial ?_; clear H ey9
 rintro _ _ w2 ⟨h0, rfl, rfl⟩ H
 refine build_ (cs := #[(.int .i64 n_), (.slice none 0 0), (h7).v, (h0).v]) gok rfl rfl rfl ?_
 replace H := H.sel [2, 0, 1] rfl
 refine stA gok [(.int .i64 n_), (.slice none 0 0), (h7).v, (h0).v] rfl H rfl rfl rfl ?_; clear H; intro w3 H
 refine loadN [(.int .i64 n_), (.slice none 0 0), (h7).v, (h0).v] rfl (fun j u hj => H.bx 0 rfl hj) ?_
 replace H := H.nil (α := Int × Int × List Int × List Int)
 cases f0
 exact ⟨_, _, rfl, ⟨nilH, h7, h0, rfl, rfl⟩, (H.sel [0, 3, 2] rfl).close ⟨cloE, cloE, cloE, trivial⟩⟩

theorem impl_leafGraph_c (n__0 : Int) (n__1 : Int) (n__2 : ByteArray) (y_0 : Int) (y_1 : List (Int × Int × List Int × List Int)) (y_2 : List Int) (y_3 : List Int) (hF : F_impl_leafGraph (n__0, n__1, n__2) = some (y_0, y_1, y_2, y_3)) :
  ConF Tryz.prog 70 #[(.agg #[(.int .i64 n__0), (.int .i64 n__1), (.string n__2)])] [] [] (fun v Γ' => ∃ z0 z1 z2 : Hd, v = (.agg #[(.int .i64 y_0), (z0).v, (z1).v, (z2).v]) ∧ Γ' = [E (List (Int × Int × List Int × List Int)) y_1 z0, E (List Int) y_2 z1, E (List Int) y_3 z2]) := by
 intro w0 S0 fp0 hI hS
 have H : Cx w0 fp0 S0 w0 [] := Cx.start hI hS
 clear hI hS
 refine enterC (args := [_]) gok Tryz.func70 rfl _ rfl rfl rfl ?_
 refine box_ H ?_; clear H; intro b2 w1 hx H
 clear hx
 refine alloc_ gok rfl H ?_; clear H; intro b5 w4 hx H
 clear hx
 refine sq ?_
 refine fld gok rfl rfl rfl rfl ?_
 refine load1 (H.bx 1 rfl (j := 0) rfl) ?_
 obtain ⟨a7, e, hF8⟩ := bindS hF; clear hF
 refine boolO e ?_; clear e
 cases a7
 ·
  have hF9 := condF hF8; clear hF8
  obtain ⟨a0, e, f0⟩ := bindS hF9; clear hF9
  refine boolO e ?_; clear e
  cases a0
  ·
   have f1 := condF f0; clear f0
   refine fld gok rfl rfl rfl rfl ?_
   refine load1 (H.bx 1 rfl (j := 0) rfl) ?_
   obtain ⟨y0, e, f2⟩ := bindS f1; clear f1
   obtain ⟨y0_0, y0_1⟩ := y0
   have i0 := e; clear e
   refine callF (impl_generatorWires_c n__0 y0_0 y0_1 i0) (Γi := []) H trivial ?_; clear H i0
   rintro _ _ w2 ⟨rfl, rfl⟩ H
   refine alloc_ gok rfl H ?_; clear H; intro b0 w3 hx H
   clear hx
   refine stA gok [(.int .i64 y0_0), (.int .i64 y0_1)] rfl H rfl rfl rfl ?_; clear H; intro w5 H
   refine heldX H [] (.fst 0 (.fst 3 (.fst 5 (.fst 1 (.fst 4 (.fst 6 (.act 2 (.act 7 (.fst 8 (.fst 9 .done)))))))))) mixed [] trivial (by kernel_rfl) ?_
   clear H; intro w6 H
   have hX : Ext w6 w6 := Upd.refl _ _
   have H0 := H
   refine anyH (fun _ => fld gok rfl rfl rfl rfl ⟨rfl, rfl⟩) ?_
   refine anyH (fun _ => fld gok rfl rfl rfl rfl ⟨rfl, rfl⟩) ?_
   refine anyH (fun _ => fld gok rfl rfl rfl rfl ⟨rfl, rfl⟩) ?_
   refine load1X (H.bx 0 rfl (j := 0) rfl) ?_
   refine load1X (H.bx 0 rfl (j := 0) rfl) ?_
   refine load1X (H.bx 0 rfl (j := 1) rfl) ?_
   obtain ⟨y1, e, f3⟩ := bindS f2; clear f2
   have i1 := e; clear e
   refine callFx (impl_upTo_c y0_0 y1 i1) H trivial ?_; clear H i1
   rintro _ _ w7 ⟨h0, rfl, rfl⟩ hx H
   replace hX := hX.trans0 hx; clear hx
   refine hold hX ?_
   obtain ⟨y2, e, f4⟩ := bindS f3; clear f3
   have i2 := e; clear e
   refine callFx (impl_from_c y0_0 y0_1 y2 i2) H trivial ?_; clear H i2
   rintro _ _ w8 ⟨h1, rfl, rfl⟩ hx H
   replace hX := hX.trans0 hx; clear hx
   refine hold hX ?_
   obtain ⟨r0, f5, f6⟩ := bindS f4; clear f4
   refine heldJ H [18] (.fst 0 (.fst 2 (.fst 5 (.fst 7 (.fst 9 (.fst 10 (.fst 13 (.fst 15 (.fst 1 (.fst 3 (.fst 4 (.fst 6 (.fst 8 (.fst 11 (.alts (.alt 12 (.act 14 (.act 16 (.fst 17 (.act 18 .done)))) (.alt 14 (.alts (.alt 12 (.act 16 (.fst 17 (.act 18 .done))) (.alt 16 (.act 12 (.fst 17 (.act 18 .done))) .no))) .no))))))))))))))))) mixed [] trivial (by kernel_rfl) (fun (q0 : (Int × (List (Int × Int × List Int × List Int)) × List Int × List Int) × (Hd × Hd × Hd)) => [(2, (.pointer (some ⟨b5, 0, none⟩)))]) (fun (q0 : (Int × (List (Int × Int × List Int × List Int)) × List Int × List Int) × (Hd × Hd × Hd)) w' => (q0.1.1, q0.1.2.1, q0.1.2.2.1, q0.1.2.2.2) = r0 ∧ Cx w0 fp0 S0 w' [Bx b5 [(.int .i64 q0.1.1), (q0.2.1).v, (q0.2.2.1).v, (q0.2.2.2).v], E (List (Int × Int × List Int × List Int)) q0.1.2.1 q0.2.1, E (List Int) q0.1.2.2.1 q0.2.2.1, E (List Int) q0.1.2.2.2 q0.2.2.2]) ?_ ?_
   ·
    clear H; intro w9 H
    have hX : Ext w9 w9 := Upd.refl _ _
    have H0 := H
    refine anyH (fun _ => fld gok rfl rfl rfl rfl ⟨rfl, rfl⟩) ?_
    refine anyH (fun _ => fld gok rfl rfl rfl rfl ⟨rfl, rfl⟩) ?_
    refine anyH (fun _ => fld gok rfl rfl rfl rfl ⟨rfl, rfl⟩) ?_
    refine anyH (fun _ => fld gok rfl rfl rfl rfl ⟨rfl, rfl⟩) ?_
    refine load1X (H.bx 2 rfl (j := 0) rfl) ?_
    refine load1X (H.bx 2 rfl (j := 1) rfl) ?_
    obtain ⟨a1, e, f7⟩ := bindS f5; clear f5
    refine arO e ?_; clear e
    refine load1X (H.bx 4 rfl (j := 0) rfl) ?_
    refine load1X (H.bx 4 rfl (j := 1) rfl) ?_
    refine anyH (fun _ => build_ (cs := #[(.int .i64 n__0), (.int .i64 n__1), (h0).v, (h1).v]) gok rfl rfl rfl ⟨rfl, rfl⟩) ?_
    refine both ?_ ?_
    ·
     replace H := H.sel [1, 0, 2, 3, 4] rfl
     replace H := H.join (α := List Int) (β := List Int)
     replace H := H.sc (α := Int) n__1
     replace H := H.join (α := Int) (β := List Int × List Int)
     replace H := H.sc (α := Int) n__0
     replace H := H.join (α := Int) (β := Int × List Int × List Int)
     refine lit1K (α := Int × Int × List Int × List Int) (g := ((), (), h0, h1)) gok rfl rfl rfl rfl rfl H ?_; clear H; intro h2 w10 hx H
     replace hX := hX.trans0 hx; clear hx
     refine hold hX ?_
     obtain ⟨y3, e, f8⟩ := bindS f7; clear f7
     have i3 := e; clear e
     refine callFx (impl_clone_c y1 h0 y3 i3) H ⟨Vw.part (β := List Int) (Vw.eh (α := Int × Int × List Int × List Int) (k := ⟨0, (n__0, n__1, y1, y2), ((), (), h0, h1)⟩) 0 rfl 0 rfl) y1 (h0 : Hd) (fun S h => (And.left (And.right (And.right h)))), trivial⟩ ?_; clear H i3
     rintro _ _ w11 ⟨h3, rfl, rfl⟩ hx H
     replace hX := hX.trans0 hx; clear hx
     refine hold hX ?_
     obtain ⟨y4, e, f9⟩ := bindS f8; clear f8
     have i4 := e; clear e
     refine callFx (impl_clone_c y2 h1 y4 i4) H ⟨Vw.part (β := List Int) (Vw.eh (α := Int × Int × List Int × List Int) (k := ⟨0, (n__0, n__1, y1, y2), ((), (), h0, h1)⟩) 1 rfl 0 rfl) y2 (h1 : Hd) (fun S h => (And.right (And.right (And.right h)))), trivial⟩ ?_; clear H i4
     rintro _ _ w12 ⟨h4, rfl, rfl⟩ hx H
     replace hX := hX.trans0 hx; clear hx
     refine hold hX ?_
     refine anyH (fun _ => build_ (cs := #[(.int .i64 a1), (h2).v, (h3).v, (h4).v]) gok rfl rfl rfl ⟨rfl, rfl⟩) ?_
     replace H := H.sel [4, 0, 1, 2, 3, 5] rfl
     refine stA gok [(.int .i64 a1), (h2).v, (h3).v, (h4).v] rfl H rfl rfl rfl ?_; clear H; intro w13 H
     refine hold trivial ?_
     replace H := H.sel [3, 0, 1, 2, 4, 5] rfl
     replace H := H.ofEH
     exact ⟨((a1, [(n__0, n__1, y1, y2)], y3, y4), (h2, h3, h4)), ⟨rfl, trivial⟩, Option.some.inj f9, H.sel [1, 0, 3, 2] rfl⟩
    ·
     refine both ?_ ?_
     ·
      obtain ⟨a2, o0, f10⟩ := bindS f7; clear f7
      obtain ⟨a3, o1, f11⟩ := bindS f10; clear f10
      have e := o0; clear o0
      have i5 := e; clear e
      refine callFx (impl_clone_c y1 h0 a2 i5) H ⟨Vw.own 1 rfl, trivial⟩ ?_; clear H i5
      rintro _ _ w14 ⟨h5, rfl, rfl⟩ hx H
      replace hX := hX.trans0 hx; clear hx
      refine hold hX ?_
      refine both ?_ ?_
      ·
       replace H := H.sel [2, 1, 0, 3, 4, 5] rfl
       replace H := H.join (α := List Int) (β := List Int)
       replace H := H.sc (α := Int) n__1
       replace H := H.join (α := Int) (β := List Int × List Int)
       replace H := H.sc (α := Int) n__0
       replace H := H.join (α := Int) (β := Int × List Int × List Int)
       refine lit1K (α := Int × Int × List Int × List Int) (g := ((), (), h0, h1)) gok rfl rfl rfl rfl rfl H ?_; clear H; intro h6 w17 hx H
       replace hX := hX.trans0 hx; clear hx
       refine hold hX ?_
       have e := o1; clear o1
       have i6 := e; clear e
       refine callFx (impl_clone_c y2 h1 a3 i6) H ⟨Vw.part (β := List Int) (Vw.eh (α := Int × Int × List Int × List Int) (k := ⟨0, (n__0, n__1, y1, y2), ((), (), h0, h1)⟩) 0 rfl 0 rfl) y2 (h1 : Hd) (fun S h => (And.right (And.right (And.right h)))), trivial⟩ ?_; clear H i6
       rintro _ _ w18 ⟨h7, rfl, rfl⟩ hx H
       replace hX := hX.trans0 hx; clear hx
       refine hold hX ?_
       refine anyH (fun _ => build_ (cs := #[(.int .i64 a1), (h6).v, (h5).v, (h7).v]) gok rfl rfl rfl ⟨rfl, rfl⟩) ?_
       replace H := H.sel [4, 0, 1, 2, 3, 5] rfl
       refine stA gok [(.int .i64 a1), (h6).v, (h5).v, (h7).v] rfl H rfl rfl rfl ?_; clear H; intro w21 H
       refine hold trivial ?_
       replace H := H.sel [2, 0, 1, 3, 4, 5] rfl
       replace H := H.ofEH
       exact ⟨((a1, [(n__0, n__1, y1, y2)], a2, a3), (h6, h5, h7)), ⟨rfl, trivial⟩, Option.some.inj f11, H.sel [1, 0, 3, 2] rfl⟩
      ·
       refine both ?_ ?_
       ·
        have e := o1; clear o1
        have i6 := e; clear e
        refine callFx (impl_clone_c y2 h1 a3 i6) H ⟨Vw.own 1 rfl, trivial⟩ ?_; clear H i6
        rintro _ _ w22 ⟨h8, rfl, rfl⟩ hx H
        replace hX := hX.trans0 hx; clear hx
        refine hold hX ?_
        replace H := H.sel [3, 2, 0, 1, 4, 5, 6] rfl
        replace H := H.join (α := List Int) (β := List Int)
        replace H := H.sc (α := Int) n__1
        replace H := H.join (α := Int) (β := List Int × List Int)
        replace H := H.sc (α := Int) n__0
        replace H := H.join (α := Int) (β := Int × List Int × List Int)
        refine lit1K (α := Int × Int × List Int × List Int) (g := ((), (), h0, h1)) gok rfl rfl rfl rfl rfl H ?_; clear H; intro h9 w24 hx H
        replace hX := hX.trans0 hx; clear hx
        refine hold hX ?_
        refine anyH (fun _ => build_ (cs := #[(.int .i64 a1), (h9).v, (h5).v, (h8).v]) gok rfl rfl rfl ⟨rfl, rfl⟩) ?_
        replace H := H.sel [4, 0, 1, 2, 3, 5] rfl
        refine stA gok [(.int .i64 a1), (h9).v, (h5).v, (h8).v] rfl H rfl rfl rfl ?_; clear H; intro w25 H
        refine hold trivial ?_
        replace H := H.sel [1, 0, 2, 3, 4, 5] rfl
        replace H := H.ofEH
        exact ⟨((a1, [(n__0, n__1, y1, y2)], a2, a3), (h9, h5, h8)), ⟨rfl, trivial⟩, Option.some.inj f11, H.sel [1, 0, 3, 2] rfl⟩
       ·
        exact trivial
     ·
      exact trivial
   ·
    clear f5 H
    rintro T0 ⟨⟨s0_0, s0_1, s0_2, s0_3⟩, ⟨g0_0, g0_1, g0_2⟩⟩ w26 ⟨hr, (H : Cx w0 fp0 S0 w26 [Bx b5 [(.int .i64 s0_0), (g0_0).v, (g0_1).v, (g0_2).v], E (List (Int × Int × List Int × List Int)) s0_1 g0_0, E (List Int) s0_2 g0_1, E (List Int) s0_3 g0_2])⟩
    subst hr
    refine loadN [(.int .i64 s0_0), (g0_0).v, (g0_1).v, (g0_2).v] rfl (fun j u hj => H.bx 0 rfl hj) ?_
    cases f6
    exact ⟨_, _, rfl, ⟨g0_0, g0_1, g0_2, rfl, rfl⟩, (H.sel [1, 2, 3] rfl).close ⟨cloE, cloE, cloE, trivial⟩⟩
  ·
   have f12 := condT f0; clear f0
   replace H := H.sc (α := Int) 1
   replace H := H.sc (α := Int) 0
   refine litN (α := Int) (us := [(.int .i64 0), (.int .i64 1)]) (xs := [0, 1]) (gs := [(), ()]) gok rfl rfl rfl ⟨rfl, rfl, trivial⟩ rfl rfl H ?_; clear H; intro h10 w27 hx H
   clear hx
   replace H := H.sc (α := Int) 0
   replace H := H.sc (α := Int) 1
   refine litN (α := Int) (us := [(.int .i64 1), (.int .i64 0)]) (xs := [1, 0]) (gs := [(), ()]) gok rfl rfl rfl ⟨rfl, rfl, trivial⟩ rfl rfl H ?_; clear H; intro h11 w29 hx H
   clear hx
   refine build_ (cs := #[(.int .i64 2), (.slice none 0 0), (h10).v, (h11).v]) gok rfl rfl rfl ?_
   replace H := H.sel [2, 0, 1, 3] rfl
   refine stA gok [(.int .i64 2), (.slice none 0 0), (h10).v, (h11).v] rfl H rfl rfl rfl ?_; clear H; intro w30 H
   refine loadN [(.int .i64 2), (.slice none 0 0), (h10).v, (h11).v] rfl (fun j u hj => H.bx 0 rfl hj) ?_
   replace H := H.nil (α := Int × Int × List Int × List Int)
   cases f12
   exact ⟨_, _, rfl, ⟨nilH, h10, h11, rfl, rfl⟩, (H.sel [0, 3, 2] rfl).close ⟨cloE, cloE, cloE, trivial⟩⟩
 ·
  have f13 := condT hF8; clear hF8
  refine fld gok rfl rfl rfl rfl ?_
  refine load1 (H.bx 1 rfl (j := 1) rfl) ?_
  obtain ⟨y5, e, f14⟩ := bindS f13; clear f13
  obtain ⟨y5_0, y5_1, y5_2, y5_3⟩ := y5
  have i7 := e; clear e
  refine callF (impl_identityGraph_c n__1 y5_0 y5_1 y5_2 y5_3 i7) (Γi := []) H trivial ?_; clear H i7
  rintro _ _ w31 ⟨h12, h13, h14, rfl, rfl⟩ H
  replace H := H.sel [3, 0, 1, 2, 4] rfl
  refine stA gok [(.int .i64 y5_0), (h12).v, (h13).v, (h14).v] rfl H rfl rfl rfl ?_; clear H; intro w32 H
  refine loadN [(.int .i64 y5_0), (h12).v, (h13).v, (h14).v] rfl (fun j u hj => H.bx 0 rfl hj) ?_
  cases f14
  exact ⟨_, _, rfl, ⟨h12, h13, h14, rfl, rfl⟩, (H.sel [1, 2, 3] rfl).close ⟨cloE, cloE, cloE, trivial⟩⟩

theorem impl_Edge_isEdge_c (e__0 : Int) (e__1 : Int) (e__2 : List Int) (e__2h : Hd) (e__3 : List Int) (e__3h : Hd) (y : Bool) (hF : F_impl_Edge_isEdge (e__0, e__1, e__2, e__3) = some y) :
  ConF Tryz.prog 103 #[(.agg #[(.int .i64 e__0), (.int .i64 e__1), (e__2h).v, (e__3h).v])] [Es (List Int) e__2 e__2h, Es (List Int) e__3 e__3h] [] (fun v Γ' => v = (.bool y) ∧ Γ' = []) := by
 intro w0 S0 fp0 hI hS
 have H : Cx w0 fp0 S0 w0 [Es (List Int) e__2 e__2h, Es (List Int) e__3 e__3h] := Cx.start hI hS
 clear hI hS
 refine enterC (args := [_]) gok Tryz.func103 rfl _ rfl rfl rfl ?_
 refine box_ H ?_; clear H; intro b4 w3 hx H
 clear hx
 refine sq ?_
 obtain ⟨r0, f0, f1⟩ := bindS hF; clear hF
 refine cut (fun (q0 : Bool) => [(1, (.pointer (some ⟨b4, 0, none⟩))), (14, (.bool q0))]) (fun (q0 : Bool) w' => q0 = r0 ∧ Cx w0 fp0 S0 w' [Bx b4 [(.int .i64 e__0), (.int .i64 e__1), (e__2h).v, (e__3h).v], Es (List Int) e__2 e__2h, Es (List Int) e__3 e__3h]) ?_ ?_
 ·
  refine fld gok rfl rfl rfl rfl ?_
  refine load1 (H.bx 0 rfl (j := 0) rfl) ?_
  obtain ⟨y0, e, f2⟩ := bindS f0; clear f0
  have i0 := e; clear e
  refine callF (impl_isGenerator_c e__0 y0 i0) (Γi := []) H trivial ?_; clear H i0
  rintro _ _ w1 ⟨rfl, rfl⟩ H
  obtain ⟨a0, e, f3⟩ := bindS f2; clear f2
  refine boolO e ?_; clear e
  cases a0
  ·
   have f4 := condF f3; clear f3
   refine fld gok rfl rfl rfl rfl ?_
   refine load1 (H.bx 0 rfl (j := 0) rfl) ?_
   refine fld gok rfl rfl rfl rfl ?_
   refine load1 (H.bx 0 rfl (j := 1) rfl) ?_
   obtain ⟨y1, e, f5⟩ := bindS f4; clear f4
   have i1 := e; clear e
   refine callF (impl_isGeneratorValue_c e__0 e__1 y1 i1) (Γi := []) H trivial ?_; clear H i1
   rintro _ _ w2 ⟨rfl, rfl⟩ H
   obtain ⟨a1, e, f6⟩ := bindS f5; clear f5
   refine boolO e ?_; clear e
   exact ⟨a1, ⟨rfl, rfl, trivial⟩, Option.some.inj f6, H.sel [0, 1, 2] rfl⟩
  ·
   have f7 := condT f3; clear f3
   exact ⟨true, ⟨rfl, rfl, trivial⟩, Option.some.inj f7, H.sel [0, 1, 2] rfl⟩
 ·
  clear f0 H
  rintro T0 s0 w4 ⟨hr, (H : Cx w0 fp0 S0 w4 [Bx b4 [(.int .i64 e__0), (.int .i64 e__1), (e__2h).v, (e__3h).v], Es (List Int) e__2 e__2h, Es (List Int) e__3 e__3h])⟩
  subst hr
  cases s0
  ·
   have f8 := condF f1; clear f1
   refine heldX H [] (.fst 0 (.fst 3 (.fst 6 (.fst 1 (.fst 4 (.fst 5 (.fst 7 (.fst 8 (.fst 9 (.act 2 (.act 10 (.fst 11 .done)))))))))))) mixed [] trivial (by kernel_rfl) ?_
   clear H; intro w5 H
   have hX : Ext w5 w5 := Upd.refl _ _
   have H0 := H
   refine anyH (fun _ => fld gok rfl rfl rfl rfl ⟨rfl, rfl⟩) ?_
   refine anyH (fun _ => fld gok rfl rfl rfl rfl ⟨rfl, rfl⟩) ?_
   refine anyH (fun _ => fld gok rfl rfl rfl rfl ⟨rfl, rfl⟩) ?_
   refine load1X (H.bx 0 rfl (j := 0) rfl) ?_
   refine load1X (H.bx 0 rfl (j := 2) rfl) ?_
   refine lenE (H.rs (α := List Int) 1 rfl).len ?_
   refine load1X (H.bx 0 rfl (j := 3) rfl) ?_
   refine lenE (H.rs (α := List Int) 2 rfl).len ?_
   refine anyH (fun _ => build_ (cs := #[(.int .i64 ((e__2.length : Nat) : Int)), (.int .i64 ((e__3.length : Nat) : Int))]) gok rfl rfl rfl ⟨rfl, rfl⟩) ?_
   obtain ⟨y2, e, f9⟩ := bindS f8; clear f8
   obtain ⟨y2_0, y2_1⟩ := y2
   have i2 := e; clear e
   refine callFx (impl_generatorWires_c e__0 y2_0 y2_1 i2) H trivial ?_; clear H i2
   rintro _ _ w6 ⟨rfl, rfl⟩ hx H
   replace hX := hX.trans0 hx; clear hx
   refine hold hX ?_
   obtain ⟨a2, e, f10⟩ := bindS f9; clear f9
   refine eqA gok rfl Tryz.underlying97 (by kernel_rfl) (by kernel_rfl) (by kernel_rfl) (by refine ⟨rfl, ⟨_, _, rfl⟩, rfl, ⟨_, _, rfl⟩, trivial⟩) (ls := [y2_0, y2_1]) (bs := [((e__2.length : Nat) : Int), ((e__3.length : Nat) : Int)]) rfl rfl rfl rfl e ?_; clear e
   refine hold hX ?_
   cases f10
   exact ⟨_, _, rfl, ⟨rfl, rfl⟩, (H.sel [] rfl).close trivial⟩
  ·
   have f11 := condT f1; clear f1
   cases f11
   exact ⟨_, _, rfl, ⟨rfl, rfl⟩, (H.sel [] rfl).close trivial⟩

theorem impl_Graph_isGraph_1_c (list_ : List Int) (list_h : Hd) (c0_b : Nat) (c0__0 : Int) (c0__1 : List (Int × Int × List Int × List Int)) (c0__1h : Hd) (c0__2 : List Int) (c0__2h : Hd) (c0__3 : List Int) (c0__3h : Hd) (c1_b : Nat) (c1_ : Bool) (c2_b : Nat) (c2_ : List Bool) (c2_h : Hd) (c3_b : Nat) (c3_ : Int) (y0 : Bool) (y1 : List Bool) (y2 : Int) (hF : F_impl_Graph_isGraph_1 list_ (c0__0, c0__1, c0__2, c0__3) c1_ c2_ c3_ = some (y0, y1, y2)) :
  ConF Tryz.prog 105 #[(list_h).v, (.pointer (some ⟨c0_b, 0, none⟩)), (.pointer (some ⟨c1_b, 0, none⟩)), (.pointer (some ⟨c2_b, 0, none⟩)), (.pointer (some ⟨c3_b, 0, none⟩))] [Es (List Int) list_ list_h, Es (List (Int × Int × List Int × List Int)) c0__1 c0__1h, Es (List Int) c0__2 c0__2h, Es (List Int) c0__3 c0__3h] [Bx c0_b [(.int .i64 c0__0), (c0__1h).v, (c0__2h).v, (c0__3h).v], Bx c1_b [(.bool c1_)], Bx c2_b [(c2_h).v], E (List Bool) c2_ c2_h, Bx c3_b [(.int .i64 c3_)]] (fun v Γ' => v = (.tuple #[]) ∧ Γ' = [Bx c0_b [(.int .i64 c0__0), (c0__1h).v, (c0__2h).v, (c0__3h).v], Bx c1_b [(.bool y0)], Bx c2_b [(c2_h).v], E (List Bool) y1 c2_h, Bx c3_b [(.int .i64 y2)]]) := by
 intro w0 S0 fp0 hI hS
 have H : Cx w0 fp0 S0 w0 [Es (List Int) list_ list_h, Es (List (Int × Int × List Int × List Int)) c0__1 c0__1h, Es (List Int) c0__2 c0__2h, Es (List Int) c0__3 c0__3h, Bx c0_b [(.int .i64 c0__0), (c0__1h).v, (c0__2h).v, (c0__3h).v], Bx c1_b [(.bool c1_)], Bx c2_b [(c2_h).v], E (List Bool) c2_ c2_h, Bx c3_b [(.int .i64 c3_)]] := Cx.start hI hS
 clear hI hS
 refine enterC (args := [_, _, _, _, _]) gok Tryz.func105 rfl _ rfl rfl rfl ?_
 refine lenE (H.rs (α := List Int) 0 rfl).len ?_
 have x0 := (H.rs (α := List Int) 0 rfl).max
 obtain ⟨r0, e, f0⟩ := bindS hF; clear hF
 refine loopS _ list_.length (fun (k0 : Nat) (s0 : Bool × Int × List Bool) (_ : Unit) => [(1, (.pointer (some ⟨c0_b, 0, none⟩))), (2, (.pointer (some ⟨c1_b, 0, none⟩))), (3, (.pointer (some ⟨c2_b, 0, none⟩))), (4, (.pointer (some ⟨c3_b, 0, none⟩))), (8, (list_h).v), (9, (.int .i64 ((list_.length : Nat) : Int))), (10, (.int .i64 ((k0 : Nat) : Int)))]) (fun _ (s0 : Bool × Int × List Bool) (_ : Unit) w' => Cx w0 fp0 S0 w' [Bx c0_b [(.int .i64 c0__0), (c0__1h).v, (c0__2h).v, (c0__3h).v], Es (List (Int × Int × List Int × List Int)) c0__1 c0__1h, Es (List Int) c0__2 c0__2h, Es (List Int) c0__3 c0__3h, Bx c1_b [(.bool s0.1)], Bx c2_b [(c2_h).v], E (List Bool) s0.2.2 c2_h, Bx c3_b [(.int .i64 s0.2.1)], Es (List Int) list_ list_h]) (c1_, c3_, c2_) () e ⟨rfl, rfl, rfl, rfl, rfl, rfl, rfl, trivial⟩ (H.sel [4, 1, 2, 3, 5, 6, 7, 8, 0] rfl) ?_ ?_
 ·
  clear H e
  rintro T0 k0 ⟨s0_0, s0_1, s0_2⟩ _ w1 o0 hk (H : Cx w0 fp0 S0 w1 [Bx c0_b [(.int .i64 c0__0), (c0__1h).v, (c0__2h).v, (c0__3h).v], Es (List (Int × Int × List Int × List Int)) c0__1 c0__1h, Es (List Int) c0__2 c0__2h, Es (List Int) c0__3 c0__3h, Bx c1_b [(.bool s0_0)], Bx c2_b [(c2_h).v], E (List Bool) s0_2 c2_h, Bx c3_b [(.int .i64 s0_1)], Es (List Int) list_ list_h]) f1
  refine boolE (z := true) (ltLen hk) ?_
  refine sq ?_
  obtain ⟨r1, f2, f3⟩ := bindS f1; clear f1
  refine cut (fun (q0 : Bool × Int × List Bool) => [(1, (.pointer (some ⟨c0_b, 0, none⟩))), (2, (.pointer (some ⟨c1_b, 0, none⟩))), (3, (.pointer (some ⟨c2_b, 0, none⟩))), (4, (.pointer (some ⟨c3_b, 0, none⟩))), (8, (list_h).v), (9, (.int .i64 ((list_.length : Nat) : Int))), (10, (.int .i64 ((k0 : Nat) : Int)))]) (fun (q0 : Bool × Int × List Bool) w' => (q0.1, q0.2.1, q0.2.2) = r1 ∧ Cx w0 fp0 S0 w' [Bx c0_b [(.int .i64 c0__0), (c0__1h).v, (c0__2h).v, (c0__3h).v], Es (List (Int × Int × List Int × List Int)) c0__1 c0__1h, Es (List Int) c0__2 c0__2h, Es (List Int) c0__3 c0__3h, Bx c1_b [(.bool q0.1)], Bx c2_b [(c2_h).v], E (List Bool) q0.2.2 c2_h, Bx c3_b [(.int .i64 q0.2.1)], Es (List Int) list_ list_h]) ?_ ?_
  ·
   obtain ⟨a0, e, f4⟩ := bindS f2; clear f2
   obtain ⟨p0, m0, c0, c1, c2, c3⟩ := (H.rs (α := List Int) 8 rfl).at1 e; clear e
   refine idxE c0 c1 c2 ?_; clear c0 c1 c2
   refine load1 c3 ?_; clear c3
   refine sq ?_
   refine fld gok rfl rfl rfl rfl ?_
   refine load1 (H.bx 0 rfl (j := 0) rfl) ?_
   obtain ⟨a1, e, f5⟩ := bindS f4; clear f4
   refine arO e ?_; clear e
   obtain ⟨y3, e, f6⟩ := bindS f5; clear f5
   have i0 := e; clear e
   refine callF (impl_within_c a0 0 a1 y3 i0) (Γi := []) H trivial ?_; clear H i0
   rintro _ _ w2 ⟨rfl, rfl⟩ H
   obtain ⟨a2, e, f7⟩ := bindS f6; clear f6
   refine boolO e ?_; clear e
   cases a2
   ·
    have f8 := condF f7; clear f7
    refine load1 (H.bx0 5 rfl) ?_
    obtain ⟨a3, e, f9⟩ := bindS f8; clear f8
    obtain ⟨p1, m1, c4, c5, c6, c7⟩ := (H.ro (α := List Bool) 6 rfl).at1 e; clear e
    refine idxE c4 c5 c6 ?_; clear c4 c5 c6
    refine load1 c7 ?_; clear c7
    obtain ⟨a4, e, f10⟩ := bindS f9; clear f9
    refine boolO e ?_; clear e
    cases a4
    ·
     have f11 := condF f10; clear f10
     exact ⟨(s0_0, s0_1, s0_2), ⟨rfl, rfl, rfl, rfl, rfl, rfl, rfl, trivial⟩, Option.some.inj f11, H.sel [0, 1, 2, 3, 4, 5, 6, 7, 8] rfl⟩
    ·
     have f12 := condT f10; clear f10
     refine load1 (H.bx0 5 rfl) ?_
     obtain ⟨a5, e, f13⟩ := bindS f12; clear f12
     have i1 := e; clear e
     obtain ⟨p2, m2, c8, c9, c10⟩ := (H.ro (α := List Bool) 6 rfl).setp i1
     refine idxE c8 c9 c10 ?_
     replace H := H.sel [6, 0, 1, 2, 3, 4, 5, 7, 8] rfl
     refine setS (α := Bool) H c8 c9 i1 ?_; clear H c8 c9 c10 i1; intro w3 H
     refine load1 (H.bx0 7 rfl) ?_
     obtain ⟨a6, e, f14⟩ := bindS f13; clear f13
     refine arO e ?_; clear e
     replace H := H.sel [7, 0, 1, 2, 3, 4, 5, 6, 8] rfl
     refine stB0 H rfl ?_; clear H; intro w4 H
     exact ⟨(s0_0, a6, a5), ⟨rfl, rfl, rfl, rfl, rfl, rfl, rfl, trivial⟩, Option.some.inj f14, H.sel [2, 3, 4, 5, 6, 7, 1, 0, 8] rfl⟩
   ·
    have f15 := condT f7; clear f7
    replace H := H.sel [4, 0, 1, 2, 3, 5, 6, 7, 8] rfl
    refine stB0 H rfl ?_; clear H; intro w5 H
    exact ⟨(false, s0_1, s0_2), ⟨rfl, rfl, rfl, rfl, rfl, rfl, rfl, trivial⟩, Option.some.inj f15, H.sel [1, 2, 3, 4, 0, 5, 6, 7, 8] rfl⟩
  ·
   clear f2 H
   rintro T1 ⟨s1_0, s1_1, s1_2⟩ w6 ⟨hr, (H : Cx w0 fp0 S0 w6 [Bx c0_b [(.int .i64 c0__0), (c0__1h).v, (c0__2h).v, (c0__3h).v], Es (List (Int × Int × List Int × List Int)) c0__1 c0__1h, Es (List Int) c0__2 c0__2h, Es (List Int) c0__3 c0__3h, Bx c1_b [(.bool s1_0)], Bx c2_b [(c2_h).v], E (List Bool) s1_2 c2_h, Bx c3_b [(.int .i64 s1_1)], Es (List Int) list_ list_h])⟩
   subst hr
   refine arK hk x0 ?_
   have hs := Option.some.inj f3; subst hs; clear f3
   exact ⟨(), ⟨rfl, rfl, rfl, rfl, rfl, rfl, rfl, trivial⟩, H.sel [0, 1, 2, 3, 4, 5, 6, 7, 8] rfl⟩
 ·
  clear H e
  obtain ⟨s2_0, s2_1, s2_2⟩ := r0
  rintro T2 _ w7 (H : Cx w0 fp0 S0 w7 [Bx c0_b [(.int .i64 c0__0), (c0__1h).v, (c0__2h).v, (c0__3h).v], Es (List (Int × Int × List Int × List Int)) c0__1 c0__1h, Es (List Int) c0__2 c0__2h, Es (List Int) c0__3 c0__3h, Bx c1_b [(.bool s2_0)], Bx c2_b [(c2_h).v], E (List Bool) s2_2 c2_h, Bx c3_b [(.int .i64 s2_1)], Es (List Int) list_ list_h])
  refine boolE (z := false) geLen ?_
  refine sq ?_
  cases f0
  exact ⟨_, _, rfl, ⟨rfl, rfl⟩, (H.sel [0, 4, 5, 6, 7] rfl).close ⟨cloB, cloB, cloB, cloE, cloB, trivial⟩⟩

theorem impl_Graph_lists_impl_Graph_isGraph_1_c (g__0 : Int) (g__1 : List (Int × Int × List Int × List Int)) (g__1h : Hd) (g__2 : List Int) (g__2h : Hd) (g__3 : List Int) (g__3h : Hd) (d0_b : Nat) (d0__0 : Int) (d0__1 : List (Int × Int × List Int × List Int)) (d0__1h : Hd) (d0__2 : List Int) (d0__2h : Hd) (d0__3 : List Int) (d0__3h : Hd) (d1_b : Nat) (d1_ : Bool) (d2_b : Nat) (d2_ : List Bool) (d2_h : Hd) (d3_b : Nat) (d3_ : Int) (y0 : Bool) (y1 : List Bool) (y2 : Int) (hF : F_impl_Graph_lists_impl_Graph_isGraph_1 (g__0, g__1, g__2, g__3) (d0__0, d0__1, d0__2, d0__3) d1_ d2_ d3_ = some (y0, y1, y2)) :
  ConF Tryz.prog 104 #[(.agg #[(.int .i64 g__0), (g__1h).v, (g__2h).v, (g__3h).v]), (.func (.func 105) #[] #[(.pointer (some ⟨d0_b, 0, none⟩)), (.pointer (some ⟨d1_b, 0, none⟩)), (.pointer (some ⟨d2_b, 0, none⟩)), (.pointer (some ⟨d3_b, 0, none⟩))])] [Es (List (Int × Int × List Int × List Int)) g__1 g__1h, Es (List Int) g__2 g__2h, Es (List Int) g__3 g__3h, Es (List (Int × Int × List Int × List Int)) d0__1 d0__1h, Es (List Int) d0__2 d0__2h, Es (List Int) d0__3 d0__3h] [Bx d0_b [(.int .i64 d0__0), (d0__1h).v, (d0__2h).v, (d0__3h).v], Bx d1_b [(.bool d1_)], Bx d2_b [(d2_h).v], E (List Bool) d2_ d2_h, Bx d3_b [(.int .i64 d3_)]] (fun v Γ' => v = (.tuple #[]) ∧ Γ' = [Bx d0_b [(.int .i64 d0__0), (d0__1h).v, (d0__2h).v, (d0__3h).v], Bx d1_b [(.bool y0)], Bx d2_b [(d2_h).v], E (List Bool) y1 d2_h, Bx d3_b [(.int .i64 y2)]]) := by
 intro w0 S0 fp0 hI hS
 have H : Cx w0 fp0 S0 w0 [Es (List (Int × Int × List Int × List Int)) g__1 g__1h, Es (List Int) g__2 g__2h, Es (List Int) g__3 g__3h, Es (List (Int × Int × List Int × List Int)) d0__1 d0__1h, Es (List Int) d0__2 d0__2h, Es (List Int) d0__3 d0__3h, Bx d0_b [(.int .i64 d0__0), (d0__1h).v, (d0__2h).v, (d0__3h).v], Bx d1_b [(.bool d1_)], Bx d2_b [(d2_h).v], E (List Bool) d2_ d2_h, Bx d3_b [(.int .i64 d3_)]] := Cx.start hI hS
 clear hI hS
 refine enterC (args := [_, _]) gok Tryz.func104 rfl _ rfl rfl rfl ?_
 refine box_ H ?_; clear H; intro b0 w1 hx H
 clear hx
 refine fld gok rfl rfl rfl rfl ?_
 refine load1 (H.bx 0 rfl (j := 2) rfl) ?_
 obtain ⟨y3, e, f0⟩ := bindS hF; clear hF
 obtain ⟨y3_0, y3_1, y3_2⟩ := y3
 have i0 := e; clear e
 replace H := H.sel [7, 8, 9, 10, 11, 0, 1, 2, 3, 4, 5, 6] rfl
 refine callF (impl_Graph_isGraph_1_c g__2 g__2h d0_b d0__0 d0__1 d0__1h d0__2 d0__2h d0__3 d0__3h d1_b d1_ d2_b d2_ d2_h d3_b d3_ y3_0 y3_1 y3_2 i0) (Γi := [Bx d0_b [(.int .i64 d0__0), (d0__1h).v, (d0__2h).v, (d0__3h).v], Bx d1_b [(.bool d1_)], Bx d2_b [(d2_h).v], E (List Bool) d2_ d2_h, Bx d3_b [(.int .i64 d3_)]]) H ⟨Vw.sh 2 rfl, Vw.sh 4 rfl, Vw.sh 5 rfl, Vw.sh 6 rfl, trivial⟩ ?_; clear H i0
 rintro _ _ w2 ⟨rfl, rfl⟩ H
 refine fld gok rfl rfl rfl rfl ?_
 refine load1 (H.bx 5 rfl (j := 3) rfl) ?_
 obtain ⟨y4, e, f1⟩ := bindS f0; clear f0
 obtain ⟨y4_0, y4_1, y4_2⟩ := y4
 have i1 := e; clear e
 refine callF (impl_Graph_isGraph_1_c g__3 g__3h d0_b d0__0 d0__1 d0__1h d0__2 d0__2h d0__3 d0__3h d1_b y3_0 d2_b y3_1 d2_h d3_b y3_2 y4_0 y4_1 y4_2 i1) (Γi := [Bx d0_b [(.int .i64 d0__0), (d0__1h).v, (d0__2h).v, (d0__3h).v], Bx d1_b [(.bool y3_0)], Bx d2_b [(d2_h).v], E (List Bool) y3_1 d2_h, Bx d3_b [(.int .i64 y3_2)]]) H ⟨Vw.sh 3 rfl, Vw.sh 4 rfl, Vw.sh 5 rfl, Vw.sh 6 rfl, trivial⟩ ?_; clear H i1
 rintro _ _ w3 ⟨rfl, rfl⟩ H
 refine fld gok rfl rfl rfl rfl ?_
 refine load1 (H.bx 5 rfl (j := 1) rfl) ?_
 refine lenE (H.rs (α := List (Int × Int × List Int × List Int)) 6 rfl).len ?_
 have x0 := (H.rs (α := List (Int × Int × List Int × List Int)) 6 rfl).max
 obtain ⟨r0, e, f2⟩ := bindS f1; clear f1
 refine loopS _ g__1.length (fun (k0 : Nat) (s0 : Int × Bool × List Bool) (_ : Unit) => [(1, (.func (.func 105) #[] #[(.pointer (some ⟨d0_b, 0, none⟩)), (.pointer (some ⟨d1_b, 0, none⟩)), (.pointer (some ⟨d2_b, 0, none⟩)), (.pointer (some ⟨d3_b, 0, none⟩))])), (15, (g__1h).v), (16, (.int .i64 ((g__1.length : Nat) : Int))), (17, (.int .i64 ((k0 : Nat) : Int)))]) (fun _ (s0 : Int × Bool × List Bool) (_ : Unit) w' => Cx w0 fp0 S0 w' [Bx d0_b [(.int .i64 d0__0), (d0__1h).v, (d0__2h).v, (d0__3h).v], Es (List (Int × Int × List Int × List Int)) d0__1 d0__1h, Es (List Int) d0__2 d0__2h, Es (List Int) d0__3 d0__3h, Bx d1_b [(.bool s0.2.1)], Bx d2_b [(d2_h).v], E (List Bool) s0.2.2 d2_h, Bx d3_b [(.int .i64 s0.1)], Es (List (Int × Int × List Int × List Int)) g__1 g__1h]) (y4_2, y4_0, y4_1) () e ⟨rfl, rfl, rfl, rfl, trivial⟩ (H.sel [0, 9, 10, 11, 1, 2, 3, 4, 6] rfl) ?_ ?_
 ·
  clear H e
  rintro T0 k0 ⟨s0_0, s0_1, s0_2⟩ _ w4 o0 hk (H : Cx w0 fp0 S0 w4 [Bx d0_b [(.int .i64 d0__0), (d0__1h).v, (d0__2h).v, (d0__3h).v], Es (List (Int × Int × List Int × List Int)) d0__1 d0__1h, Es (List Int) d0__2 d0__2h, Es (List Int) d0__3 d0__3h, Bx d1_b [(.bool s0_1)], Bx d2_b [(d2_h).v], E (List Bool) s0_2 d2_h, Bx d3_b [(.int .i64 s0_0)], Es (List (Int × Int × List Int × List Int)) g__1 g__1h]) f3
  refine boolE (z := true) (ltLen hk) ?_
  refine sq ?_
  refine sq ?_
  obtain ⟨a0, e, f4⟩ := bindS f3; clear f3
  have HH := H; clear H; obtain ⟨p0, m0, g0, c0, c1, c2, c3, H⟩ := HH.el (α := Int × Int × List Int × List Int) 8 rfl e; clear HH
  clear e
  obtain ⟨a0_0, a0_1, a0_2, a0_3⟩ := a0
  obtain ⟨_, _, h0, h1⟩ := g0
  replace H := H.part (β := List Int) a0_2 (h0 : Hd) 0 rfl (fun S h => (And.left (And.right (And.right h))))
  replace H := H.part (β := List Int) a0_3 (h1 : Hd) 1 rfl (fun S h => (And.right (And.right (And.right h))))
  replace H := H.sel [0, 1, 3, 4, 5, 6, 7, 8, 9, 10, 11] rfl
  refine idxE c0 c1 c2 ?_; clear c0 c1 c2
  refine loadN [(.int .i64 a0_0), (.int .i64 a0_1), (h0).v, (h1).v] rfl c3 ?_; clear c3
  refine alloc_ gok rfl H ?_; clear H; intro b1 w5 hx H
  clear hx
  refine stA gok [(.int .i64 a0_0), (.int .i64 a0_1), (h0).v, (h1).v] rfl H rfl rfl rfl ?_; clear H; intro w6 H
  refine fld gok rfl rfl rfl rfl ?_
  refine load1 (H.bx 0 rfl (j := 2) rfl) ?_
  obtain ⟨y5, e, f5⟩ := bindS f4; clear f4
  obtain ⟨y5_0, y5_1, y5_2⟩ := y5
  have i2 := e; clear e
  replace H := H.sel [3, 7, 8, 9, 10, 0, 1, 2, 4, 5, 6, 11] rfl
  refine callF (impl_Graph_isGraph_1_c a0_2 h0 d0_b d0__0 d0__1 d0__1h d0__2 d0__2h d0__3 d0__3h d1_b s0_1 d2_b s0_2 d2_h d3_b s0_0 y5_0 y5_1 y5_2 i2) (Γi := [Bx d0_b [(.int .i64 d0__0), (d0__1h).v, (d0__2h).v, (d0__3h).v], Bx d1_b [(.bool s0_1)], Bx d2_b [(d2_h).v], E (List Bool) s0_2 d2_h, Bx d3_b [(.int .i64 s0_0)]]) H ⟨Vw.sh 2 rfl, Vw.sh 3 rfl, Vw.sh 4 rfl, Vw.sh 5 rfl, trivial⟩ ?_; clear H i2
  rintro _ _ w7 ⟨rfl, rfl⟩ H
  refine fld gok rfl rfl rfl rfl ?_
  refine load1 (H.bx 5 rfl (j := 3) rfl) ?_
  obtain ⟨y6, e, f6⟩ := bindS f5; clear f5
  obtain ⟨y6_0, y6_1, y6_2⟩ := y6
  have i3 := e; clear e
  refine callF (impl_Graph_isGraph_1_c a0_3 h1 d0_b d0__0 d0__1 d0__1h d0__2 d0__2h d0__3 d0__3h d1_b y5_0 d2_b y5_1 d2_h d3_b y5_2 y6_0 y6_1 y6_2 i3) (Γi := [Bx d0_b [(.int .i64 d0__0), (d0__1h).v, (d0__2h).v, (d0__3h).v], Bx d1_b [(.bool y5_0)], Bx d2_b [(d2_h).v], E (List Bool) y5_1 d2_h, Bx d3_b [(.int .i64 y5_2)]]) H ⟨Vw.sh 1 rfl, Vw.sh 3 rfl, Vw.sh 4 rfl, Vw.sh 5 rfl, trivial⟩ ?_; clear H i3
  rintro _ _ w8 ⟨rfl, rfl⟩ H
  refine arK hk x0 ?_
  have hs := Option.some.inj f6; subst hs; clear f6
  exact ⟨(), ⟨rfl, rfl, rfl, rfl, trivial⟩, H.sel [0, 8, 9, 10, 1, 2, 3, 4, 11] rfl⟩
 ·
  clear H e
  obtain ⟨s1_0, s1_1, s1_2⟩ := r0
  rintro T1 _ w9 (H : Cx w0 fp0 S0 w9 [Bx d0_b [(.int .i64 d0__0), (d0__1h).v, (d0__2h).v, (d0__3h).v], Es (List (Int × Int × List Int × List Int)) d0__1 d0__1h, Es (List Int) d0__2 d0__2h, Es (List Int) d0__3 d0__3h, Bx d1_b [(.bool s1_1)], Bx d2_b [(d2_h).v], E (List Bool) s1_2 d2_h, Bx d3_b [(.int .i64 s1_0)], Es (List (Int × Int × List Int × List Int)) g__1 g__1h])
  refine boolE (z := false) geLen ?_
  refine sq ?_
  cases f2
  exact ⟨_, _, rfl, ⟨rfl, rfl⟩, (H.sel [0, 4, 5, 6, 7] rfl).close ⟨cloB, cloB, cloB, cloE, cloB, trivial⟩⟩

theorem impl_Graph_isGraph_c (g__0 : Int) (g__1 : List (Int × Int × List Int × List Int)) (g__1h : Hd) (g__2 : List Int) (g__2h : Hd) (g__3 : List Int) (g__3h : Hd) (y : Bool) (hF : F_impl_Graph_isGraph (g__0, g__1, g__2, g__3) = some y) :
  ConF Tryz.prog 71 #[(.agg #[(.int .i64 g__0), (g__1h).v, (g__2h).v, (g__3h).v])] [Es (List (Int × Int × List Int × List Int)) g__1 g__1h, Es (List Int) g__2 g__2h, Es (List Int) g__3 g__3h] [] (fun v Γ' => v = (.bool y) ∧ Γ' = []) := by
 intro w0 S0 fp0 hI hS
 have H : Cx w0 fp0 S0 w0 [Es (List (Int × Int × List Int × List Int)) g__1 g__1h, Es (List Int) g__2 g__2h, Es (List Int) g__3 g__3h] := Cx.start hI hS
 clear hI hS
 refine enterC (args := [_]) gok Tryz.func71 rfl _ rfl rfl rfl ?_
 refine box_ H ?_; clear H; intro b5 w4 hx H
 clear hx
 refine sq ?_
 obtain ⟨r0, f0, f1⟩ := bindS hF; clear hF
 refine cut (fun (q0 : Bool) => [(1, (.pointer (some ⟨b5, 0, none⟩))), (29, (.bool q0))]) (fun (q0 : Bool) w' => q0 = r0 ∧ Cx w0 fp0 S0 w' [Bx b5 [(.int .i64 g__0), (g__1h).v, (g__2h).v, (g__3h).v], Es (List (Int × Int × List Int × List Int)) g__1 g__1h, Es (List Int) g__2 g__2h, Es (List Int) g__3 g__3h]) ?_ ?_
 ·
  refine fld gok rfl rfl rfl rfl ?_
  refine load1 (H.bx 0 rfl (j := 0) rfl) ?_
  obtain ⟨y0, e, f2⟩ := bindS f0; clear f0
  have i0 := e; clear e
  refine callF (impl_within_c g__0 0 100 y0 i0) (Γi := []) H trivial ?_; clear H i0
  rintro _ _ w1 ⟨rfl, rfl⟩ H
  obtain ⟨a0, e, f3⟩ := bindS f2; clear f2
  refine boolO e ?_; clear e
  cases a0
  ·
   have f4 := condF f3; clear f3
   refine fld gok rfl rfl rfl rfl ?_
   refine load1 (H.bx 0 rfl (j := 1) rfl) ?_
   refine lenE (H.rs (α := List (Int × Int × List Int × List Int)) 1 rfl).len ?_
   obtain ⟨a1, e, f5⟩ := bindS f4; clear f4
   refine boolO e ?_; clear e
   cases a1
   ·
    have f6 := condF f5; clear f5
    refine fld gok rfl rfl rfl rfl ?_
    refine load1 (H.bx 0 rfl (j := 2) rfl) ?_
    refine lenE (H.rs (α := List Int) 2 rfl).len ?_
    obtain ⟨a2, e, f7⟩ := bindS f6; clear f6
    refine boolO e ?_; clear e
    cases a2
    ·
     have f8 := condF f7; clear f7
     refine fld gok rfl rfl rfl rfl ?_
     refine load1 (H.bx 0 rfl (j := 3) rfl) ?_
     refine lenE (H.rs (α := List Int) 3 rfl).len ?_
     obtain ⟨a3, e, f9⟩ := bindS f8; clear f8
     refine boolO e ?_; clear e
     exact ⟨a3, ⟨rfl, rfl, trivial⟩, Option.some.inj f9, H.sel [0, 1, 2, 3] rfl⟩
    ·
     have f10 := condT f7; clear f7
     exact ⟨true, ⟨rfl, rfl, trivial⟩, Option.some.inj f10, H.sel [0, 1, 2, 3] rfl⟩
   ·
    have f11 := condT f5; clear f5
    exact ⟨true, ⟨rfl, rfl, trivial⟩, Option.some.inj f11, H.sel [0, 1, 2, 3] rfl⟩
  ·
   have f12 := condT f3; clear f3
   exact ⟨true, ⟨rfl, rfl, trivial⟩, Option.some.inj f12, H.sel [0, 1, 2, 3] rfl⟩
 ·
  clear f0 H
  rintro T0 s0 w2 ⟨hr, (H : Cx w0 fp0 S0 w2 [Bx b5 [(.int .i64 g__0), (g__1h).v, (g__2h).v, (g__3h).v], Es (List (Int × Int × List Int × List Int)) g__1 g__1h, Es (List Int) g__2 g__2h, Es (List Int) g__3 g__3h])⟩
  subst hr
  cases s0
  ·
   have f13 := condF f1; clear f1
   refine sq ?_
   refine fld gok rfl rfl rfl rfl ?_
   refine load1 (H.bx 0 rfl (j := 1) rfl) ?_
   refine lenE (H.rs (α := List (Int × Int × List Int × List Int)) 1 rfl).len ?_
   have x0 := (H.rs (α := List (Int × Int × List Int × List Int)) 1 rfl).max
   obtain ⟨r1, e, f14⟩ := bindS f13; clear f13
   refine loopO _ g__1.length (fun (k0 : Nat) (_ : Unit) (_ : Unit) => [(1, (.pointer (some ⟨b5, 0, none⟩))), (31, (g__1h).v), (32, (.int .i64 ((g__1.length : Nat) : Int))), (33, (.int .i64 ((k0 : Nat) : Int)))]) (fun _ (_ : Unit) (_ : Unit) w' => Cx w0 fp0 S0 w' [Bx b5 [(.int .i64 g__0), (g__1h).v, (g__2h).v, (g__3h).v], Es (List (Int × Int × List Int × List Int)) g__1 g__1h, Es (List Int) g__2 g__2h, Es (List Int) g__3 g__3h]) () () e ⟨rfl, rfl, rfl, rfl, trivial⟩ (H.sel [0, 1, 2, 3] rfl) ?_ ?_
   ·
    clear H e
    rintro T1 k0 _ _ w3 o0 hk (H : Cx w0 fp0 S0 w3 [Bx b5 [(.int .i64 g__0), (g__1h).v, (g__2h).v, (g__3h).v], Es (List (Int × Int × List Int × List Int)) g__1 g__1h, Es (List Int) g__2 g__2h, Es (List Int) g__3 g__3h]) hrt f15
    refine boolE (z := true) (ltLen hk) ?_
    refine sq ?_
    refine sq ?_
    obtain ⟨a4, e, f16⟩ := bindS f15; clear f15
    have HH := H; clear H; obtain ⟨p0, m0, g0, c0, c1, c2, c3, H⟩ := HH.el (α := Int × Int × List Int × List Int) 1 rfl e; clear HH
    clear e
    obtain ⟨a4_0, a4_1, a4_2, a4_3⟩ := a4
    obtain ⟨_, _, h0, h1⟩ := g0
    replace H := H.part (β := List Int) a4_2 (h0 : Hd) 0 rfl (fun S h => (And.left (And.right (And.right h))))
    replace H := H.part (β := List Int) a4_3 (h1 : Hd) 1 rfl (fun S h => (And.right (And.right (And.right h))))
    replace H := H.sel [0, 1, 3, 4, 5, 6] rfl
    refine idxE c0 c1 c2 ?_; clear c0 c1 c2
    refine loadN [(.int .i64 a4_0), (.int .i64 a4_1), (h0).v, (h1).v] rfl c3 ?_; clear c3
    refine alloc_ gok rfl H ?_; clear H; intro b0 w5 hx H
    clear hx
    refine stA gok [(.int .i64 a4_0), (.int .i64 a4_1), (h0).v, (h1).v] rfl H rfl rfl rfl ?_; clear H; intro w6 H
    refine loadN [(.int .i64 a4_0), (.int .i64 a4_1), (h0).v, (h1).v] rfl (fun j u hj => H.bx 0 rfl hj) ?_
    obtain ⟨y1, e, f17⟩ := bindS f16; clear f16
    have i1 := e; clear e
    refine callF (impl_Edge_isEdge_c a4_0 a4_1 a4_2 h0 a4_3 h1 y1 i1) (Γi := []) H ⟨Vw.sh 2 rfl, Vw.sh 1 rfl, trivial⟩ ?_; clear H i1
    rintro _ _ w7 ⟨rfl, rfl⟩ H
    obtain ⟨a5, e, f18⟩ := bindS f17; clear f17
    refine boolO e ?_; clear e
    cases a5
    ·
     have f19 := condF f18; clear f18
     refine arK hk x0 ?_
     have hs := Option.some.inj f19; subst hs; clear f19
     exact ⟨(), (), rfl, ⟨rfl, rfl, rfl, rfl, trivial⟩, H.sel [3, 4, 5, 6] rfl⟩
    ·
     have f20 := condT f18; clear f18
     have hs := Option.some.inj f20; subst hs; clear f20
     have hr := hrt _ rfl; subst hr
     have f21 : some _ = some _ := f14
     cases f21
     exact ⟨_, _, rfl, ⟨rfl, rfl⟩, (H.sel [] rfl).close trivial⟩
   ·
    clear H e
    rintro T2 _ _ w8 hr (H : Cx w0 fp0 S0 w8 [Bx b5 [(.int .i64 g__0), (g__1h).v, (g__2h).v, (g__3h).v], Es (List (Int × Int × List Int × List Int)) g__1 g__1h, Es (List Int) g__2 g__2h, Es (List Int) g__3 g__3h])
    subst hr
    refine boolE (z := false) geLen ?_
    refine sq ?_
    refine fld gok rfl rfl rfl rfl ?_
    refine load1 (H.bx 0 rfl (j := 0) rfl) ?_
    obtain ⟨a6, e, f22⟩ := bindS f14; clear f14
    refine make_ (α := Bool) gok rfl rfl rfl rfl (makeCO_of e) H ?_; clear e H; intro h2 w9 hx H
    clear hx
    refine alloc_ gok rfl H ?_; clear H; intro b1 w10 hx H
    clear hx
    refine alloc_ gok rfl H ?_; clear H; intro b2 w11 hx H
    clear hx
    refine alloc_ gok rfl H ?_; clear H; intro b3 w12 hx H
    clear hx
    replace H := H.sel [2, 0, 1, 3, 4, 5, 6, 7] rfl
    refine stB0 H rfl ?_; clear H; intro w13 H
    replace H := H.sel [2, 0, 1, 3, 4, 5, 6, 7] rfl
    refine stB0 H rfl ?_; clear H; intro w14 H
    replace H := H.sel [2, 0, 1, 3, 4, 5, 6, 7] rfl
    refine stB0 H rfl ?_; clear H; intro w15 H
    refine loadN [(.int .i64 g__0), (g__1h).v, (g__2h).v, (g__3h).v] rfl (fun j u hj => H.bx 4 rfl hj) ?_
    obtain ⟨y2, e, f23⟩ := bindS f22; clear f22
    obtain ⟨y2_0, y2_1, y2_2⟩ := y2
    have i2 := e; clear e
    replace H := H.sel [4, 1, 2, 3, 0, 5, 6, 7] rfl
    refine callF (impl_Graph_lists_impl_Graph_isGraph_1_c g__0 g__1 g__1h g__2 g__2h g__3 g__3h b5 g__0 g__1 g__1h g__2 g__2h g__3 g__3h b2 true b1 a6 h2 b3 0 y2_0 y2_1 y2_2 i2) (Γi := [Bx b5 [(.int .i64 g__0), (g__1h).v, (g__2h).v, (g__3h).v], Bx b2 [(.bool true)], Bx b1 [(h2).v], E (List Bool) a6 h2, Bx b3 [(.int .i64 0)]]) H ⟨Vw.sh 0 rfl, Vw.sh 1 rfl, Vw.sh 2 rfl, Vw.sh 0 rfl, Vw.sh 1 rfl, Vw.sh 2 rfl, trivial⟩ ?_; clear H i2
    rintro _ _ w16 ⟨rfl, rfl⟩ H
    obtain ⟨r2, f24, f25⟩ := bindS f23; clear f23
    refine cut (fun (q1 : Bool × Bool) => [(2, (.bool q1.2))]) (fun (q1 : Bool × Bool) w' => (q1.1, q1.2) = r2 ∧ Cx w0 fp0 S0 w' []) ?_ ?_
    ·
     refine load1 (H.bx0 1 rfl) ?_
     cases y2_0
     ·
      have f26 := condF f24; clear f24
      exact ⟨(false, false), ⟨rfl, trivial⟩, Option.some.inj f26, H.sel [] rfl⟩
     ·
      have f27 := condT f24; clear f24
      refine load1 (H.bx0 4 rfl) ?_
      refine fld gok rfl rfl rfl rfl ?_
      refine load1 (H.bx 0 rfl (j := 0) rfl) ?_
      obtain ⟨a7, e, f28⟩ := bindS f27; clear f27
      refine boolO e ?_; clear e
      exact ⟨(true, a7), ⟨rfl, trivial⟩, Option.some.inj f28, H.sel [] rfl⟩
    ·
     clear f24 H
     rintro T3 ⟨s1_0, s1_1⟩ w17 ⟨hr, (H : Cx w0 fp0 S0 w17 [])⟩
     subst hr
     cases f25
     exact ⟨_, _, rfl, ⟨rfl, rfl⟩, (H.sel [] rfl).close trivial⟩
  ·
   have f29 := condT f1; clear f1
   cases f29
   exact ⟨_, _, rfl, ⟨rfl, rfl⟩, (H.sel [] rfl).close trivial⟩

theorem impl_graphOf_c (t__0 : List (Int × Int × ByteArray)) (t__0h : Hd) (y0_0 : Int) (y0_1 : List (Int × Int × List Int × List Int)) (y0_2 : List Int) (y0_3 : List Int) (y1 : Bool) (hF : F_impl_graphOf t__0 = some ((y0_0, y0_1, y0_2, y0_3), y1)) :
  ConF Tryz.prog 30 #[(.agg #[(t__0h).v])] [Es (List (Int × Int × ByteArray)) t__0 t__0h] [] (fun v Γ' => ∃ z0 z1 z2 : Hd, v = (.tuple #[(.agg #[(.int .i64 y0_0), (z0).v, (z1).v, (z2).v]), (.bool y1)]) ∧ Γ' = [E (List (Int × Int × List Int × List Int)) y0_1 z0, E (List Int) y0_2 z1, E (List Int) y0_3 z2]) := by
 intro w0 S0 fp0 hI hS
 have H : Cx w0 fp0 S0 w0 [Es (List (Int × Int × ByteArray)) t__0 t__0h] := Cx.start hI hS
 clear hI hS
 refine enterC (args := [_]) gok Tryz.func30 rfl _ rfl rfl rfl ?_
 refine box_ H ?_; clear H; intro b3 w2 hx H
 clear hx
 refine alloc_ gok rfl H ?_; clear H; intro b6 w5 hx H
 clear hx
 refine lit0 (α := Int × (List (Int × Int × List Int × List Int)) × List Int × List Int) gok rfl rfl H ?_; clear H; intro h9 w8 hx H
 clear hx
 refine sq ?_
 refine fld gok rfl rfl rfl rfl ?_
 refine load1 (H.bx 2 rfl (j := 0) rfl) ?_
 refine lenE (H.rs (α := List (Int × Int × ByteArray)) 3 rfl).len ?_
 have x0 := (H.rs (α := List (Int × Int × ByteArray)) 3 rfl).max
 obtain ⟨r0, e, f0⟩ := bindS hF; clear hF
 refine loopO _ t__0.length (fun (k0 : Nat) (s0 : List (Int × (List (Int × Int × List Int × List Int)) × List Int × List Int)) (g0 : Hd) => [(2, (.pointer (some ⟨b6, 0, none⟩))), (4, (g0).v), (11, (t__0h).v), (12, (.int .i64 ((t__0.length : Nat) : Int))), (13, (.int .i64 ((k0 : Nat) : Int)))]) (fun _ (s0 : List (Int × (List (Int × Int × List Int × List Int)) × List Int × List Int)) (g0 : Hd) w' => Cx w0 fp0 S0 w' [Bx b6 [(.int .i64 0), (.slice none 0 0), (.slice none 0 0), (.slice none 0 0)], E (List (Int × (List (Int × Int × List Int × List Int)) × List Int × List Int)) s0 g0, Es (List (Int × Int × ByteArray)) t__0 t__0h]) ([] : List (Int × (List (Int × Int × List Int × List Int)) × List Int × List Int)) h9 e ⟨rfl, rfl, rfl, rfl, rfl, trivial⟩ (H.sel [1, 0, 3] rfl) ?_ ?_
 ·
  clear H e
  rintro T0 k0 s0 g0 w1 o0 hk (H : Cx w0 fp0 S0 w1 [Bx b6 [(.int .i64 0), (.slice none 0 0), (.slice none 0 0), (.slice none 0 0)], E (List (Int × (List (Int × Int × List Int × List Int)) × List Int × List Int)) s0 g0, Es (List (Int × Int × ByteArray)) t__0 t__0h]) hrt f1
  refine boolE (z := true) (ltLen hk) ?_
  refine sq ?_
  refine sq ?_
  obtain ⟨a0, e, f2⟩ := bindS f1; clear f1
  have HH := H; clear H; obtain ⟨p0, m0, g1, c0, c1, c2, c3, H⟩ := HH.el (α := Int × Int × ByteArray) 2 rfl e; clear HH
  clear e
  obtain ⟨a0_0, a0_1, a0_2⟩ := a0
  obtain ⟨_, _, _⟩ := g1
  replace H := H.sel [1, 2, 3] rfl
  refine idxE c0 c1 c2 ?_; clear c0 c1 c2
  refine loadN [(.int .i64 a0_0), (.int .i64 a0_1), (.string a0_2)] rfl c3 ?_; clear c3
  refine alloc_ gok rfl H ?_; clear H; intro b0 w3 hx H
  clear hx
  refine stA gok [(.int .i64 a0_0), (.int .i64 a0_1), (.string a0_2)] rfl H rfl rfl rfl ?_; clear H; intro w4 H
  refine lenE (H.ro (α := List (Int × (List (Int × Int × List Int × List Int)) × List Int × List Int)) 2 rfl).len ?_
  obtain ⟨a1, e, f3⟩ := bindS f2; clear f2
  refine arO e ?_; clear e
  refine alloc_ gok rfl H ?_; clear H; intro b1 w6 hx H
  clear hx
  refine sq ?_
  refine fld gok rfl rfl rfl rfl ?_
  refine load1 (H.bx 1 rfl (j := 0) rfl) ?_
  obtain ⟨a2, e, f4⟩ := bindS f3; clear f3
  refine boolO e ?_; clear e
  cases a2
  ·
   have f5 := condF f4; clear f4
   obtain ⟨a3, e, f6⟩ := bindS f5; clear f5
   refine boolO e ?_; clear e
   cases a3
   ·
    have f7 := condF f6; clear f6
    refine loadN [(.int .i64 a0_0), (.int .i64 a0_1), (.string a0_2)] rfl (fun j u hj => H.bx 1 rfl hj) ?_
    obtain ⟨y0, e, f8⟩ := bindS f7; clear f7
    obtain ⟨y0_0, y0_1, y0_2, y0_3⟩ := y0
    have i0 := e; clear e
    refine callF (impl_leafGraph_c a0_0 a0_1 a0_2 y0_0 y0_1 y0_2 y0_3 i0) (Γi := []) H trivial ?_; clear H i0
    rintro _ _ w7 ⟨h0, h1, h2, rfl, rfl⟩ H
    replace H := H.sel [3, 0, 1, 2, 4, 5, 6, 7] rfl
    refine stA gok [(.int .i64 y0_0), (h0).v, (h1).v, (h2).v] rfl H rfl rfl rfl ?_; clear H; intro w9 H
    refine sq ?_
    refine loadN [(.int .i64 y0_0), (h0).v, (h1).v, (h2).v] rfl (fun j u hj => H.bx 0 rfl hj) ?_
    obtain ⟨y2, e, f9⟩ := bindS f8; clear f8
    have i1 := e; clear e
    refine callF (impl_Graph_isGraph_c y0_0 y0_1 h0 y0_2 h1 y0_3 h2 y2 i1) (Γi := []) H ⟨Vw.own 1 rfl, Vw.own 2 rfl, Vw.own 3 rfl, trivial⟩ ?_; clear H i1
    rintro _ _ w10 ⟨rfl, rfl⟩ H
    obtain ⟨a4, e, f10⟩ := bindS f9; clear f9
    refine boolO e ?_; clear e
    cases a4
    ·
     have f11 := condF f10; clear f10
     refine loadN [(.int .i64 y0_0), (h0).v, (h1).v, (h2).v] rfl (fun j u hj => H.bx 0 rfl hj) ?_
     replace H := H.sel [1, 2, 3, 0, 4, 5, 6, 7] rfl
     replace H := H.sel [1, 2, 0, 3, 4, 5, 6, 7] rfl
     replace H := H.join (α := List Int) (β := List Int)
     replace H := H.sel [1, 0, 2, 3, 4, 5, 6] rfl
     replace H := H.join (α := List (Int × Int × List Int × List Int)) (β := List Int × List Int)
     replace H := H.sc (α := Int) y0_0
     replace H := H.join (α := Int) (β := (List (Int × Int × List Int × List Int)) × List Int × List Int)
     refine lit1 (α := Int × (List (Int × Int × List Int × List Int)) × List Int × List Int) (g := ((), h0, h1, h2)) gok rfl rfl rfl rfl rfl H ?_; clear H; intro h3 w11 hx H
     clear hx
     obtain ⟨a5, e, f12⟩ := bindS f11; clear f11
     replace H := H.sel [4, 0, 1, 2, 3, 5] rfl
     refine append_ (α := Int × (List (Int × Int × List Int × List Int)) × List Int × List Int) gok rfl rfl rfl rfl H e ?_; clear e H; intro h4 w12 H
     refine arK hk x0 ?_
     have hs := Option.some.inj f12; subst hs; clear f12
     exact ⟨a5, h4, rfl, ⟨rfl, rfl, rfl, rfl, rfl, trivial⟩, H.sel [3, 0, 4] rfl⟩
    ·
     have f13 := condT f10; clear f10
     refine build_ (cs := #[(.int .i64 0), (.slice none 0 0), (.slice none 0 0), (.slice none 0 0)]) gok rfl rfl rfl ?_
     replace H := H.sel [5, 0, 1, 2, 3, 4, 6, 7] rfl
     refine stA gok [(.int .i64 0), (.slice none 0 0), (.slice none 0 0), (.slice none 0 0)] rfl H rfl rfl rfl ?_; clear H; intro w13 H
     have hs := Option.some.inj f13; subst hs; clear f13
     have hr := hrt _ rfl; subst hr
     have f14 : some _ = some _ := f0
     refine loadN [(.int .i64 0), (.slice none 0 0), (.slice none 0 0), (.slice none 0 0)] rfl (fun j u hj => H.bx 0 rfl hj) ?_
     replace H := H.nil (α := Int × Int × List Int × List Int)
     replace H := H.nil (α := Int)
     replace H := H.nil (α := Int)
     cases f14
     exact ⟨_, _, rfl, ⟨nilH, nilH, nilH, rfl, rfl⟩, (H.sel [2, 1, 0] rfl).close ⟨cloE, cloE, cloE, trivial⟩⟩
   ·
    have f15 := condT f6; clear f6
    refine heldX H [10] (.fst 0 (.fst 1 (.fst 2 (.fst 3 (.fst 5 (.fst 6 (.fst 7 (.fst 4 (.fst 8 (.act 9 (.act 10 .done))))))))))) mixed [] trivial (by kernel_rfl) ?_
    clear H; intro w14 H
    have hX : Ext w14 w14 := Upd.refl _ _
    have H0 := H
    obtain ⟨a6, e, f16⟩ := bindS f15; clear f15
    refine arO e ?_; clear e
    obtain ⟨a7, e, f17⟩ := bindS f16; clear f16
    replace H := H.sel [3, 0, 1, 2, 4] rfl
    replace H := H.toEH (α := Int × (List (Int × Int × List Int × List Int)) × List Int × List Int)
    have HH := H; clear H; obtain ⟨p1, m1, g2, c4, c5, c6, c7, H⟩ := HH.peek e; clear HH
    clear e
    obtain ⟨a7_0, a7_1, a7_2, a7_3⟩ := a7
    obtain ⟨_, h5, h6, h7⟩ := g2
    refine idxE c4 c5 c6 ?_
    obtain ⟨a8, e, f18⟩ := bindS f17; clear f17
    have HH := H; clear H; obtain ⟨p2, m2, g3, c8, c9, c10, c11, H⟩ := HH.peek e; clear HH
    clear e
    obtain ⟨a8_0, a8_1, a8_2, a8_3⟩ := a8
    obtain ⟨_, h8, h10, h11⟩ := g3
    refine idxE c8 c9 c10 ?_
    refine loadNX [(.int .i64 a7_0), (h5).v, (h6).v, (h7).v] rfl c7 ?_; clear c7
    refine loadNX [(.int .i64 a8_0), (h8).v, (h10).v, (h11).v] rfl c11 ?_; clear c11
    obtain ⟨y3, e, f19⟩ := bindS f18; clear f18
    obtain ⟨y3_0, y3_1, y3_2, y3_3⟩ := y3
    have i2 := e; clear e
    refine callFx (impl_parGraphs_c a7_0 a7_1 h5 a7_2 h6 a7_3 h7 a8_0 a8_1 h8 a8_2 h10 a8_3 h11 y3_0 y3_1 y3_2 y3_3 i2) H ⟨Vw.part (β := List (Int × Int × List Int × List Int)) (Vw.eh (α := Int × (List (Int × Int × List Int × List Int)) × List Int × List Int) (k := ⟨m1, (a7_0, a7_1, a7_2, a7_3), ((), h5, h6, h7)⟩) 0 rfl 1 rfl) a7_1 (h5 : Hd) (fun S h => (And.left (And.right h))), Vw.part (β := List Int) (Vw.eh (α := Int × (List (Int × Int × List Int × List Int)) × List Int × List Int) (k := ⟨m1, (a7_0, a7_1, a7_2, a7_3), ((), h5, h6, h7)⟩) 0 rfl 1 rfl) a7_2 (h6 : Hd) (fun S h => (And.left (And.right (And.right h)))), Vw.part (β := List Int) (Vw.eh (α := Int × (List (Int × Int × List Int × List Int)) × List Int × List Int) (k := ⟨m1, (a7_0, a7_1, a7_2, a7_3), ((), h5, h6, h7)⟩) 0 rfl 1 rfl) a7_3 (h7 : Hd) (fun S h => (And.right (And.right (And.right h)))), Vw.part (β := List (Int × Int × List Int × List Int)) (Vw.eh (α := Int × (List (Int × Int × List Int × List Int)) × List Int × List Int) (k := ⟨m2, (a8_0, a8_1, a8_2, a8_3), ((), h8, h10, h11)⟩) 0 rfl 0 rfl) a8_1 (h8 : Hd) (fun S h => (And.left (And.right h))), Vw.part (β := List Int) (Vw.eh (α := Int × (List (Int × Int × List Int × List Int)) × List Int × List Int) (k := ⟨m2, (a8_0, a8_1, a8_2, a8_3), ((), h8, h10, h11)⟩) 0 rfl 0 rfl) a8_2 (h10 : Hd) (fun S h => (And.left (And.right (And.right h)))), Vw.part (β := List Int) (Vw.eh (α := Int × (List (Int × Int × List Int × List Int)) × List Int × List Int) (k := ⟨m2, (a8_0, a8_1, a8_2, a8_3), ((), h8, h10, h11)⟩) 0 rfl 0 rfl) a8_3 (h11 : Hd) (fun S h => (And.right (And.right (And.right h)))), trivial⟩ ?_; clear H i2
    rintro _ _ w15 ⟨h12, h13, h14, rfl, rfl⟩ hx H
    replace hX := hX.trans0 hx; clear hx
    refine hold hX ?_
    replace H := H.sel [4, 0, 1, 2, 3, 5, 6, 7] rfl
    refine stA gok [(.int .i64 y3_0), (h12).v, (h13).v, (h14).v] rfl H rfl rfl rfl ?_; clear H; intro w16 H
    refine hold trivial ?_
    replace H := H.sel [4, 0, 1, 2, 3, 5, 6, 7] rfl
    replace H := H.ofEH
    obtain ⟨a9, e, f20⟩ := bindS f19; clear f19
    refine arO e ?_; clear e
    obtain ⟨a10, e, f21⟩ := bindS f20; clear f20
    refine slO (α := Int × (List (Int × Int × List Int × List Int)) × List Int × List Int) gok rfl rfl H e rfl rfl ?_; clear e H; intro h15 H
    refine sq ?_
    refine loadN [(.int .i64 y3_0), (h12).v, (h13).v, (h14).v] rfl (fun j u hj => H.bx 1 rfl hj) ?_
    obtain ⟨y4, e, f22⟩ := bindS f21; clear f21
    have i3 := e; clear e
    refine callF (impl_Graph_isGraph_c y3_0 y3_1 h12 y3_2 h13 y3_3 h14 y4 i3) (Γi := []) H ⟨Vw.own 2 rfl, Vw.own 3 rfl, Vw.own 4 rfl, trivial⟩ ?_; clear H i3
    rintro _ _ w17 ⟨rfl, rfl⟩ H
    obtain ⟨a11, e, f23⟩ := bindS f22; clear f22
    refine boolO e ?_; clear e
    cases a11
    ·
     have f24 := condF f23; clear f23
     refine loadN [(.int .i64 y3_0), (h12).v, (h13).v, (h14).v] rfl (fun j u hj => H.bx 1 rfl hj) ?_
     replace H := H.sel [2, 3, 4, 0, 1, 5, 6, 7] rfl
     replace H := H.sel [1, 2, 0, 3, 4, 5, 6, 7] rfl
     replace H := H.join (α := List Int) (β := List Int)
     replace H := H.sel [1, 0, 2, 3, 4, 5, 6] rfl
     replace H := H.join (α := List (Int × Int × List Int × List Int)) (β := List Int × List Int)
     replace H := H.sc (α := Int) y3_0
     replace H := H.join (α := Int) (β := (List (Int × Int × List Int × List Int)) × List Int × List Int)
     refine lit1 (α := Int × (List (Int × Int × List Int × List Int)) × List Int × List Int) (g := ((), h12, h13, h14)) gok rfl rfl rfl rfl rfl H ?_; clear H; intro h16 w18 hx H
     clear hx
     obtain ⟨a12, e, f25⟩ := bindS f24; clear f24
     replace H := H.sel [1, 0, 2, 3, 4, 5] rfl
     refine append_ (α := Int × (List (Int × Int × List Int × List Int)) × List Int × List Int) gok rfl rfl rfl rfl H e ?_; clear e H; intro h17 w19 H
     refine arK hk x0 ?_
     have hs := Option.some.inj f25; subst hs; clear f25
     exact ⟨a12, h17, rfl, ⟨rfl, rfl, rfl, rfl, rfl, trivial⟩, H.sel [3, 0, 4] rfl⟩
    ·
     have f26 := condT f23; clear f23
     refine build_ (cs := #[(.int .i64 0), (.slice none 0 0), (.slice none 0 0), (.slice none 0 0)]) gok rfl rfl rfl ?_
     replace H := H.sel [6, 0, 1, 2, 3, 4, 5, 7] rfl
     refine stA gok [(.int .i64 0), (.slice none 0 0), (.slice none 0 0), (.slice none 0 0)] rfl H rfl rfl rfl ?_; clear H; intro w20 H
     have hs := Option.some.inj f26; subst hs; clear f26
     have hr := hrt _ rfl; subst hr
     have f27 : some _ = some _ := f0
     refine loadN [(.int .i64 0), (.slice none 0 0), (.slice none 0 0), (.slice none 0 0)] rfl (fun j u hj => H.bx 0 rfl hj) ?_
     replace H := H.nil (α := Int × Int × List Int × List Int)
     replace H := H.nil (α := Int)
     replace H := H.nil (α := Int)
     cases f27
     exact ⟨_, _, rfl, ⟨nilH, nilH, nilH, rfl, rfl⟩, (H.sel [2, 1, 0] rfl).close ⟨cloE, cloE, cloE, trivial⟩⟩
  ·
   have f28 := condT f4; clear f4
   refine heldX H [10] (.fst 0 (.fst 1 (.fst 2 (.fst 3 (.fst 5 (.fst 6 (.fst 7 (.fst 4 (.fst 8 (.act 9 (.act 10 .done))))))))))) mixed [] trivial (by kernel_rfl) ?_
   clear H; intro w21 H
   have hX : Ext w21 w21 := Upd.refl _ _
   have H0 := H
   obtain ⟨a13, e, f29⟩ := bindS f28; clear f28
   refine arO e ?_; clear e
   obtain ⟨a14, e, f30⟩ := bindS f29; clear f29
   replace H := H.sel [3, 0, 1, 2, 4] rfl
   replace H := H.toEH (α := Int × (List (Int × Int × List Int × List Int)) × List Int × List Int)
   have HH := H; clear H; obtain ⟨p3, m3, g4, c12, c13, c14, c15, H⟩ := HH.peek e; clear HH
   clear e
   obtain ⟨a14_0, a14_1, a14_2, a14_3⟩ := a14
   obtain ⟨_, h18, h19, h20⟩ := g4
   refine idxE c12 c13 c14 ?_
   obtain ⟨a15, e, f31⟩ := bindS f30; clear f30
   have HH := H; clear H; obtain ⟨p4, m4, g5, c16, c17, c18, c19, H⟩ := HH.peek e; clear HH
   clear e
   obtain ⟨a15_0, a15_1, a15_2, a15_3⟩ := a15
   obtain ⟨_, h21, h22, h23⟩ := g5
   refine idxE c16 c17 c18 ?_
   refine loadNX [(.int .i64 a14_0), (h18).v, (h19).v, (h20).v] rfl c15 ?_; clear c15
   refine loadNX [(.int .i64 a15_0), (h21).v, (h22).v, (h23).v] rfl c19 ?_; clear c19
   obtain ⟨y5, e, f32⟩ := bindS f31; clear f31
   obtain ⟨y5_0, y5_1, y5_2, y5_3⟩ := y5
   have i4 := e; clear e
   refine callFx (impl_seqGraphs_c a14_0 a14_1 h18 a14_2 h19 a14_3 h20 a15_0 a15_1 h21 a15_2 h22 a15_3 h23 y5_0 y5_1 y5_2 y5_3 i4) H ⟨Vw.part (β := List (Int × Int × List Int × List Int)) (Vw.eh (α := Int × (List (Int × Int × List Int × List Int)) × List Int × List Int) (k := ⟨m3, (a14_0, a14_1, a14_2, a14_3), ((), h18, h19, h20)⟩) 0 rfl 1 rfl) a14_1 (h18 : Hd) (fun S h => (And.left (And.right h))), Vw.part (β := List Int) (Vw.eh (α := Int × (List (Int × Int × List Int × List Int)) × List Int × List Int) (k := ⟨m3, (a14_0, a14_1, a14_2, a14_3), ((), h18, h19, h20)⟩) 0 rfl 1 rfl) a14_2 (h19 : Hd) (fun S h => (And.left (And.right (And.right h)))), Vw.part (β := List Int) (Vw.eh (α := Int × (List (Int × Int × List Int × List Int)) × List Int × List Int) (k := ⟨m3, (a14_0, a14_1, a14_2, a14_3), ((), h18, h19, h20)⟩) 0 rfl 1 rfl) a14_3 (h20 : Hd) (fun S h => (And.right (And.right (And.right h)))), Vw.part (β := List (Int × Int × List Int × List Int)) (Vw.eh (α := Int × (List (Int × Int × List Int × List Int)) × List Int × List Int) (k := ⟨m4, (a15_0, a15_1, a15_2, a15_3), ((), h21, h22, h23)⟩) 0 rfl 0 rfl) a15_1 (h21 : Hd) (fun S h => (And.left (And.right h))), Vw.part (β := List Int) (Vw.eh (α := Int × (List (Int × Int × List Int × List Int)) × List Int × List Int) (k := ⟨m4, (a15_0, a15_1, a15_2, a15_3), ((), h21, h22, h23)⟩) 0 rfl 0 rfl) a15_2 (h22 : Hd) (fun S h => (And.left (And.right (And.right h)))), Vw.part (β := List Int) (Vw.eh (α := Int × (List (Int × Int × List Int × List Int)) × List Int × List Int) (k := ⟨m4, (a15_0, a15_1, a15_2, a15_3), ((), h21, h22, h23)⟩) 0 rfl 0 rfl) a15_3 (h23 : Hd) (fun S h => (And.right (And.right (And.right h)))), trivial⟩ ?_; clear H i4
   rintro _ _ w22 ⟨h24, h25, h26, rfl, rfl⟩ hx H
   replace hX := hX.trans0 hx; clear hx
   refine hold hX ?_
   replace H := H.sel [4, 0, 1, 2, 3, 5, 6, 7] rfl
   refine stA gok [(.int .i64 y5_0), (h24).v, (h25).v, (h26).v] rfl H rfl rfl rfl ?_; clear H; intro w23 H
   refine hold trivial ?_
   replace H := H.sel [4, 0, 1, 2, 3, 5, 6, 7] rfl
   replace H := H.ofEH
   obtain ⟨a16, e, f33⟩ := bindS f32; clear f32
   refine arO e ?_; clear e
   obtain ⟨a17, e, f34⟩ := bindS f33; clear f33
   refine slO (α := Int × (List (Int × Int × List Int × List Int)) × List Int × List Int) gok rfl rfl H e rfl rfl ?_; clear e H; intro h27 H
   refine sq ?_
   refine loadN [(.int .i64 y5_0), (h24).v, (h25).v, (h26).v] rfl (fun j u hj => H.bx 1 rfl hj) ?_
   obtain ⟨y6, e, f35⟩ := bindS f34; clear f34
   have i5 := e; clear e
   refine callF (impl_Graph_isGraph_c y5_0 y5_1 h24 y5_2 h25 y5_3 h26 y6 i5) (Γi := []) H ⟨Vw.own 2 rfl, Vw.own 3 rfl, Vw.own 4 rfl, trivial⟩ ?_; clear H i5
   rintro _ _ w24 ⟨rfl, rfl⟩ H
   obtain ⟨a18, e, f36⟩ := bindS f35; clear f35
   refine boolO e ?_; clear e
   cases a18
   ·
    have f37 := condF f36; clear f36
    refine loadN [(.int .i64 y5_0), (h24).v, (h25).v, (h26).v] rfl (fun j u hj => H.bx 1 rfl hj) ?_
    replace H := H.sel [2, 3, 4, 0, 1, 5, 6, 7] rfl
    replace H := H.sel [1, 2, 0, 3, 4, 5, 6, 7] rfl
    replace H := H.join (α := List Int) (β := List Int)
    replace H := H.sel [1, 0, 2, 3, 4, 5, 6] rfl
    replace H := H.join (α := List (Int × Int × List Int × List Int)) (β := List Int × List Int)
    replace H := H.sc (α := Int) y5_0
    replace H := H.join (α := Int) (β := (List (Int × Int × List Int × List Int)) × List Int × List Int)
    refine lit1 (α := Int × (List (Int × Int × List Int × List Int)) × List Int × List Int) (g := ((), h24, h25, h26)) gok rfl rfl rfl rfl rfl H ?_; clear H; intro h28 w25 hx H
    clear hx
    obtain ⟨a19, e, f38⟩ := bindS f37; clear f37
    replace H := H.sel [1, 0, 2, 3, 4, 5] rfl
    refine append_ (α := Int × (List (Int × Int × List Int × List Int)) × List Int × List Int) gok rfl rfl rfl rfl H e ?_; clear e H; intro h29 w26 H
    refine arK hk x0 ?_
    have hs := Option.some.inj f38; subst hs; clear f38
    exact ⟨a19, h29, rfl, ⟨rfl, rfl, rfl, rfl, rfl, trivial⟩, H.sel [3, 0, 4] rfl⟩
   ·
    have f39 := condT f36; clear f36
    refine build_ (cs := #[(.int .i64 0), (.slice none 0 0), (.slice none 0 0), (.slice none 0 0)]) gok rfl rfl rfl ?_
    replace H := H.sel [6, 0, 1, 2, 3, 4, 5, 7] rfl
    refine stA gok [(.int .i64 0), (.slice none 0 0), (.slice none 0 0), (.slice none 0 0)] rfl H rfl rfl rfl ?_; clear H; intro w27 H
    have hs := Option.some.inj f39; subst hs; clear f39
    have hr := hrt _ rfl; subst hr
    have f40 : some _ = some _ := f0
    refine loadN [(.int .i64 0), (.slice none 0 0), (.slice none 0 0), (.slice none 0 0)] rfl (fun j u hj => H.bx 0 rfl hj) ?_
    replace H := H.nil (α := Int × Int × List Int × List Int)
    replace H := H.nil (α := Int)
    replace H := H.nil (α := Int)
    cases f40
    exact ⟨_, _, rfl, ⟨nilH, nilH, nilH, rfl, rfl⟩, (H.sel [2, 1, 0] rfl).close ⟨cloE, cloE, cloE, trivial⟩⟩
 ·
  clear H e
  rintro T1 s1 g6 w28 hr (H : Cx w0 fp0 S0 w28 [Bx b6 [(.int .i64 0), (.slice none 0 0), (.slice none 0 0), (.slice none 0 0)], E (List (Int × (List (Int × Int × List Int × List Int)) × List Int × List Int)) s1 g6, Es (List (Int × Int × ByteArray)) t__0 t__0h])
  subst hr
  refine boolE (z := false) geLen ?_
  refine sq ?_
  obtain ⟨a20, e, f41⟩ := bindS f0; clear f0
  replace H := H.sel [1, 0, 2] rfl
  replace H := H.toEH (α := Int × (List (Int × Int × List Int × List Int)) × List Int × List Int)
  have HH := H; clear H; obtain ⟨p5, m5, g7, c20, c21, c22, c23, H⟩ := HH.peek e; clear HH
  clear e
  obtain ⟨a20_0, a20_1, a20_2, a20_3⟩ := a20
  obtain ⟨_, h30, h31, h32⟩ := g7
  refine idxE c20 c21 c22 ?_
  replace H := H.takeK 0 rfl
  replace H := H.sel [0, 2, 3] rfl
  replace H := H.split
  replace H := H.sel [1, 2, 3] rfl
  replace H := H.split
  replace H := H.sel [1, 0, 2, 3] rfl
  replace H := H.split
  refine loadN [(.int .i64 a20_0), (h30).v, (h31).v, (h32).v] rfl c23 ?_; clear c23
  replace H := H.sel [3, 0, 1, 2, 4] rfl
  refine stA gok [(.int .i64 a20_0), (h30).v, (h31).v, (h32).v] rfl H rfl rfl rfl ?_; clear H; intro w29 H
  refine loadN [(.int .i64 a20_0), (h30).v, (h31).v, (h32).v] rfl (fun j u hj => H.bx 0 rfl hj) ?_
  cases f41
  exact ⟨_, _, rfl, ⟨h30, h31, h32, rfl, rfl⟩, (H.sel [3, 1, 2] rfl).close ⟨cloE, cloE, cloE, trivial⟩⟩

theorem impl_GraphOf_c (t__0 : List (Int × Int × ByteArray)) (t__0h : Hd) (y0_0 : Int) (y0_1 : List (Int × Int × List Int × List Int)) (y0_2 : List Int) (y0_3 : List Int) (y1 : Bool) (hF : F_impl_GraphOf t__0 = some ((y0_0, y0_1, y0_2, y0_3), y1)) :
  ConF Tryz.prog 15 #[(.agg #[(t__0h).v])] [Es (List (Int × Int × ByteArray)) t__0 t__0h] [] (fun v Γ' => ∃ z0 z1 z2 : Hd, v = (.tuple #[(.agg #[(.int .i64 y0_0), (z0).v, (z1).v, (z2).v]), (.bool y1)]) ∧ Γ' = [E (List (Int × Int × List Int × List Int)) y0_1 z0, E (List Int) y0_2 z1, E (List Int) y0_3 z2]) := by
 intro w0 S0 fp0 hI hS
 have H : Cx w0 fp0 S0 w0 [Es (List (Int × Int × ByteArray)) t__0 t__0h] := Cx.start hI hS
 clear hI hS
 refine enterC (args := [_]) gok Tryz.func15 rfl _ rfl rfl rfl ?_
 refine box_ H ?_; clear H; intro b3 w2 hx H
 clear hx
 refine alloc_ gok rfl H ?_; clear H; intro b6 w5 hx H
 clear hx
 refine sq ?_
 refine loadN [(t__0h).v] rfl (fun j u hj => H.bx 1 rfl hj) ?_
 obtain ⟨y8, e, hF9⟩ := bindS hF; clear hF
 have ey8 := e; clear e
 refine callF (impl_Term_isValid_c t__0 t__0h y8 ey8) (Γi := []) H ⟨Vw.sh 2 rfl, trivial⟩ ?_; clear H ey8
 rintro _ _ w1 ⟨rfl, rfl⟩ H
 obtain ⟨a0, e, f0⟩ := bindS hF9; clear hF9
 refine boolO e ?_; clear e
 cases a0
 ·
  have f1 := condF f0; clear f0
  refine loadN [(t__0h).v] rfl (fun j u hj => H.bx 1 rfl hj) ?_
  obtain ⟨y0, e, f2⟩ := bindS f1; clear f1
  obtain ⟨⟨y0_0_0, y0_0_1, y0_0_2, y0_0_3⟩, y0_1⟩ := y0
  have i0 := e; clear e
  refine callF (impl_graphOf_c t__0 t__0h y0_0_0 y0_0_1 y0_0_2 y0_0_3 y0_1 i0) (Γi := []) H ⟨Vw.sh 2 rfl, trivial⟩ ?_; clear H i0
  rintro _ _ w3 ⟨h0, h1, h2, rfl, rfl⟩ H
  replace H := H.sel [3, 0, 1, 2, 4, 5] rfl
  refine stA gok [(.int .i64 y0_0_0), (h0).v, (h1).v, (h2).v] rfl H rfl rfl rfl ?_; clear H; intro w4 H
  refine loadN [(.int .i64 y0_0_0), (h0).v, (h1).v, (h2).v] rfl (fun j u hj => H.bx 0 rfl hj) ?_
  cases f2
  exact ⟨_, _, rfl, ⟨h0, h1, h2, rfl, rfl⟩, (H.sel [1, 2, 3] rfl).close ⟨cloE, cloE, cloE, trivial⟩⟩
 ·
  have f3 := condT f0; clear f0
  refine build_ (cs := #[(.int .i64 0), (.slice none 0 0), (.slice none 0 0), (.slice none 0 0)]) gok rfl rfl rfl ?_
  refine stA gok [(.int .i64 0), (.slice none 0 0), (.slice none 0 0), (.slice none 0 0)] rfl H rfl rfl rfl ?_; clear H; intro w6 H
  refine loadN [(.int .i64 0), (.slice none 0 0), (.slice none 0 0), (.slice none 0 0)] rfl (fun j u hj => H.bx 0 rfl hj) ?_
  replace H := H.nil (α := Int × Int × List Int × List Int)
  replace H := H.nil (α := Int)
  replace H := H.nil (α := Int)
  cases f3
  exact ⟨_, _, rfl, ⟨nilH, nilH, nilH, rfl, rfl⟩, (H.sel [2, 1, 0] rfl).close ⟨cloE, cloE, cloE, trivial⟩⟩

theorem slices_Index_int_int_c (s_ : List Int) (s_h : Hd) (v_ : Int) (y : Int) (hF : F_slices_Index_int_int s_ v_ = some y) :
  ConF Tryz.prog 75 #[(s_h).v, (.int .i64 v_)] [Es (List Int) s_ s_h] [] (fun v Γ' => v = (.int .i64 y) ∧ Γ' = []) := by
 intro w0 S0 fp0 hI hS
 have H : Cx w0 fp0 S0 w0 [Es (List Int) s_ s_h] := Cx.start hI hS
 clear hI hS
 refine enterC (args := [_, _]) gok Tryz.func75 rfl _ rfl rfl rfl ?_
 refine sq ?_
 refine lenE (H.rs (α := List Int) 0 rfl).len ?_
 have x0 := (H.rs (α := List Int) 0 rfl).max
 obtain ⟨r0, e, f0⟩ := bindS hF; clear hF
 refine loopO _ s_.length (fun (k2 : Nat) (_ : Unit) (_ : Unit) => [(0, (s_h).v), (1, (.int .i64 v_)), (7, (.int .i64 ((s_.length : Nat) : Int))), (8, (.int .i64 ((k2 : Nat) : Int)))]) (fun _ (_ : Unit) (_ : Unit) w' => Cx w0 fp0 S0 w' [Es (List Int) s_ s_h]) () () e ⟨rfl, rfl, rfl, rfl, trivial⟩ (H.sel [0] rfl) ?_ ?_
 ·
  clear H e
  rintro T0 k2 _ _ w1 o0 hk (H : Cx w0 fp0 S0 w1 [Es (List Int) s_ s_h]) hrt f1
  refine boolE (z := true) (ltLen hk) ?_
  refine sq ?_
  refine sq ?_
  obtain ⟨a0, e, f2⟩ := bindS f1; clear f1
  obtain ⟨p0, m0, c0, c1, c2, c3⟩ := (H.rs (α := List Int) 0 rfl).at1 e; clear e
  refine idxE c0 c1 c2 ?_; clear c0 c1 c2
  refine load1 c3 ?_; clear c3
  obtain ⟨a1, e, f3⟩ := bindS f2; clear f2
  refine boolO e ?_; clear e
  cases a1
  ·
   have f4 := condF f3; clear f3
   refine arK hk x0 ?_
   have hs := Option.some.inj f4; subst hs; clear f4
   exact ⟨(), (), rfl, ⟨rfl, rfl, rfl, rfl, trivial⟩, H.sel [0] rfl⟩
  ·
   have f5 := condT f3; clear f3
   have hs := Option.some.inj f5; subst hs; clear f5
   have hr := hrt _ rfl; subst hr
   have f6 : some _ = some _ := f0
   cases f6
   exact ⟨_, _, rfl, ⟨rfl, rfl⟩, (H.sel [] rfl).close trivial⟩
 ·
  clear H e
  rintro T1 _ _ w2 hr (H : Cx w0 fp0 S0 w2 [Es (List Int) s_ s_h])
  subst hr
  refine boolE (z := false) geLen ?_
  refine sq ?_
  cases f0
  exact ⟨_, _, rfl, ⟨rfl, rfl⟩, (H.sel [] rfl).close trivial⟩

theorem slices_Contains_int_int_c (s_ : List Int) (s_h : Hd) (v_ : Int) (y : Bool) (hF : F_slices_Contains_int_int s_ v_ = some y) :
  ConF Tryz.prog 76 #[(s_h).v, (.int .i64 v_)] [Es (List Int) s_ s_h] [] (fun v Γ' => v = (.bool y) ∧ Γ' = []) := by
 intro w0 S0 fp0 hI hS
 have H : Cx w0 fp0 S0 w0 [Es (List Int) s_ s_h] := Cx.start hI hS
 clear hI hS
 refine enterC (args := [_, _]) gok Tryz.func76 rfl _ rfl rfl rfl ?_
 obtain ⟨y2, e, hF3⟩ := bindS hF; clear hF
 have ey2 := e; clear e
 refine callF (slices_Index_int_int_c s_ s_h v_ y2 ey2) (Γi := []) H ⟨Vw.sh 0 rfl, trivial⟩ ?_; clear H ey2
 rintro _ _ w4 ⟨rfl, rfl⟩ H
 obtain ⟨a5, e, hF6⟩ := bindS hF3; clear hF3
 refine boolO e ?_; clear e
 cases hF6
 exact ⟨_, _, rfl, ⟨rfl, rfl⟩, (H.sel [] rfl).close trivial⟩

theorem impl_Graph_needs_1_c (w_ : Int) (c0_b : Nat) (c0__0 : Int) (c0__1 : Int) (c0__2 : List Int) (c0__2h : Hd) (c0__3 : List Int) (c0__3h : Hd) (y : Bool) (hF : F_impl_Graph_needs_1 w_ (c0__0, c0__1, c0__2, c0__3) = some y) :
  ConF Tryz.prog 77 #[(.int .i64 w_), (.pointer (some ⟨c0_b, 0, none⟩))] [Es (List Int) c0__2 c0__2h, Es (List Int) c0__3 c0__3h] [Bx c0_b [(.int .i64 c0__0), (.int .i64 c0__1), (c0__2h).v, (c0__3h).v]] (fun v Γ' => v = (.bool y) ∧ Γ' = [Bx c0_b [(.int .i64 c0__0), (.int .i64 c0__1), (c0__2h).v, (c0__3h).v]]) := by
 intro w0 S0 fp0 hI hS
 have H : Cx w0 fp0 S0 w0 [Es (List Int) c0__2 c0__2h, Es (List Int) c0__3 c0__3h, Bx c0_b [(.int .i64 c0__0), (.int .i64 c0__1), (c0__2h).v, (c0__3h).v]] := Cx.start hI hS
 clear hI hS
 refine enterC (args := [_, _]) gok Tryz.func77 rfl _ rfl rfl rfl ?_
 refine fld gok rfl rfl rfl rfl ?_
 refine load1 (H.bx 2 rfl (j := 3) rfl) ?_
 obtain ⟨y4, e, hF5⟩ := bindS hF; clear hF
 have ey4 := e; clear e
 refine callF (slices_Contains_int_int_c c0__3 c0__3h w_ y4 ey4) (Γi := []) H ⟨Vw.sh 1 rfl, trivial⟩ ?_; clear H ey4
 rintro _ _ w6 ⟨rfl, rfl⟩ H
 cases hF5
 exact ⟨_, _, rfl, ⟨rfl, rfl⟩, (H.sel [2] rfl).close ⟨cloB, trivial⟩⟩

theorem slices_IndexFunc_int_int_impl_Graph_needs_1_c (s_ : List Int) (s_h : Hd) (d0_b : Nat) (d0__0 : Int) (d0__1 : Int) (d0__2 : List Int) (d0__2h : Hd) (d0__3 : List Int) (d0__3h : Hd) (y : Int) (hF : F_slices_IndexFunc_int_int_impl_Graph_needs_1 s_ (d0__0, d0__1, d0__2, d0__3) = some y) :
  ConF Tryz.prog 43 #[(s_h).v, (.func (.func 77) #[] #[(.pointer (some ⟨d0_b, 0, none⟩))])] [Es (List Int) s_ s_h, Es (List Int) d0__2 d0__2h, Es (List Int) d0__3 d0__3h] [Bx d0_b [(.int .i64 d0__0), (.int .i64 d0__1), (d0__2h).v, (d0__3h).v]] (fun v Γ' => v = (.int .i64 y) ∧ Γ' = [Bx d0_b [(.int .i64 d0__0), (.int .i64 d0__1), (d0__2h).v, (d0__3h).v]]) := by
 intro w0 S0 fp0 hI hS
 have H : Cx w0 fp0 S0 w0 [Es (List Int) s_ s_h, Es (List Int) d0__2 d0__2h, Es (List Int) d0__3 d0__3h, Bx d0_b [(.int .i64 d0__0), (.int .i64 d0__1), (d0__2h).v, (d0__3h).v]] := Cx.start hI hS
 clear hI hS
 refine enterC (args := [_, _]) gok Tryz.func43 rfl _ rfl rfl rfl ?_
 refine sq ?_
 refine lenE (H.rs (α := List Int) 0 rfl).len ?_
 have x0 := (H.rs (α := List Int) 0 rfl).max
 obtain ⟨r0, e, f0⟩ := bindS hF; clear hF
 refine loopO _ s_.length (fun (k5 : Nat) (_ : Unit) (_ : Unit) => [(0, (s_h).v), (1, (.func (.func 77) #[] #[(.pointer (some ⟨d0_b, 0, none⟩))])), (7, (.int .i64 ((s_.length : Nat) : Int))), (8, (.int .i64 ((k5 : Nat) : Int)))]) (fun _ (_ : Unit) (_ : Unit) w' => Cx w0 fp0 S0 w' [Es (List Int) s_ s_h, Bx d0_b [(.int .i64 d0__0), (.int .i64 d0__1), (d0__2h).v, (d0__3h).v], Es (List Int) d0__2 d0__2h, Es (List Int) d0__3 d0__3h]) () () e ⟨rfl, rfl, rfl, rfl, trivial⟩ (H.sel [0, 3, 1, 2] rfl) ?_ ?_
 ·
  clear H e
  rintro T0 k5 _ _ w1 o0 hk (H : Cx w0 fp0 S0 w1 [Es (List Int) s_ s_h, Bx d0_b [(.int .i64 d0__0), (.int .i64 d0__1), (d0__2h).v, (d0__3h).v], Es (List Int) d0__2 d0__2h, Es (List Int) d0__3 d0__3h]) hrt f1
  refine boolE (z := true) (ltLen hk) ?_
  refine sq ?_
  refine sq ?_
  obtain ⟨a0, e, f2⟩ := bindS f1; clear f1
  obtain ⟨p0, m0, c0, c1, c2, c3⟩ := (H.rs (α := List Int) 0 rfl).at1 e; clear e
  refine idxE c0 c1 c2 ?_; clear c0 c1 c2
  refine load1 c3 ?_; clear c3
  obtain ⟨y0, e, f3⟩ := bindS f2; clear f2
  have i0 := e; clear e
  replace H := H.sel [1, 0, 2, 3] rfl
  refine callF (impl_Graph_needs_1_c a0 d0_b d0__0 d0__1 d0__2 d0__2h d0__3 d0__3h y0 i0) (Γi := [Bx d0_b [(.int .i64 d0__0), (.int .i64 d0__1), (d0__2h).v, (d0__3h).v]]) H ⟨Vw.sh 1 rfl, Vw.sh 2 rfl, trivial⟩ ?_; clear H i0
  rintro _ _ w2 ⟨rfl, rfl⟩ H
  cases y0
  ·
   have f4 := condF f3; clear f3
   refine arK hk x0 ?_
   have hs := Option.some.inj f4; subst hs; clear f4
   exact ⟨(), (), rfl, ⟨rfl, rfl, rfl, rfl, trivial⟩, H.sel [1, 0, 2, 3] rfl⟩
  ·
   have f5 := condT f3; clear f3
   have hs := Option.some.inj f5; subst hs; clear f5
   have hr := hrt _ rfl; subst hr
   have f6 : some _ = some _ := f0
   cases f6
   exact ⟨_, _, rfl, ⟨rfl, rfl⟩, (H.sel [0] rfl).close ⟨cloB, trivial⟩⟩
 ·
  clear H e
  rintro T1 _ _ w3 hr (H : Cx w0 fp0 S0 w3 [Es (List Int) s_ s_h, Bx d0_b [(.int .i64 d0__0), (.int .i64 d0__1), (d0__2h).v, (d0__3h).v], Es (List Int) d0__2 d0__2h, Es (List Int) d0__3 d0__3h])
  subst hr
  refine boolE (z := false) geLen ?_
  refine sq ?_
  cases f0
  exact ⟨_, _, rfl, ⟨rfl, rfl⟩, (H.sel [1] rfl).close ⟨cloB, trivial⟩⟩

theorem slices_ContainsFunc_int_int_impl_Graph_needs_1_c (s_ : List Int) (s_h : Hd) (d0_b : Nat) (d0__0 : Int) (d0__1 : Int) (d0__2 : List Int) (d0__2h : Hd) (d0__3 : List Int) (d0__3h : Hd) (y : Bool) (hF : F_slices_ContainsFunc_int_int_impl_Graph_needs_1 s_ (d0__0, d0__1, d0__2, d0__3) = some y) :
  ConF Tryz.prog 46 #[(s_h).v, (.func (.func 77) #[] #[(.pointer (some ⟨d0_b, 0, none⟩))])] [Es (List Int) s_ s_h, Es (List Int) d0__2 d0__2h, Es (List Int) d0__3 d0__3h] [Bx d0_b [(.int .i64 d0__0), (.int .i64 d0__1), (d0__2h).v, (d0__3h).v]] (fun v Γ' => v = (.bool y) ∧ Γ' = [Bx d0_b [(.int .i64 d0__0), (.int .i64 d0__1), (d0__2h).v, (d0__3h).v]]) := by
 intro w0 S0 fp0 hI hS
 have H : Cx w0 fp0 S0 w0 [Es (List Int) s_ s_h, Es (List Int) d0__2 d0__2h, Es (List Int) d0__3 d0__3h, Bx d0_b [(.int .i64 d0__0), (.int .i64 d0__1), (d0__2h).v, (d0__3h).v]] := Cx.start hI hS
 clear hI hS
 refine enterC (args := [_, _]) gok Tryz.func46 rfl _ rfl rfl rfl ?_
 obtain ⟨y5, e, hF6⟩ := bindS hF; clear hF
 have ey5 := e; clear e
 replace H := H.sel [3, 0, 1, 2] rfl
 refine callF (slices_IndexFunc_int_int_impl_Graph_needs_1_c s_ s_h d0_b d0__0 d0__1 d0__2 d0__2h d0__3 d0__3h y5 ey5) (Γi := [Bx d0_b [(.int .i64 d0__0), (.int .i64 d0__1), (d0__2h).v, (d0__3h).v]]) H ⟨Vw.sh 0 rfl, Vw.sh 1 rfl, Vw.sh 2 rfl, trivial⟩ ?_; clear H ey5
 rintro _ _ w7 ⟨rfl, rfl⟩ H
 obtain ⟨a8, e, hF9⟩ := bindS hF6; clear hF6
 refine boolO e ?_; clear e
 cases hF9
 exact ⟨_, _, rfl, ⟨rfl, rfl⟩, (H.sel [0] rfl).close ⟨cloB, trivial⟩⟩

theorem impl_Graph_needs_c (g__0 : Int) (g__1 : List (Int × Int × List Int × List Int)) (g__1h : Hd) (g__2 : List Int) (g__2h : Hd) (g__3 : List Int) (g__3h : Hd) (y : List (List Int)) (hF : F_impl_Graph_needs (g__0, g__1, g__2, g__3) = some y) :
  ConF Tryz.prog 42 #[(.agg #[(.int .i64 g__0), (g__1h).v, (g__2h).v, (g__3h).v])] [Es (List (Int × Int × List Int × List Int)) g__1 g__1h, Es (List Int) g__2 g__2h, Es (List Int) g__3 g__3h] [] (fun v Γ' => ∃ z0 : Hd, v = (z0).v ∧ Γ' = [E (List (List Int)) y z0]) := by
 intro w0 S0 fp0 hI hS
 have H : Cx w0 fp0 S0 w0 [Es (List (Int × Int × List Int × List Int)) g__1 g__1h, Es (List Int) g__2 g__2h, Es (List Int) g__3 g__3h] := Cx.start hI hS
 clear hI hS
 refine enterC (args := [_]) gok Tryz.func42 rfl _ rfl rfl rfl ?_
 refine box_ H ?_; clear H; intro b5 w4 hx H
 clear hx
 refine fld gok rfl rfl rfl rfl ?_
 refine load1 (H.bx 0 rfl (j := 1) rfl) ?_
 refine lenE (H.rs (α := List (Int × Int × List Int × List Int)) 1 rfl).len ?_
 obtain ⟨a7, e, hF8⟩ := bindS hF; clear hF
 refine make_ (α := List Int) gok rfl rfl rfl rfl (makeCO_of e) H ?_; clear e H; intro h0 w9 hx H
 clear hx
 refine sq ?_
 refine fld gok rfl rfl rfl rfl ?_
 refine load1 (H.bx 1 rfl (j := 1) rfl) ?_
 refine lenE (H.rs (α := List (Int × Int × List Int × List Int)) 2 rfl).len ?_
 have x0 := (H.rs (α := List (Int × Int × List Int × List Int)) 2 rfl).max
 obtain ⟨r0, e, f0⟩ := bindS hF8; clear hF8
 refine loopS _ g__1.length (fun (k0 : Nat) (s0 : List (List Int)) (_ : Unit) => [(1, (.pointer (some ⟨b5, 0, none⟩))), (3, (h0).v), (13, (g__1h).v), (14, (.int .i64 ((g__1.length : Nat) : Int))), (15, (.int .i64 ((k0 : Nat) : Int)))]) (fun _ (s0 : List (List Int)) (_ : Unit) w' => Cx w0 fp0 S0 w' [Bx b5 [(.int .i64 g__0), (g__1h).v, (g__2h).v, (g__3h).v], Es (List (Int × Int × List Int × List Int)) g__1 g__1h, Es (List Int) g__2 g__2h, Es (List Int) g__3 g__3h, E (List (List Int)) s0 h0]) a7 () e ⟨rfl, rfl, rfl, rfl, rfl, trivial⟩ (H.sel [1, 2, 3, 4, 0] rfl) ?_ ?_
 ·
  clear H e
  rintro T0 k0 s0 _ w1 o0 hk (H : Cx w0 fp0 S0 w1 [Bx b5 [(.int .i64 g__0), (g__1h).v, (g__2h).v, (g__3h).v], Es (List (Int × Int × List Int × List Int)) g__1 g__1h, Es (List Int) g__2 g__2h, Es (List Int) g__3 g__3h, E (List (List Int)) s0 h0]) f1
  refine boolE (z := true) (ltLen hk) ?_
  refine sq ?_
  refine sq ?_
  obtain ⟨a0, e, f2⟩ := bindS f1; clear f1
  have HH := H; clear H; obtain ⟨p0, m0, g0, c0, c1, c2, c3, H⟩ := HH.el (α := Int × Int × List Int × List Int) 1 rfl e; clear HH
  clear e
  obtain ⟨a0_0, a0_1, a0_2, a0_3⟩ := a0
  obtain ⟨_, _, h1, h2⟩ := g0
  replace H := H.part (β := List Int) a0_2 (h1 : Hd) 0 rfl (fun S h => (And.left (And.right (And.right h))))
  replace H := H.part (β := List Int) a0_3 (h2 : Hd) 1 rfl (fun S h => (And.right (And.right (And.right h))))
  replace H := H.sel [0, 1, 3, 4, 5, 6, 7] rfl
  refine idxE c0 c1 c2 ?_; clear c0 c1 c2
  refine loadN [(.int .i64 a0_0), (.int .i64 a0_1), (h1).v, (h2).v] rfl c3 ?_; clear c3
  refine alloc_ gok rfl H ?_; clear H; intro b0 w2 hx H
  clear hx
  refine stA gok [(.int .i64 a0_0), (.int .i64 a0_1), (h1).v, (h2).v] rfl H rfl rfl rfl ?_; clear H; intro w3 H
  refine fld gok rfl rfl rfl rfl ?_
  refine load1 (H.bx 3 rfl (j := 1) rfl) ?_
  refine lenE (H.rs (α := List (Int × Int × List Int × List Int)) 4 rfl).len ?_
  have x1 := (H.rs (α := List (Int × Int × List Int × List Int)) 4 rfl).max
  obtain ⟨r1, e, f3⟩ := bindS f2; clear f2
  refine loopS _ g__1.length (fun (k1 : Nat) (s1 : List (List Int)) (_ : Unit) => [(1, (.pointer (some ⟨b5, 0, none⟩))), (3, (h0).v), (4, (.int .i64 ((k0 : Nat) : Int))), (5, (.pointer (some ⟨b0, 0, none⟩))), (13, (g__1h).v), (14, (.int .i64 ((g__1.length : Nat) : Int))), (15, (.int .i64 ((k0 : Nat) : Int))), (21, (g__1h).v), (22, (.int .i64 ((g__1.length : Nat) : Int))), (23, (.int .i64 ((k1 : Nat) : Int)))]) (fun _ (s1 : List (List Int)) (_ : Unit) w' => Cx w0 fp0 S0 w' [Bx b5 [(.int .i64 g__0), (g__1h).v, (g__2h).v, (g__3h).v], Es (List (Int × Int × List Int × List Int)) g__1 g__1h, Es (List Int) g__2 g__2h, Es (List Int) g__3 g__3h, E (List (List Int)) s1 h0, Bx b0 [(.int .i64 a0_0), (.int .i64 a0_1), (h1).v, (h2).v], Es (List Int) a0_2 h1, Es (List Int) a0_3 h2]) s0 () e ⟨rfl, rfl, rfl, rfl, rfl, rfl, rfl, rfl, rfl, rfl, trivial⟩ (H.sel [3, 4, 5, 6, 7, 0, 2, 1] rfl) ?_ ?_
  ·
   clear H e
   rintro T1 k1 s1 _ w5 o1 hk (H : Cx w0 fp0 S0 w5 [Bx b5 [(.int .i64 g__0), (g__1h).v, (g__2h).v, (g__3h).v], Es (List (Int × Int × List Int × List Int)) g__1 g__1h, Es (List Int) g__2 g__2h, Es (List Int) g__3 g__3h, E (List (List Int)) s1 h0, Bx b0 [(.int .i64 a0_0), (.int .i64 a0_1), (h1).v, (h2).v], Es (List Int) a0_2 h1, Es (List Int) a0_3 h2]) f4
   refine boolE (z := true) (ltLen hk) ?_
   refine sq ?_
   refine sq ?_
   obtain ⟨a1, e, f5⟩ := bindS f4; clear f4
   have HH := H; clear H; obtain ⟨p1, m1, g1, c4, c5, c6, c7, H⟩ := HH.el (α := Int × Int × List Int × List Int) 1 rfl e; clear HH
   clear e
   obtain ⟨a1_0, a1_1, a1_2, a1_3⟩ := a1
   obtain ⟨_, _, h3, h4⟩ := g1
   replace H := H.part (β := List Int) a1_2 (h3 : Hd) 0 rfl (fun S h => (And.left (And.right (And.right h))))
   replace H := H.part (β := List Int) a1_3 (h4 : Hd) 1 rfl (fun S h => (And.right (And.right (And.right h))))
   replace H := H.sel [0, 1, 3, 4, 5, 6, 7, 8, 9, 10] rfl
   refine idxE c4 c5 c6 ?_; clear c4 c5 c6
   refine loadN [(.int .i64 a1_0), (.int .i64 a1_1), (h3).v, (h4).v] rfl c7 ?_; clear c7
   refine alloc_ gok rfl H ?_; clear H; intro b1 w6 hx H
   clear hx
   refine stA gok [(.int .i64 a1_0), (.int .i64 a1_1), (h3).v, (h4).v] rfl H rfl rfl rfl ?_; clear H; intro w7 H
   refine fld gok rfl rfl rfl rfl ?_
   refine load1 (H.bx 8 rfl (j := 2) rfl) ?_
   obtain ⟨y0, e, f6⟩ := bindS f5; clear f5
   have i0 := e; clear e
   refine callF (slices_ContainsFunc_int_int_impl_Graph_needs_1_c a0_2 h1 b1 a1_0 a1_1 a1_2 h3 a1_3 h4 y0 i0) (Γi := [Bx b1 [(.int .i64 a1_0), (.int .i64 a1_1), (h3).v, (h4).v]]) H ⟨Vw.sh 8 rfl, Vw.sh 1 rfl, Vw.sh 0 rfl, trivial⟩ ?_; clear H i0
   rintro _ _ w8 ⟨rfl, rfl⟩ H
   cases y0
   ·
    have f7 := condF f6; clear f6
    refine arK hk x1 ?_
    have hs := Option.some.inj f7; subst hs; clear f7
    exact ⟨(), ⟨rfl, rfl, rfl, rfl, rfl, rfl, rfl, rfl, rfl, rfl, trivial⟩, H.sel [3, 4, 5, 6, 7, 8, 9, 10] rfl⟩
   ·
    have f8 := condT f6; clear f6
    obtain ⟨a2, e, f9⟩ := bindS f8; clear f8
    replace H := H.sel [7, 0, 1, 2, 3, 4, 5, 6, 8, 9, 10] rfl
    replace H := H.toEH (α := List Int)
    have HH := H; clear H; obtain ⟨p2, m2, h5, c8, c9, c10, c11, H⟩ := HH.peekL e; clear HH
    clear e
    refine idxE c8 c9 c10 ?_
    refine load1 c11 ?_; clear c11
    refine lit1S (α := Int) gok rfl rfl rfl rfl H ?_; clear H; intro h6 w10 hx H
    clear hx
    replace H := H.sel [1, 0, 2, 3, 4, 5, 6, 7, 8, 9, 10, 11] rfl
    replace H := H.takeK 0 rfl
    obtain ⟨a3, e, f10⟩ := bindS f9; clear f9
    replace H := H.sel [0, 2, 1, 3, 4, 5, 6, 7, 8, 9, 10, 11, 12] rfl
    refine append_ (α := Int) gok rfl rfl rfl rfl H e ?_; clear e H; intro h7 w11 H
    refine idxE c8 c9 c10 ?_
    replace H := H.sel [1, 0, 2, 3, 4, 5, 6, 7, 8, 9, 10, 11] rfl
    refine stX0 H c8 rfl rfl ?_; clear H; intro w12 H
    obtain ⟨a4, e, f11⟩ := bindS f10; clear f10
    replace H := H.sel [1, 0, 2, 3, 4, 5, 6, 7, 8, 9, 10, 11] rfl
    replace H := H.put c9 e; clear e
    refine arK hk x1 ?_
    have hs := Option.some.inj f11; subst hs; clear f11
    exact ⟨(), ⟨rfl, rfl, rfl, rfl, rfl, rfl, rfl, rfl, rfl, rfl, trivial⟩, H.sel [4, 5, 6, 7, 0, 8, 9, 10] rfl⟩
  ·
   clear H e
   rintro T2 _ w13 (H : Cx w0 fp0 S0 w13 [Bx b5 [(.int .i64 g__0), (g__1h).v, (g__2h).v, (g__3h).v], Es (List (Int × Int × List Int × List Int)) g__1 g__1h, Es (List Int) g__2 g__2h, Es (List Int) g__3 g__3h, E (List (List Int)) r1 h0, Bx b0 [(.int .i64 a0_0), (.int .i64 a0_1), (h1).v, (h2).v], Es (List Int) a0_2 h1, Es (List Int) a0_3 h2])
   refine boolE (z := false) geLen ?_
   refine sq ?_
   refine arK hk x0 ?_
   have hs := Option.some.inj f3; subst hs; clear f3
   exact ⟨(), ⟨rfl, rfl, rfl, rfl, rfl, trivial⟩, H.sel [0, 1, 2, 3, 4] rfl⟩
 ·
  clear H e
  rintro T3 _ w14 (H : Cx w0 fp0 S0 w14 [Bx b5 [(.int .i64 g__0), (g__1h).v, (g__2h).v, (g__3h).v], Es (List (Int × Int × List Int × List Int)) g__1 g__1h, Es (List Int) g__2 g__2h, Es (List Int) g__3 g__3h, E (List (List Int)) r0 h0])
  refine boolE (z := false) geLen ?_
  refine sq ?_
  cases f0
  exact ⟨_, _, rfl, ⟨h0, rfl, rfl⟩, (H.sel [4] rfl).close ⟨cloE, trivial⟩⟩

theorem impl_Graph_edgeOrder_1_1_c (k_ : Int) (c0_b : Nat) (c0_ : List Bool) (c0_h : Hd) (y : Bool) (hF : F_impl_Graph_edgeOrder_1_1 k_ c0_ = some y) :
  ConF Tryz.prog 47 #[(.int .i64 k_), (.pointer (some ⟨c0_b, 0, none⟩))] [Es (List Bool) c0_ c0_h] [Bx c0_b [(c0_h).v]] (fun v Γ' => v = (.bool y) ∧ Γ' = [Bx c0_b [(c0_h).v]]) := by
 intro w0 S0 fp0 hI hS
 have H : Cx w0 fp0 S0 w0 [Es (List Bool) c0_ c0_h, Bx c0_b [(c0_h).v]] := Cx.start hI hS
 clear hI hS
 refine enterC (args := [_, _]) gok Tryz.func47 rfl _ rfl rfl rfl ?_
 refine load1 (H.bx0 1 rfl) ?_
 obtain ⟨a9, e, f0⟩ := bindS hF; clear hF
 obtain ⟨p7, m8, c3, c4, c5, c6⟩ := (H.rs (α := List Bool) 0 rfl).at1 e; clear e
 refine idxE c3 c4 c5 ?_; clear c3 c4 c5
 refine load1 c6 ?_; clear c6
 obtain ⟨a0, e, f1⟩ := bindS f0; clear f0
 refine boolO e ?_; clear e
 cases f1
 exact ⟨_, _, rfl, ⟨rfl, rfl⟩, (H.sel [1] rfl).close ⟨cloB, trivial⟩⟩
end Go.Proofs.YtmchibapkddniaaGreat
