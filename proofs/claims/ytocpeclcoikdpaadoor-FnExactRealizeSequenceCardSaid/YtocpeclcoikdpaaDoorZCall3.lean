/-
 Contracts, printed by a program (wip/y/gen.py): each function of Go computes its partial function. Condition of each: its partial function yields a value.
-/
import Derived.Test.YtocpeclcoikdpaaDoorZCall2
namespace Go.Proofs.YtocpeclcoikdpaaDoor
open Go Go.Proofs.YtocpeclcoikdpaaDoor.RW
set_option maxRecDepth 100000
set_option linter.unusedVariables false

theorem impl_realize_c (p_ : Int) (m_ : List (Int × List (List Int))) (m_h : Hd) (y0_0 : Int) (y0_1 : Int) (y0_2 : Int) (y0_3 : List (List Int)) (y0_4 : List (List Int)) (y0_5 : List (List Int)) (y0_6 : List (List Int)) (y1 : Bool) (hF : F_impl_realize p_ m_ = some ((y0_0, y0_1, y0_2, y0_3, y0_4, y0_5, y0_6), y1)) :
  ConF Tryd.prog 52 #[(.int .i64 p_), (m_h).v] [Es (List (Int × List (List Int))) m_ m_h] [] (fun v Γ' => ∃ z0 z1 z2 z3 : Hd, v = (.tuple #[(.agg #[(.int .i64 y0_0), (.int .i64 y0_1), (.int .i64 y0_2), (z0).v, (z1).v, (z2).v, (z3).v]), (.bool y1)]) ∧ Γ' = [E (List (List Int)) y0_3 z0, E (List (List Int)) y0_4 z1, E (List (List Int)) y0_5 z2, E (List (List Int)) y0_6 z3]) := by
 intro w0 S0 fp0 hI hS
 have H : Cx w0 fp0 S0 w0 [Es (List (Int × List (List Int))) m_ m_h] := Cx.start hI hS
 clear hI hS
 refine enterC (args := [_, _]) gok Tryd.func52 rfl _ rfl rfl rfl ?_
 refine alloc_ gok rfl H ?_; clear H; intro b3 w2 hx H
 clear hx
 refine scopeI 0 rfl ?_; intro J5 hJ6
 refine heldX H [] (.fst 0 (.fst 1 (.fst 2 (.fst 5 (.fst 6 (.fst 7 (.fst 3 (.fst 4 (.fst 9 (.fst 8 (.fst 10 .done))))))))))) mixed [] trivial (by kernel_rfl) ?_
 clear H; intro w7 H
 have hX : Ext w7 w7 := Upd.refl _ _
 have H0 := H
 obtain ⟨a0, e, f0⟩ := bindS hF; clear hF
 have HH := H; clear H; obtain ⟨p0, m0, g0, c8, c9, c0, c1, H⟩ := HH.el (α := Int × List (List Int)) 1 rfl e; clear HH
 clear e
 obtain ⟨a0_0, a0_1⟩ := a0
 obtain ⟨_, h0⟩ := g0
 replace H := H.part (β := List (List Int)) a0_1 (h0 : Hd) 0 rfl (fun S h => (And.right h))
 replace H := H.sel [0, 2, 3] rfl
 refine idxE c8 c9 c0 ?_; clear c8 c9 c0
 refine anyH (fun _ => fld gok rfl rfl rfl rfl ⟨rfl, rfl⟩) ?_
 obtain ⟨a1, e, f1⟩ := bindS f0; clear f0
 have HH := H; clear H; obtain ⟨p1, m1, g1, c2, c3, c4, c5, H⟩ := HH.el (α := Int × List (List Int)) 2 rfl e; clear HH
 clear e
 obtain ⟨a1_0, a1_1⟩ := a1
 obtain ⟨_, h1⟩ := g1
 replace H := H.part (β := List (List Int)) a1_1 (h1 : Hd) 0 rfl (fun S h => (And.right h))
 replace H := H.sel [0, 2, 3, 4] rfl
 refine idxE c2 c3 c4 ?_; clear c2 c3 c4
 refine anyH (fun _ => fld gok rfl rfl rfl rfl ⟨rfl, rfl⟩) ?_
 refine load1X (c1 1 _ rfl) ?_
 refine lenE (H.rs (α := List (List Int)) 1 rfl).len ?_
 refine load1X (c5 0 _ rfl) ?_
 refine lenE (H.rs (α := List (Int × List (List Int))) 3 rfl).len ?_
 obtain ⟨a2, e, f2⟩ := bindS f1; clear f1
 refine arO e ?_; clear e
 obtain ⟨a3, e, f3⟩ := bindS f2; clear f2
 refine quoO_ e ?_; clear e
 obtain ⟨a4, e, f4⟩ := bindS f3; clear f3
 refine arO e ?_; clear e
 obtain ⟨y0, e, f5⟩ := bindS f4; clear f4
 have ey38 := e; clear e
 refine callF (impl_hankel_c m_ m_h a4 a3 y0 ey38) (Γi := []) H ⟨Vw.sh 3 rfl, trivial⟩ ?_; clear H ey38
 rintro _ _ w1 ⟨h2, rfl, rfl⟩ H
 obtain ⟨a5, e, f6⟩ := bindS f5; clear f5
 refine arO e ?_; clear e
 refine build_ (cs := #[(.int .i64 p_), (.int .i64 a5), (.slice none 0 0), (.slice none 0 0), (.slice none 0 0)]) gok rfl rfl rfl ?_
 refine box_ H ?_; clear H; intro b0 w3 hx H
 clear hx
 refine sq ?_
 obtain ⟨a6, e, f7⟩ := bindS f6; clear f6
 refine arO e ?_; clear e
 obtain ⟨a7, e, f8⟩ := bindS f7; clear f7
 replace H := H.sel [1, 0, 2, 3, 4, 5] rfl
 replace H := H.frz
 refine slS (α := List Int) gok rfl rfl H 0 rfl e rfl rfl ?_; clear e H; intro h3 H
 refine lenE (H.rs (α := List (List Int)) 0 rfl).len ?_
 have x0 := (H.rs (α := List (List Int)) 0 rfl).max
 obtain ⟨r0, e, f9⟩ := bindS f8; clear f8
 replace H := H.nil (α := List Int)
 replace H := H.nil (α := Int)
 replace H := H.nil (α := Sh (List Int))
 refine loopS _ a7.length (fun (k0 : Nat) (s0 : Int × Int × List (List Int) × List Int × List (List Int)) (g2 : Hd × Hd × Hd) => [(0, (.int .i64 p_)), (1, (m_h).v), (4, (.pointer (some ⟨b3, 0, none⟩))), (6, (.int .i64 ((a0_1.length : Nat) : Int))), (7, (.int .i64 a1_0)), (9, (h2).v), (10, (.pointer (some ⟨b0, 0, none⟩))), (51, (h3).v), (52, (.int .i64 ((a7.length : Nat) : Int))), (53, (.int .i64 ((k0 : Nat) : Int)))]) (fun _ (s0 : Int × Int × List (List Int) × List Int × List (List Int)) (g2 : Hd × Hd × Hd) w' => Cx w0 fp0 S0 w' [Es (List (Int × List (List Int))) m_ m_h, Bx b3 [(.int .i64 0), (.int .i64 0), (.int .i64 0), (.slice none 0 0), (.slice none 0 0), (.slice none 0 0), (.slice none 0 0)], Es (List (List Int)) y0 h2, Bx b0 [(.int .i64 s0.1), (.int .i64 s0.2.1), (g2.1).v, (g2.2.1).v, (g2.2.2).v], E (List (List Int)) s0.2.2.1 g2.1, E (List Int) s0.2.2.2.1 g2.2.1, E (List (Sh (List Int))) s0.2.2.2.2 g2.2.2, Es (List (List Int)) a7 h3]) (p_, a5, [], [], []) (nilH, nilH, nilH) e ⟨rfl, rfl, rfl, rfl, rfl, rfl, rfl, rfl, rfl, rfl, trivial⟩ (H.sel [9, 8, 4, 5, 2, 1, 0, 3] rfl) ?_ ?_
 ·
  clear H e
  rintro T0 k0 ⟨s0_0, s0_1, s0_2, s0_3, s0_4⟩ ⟨g2_0, g2_1, g2_2⟩ w4 o0 hk (H : Cx w0 fp0 S0 w4 [Es (List (Int × List (List Int))) m_ m_h, Bx b3 [(.int .i64 0), (.int .i64 0), (.int .i64 0), (.slice none 0 0), (.slice none 0 0), (.slice none 0 0), (.slice none 0 0)], Es (List (List Int)) y0 h2, Bx b0 [(.int .i64 s0_0), (.int .i64 s0_1), (g2_0).v, (g2_1).v, (g2_2).v], E (List (List Int)) s0_2 g2_0, E (List Int) s0_3 g2_1, E (List (Sh (List Int))) s0_4 g2_2, Es (List (List Int)) a7 h3]) f10
  refine boolE (z := true) (ltLen hk) ?_
  refine sq ?_
  refine sq ?_
  obtain ⟨a8, e, f11⟩ := bindS f10; clear f10
  have HH := H; clear H; obtain ⟨p2, m2, h4, c6, c7, c12, c13, H⟩ := HH.elL 7 rfl e; clear HH
  clear e
  refine idxE c6 c7 c12 ?_; clear c6 c7 c12
  refine load1 c13 ?_; clear c13
  obtain ⟨y2, e, f12⟩ := bindS f11; clear f11
  obtain ⟨y2_0, y2_1, y2_2, y2_3, y2_4⟩ := y2
  have ey128 := e; clear e
  replace H := H.sel [4, 5, 6, 7, 0, 1, 2, 3, 8] rfl
  refine callS (impl_chooser_offer_c b0 s0_0 s0_1 s0_2 g2_0 s0_3 g2_1 s0_4 g2_2 ((k0 : Nat) : Int) a8 h4 y2_0 y2_1 y2_2 y2_3 y2_4 ey128) (Γi := [Bx b0 [(.int .i64 s0_0), (.int .i64 s0_1), (g2_0).v, (g2_1).v, (g2_2).v], E (List (List Int)) s0_2 g2_0, E (List Int) s0_3 g2_1, E (List (Sh (List Int))) s0_4 g2_2]) H [0] rfl (persC persS persN) ?_; clear H ey128
  rintro _ _ w5 ⟨h5, h6, h7, rfl, rfl⟩ H
  refine arK hk x0 ?_
  have hs := Option.some.inj f12; subst hs; clear f12
  exact ⟨(h5, h6, h7), ⟨rfl, rfl, rfl, rfl, rfl, rfl, rfl, rfl, rfl, rfl, trivial⟩, H.sel [5, 6, 7, 0, 1, 2, 3, 8] rfl⟩
 ·
  clear H e
  obtain ⟨s1_0, s1_1, s1_2, s1_3, s1_4⟩ := r0
  rintro T1 ⟨g3_0, g3_1, g3_2⟩ w6 (H : Cx w0 fp0 S0 w6 [Es (List (Int × List (List Int))) m_ m_h, Bx b3 [(.int .i64 0), (.int .i64 0), (.int .i64 0), (.slice none 0 0), (.slice none 0 0), (.slice none 0 0), (.slice none 0 0)], Es (List (List Int)) y0 h2, Bx b0 [(.int .i64 s1_0), (.int .i64 s1_1), (g3_0).v, (g3_1).v, (g3_2).v], E (List (List Int)) s1_2 g3_0, E (List Int) s1_3 g3_1, E (List (Sh (List Int))) s1_4 g3_2, Es (List (List Int)) a7 h3])
  refine boolE (z := false) geLen ?_
  refine sq ?_
  obtain ⟨r1, f13, f14⟩ := bindS f9; clear f9
  refine heldJ H [] (.fst 0 (.fst 1 (.fst 2 (.fst 5 (.fst 6 (.fst 7 (.fst 8 (.fst 9 (.fst 3 (.fst 4 (.fst 10 (.alts (.alt 11 (.fst 12 (.act 13 (.act 14 .done))) (.alt 13 (.act 11 (.fst 12 (.act 14 .done))) .no)))))))))))))) mixed [] trivial (by kernel_rfl) (fun (q0 : (Int × Int × Int × List (List Int)) × (Hd × Nat)) => [(0, (.int .i64 p_)), (1, (m_h).v), (4, (.pointer (some ⟨b3, 0, none⟩))), (6, (.int .i64 ((a0_1.length : Nat) : Int))), (7, (.int .i64 a1_0)), (9, (h2).v), (10, (.pointer (some ⟨b0, 0, none⟩))), (13, (.pointer (some ⟨q0.2.2, 0, none⟩)))]) (fun (q0 : (Int × Int × Int × List (List Int)) × (Hd × Nat)) w' => (q0.1.1, q0.1.2.1, q0.1.2.2.1, q0.1.2.2.2) = r1 ∧ Cx w0 fp0 S0 w' [Es (List (Int × List (List Int))) m_ m_h, Bx b3 [(.int .i64 0), (.int .i64 0), (.int .i64 0), (.slice none 0 0), (.slice none 0 0), (.slice none 0 0), (.slice none 0 0)], Es (List (List Int)) y0 h2, Bx b0 [(.int .i64 s1_0), (.int .i64 s1_1), (g3_0).v, (g3_1).v, (g3_2).v], E (List (List Int)) s1_2 g3_0, E (List Int) s1_3 g3_1, E (List (Sh (List Int))) s1_4 g3_2, Bx q0.2.2 [(.int .i64 q0.1.1), (.int .i64 q0.1.2.1), (.int .i64 q0.1.2.2.1), (.slice none 0 0), (.slice none 0 0), (.slice none 0 0), (q0.2.1).v], E (List (List Int)) q0.1.2.2.2 q0.2.1]) ?_ ?_
  ·
   clear H; intro w8 H
   have hX : Ext w8 w8 := Upd.refl _ _
   have H0 := H
   refine anyH (fun _ => fld gok rfl rfl rfl rfl ⟨rfl, rfl⟩) ?_
   obtain ⟨a9, e, f15⟩ := bindS f13; clear f13
   have HH := H; clear H; obtain ⟨p3, m3, g4, c14, c15, c16, c17, H⟩ := HH.el (α := Int × List (List Int)) 0 rfl e; clear HH
   clear e
   obtain ⟨a9_0, a9_1⟩ := a9
   obtain ⟨_, h8⟩ := g4
   replace H := H.part (β := List (List Int)) a9_1 (h8 : Hd) 0 rfl (fun S h => (And.right h))
   replace H := H.sel [0, 2, 3, 4, 5, 6, 7, 8, 9] rfl
   refine idxE c14 c15 c16 ?_; clear c14 c15 c16
   refine anyH (fun _ => fld gok rfl rfl rfl rfl ⟨rfl, rfl⟩) ?_
   refine load1X (H.bx 4 rfl (j := 3) rfl) ?_
   refine lenE (H.ro (α := List Int) 6 rfl).len ?_
   refine load1X (c17 1 _ rfl) ?_
   refine both ?_ ?_
   ·
    obtain ⟨y3, e, f16⟩ := bindS f15; clear f15
    have ey219 := e; clear e
    refine callFx (impl_clones_c a9_1 h8 y3 ey219) H ⟨Vw.sh 0 rfl, trivial⟩ ?_; clear H ey219
    rintro _ _ w9 ⟨h9, rfl, rfl⟩ hx H
    replace hX := hX.trans0 hx; clear hx
    refine hold hX ?_
    refine anyH (fun _ => build_ (cs := #[(.int .i64 ((s1_3.length : Nat) : Int)), (.int .i64 ((a0_1.length : Nat) : Int)), (.int .i64 a1_0), (.slice none 0 0), (.slice none 0 0), (.slice none 0 0), (h9).v]) gok rfl rfl rfl ⟨rfl, rfl⟩) ?_
    refine allocX gok rfl H ?_; clear H; intro b1 w10 hx v0 H; replace v0 := Nat.le_trans hX.size v0
    replace hX := hX.trans0 hx; clear hx
    refine hold hX ?_
    refine stAX gok [(.int .i64 ((s1_3.length : Nat) : Int)), (.int .i64 ((a0_1.length : Nat) : Int)), (.int .i64 a1_0), (.slice none 0 0), (.slice none 0 0), (.slice none 0 0), (h9).v] rfl H rfl rfl rfl ?_; clear H; intro w11 hu H
    replace hX := hX.fresh hu v0; clear hu
    refine hold hX ?_
    exact ⟨((((s1_3.length : Nat) : Int), ((a0_1.length : Nat) : Int), a1_0, y3), (h9, b1)), ⟨rfl, rfl, rfl, rfl, rfl, rfl, rfl, rfl, trivial⟩, Option.some.inj f16, H.sel [3, 4, 5, 6, 7, 8, 9, 0, 1] rfl⟩
   ·
    refine both ?_ ?_
    ·
     obtain ⟨a10, o1, f17⟩ := bindS f15; clear f15
     refine allocX gok rfl H ?_; clear H; intro b2 w12 hx v1 H; replace v1 := Nat.le_trans hX.size v1
     replace hX := hX.trans0 hx; clear hx
     refine hold hX ?_
     have e := o1; clear o1
     have ea229 := e; clear e
     refine callFx (impl_clones_c a9_1 h8 a10 ea229) H ⟨Vw.sh 1 rfl, trivial⟩ ?_; clear H ea229
     rintro _ _ w13 ⟨h10, rfl, rfl⟩ hx H
     replace hX := hX.trans0 hx; clear hx
     refine hold hX ?_
     refine anyH (fun _ => build_ (cs := #[(.int .i64 ((s1_3.length : Nat) : Int)), (.int .i64 ((a0_1.length : Nat) : Int)), (.int .i64 a1_0), (.slice none 0 0), (.slice none 0 0), (.slice none 0 0), (h10).v]) gok rfl rfl rfl ⟨rfl, rfl⟩) ?_
     replace H := H.sel [1, 0, 2, 3, 4, 5, 6, 7, 8, 9, 10] rfl
     refine stAX gok [(.int .i64 ((s1_3.length : Nat) : Int)), (.int .i64 ((a0_1.length : Nat) : Int)), (.int .i64 a1_0), (.slice none 0 0), (.slice none 0 0), (.slice none 0 0), (h10).v] rfl H rfl rfl rfl ?_; clear H; intro w14 hu H
     replace hX := hX.fresh hu v1; clear hu
     refine hold hX ?_
     exact ⟨((((s1_3.length : Nat) : Int), ((a0_1.length : Nat) : Int), a1_0, a10), (h10, b2)), ⟨rfl, rfl, rfl, rfl, rfl, rfl, rfl, rfl, trivial⟩, Option.some.inj f17, H.sel [3, 4, 5, 6, 7, 8, 9, 0, 1] rfl⟩
    ·
     exact trivial
  ·
   clear f13 H
   rintro T2 ⟨⟨s2_0, s2_1, s2_2, s2_3⟩, ⟨g5_0, g5_1⟩⟩ w15 ⟨hr, (H : Cx w0 fp0 S0 w15 [Es (List (Int × List (List Int))) m_ m_h, Bx b3 [(.int .i64 0), (.int .i64 0), (.int .i64 0), (.slice none 0 0), (.slice none 0 0), (.slice none 0 0), (.slice none 0 0)], Es (List (List Int)) y0 h2, Bx b0 [(.int .i64 s1_0), (.int .i64 s1_1), (g3_0).v, (g3_1).v, (g3_2).v], E (List (List Int)) s1_2 g3_0, E (List Int) s1_3 g3_1, E (List (Sh (List Int))) s1_4 g3_2, Bx g5_1 [(.int .i64 s2_0), (.int .i64 s2_1), (.int .i64 s2_2), (.slice none 0 0), (.slice none 0 0), (.slice none 0 0), (g5_0).v], E (List (List Int)) s2_3 g5_0])⟩
   subst hr
   refine sq ?_
   refine fld gok rfl rfl rfl rfl ?_
   refine load1 (H.bx 7 rfl (j := 0) rfl) ?_
   obtain ⟨a11, e, f18⟩ := bindS f14; clear f14
   refine boolO e ?_; clear e
   cases a11
   ·
    have f19 := condF f18; clear f18
    refine lit0 (α := Int) gok rfl rfl H ?_; clear H; intro h11 w16 hx H
    clear hx
    refine sq ?_
    refine fld gok rfl rfl rfl rfl ?_
    refine load1 (H.bx 4 rfl (j := 3) rfl) ?_
    refine lenE (H.ro (α := List Int) 6 rfl).len ?_
    have x1 := (H.ro (α := List Int) 6 rfl).max
    obtain ⟨r2, e, f20⟩ := bindS f19; clear f19
    refine loopS _ s1_3.length (fun (k1 : Nat) (s3 : List Int) (g6 : Hd) => [(0, (.int .i64 p_)), (1, (m_h).v), (4, (.pointer (some ⟨b3, 0, none⟩))), (6, (.int .i64 ((a0_1.length : Nat) : Int))), (7, (.int .i64 a1_0)), (9, (h2).v), (10, (.pointer (some ⟨b0, 0, none⟩))), (13, (.pointer (some ⟨g5_1, 0, none⟩))), (14, (.int .i64 0)), (15, (.bool true)), (16, (g6).v), (84, (g3_1).v), (85, (.int .i64 ((s1_3.length : Nat) : Int))), (86, (.int .i64 ((k1 : Nat) : Int)))]) (fun _ (s3 : List Int) (g6 : Hd) w' => Cx w0 fp0 S0 w' [Es (List (Int × List (List Int))) m_ m_h, Bx b3 [(.int .i64 0), (.int .i64 0), (.int .i64 0), (.slice none 0 0), (.slice none 0 0), (.slice none 0 0), (.slice none 0 0)], Es (List (List Int)) y0 h2, Bx b0 [(.int .i64 s1_0), (.int .i64 s1_1), (g3_0).v, (g3_1).v, (g3_2).v], E (List (List Int)) s1_2 g3_0, E (List Int) s1_3 g3_1, E (List (Sh (List Int))) s1_4 g3_2, Bx g5_1 [(.int .i64 s2_0), (.int .i64 s2_1), (.int .i64 s2_2), (.slice none 0 0), (.slice none 0 0), (.slice none 0 0), (g5_0).v], E (List (List Int)) s2_3 g5_0, E (List Int) s3 g6]) ([] : List Int) h11 e ⟨rfl, rfl, rfl, rfl, rfl, rfl, rfl, rfl, rfl, rfl, rfl, rfl, rfl, rfl, trivial⟩ (H.sel [1, 2, 3, 4, 5, 6, 7, 8, 9, 0] rfl) ?_ ?_
    ·
     clear H e
     rintro T3 k1 s3 g6 w17 o2 hk (H : Cx w0 fp0 S0 w17 [Es (List (Int × List (List Int))) m_ m_h, Bx b3 [(.int .i64 0), (.int .i64 0), (.int .i64 0), (.slice none 0 0), (.slice none 0 0), (.slice none 0 0), (.slice none 0 0)], Es (List (List Int)) y0 h2, Bx b0 [(.int .i64 s1_0), (.int .i64 s1_1), (g3_0).v, (g3_1).v, (g3_2).v], E (List (List Int)) s1_2 g3_0, E (List Int) s1_3 g3_1, E (List (Sh (List Int))) s1_4 g3_2, Bx g5_1 [(.int .i64 s2_0), (.int .i64 s2_1), (.int .i64 s2_2), (.slice none 0 0), (.slice none 0 0), (.slice none 0 0), (g5_0).v], E (List (List Int)) s2_3 g5_0, E (List Int) s3 g6]) f21
     refine boolE (z := true) (ltLen hk) ?_
     refine sq ?_
     refine sq ?_
     obtain ⟨a12, e, f22⟩ := bindS f21; clear f21
     obtain ⟨p4, m4, c18, c19, c24, c25⟩ := (H.ro (α := List Int) 5 rfl).at1 e; clear e
     refine idxE c18 c19 c24 ?_; clear c18 c19 c24
     refine load1 c25 ?_; clear c25
     obtain ⟨a13, e, f23⟩ := bindS f22; clear f22
     refine arO e ?_; clear e
     refine lit1S (α := Int) gok rfl rfl rfl rfl H ?_; clear H; intro h12 w18 hx H
     clear hx
     obtain ⟨a15, e, f24⟩ := bindS f23; clear f23
     replace H := H.sel [10, 0, 1, 2, 3, 4, 5, 6, 7, 8, 9] rfl
     refine append_ (α := Int) gok rfl rfl rfl rfl H e ?_; clear e H; intro h13 w19 H
     refine arK hk x1 ?_
     have hs := Option.some.inj f24; subst hs; clear f24
     exact ⟨h13, ⟨rfl, rfl, rfl, rfl, rfl, rfl, rfl, rfl, rfl, rfl, rfl, rfl, rfl, rfl, trivial⟩, H.sel [1, 2, 3, 4, 5, 6, 7, 8, 9, 0] rfl⟩
    ·
     clear H e
     rintro T4 g7 w20 (H : Cx w0 fp0 S0 w20 [Es (List (Int × List (List Int))) m_ m_h, Bx b3 [(.int .i64 0), (.int .i64 0), (.int .i64 0), (.slice none 0 0), (.slice none 0 0), (.slice none 0 0), (.slice none 0 0)], Es (List (List Int)) y0 h2, Bx b0 [(.int .i64 s1_0), (.int .i64 s1_1), (g3_0).v, (g3_1).v, (g3_2).v], E (List (List Int)) s1_2 g3_0, E (List Int) s1_3 g3_1, E (List (Sh (List Int))) s1_4 g3_2, Bx g5_1 [(.int .i64 s2_0), (.int .i64 s2_1), (.int .i64 s2_2), (.slice none 0 0), (.slice none 0 0), (.slice none 0 0), (g5_0).v], E (List (List Int)) s2_3 g5_0, E (List Int) r2 g7])
     refine boolE (z := false) geLen ?_
     refine sq ?_
     obtain ⟨y4, e, f25⟩ := bindS f20; clear f20
     have ey323 := e; clear e
     refine callF (impl_upTo_c ((a0_1.length : Nat) : Int) y4 ey323) (Γi := []) H trivial ?_; clear H ey323
     rintro _ _ w21 ⟨h14, rfl, rfl⟩ H
     obtain ⟨a16, e, f26⟩ := bindS f25; clear f25
     replace H := H.sel [10, 0, 1, 2, 3, 4, 5, 6, 7, 8, 9] rfl
     refine appendS (α := Int) gok rfl rfl rfl rfl H (Vw.own 0 rfl) e ?_; clear e H; intro h15 w22 H
     replace H := H.nil (α := List Int)
     replace H := H.nil (α := List Int)
     refine labelW hJ6 _ (fun (s4 : List (List Int) × List (List Int) × Int × Bool) (g8 : Hd × Hd) => [(0, (.int .i64 p_)), (1, (m_h).v), (4, (.pointer (some ⟨b3, 0, none⟩))), (7, (.int .i64 a1_0)), (9, (h2).v), (10, (.pointer (some ⟨b0, 0, none⟩))), (13, (.pointer (some ⟨g5_1, 0, none⟩))), (14, (.int .i64 s4.2.2.1)), (15, (.bool s4.2.2.2)), (16, (h15).v)]) (fun (s4 : List (List Int) × List (List Int) × Int × Bool) (g8 : Hd × Hd) w' => Cx w0 fp0 S0 w' [Es (List (Int × List (List Int))) m_ m_h, Bx b3 [(.int .i64 0), (.int .i64 0), (.int .i64 0), (.slice none 0 0), (.slice none 0 0), (.slice none 0 0), (.slice none 0 0)], Es (List (List Int)) y0 h2, Bx b0 [(.int .i64 s1_0), (.int .i64 s1_1), (g3_0).v, (g3_1).v, (g3_2).v], E (List (List Int)) s1_2 g3_0, E (List Int) s1_3 g3_1, E (List (Sh (List Int))) s1_4 g3_2, Bx g5_1 [(.int .i64 s2_0), (.int .i64 s2_1), (.int .i64 s2_2), (g8.1).v, (g8.2).v, (.slice none 0 0), (g5_0).v], E (List (List Int)) s4.1 g8.1, E (List (List Int)) s4.2.1 g8.2, E (List (List Int)) s2_3 g5_0, E (List Int) a16 h15]) ([], [], 0, true) (nilH, nilH) f26 ⟨rfl, rfl, rfl, rfl, rfl, rfl, rfl, rfl, rfl, rfl, trivial⟩ (H.sel [4, 5, 6, 7, 8, 9, 10, 11, 1, 0, 12, 2] rfl) ?_
     ·
      clear H
      rintro T5 ⟨s4_0, s4_1, s4_2, s4_3⟩ ⟨g8_0, g8_1⟩ w23 o3 (H : Cx w0 fp0 S0 w23 [Es (List (Int × List (List Int))) m_ m_h, Bx b3 [(.int .i64 0), (.int .i64 0), (.int .i64 0), (.slice none 0 0), (.slice none 0 0), (.slice none 0 0), (.slice none 0 0)], Es (List (List Int)) y0 h2, Bx b0 [(.int .i64 s1_0), (.int .i64 s1_1), (g3_0).v, (g3_1).v, (g3_2).v], E (List (List Int)) s1_2 g3_0, E (List Int) s1_3 g3_1, E (List (Sh (List Int))) s1_4 g3_2, Bx g5_1 [(.int .i64 s2_0), (.int .i64 s2_1), (.int .i64 s2_2), (g8_0).v, (g8_1).v, (.slice none 0 0), (g5_0).v], E (List (List Int)) s4_0 g8_0, E (List (List Int)) s4_1 g8_1, E (List (List Int)) s2_3 g5_0, E (List Int) a16 h15]) hrt f27 hgo
      refine sq ?_
      obtain ⟨r3, f28, f29⟩ := bindS f27; clear f27
      refine cut (fun (q1 : Bool) => [(0, (.int .i64 p_)), (1, (m_h).v), (4, (.pointer (some ⟨b3, 0, none⟩))), (7, (.int .i64 a1_0)), (9, (h2).v), (10, (.pointer (some ⟨b0, 0, none⟩))), (13, (.pointer (some ⟨g5_1, 0, none⟩))), (14, (.int .i64 s4_2)), (15, (.bool s4_3)), (16, (h15).v), (107, (.bool q1))]) (fun (q1 : Bool) w' => q1 = r3 ∧ Cx w0 fp0 S0 w' [Es (List (Int × List (List Int))) m_ m_h, Bx b3 [(.int .i64 0), (.int .i64 0), (.int .i64 0), (.slice none 0 0), (.slice none 0 0), (.slice none 0 0), (.slice none 0 0)], Es (List (List Int)) y0 h2, Bx b0 [(.int .i64 s1_0), (.int .i64 s1_1), (g3_0).v, (g3_1).v, (g3_2).v], E (List (List Int)) s1_2 g3_0, E (List Int) s1_3 g3_1, E (List (Sh (List Int))) s1_4 g3_2, Bx g5_1 [(.int .i64 s2_0), (.int .i64 s2_1), (.int .i64 s2_2), (g8_0).v, (g8_1).v, (.slice none 0 0), (g5_0).v], E (List (List Int)) s4_0 g8_0, E (List (List Int)) s4_1 g8_1, E (List (List Int)) s2_3 g5_0, E (List Int) a16 h15]) ?_ ?_
      ·
       refine lenE (H.ro (α := List Int) 11 rfl).len ?_
       obtain ⟨a17, e, f30⟩ := bindS f28; clear f28
       refine boolO e ?_; clear e
       cases a17
       ·
        have f31 := condF f30; clear f30
        exact ⟨false, ⟨rfl, rfl, rfl, rfl, rfl, rfl, rfl, rfl, rfl, rfl, rfl, trivial⟩, Option.some.inj f31, H.sel [0, 1, 2, 3, 4, 5, 6, 7, 8, 9, 10, 11] rfl⟩
       ·
        have f32 := condT f30; clear f30
        exact ⟨s4_3, ⟨rfl, rfl, rfl, rfl, rfl, rfl, rfl, rfl, rfl, rfl, rfl, trivial⟩, Option.some.inj f32, H.sel [0, 1, 2, 3, 4, 5, 6, 7, 8, 9, 10, 11] rfl⟩
      ·
       clear f28 H
       rintro T6 s5 w24 ⟨hr, (H : Cx w0 fp0 S0 w24 [Es (List (Int × List (List Int))) m_ m_h, Bx b3 [(.int .i64 0), (.int .i64 0), (.int .i64 0), (.slice none 0 0), (.slice none 0 0), (.slice none 0 0), (.slice none 0 0)], Es (List (List Int)) y0 h2, Bx b0 [(.int .i64 s1_0), (.int .i64 s1_1), (g3_0).v, (g3_1).v, (g3_2).v], E (List (List Int)) s1_2 g3_0, E (List Int) s1_3 g3_1, E (List (Sh (List Int))) s1_4 g3_2, Bx g5_1 [(.int .i64 s2_0), (.int .i64 s2_1), (.int .i64 s2_2), (g8_0).v, (g8_1).v, (.slice none 0 0), (g5_0).v], E (List (List Int)) s4_0 g8_0, E (List (List Int)) s4_1 g8_1, E (List (List Int)) s2_3 g5_0, E (List Int) a16 h15])⟩
       subst hr
       cases s5
       ·
        have f33 := condF f29; clear f29
        refine sq ?_
        refine fld gok rfl rfl rfl rfl ?_
        refine load1 (H.bx 3 rfl (j := 4) rfl) ?_
        refine lenE (Rdb.len (α := Sh (List Int)) (H.ro (α := List (Sh (List Int))) 6 rfl)) ?_
        have x2 := (Rdb.max (α := Sh (List Int)) (H.ro (α := List (Sh (List Int))) 6 rfl))
        obtain ⟨r4, e, f34⟩ := bindS f33; clear f33
        replace H := H.nil (α := List Int)
        refine loopS _ s1_4.length (fun (k2 : Nat) (s6 : List (List Int)) (g9 : Hd) => [(0, (.int .i64 p_)), (1, (m_h).v), (4, (.pointer (some ⟨b3, 0, none⟩))), (7, (.int .i64 a1_0)), (13, (.pointer (some ⟨g5_1, 0, none⟩))), (15, (.bool s4_3)), (142, (g3_2).v), (143, (.int .i64 ((s1_4.length : Nat) : Int))), (144, (.int .i64 ((k2 : Nat) : Int)))]) (fun _ (s6 : List (List Int)) (g9 : Hd) w' => Cx w0 fp0 S0 w' [Es (List (Int × List (List Int))) m_ m_h, Bx b3 [(.int .i64 0), (.int .i64 0), (.int .i64 0), (.slice none 0 0), (.slice none 0 0), (.slice none 0 0), (.slice none 0 0)], Bx g5_1 [(.int .i64 s2_0), (.int .i64 s2_1), (.int .i64 s2_2), (g8_0).v, (g8_1).v, (g9).v, (g5_0).v], E (List (List Int)) s4_0 g8_0, E (List (List Int)) s4_1 g8_1, E (List (List Int)) s6 g9, E (List (List Int)) s2_3 g5_0, E (List (Sh (List Int))) s1_4 g3_2]) [] nilH e ⟨rfl, rfl, rfl, rfl, rfl, rfl, rfl, rfl, rfl, trivial⟩ (H.sel [1, 2, 8, 9, 10, 0, 11, 7] rfl) ?_ ?_
        ·
         clear H e
         rintro T7 k2 s6 g9 w25 o4 hk (H : Cx w0 fp0 S0 w25 [Es (List (Int × List (List Int))) m_ m_h, Bx b3 [(.int .i64 0), (.int .i64 0), (.int .i64 0), (.slice none 0 0), (.slice none 0 0), (.slice none 0 0), (.slice none 0 0)], Bx g5_1 [(.int .i64 s2_0), (.int .i64 s2_1), (.int .i64 s2_2), (g8_0).v, (g8_1).v, (g9).v, (g5_0).v], E (List (List Int)) s4_0 g8_0, E (List (List Int)) s4_1 g8_1, E (List (List Int)) s6 g9, E (List (List Int)) s2_3 g5_0, E (List (Sh (List Int))) s1_4 g3_2]) f35
         refine boolE (z := true) (ltLen hk) ?_
         refine sq ?_
         refine sq ?_
         obtain ⟨a18, e, f36⟩ := bindS f35; clear f35
         have HH := H; clear H; obtain ⟨p5, m5, h16, c26, c27, c28, c29, H⟩ := HH.exL 7 rfl e; clear HH
         clear e
         refine idxE c26 c27 c28 ?_; clear c26 c27 c28
         refine load1 c29 ?_; clear c29
         refine heldX H [7, 9, 8] (.fst 0 (.fst 2 (.fst 3 (.fst 1 (.fst 4 (.act 5 (.act 6 (.act 7 (.act 8 (.act 9 .done)))))))))) mixed [] trivial (by kernel_rfl) ?_
         clear H; intro w26 H
         have hX : Ext w26 w26 := Upd.refl _ _
         have H0 := H
         refine anyH (fun _ => fld gok rfl rfl rfl rfl ⟨rfl, rfl⟩) ?_
         refine load1X (H.bx 3 rfl (j := 5) rfl) ?_
         obtain ⟨a19, e, f37⟩ := bindS f36; clear f36
         refine slSX (α := Int) gok rfl rfl H 0 rfl e rfl rfl ?_; clear e; intro h17 HH; clear H; have H := HH; clear HH
         obtain ⟨y5, e, f38⟩ := bindS f37; clear f37
         have ey966 := e; clear e
         refine callFx (impl_clone_c a19 h17 y5 ey966) H ⟨Vw.sh 0 rfl, trivial⟩ ?_; clear H ey966
         rintro _ _ w27 ⟨h19, rfl, rfl⟩ hx H
         replace hX := hX.trans0 hx; clear hx
         refine hold hX ?_
         refine lit1 (α := List Int) (g := h19) gok rfl rfl rfl rfl rfl H ?_; clear H; intro h20 w28 hx H
         replace hX := hX.trans0 hx; clear hx
         refine hold hX ?_
         obtain ⟨a20, e, f39⟩ := bindS f38; clear f38
         replace H := H.sel [8, 0, 1, 2, 3, 4, 5, 6, 7, 9, 10] rfl
         refine append_ (α := List Int) gok rfl rfl rfl rfl H e ?_; clear e H; intro h21 w29 H
         refine hold trivial ?_
         refine fld gok rfl rfl rfl rfl ?_
         refine hold trivial ?_
         replace H := H.sel [5, 0, 1, 2, 3, 4, 6, 7, 8, 9] rfl
         refine stB (j := 5) H rfl rfl ?_; clear H; intro w30 H
         refine hold trivial ?_
         refine arK hk x2 ?_
         have hs := Option.some.inj f39; subst hs; clear f39
         exact ⟨h21, ⟨rfl, rfl, rfl, rfl, rfl, rfl, rfl, rfl, rfl, trivial⟩, H.sel [4, 5, 0, 6, 7, 1, 8, 9] rfl⟩
        ·
         clear H e
         rintro T8 g10 w31 (H : Cx w0 fp0 S0 w31 [Es (List (Int × List (List Int))) m_ m_h, Bx b3 [(.int .i64 0), (.int .i64 0), (.int .i64 0), (.slice none 0 0), (.slice none 0 0), (.slice none 0 0), (.slice none 0 0)], Bx g5_1 [(.int .i64 s2_0), (.int .i64 s2_1), (.int .i64 s2_2), (g8_0).v, (g8_1).v, (g10).v, (g5_0).v], E (List (List Int)) s4_0 g8_0, E (List (List Int)) s4_1 g8_1, E (List (List Int)) r4 g10, E (List (List Int)) s2_3 g5_0, E (List (Sh (List Int))) s1_4 g3_2])
         refine boolE (z := false) geLen ?_
         refine sq ?_
         refine sq ?_
         obtain ⟨r5, f40, f41⟩ := bindS f34; clear f34
         refine cut (fun (q2 : Bool) => [(4, (.pointer (some ⟨b3, 0, none⟩))), (13, (.pointer (some ⟨g5_1, 0, none⟩))), (169, (.bool q2))]) (fun (q2 : Bool) w' => q2 = r5 ∧ Cx w0 fp0 S0 w' [Bx b3 [(.int .i64 0), (.int .i64 0), (.int .i64 0), (.slice none 0 0), (.slice none 0 0), (.slice none 0 0), (.slice none 0 0)], Bx g5_1 [(.int .i64 s2_0), (.int .i64 s2_1), (.int .i64 s2_2), (g8_0).v, (g8_1).v, (g10).v, (g5_0).v], E (List (List Int)) s4_0 g8_0, E (List (List Int)) s4_1 g8_1, E (List (List Int)) r4 g10, E (List (List Int)) s2_3 g5_0]) ?_ ?_
         ·
          obtain ⟨a21, e, f42⟩ := bindS f40; clear f40
          refine boolO e ?_; clear e
          cases a21
          ·
           have f43 := condF f42; clear f42
           refine loadN [(.int .i64 s2_0), (.int .i64 s2_1), (.int .i64 s2_2), (g8_0).v, (g8_1).v, (g10).v, (g5_0).v] rfl (fun j u hj => H.bx 2 rfl hj) ?_
           refine lenE (H.rs (α := List (Int × List (List Int))) 0 rfl).len ?_
           obtain ⟨y6, e, f44⟩ := bindS f43; clear f43
           have ey1008 := e; clear e
           refine callF (impl_StateSpace_markov_c s2_0 s2_1 s2_2 s4_0 g8_0 s4_1 g8_1 r4 g10 s2_3 g5_0 p_ ((m_.length : Nat) : Int) y6 ey1008) (Γi := []) H ⟨Vw.own 3 rfl, Vw.own 4 rfl, Vw.own 5 rfl, Vw.own 6 rfl, trivial⟩ ?_; clear H ey1008
           rintro _ _ w32 ⟨h22, rfl, rfl⟩ H
           obtain ⟨y7, e, f45⟩ := bindS f44; clear f44
           have ey1013 := e; clear e
           refine callF (slices_EqualFunc_impl_Matrix_impl_Matrix_impl_Matrix_impl_Matrix_impl_equalMatrices_c y6 h22 m_ m_h y7 ey1013) (Γi := []) H ⟨Vw.own 0 rfl, Vw.sh 1 rfl, trivial⟩ ?_; clear H ey1013
           rintro _ _ w33 ⟨rfl, rfl⟩ H
           obtain ⟨a22, e, f46⟩ := bindS f45; clear f45
           refine boolO e ?_; clear e
           exact ⟨a22, ⟨rfl, rfl, rfl, trivial⟩, Option.some.inj f46, H.sel [2, 3, 4, 5, 6, 7] rfl⟩
          ·
           have f47 := condT f42; clear f42
           exact ⟨true, ⟨rfl, rfl, rfl, trivial⟩, Option.some.inj f47, H.sel [1, 2, 3, 4, 5, 6] rfl⟩
         ·
          clear f40 H
          rintro T9 s7 w34 ⟨hr, (H : Cx w0 fp0 S0 w34 [Bx b3 [(.int .i64 0), (.int .i64 0), (.int .i64 0), (.slice none 0 0), (.slice none 0 0), (.slice none 0 0), (.slice none 0 0)], Bx g5_1 [(.int .i64 s2_0), (.int .i64 s2_1), (.int .i64 s2_2), (g8_0).v, (g8_1).v, (g10).v, (g5_0).v], E (List (List Int)) s4_0 g8_0, E (List (List Int)) s4_1 g8_1, E (List (List Int)) r4 g10, E (List (List Int)) s2_3 g5_0])⟩
          subst hr
          cases s7
          ·
           have f48 := condF f41; clear f41
           refine loadN [(.int .i64 s2_0), (.int .i64 s2_1), (.int .i64 s2_2), (g8_0).v, (g8_1).v, (g10).v, (g5_0).v] rfl (fun j u hj => H.bx 1 rfl hj) ?_
           refine stA gok [(.int .i64 s2_0), (.int .i64 s2_1), (.int .i64 s2_2), (g8_0).v, (g8_1).v, (g10).v, (g5_0).v] rfl H rfl rfl rfl ?_; clear H; intro w35 H
           have hs := Option.some.inj f48; subst hs; clear f48
           have f49 : some _ = some _ := congrArg some (hrt _ rfl).symm
           refine loadN [(.int .i64 s2_0), (.int .i64 s2_1), (.int .i64 s2_2), (g8_0).v, (g8_1).v, (g10).v, (g5_0).v] rfl (fun j u hj => H.bx 0 rfl hj) ?_
           cases f49
           exact ⟨_, _, rfl, ⟨g8_0, g8_1, g10, g5_0, rfl, rfl⟩, (H.sel [2, 3, 4, 5] rfl).close ⟨cloE, cloE, cloE, cloE, trivial⟩⟩
          ·
           have f50 := condT f41; clear f41
           refine build_ (cs := #[(.int .i64 0), (.int .i64 0), (.int .i64 0), (.slice none 0 0), (.slice none 0 0), (.slice none 0 0), (.slice none 0 0)]) gok rfl rfl rfl ?_
           refine stA gok [(.int .i64 0), (.int .i64 0), (.int .i64 0), (.slice none 0 0), (.slice none 0 0), (.slice none 0 0), (.slice none 0 0)] rfl H rfl rfl rfl ?_; clear H; intro w36 H
           have hs := Option.some.inj f50; subst hs; clear f50
           have f51 : some _ = some _ := congrArg some (hrt _ rfl).symm
           refine loadN [(.int .i64 0), (.int .i64 0), (.int .i64 0), (.slice none 0 0), (.slice none 0 0), (.slice none 0 0), (.slice none 0 0)] rfl (fun j u hj => H.bx 0 rfl hj) ?_
           replace H := H.nil (α := List Int)
           replace H := H.nil (α := List Int)
           replace H := H.nil (α := List Int)
           replace H := H.nil (α := List Int)
           cases f51
           exact ⟨_, _, rfl, ⟨nilH, nilH, nilH, nilH, rfl, rfl⟩, (H.sel [3, 2, 1, 0] rfl).close ⟨cloE, cloE, cloE, cloE, trivial⟩⟩
       ·
        have f52 := condT f29; clear f29
        obtain ⟨a23, e, f53⟩ := bindS f52; clear f52
        obtain ⟨p6, m6, c30, c31, c32, c33⟩ := (H.ro (α := List Int) 11 rfl).at1 e; clear e
        refine idxE c30 c31 c32 ?_; clear c30 c31 c32
        refine load1 c33 ?_; clear c33
        obtain ⟨a24, e, f54⟩ := bindS f53; clear f53
        have HH := H; clear H; obtain ⟨p7, m7, h23, c34, c35, c36, c37, H⟩ := HH.elL 2 rfl e; clear HH
        clear e
        refine idxE c34 c35 c36 ?_; clear c34 c35 c36
        refine load1 c37 ?_; clear c37
        obtain ⟨y8, e, f55⟩ := bindS f54; clear f54
        obtain ⟨y8_0, y8_1⟩ := y8
        have ey1050 := e; clear e
        replace H := H.sel [4, 0, 1, 2, 3, 5, 6, 7, 8, 9, 10, 11, 12] rfl
        refine callF (impl_chooser_coordinates_c b0 s1_0 s1_1 s1_2 g3_0 s1_3 g3_1 s1_4 g3_2 a24 h23 y8_0 y8_1 ey1050) (Γi := [Bx b0 [(.int .i64 s1_0), (.int .i64 s1_1), (g3_0).v, (g3_1).v, (g3_2).v]]) H ⟨Vw.own 4 rfl, Vw.own 5 rfl, Vw.part (β := List (List Int)) (Vw.own (α := List (Sh (List Int))) 6 rfl) s1_4 g3_2 (fun S h => h), Vw.sh 0 rfl, trivial⟩ ?_; clear H ey1050
        rintro _ _ w37 ⟨h24, rfl, rfl⟩ H
        obtain ⟨r6, f56, f57⟩ := bindS f55; clear f55
        refine cut (fun (q3 : (List (List Int) × List (List Int)) × (Hd × Hd)) => [(0, (.int .i64 p_)), (1, (m_h).v), (4, (.pointer (some ⟨b3, 0, none⟩))), (7, (.int .i64 a1_0)), (9, (h2).v), (10, (.pointer (some ⟨b0, 0, none⟩))), (13, (.pointer (some ⟨g5_1, 0, none⟩))), (14, (.int .i64 s4_2)), (15, (.bool y8_1)), (16, (h15).v)]) (fun (q3 : (List (List Int) × List (List Int)) × (Hd × Hd)) w' => (q3.1.1, q3.1.2) = r6 ∧ Cx w0 fp0 S0 w' [Es (List (Int × List (List Int))) m_ m_h, Bx b3 [(.int .i64 0), (.int .i64 0), (.int .i64 0), (.slice none 0 0), (.slice none 0 0), (.slice none 0 0), (.slice none 0 0)], Es (List (List Int)) y0 h2, Bx b0 [(.int .i64 s1_0), (.int .i64 s1_1), (g3_0).v, (g3_1).v, (g3_2).v], E (List (List Int)) s1_2 g3_0, E (List Int) s1_3 g3_1, E (List (Sh (List Int))) s1_4 g3_2, Bx g5_1 [(.int .i64 s2_0), (.int .i64 s2_1), (.int .i64 s2_2), (q3.2.1).v, (q3.2.2).v, (.slice none 0 0), (g5_0).v], E (List (List Int)) q3.1.1 q3.2.1, E (List (List Int)) q3.1.2 q3.2.2, E (List (List Int)) s2_3 g5_0, E (List Int) a16 h15]) ?_ ?_
        ·
         refine fld gok rfl rfl rfl rfl ?_
         refine load1 (H.bx 9 rfl (j := 0) rfl) ?_
         obtain ⟨a25, e, f58⟩ := bindS f56; clear f56
         refine boolO e ?_; clear e
         cases a25
         ·
          have f59 := condF f58; clear f58
          refine fld gok rfl rfl rfl rfl ?_
          refine load1 (H.bx 9 rfl (j := 4) rfl) ?_
          replace H := H.sel [1, 0, 2, 3, 4, 5, 6, 7, 8, 9, 10, 11, 12, 13] rfl
          refine lit1 (α := List Int) (g := h24) gok rfl rfl rfl rfl rfl H ?_; clear H; intro h25 w38 hx H
          clear hx
          obtain ⟨a27, e, f60⟩ := bindS f59; clear f59
          replace H := H.sel [11, 0, 1, 2, 3, 4, 5, 6, 7, 8, 9, 10, 12, 13] rfl
          refine append_ (α := List Int) gok rfl rfl rfl rfl H e ?_; clear e H; intro h26 w39 H
          refine fld gok rfl rfl rfl rfl ?_
          replace H := H.sel [9, 0, 1, 2, 3, 4, 5, 6, 7, 8, 10, 11, 12] rfl
          refine stB (j := 4) H rfl rfl ?_; clear H; intro w41 H
          exact ⟨((s4_0, a27), (g8_0, h26)), ⟨rfl, rfl, rfl, rfl, rfl, rfl, rfl, rfl, rfl, rfl, trivial⟩, Option.some.inj f60, H.sel [4, 5, 6, 2, 7, 8, 9, 0, 10, 1, 11, 12] rfl⟩
         ·
          have f61 := condT f58; clear f58
          refine fld gok rfl rfl rfl rfl ?_
          refine load1 (H.bx 9 rfl (j := 3) rfl) ?_
          replace H := H.sel [1, 0, 2, 3, 4, 5, 6, 7, 8, 9, 10, 11, 12, 13] rfl
          refine lit1 (α := List Int) (g := h24) gok rfl rfl rfl rfl rfl H ?_; clear H; intro h27 w42 hx H
          clear hx
          obtain ⟨a28, e, f62⟩ := bindS f61; clear f61
          replace H := H.sel [10, 0, 1, 2, 3, 4, 5, 6, 7, 8, 9, 11, 12, 13] rfl
          refine append_ (α := List Int) gok rfl rfl rfl rfl H e ?_; clear e H; intro h28 w43 H
          refine fld gok rfl rfl rfl rfl ?_
          replace H := H.sel [9, 0, 1, 2, 3, 4, 5, 6, 7, 8, 10, 11, 12] rfl
          refine stB (j := 3) H rfl rfl ?_; clear H; intro w44 H
          exact ⟨((a28, s4_1), (h28, g8_1)), ⟨rfl, rfl, rfl, rfl, rfl, rfl, rfl, rfl, rfl, rfl, trivial⟩, Option.some.inj f62, H.sel [4, 5, 6, 2, 7, 8, 9, 0, 1, 10, 11, 12] rfl⟩
        ·
         clear f56 H
         rintro T10 ⟨⟨s8_0, s8_1⟩, ⟨g11_0, g11_1⟩⟩ w46 ⟨hr, (H : Cx w0 fp0 S0 w46 [Es (List (Int × List (List Int))) m_ m_h, Bx b3 [(.int .i64 0), (.int .i64 0), (.int .i64 0), (.slice none 0 0), (.slice none 0 0), (.slice none 0 0), (.slice none 0 0)], Es (List (List Int)) y0 h2, Bx b0 [(.int .i64 s1_0), (.int .i64 s1_1), (g3_0).v, (g3_1).v, (g3_2).v], E (List (List Int)) s1_2 g3_0, E (List Int) s1_3 g3_1, E (List (Sh (List Int))) s1_4 g3_2, Bx g5_1 [(.int .i64 s2_0), (.int .i64 s2_1), (.int .i64 s2_2), (g11_0).v, (g11_1).v, (.slice none 0 0), (g5_0).v], E (List (List Int)) s8_0 g11_0, E (List (List Int)) s8_1 g11_1, E (List (List Int)) s2_3 g5_0, E (List Int) a16 h15])⟩
         subst hr
         obtain ⟨a29, e, f63⟩ := bindS f57; clear f57
         refine arO e ?_; clear e
         have hs := Option.some.inj f63; subst hs; clear f63
         exact hgo (s8_0, s8_1, a29, y8_1) (g11_0, g11_1) _ _ rfl ⟨rfl, rfl, rfl, rfl, rfl, rfl, rfl, rfl, rfl, rfl, trivial⟩ (H.sel [0, 1, 2, 3, 4, 5, 6, 7, 8, 9, 10, 11] rfl)
   ·
    have f64 := condT f18; clear f18
    refine build_ (cs := #[(.int .i64 0), (.int .i64 0), (.int .i64 0), (.slice none 0 0), (.slice none 0 0), (.slice none 0 0), (.slice none 0 0)]) gok rfl rfl rfl ?_
    replace H := H.sel [1, 0, 2, 3, 4, 5, 6, 7, 8] rfl
    refine stA gok [(.int .i64 0), (.int .i64 0), (.int .i64 0), (.slice none 0 0), (.slice none 0 0), (.slice none 0 0), (.slice none 0 0)] rfl H rfl rfl rfl ?_; clear H; intro w47 H
    refine loadN [(.int .i64 0), (.int .i64 0), (.int .i64 0), (.slice none 0 0), (.slice none 0 0), (.slice none 0 0), (.slice none 0 0)] rfl (fun j u hj => H.bx 0 rfl hj) ?_
    replace H := H.nil (α := List Int)
    replace H := H.nil (α := List Int)
    replace H := H.nil (α := List Int)
    replace H := H.nil (α := List Int)
    cases f64
    exact ⟨_, _, rfl, ⟨nilH, nilH, nilH, nilH, rfl, rfl⟩, (H.sel [3, 2, 1, 0] rfl).close ⟨cloE, cloE, cloE, cloE, trivial⟩⟩

theorem impl_RealizeMarkov_c (p_ : Int) (m_ : List (Int × List (List Int))) (m_h : Hd) (y0_0 : Int) (y0_1 : Int) (y0_2 : Int) (y0_3 : List (List Int)) (y0_4 : List (List Int)) (y0_5 : List (List Int)) (y0_6 : List (List Int)) (y1 : Bool) (hF : F_impl_RealizeMarkov p_ m_ = some ((y0_0, y0_1, y0_2, y0_3, y0_4, y0_5, y0_6), y1)) :
  ConF Tryd.prog 24 #[(.int .i64 p_), (m_h).v] [Es (List (Int × List (List Int))) m_ m_h, Gl 0 [.int .i64 2, .int .i64 3, .int .i64 5, .int .i64 7]] [] (fun v Γ' => ∃ z0 z1 z2 z3 : Hd, v = (.tuple #[(.agg #[(.int .i64 y0_0), (.int .i64 y0_1), (.int .i64 y0_2), (z0).v, (z1).v, (z2).v, (z3).v]), (.bool y1)]) ∧ Γ' = [E (List (List Int)) y0_3 z0, E (List (List Int)) y0_4 z1, E (List (List Int)) y0_5 z2, E (List (List Int)) y0_6 z3]) := by
 intro w0 S0 fp0 hI hS
 have H : Cx w0 fp0 S0 w0 [Es (List (Int × List (List Int))) m_ m_h, Gl 0 [.int .i64 2, .int .i64 3, .int .i64 5, .int .i64 7]] := Cx.start hI hS
 clear hI hS
 refine enterC (args := [_, _]) gok Tryd.func24 rfl _ rfl rfl rfl ?_
 refine alloc_ gok rfl H ?_; clear H; intro b4 w3 hx H
 clear hx
 refine sq ?_
 obtain ⟨y6, e, hF7⟩ := bindS hF; clear hF
 have ey6 := e; clear e
 refine callF (impl_isResponse_c p_ m_ m_h y6 ey6) (Γi := []) H ⟨Vw.sh 1 rfl, Vw.gl 2 rfl, trivial⟩ ?_; clear H ey6
 rintro _ _ w8 ⟨rfl, rfl⟩ H
 obtain ⟨a9, e, f0⟩ := bindS hF7; clear hF7
 refine boolO e ?_; clear e
 cases a9
 ·
  have f1 := condF f0; clear f0
  obtain ⟨y0, e, f2⟩ := bindS f1; clear f1
  obtain ⟨⟨y0_0_0, y0_0_1, y0_0_2, y0_0_3, y0_0_4, y0_0_5, y0_0_6⟩, y0_1⟩ := y0
  have ey12 := e; clear e
  refine callF (impl_realize_c p_ m_ m_h y0_0_0 y0_0_1 y0_0_2 y0_0_3 y0_0_4 y0_0_5 y0_0_6 y0_1 ey12) (Γi := []) H ⟨Vw.sh 1 rfl, trivial⟩ ?_; clear H ey12
  rintro _ _ w1 ⟨h0, h1, h2, h3, rfl, rfl⟩ H
  replace H := H.sel [4, 0, 1, 2, 3, 5, 6] rfl
  refine stA gok [(.int .i64 y0_0_0), (.int .i64 y0_0_1), (.int .i64 y0_0_2), (h0).v, (h1).v, (h2).v, (h3).v] rfl H rfl rfl rfl ?_; clear H; intro w2 H
  refine loadN [(.int .i64 y0_0_0), (.int .i64 y0_0_1), (.int .i64 y0_0_2), (h0).v, (h1).v, (h2).v, (h3).v] rfl (fun j u hj => H.bx 0 rfl hj) ?_
  cases f2
  exact ⟨_, _, rfl, ⟨h0, h1, h2, h3, rfl, rfl⟩, (H.sel [1, 2, 3, 4] rfl).close ⟨cloE, cloE, cloE, cloE, trivial⟩⟩
 ·
  have f3 := condT f0; clear f0
  refine build_ (cs := #[(.int .i64 0), (.int .i64 0), (.int .i64 0), (.slice none 0 0), (.slice none 0 0), (.slice none 0 0), (.slice none 0 0)]) gok rfl rfl rfl ?_
  refine stA gok [(.int .i64 0), (.int .i64 0), (.int .i64 0), (.slice none 0 0), (.slice none 0 0), (.slice none 0 0), (.slice none 0 0)] rfl H rfl rfl rfl ?_; clear H; intro w4 H
  refine loadN [(.int .i64 0), (.int .i64 0), (.int .i64 0), (.slice none 0 0), (.slice none 0 0), (.slice none 0 0), (.slice none 0 0)] rfl (fun j u hj => H.bx 0 rfl hj) ?_
  replace H := H.nil (α := List Int)
  replace H := H.nil (α := List Int)
  replace H := H.nil (α := List Int)
  replace H := H.nil (α := List Int)
  cases f3
  exact ⟨_, _, rfl, ⟨nilH, nilH, nilH, nilH, rfl, rfl⟩, (H.sel [3, 2, 1, 0] rfl).close ⟨cloE, cloE, cloE, cloE, trivial⟩⟩

theorem impl_RealizeSequence_c (p_ : Int) (s_ : List Int) (s_h : Hd) (y0_0 : Int) (y0_1 : Int) (y0_2 : Int) (y0_3 : List (List Int)) (y0_4 : List (List Int)) (y0_5 : List (List Int)) (y0_6 : List (List Int)) (y1 : Bool) (hF : F_impl_RealizeSequence p_ s_ = some ((y0_0, y0_1, y0_2, y0_3, y0_4, y0_5, y0_6), y1)) :
  ConF Tryd.prog 17 #[(.int .i64 p_), (s_h).v] [Es (List Int) s_ s_h, Gl 0 [.int .i64 2, .int .i64 3, .int .i64 5, .int .i64 7]] [] (fun v Γ' => ∃ z0 z1 z2 z3 : Hd, v = (.tuple #[(.agg #[(.int .i64 y0_0), (.int .i64 y0_1), (.int .i64 y0_2), (z0).v, (z1).v, (z2).v, (z3).v]), (.bool y1)]) ∧ Γ' = [E (List (List Int)) y0_3 z0, E (List (List Int)) y0_4 z1, E (List (List Int)) y0_5 z2, E (List (List Int)) y0_6 z3]) := by
 intro w0 S0 fp0 hI hS
 have H : Cx w0 fp0 S0 w0 [Es (List Int) s_ s_h, Gl 0 [.int .i64 2, .int .i64 3, .int .i64 5, .int .i64 7]] := Cx.start hI hS
 clear hI hS
 refine enterC (args := [_, _]) gok Tryd.func17 rfl _ rfl rfl rfl ?_
 refine alloc_ gok rfl H ?_; clear H; intro b4 w3 hx H
 clear hx
 refine lit0 (α := Int × List (List Int)) gok rfl rfl H ?_; clear H; intro h7 w6 hx H
 clear hx
 refine sq ?_
 refine lenE (H.rs (α := List Int) 2 rfl).len ?_
 have x0 := (H.rs (α := List Int) 2 rfl).max
 obtain ⟨r0, e, f0⟩ := bindS hF; clear hF
 refine loopS _ s_.length (fun (k9 : Nat) (s0 : List (Int × List (List Int))) (g0 : Hd) => [(0, (.int .i64 p_)), (4, (.pointer (some ⟨b4, 0, none⟩))), (6, (g0).v), (10, (s_h).v), (11, (.int .i64 ((s_.length : Nat) : Int))), (12, (.int .i64 ((k9 : Nat) : Int)))]) (fun _ (s0 : List (Int × List (List Int))) (g0 : Hd) w' => Cx w0 fp0 S0 w' [Bx b4 [(.int .i64 0), (.int .i64 0), (.int .i64 0), (.slice none 0 0), (.slice none 0 0), (.slice none 0 0), (.slice none 0 0)], E (List (Int × List (List Int))) s0 g0, Es (List Int) s_ s_h, Gl 0 [.int .i64 2, .int .i64 3, .int .i64 5, .int .i64 7]]) ([] : List (Int × List (List Int))) h7 e ⟨rfl, rfl, rfl, rfl, rfl, rfl, trivial⟩ (H.sel [1, 0, 2, 3] rfl) ?_ ?_
 ·
  clear H e
  rintro T0 k9 s0 g0 w1 o0 hk (H : Cx w0 fp0 S0 w1 [Bx b4 [(.int .i64 0), (.int .i64 0), (.int .i64 0), (.slice none 0 0), (.slice none 0 0), (.slice none 0 0), (.slice none 0 0)], E (List (Int × List (List Int))) s0 g0, Es (List Int) s_ s_h, Gl 0 [.int .i64 2, .int .i64 3, .int .i64 5, .int .i64 7]]) f1
  refine boolE (z := true) (ltLen hk) ?_
  refine sq ?_
  refine sq ?_
  obtain ⟨a0, e, f2⟩ := bindS f1; clear f1
  obtain ⟨p0, m0, c0, c1, c2, c3⟩ := (H.rs (α := List Int) 2 rfl).at1 e; clear e
  refine idxE c0 c1 c2 ?_; clear c0 c1 c2
  refine load1 c3 ?_; clear c3
  refine lit1S (α := Int) gok rfl rfl rfl rfl H ?_; clear H; intro h0 w2 hx H
  clear hx
  refine lit1 (α := List Int) (g := h0) gok rfl rfl rfl rfl rfl H ?_; clear H; intro h1 w4 hx H
  clear hx
  refine build_ (cs := #[(.int .i64 1), (h1).v]) gok rfl rfl rfl ?_
  replace H := H.sc (α := Int) 1
  replace H := H.join (α := Int) (β := List (List Int))
  refine lit1 (α := Int × List (List Int)) (g := ((), h1)) gok rfl rfl rfl rfl rfl H ?_; clear H; intro h2 w5 hx H
  clear hx
  obtain ⟨a1, e, f3⟩ := bindS f2; clear f2
  replace H := H.sel [2, 0, 1, 3, 4] rfl
  refine append_ (α := Int × List (List Int)) gok rfl rfl rfl rfl H e ?_; clear e H; intro h3 w7 H
  refine arK hk x0 ?_
  have hs := Option.some.inj f3; subst hs; clear f3
  exact ⟨h3, ⟨rfl, rfl, rfl, rfl, rfl, rfl, trivial⟩, H.sel [1, 0, 2, 3] rfl⟩
 ·
  clear H e
  rintro T1 g1 w8 (H : Cx w0 fp0 S0 w8 [Bx b4 [(.int .i64 0), (.int .i64 0), (.int .i64 0), (.slice none 0 0), (.slice none 0 0), (.slice none 0 0), (.slice none 0 0)], E (List (Int × List (List Int))) r0 g1, Es (List Int) s_ s_h, Gl 0 [.int .i64 2, .int .i64 3, .int .i64 5, .int .i64 7]])
  refine boolE (z := false) geLen ?_
  refine sq ?_
  obtain ⟨y0, e, f4⟩ := bindS f0; clear f0
  obtain ⟨⟨y0_0_0, y0_0_1, y0_0_2, y0_0_3, y0_0_4, y0_0_5, y0_0_6⟩, y0_1⟩ := y0
  have ey102 := e; clear e
  refine callF (impl_RealizeMarkov_c p_ r0 g1 y0_0_0 y0_0_1 y0_0_2 y0_0_3 y0_0_4 y0_0_5 y0_0_6 y0_1 ey102) (Γi := []) H ⟨Vw.own 1 rfl, Vw.gl 3 rfl, trivial⟩ ?_; clear H ey102
  rintro _ _ w9 ⟨h4, h5, h6, h8, rfl, rfl⟩ H
  replace H := H.sel [4, 0, 1, 2, 3, 5, 6, 7] rfl
  refine stA gok [(.int .i64 y0_0_0), (.int .i64 y0_0_1), (.int .i64 y0_0_2), (h4).v, (h5).v, (h6).v, (h8).v] rfl H rfl rfl rfl ?_; clear H; intro w10 H
  refine loadN [(.int .i64 y0_0_0), (.int .i64 y0_0_1), (.int .i64 y0_0_2), (h4).v, (h5).v, (h6).v, (h8).v] rfl (fun j u hj => H.bx 0 rfl hj) ?_
  cases f4
  exact ⟨_, _, rfl, ⟨h4, h5, h6, h8, rfl, rfl⟩, (H.sel [1, 2, 3, 4] rfl).close ⟨cloE, cloE, cloE, cloE, trivial⟩⟩

theorem laws_eqIntS_c (a_ : List Int) (a_h : Hd) (b_ : List Int) (b_h : Hd) (y : Bool) (hF : F_laws_eqIntS a_ b_ = some y) :
  ConF Tryd.prog 18 #[(a_h).v, (b_h).v] [Es (List Int) a_ a_h, Es (List Int) b_ b_h] [] (fun v Γ' => v = (.bool y) ∧ Γ' = []) := by
 intro w0 S0 fp0 hI hS
 have H : Cx w0 fp0 S0 w0 [Es (List Int) a_ a_h, Es (List Int) b_ b_h] := Cx.start hI hS
 clear hI hS
 refine enterC (args := [_, _]) gok Tryd.func18 rfl _ rfl rfl rfl ?_
 refine sq ?_
 refine lenE (H.rs (α := List Int) 0 rfl).len ?_
 refine lenE (H.rs (α := List Int) 1 rfl).len ?_
 obtain ⟨a3, e, hF4⟩ := bindS hF; clear hF
 refine boolO e ?_; clear e
 cases a3
 ·
  have hF5 := condF hF4; clear hF4
  obtain ⟨r0, f0, f1⟩ := bindS hF5; clear hF5
  refine cut (fun (q0 : Unit) => []) (fun (q0 : Unit) w' => .inl () = r0 ∧ Cx w0 fp0 S0 w' []) ?_ ?_
  ·
   refine loopW _ (fun (s0 : Int) (_ : Unit) => [(0, (a_h).v), (1, (b_h).v), (5, (.int .i64 s0))]) (fun (s0 : Int) (_ : Unit) w' => Cx w0 fp0 S0 w' [Es (List Int) a_ a_h, Es (List Int) b_ b_h]) 0 () f0 ⟨rfl, rfl, rfl, trivial⟩ (H.sel [0, 1] rfl) ?_
   ·
    clear H
    rintro T0 s0 _ w1 o0 (H : Cx w0 fp0 S0 w1 [Es (List Int) a_ a_h, Es (List Int) b_ b_h]) hrt f2
    refine sq ?_
    refine lenE (H.rs (α := List Int) 0 rfl).len ?_
    obtain ⟨a0, e, f3⟩ := bindS f2; clear f2
    refine boolO e ?_; clear e
    cases a0
    ·
     have f4 := condF f3; clear f3
     have hs := Option.some.inj f4; subst hs; clear f4
     have f5 : some _ = some _ := congrArg some (hrt _ rfl).symm
     exact ⟨(), trivial, Option.some.inj f5, H.sel [] rfl⟩
    ·
     have f6 := condT f3; clear f3
     refine sq ?_
     refine heldX H [] (.fst 0 (.fst 1 (.fst 2 (.fst 4 (.fst 5 (.fst 6 (.fst 3 (.fst 7 (.fst 8 .done))))))))) mixed [] trivial (by kernel_rfl) ?_
     clear H; intro w2 H
     have hX : Ext w2 w2 := Upd.refl _ _
     have H0 := H
     obtain ⟨a1, e, f7⟩ := bindS f6; clear f6
     obtain ⟨p0, m0, c0, c1, c2, c3⟩ := (H.rs (α := List Int) 0 rfl).at1 e; clear e
     refine idxE c0 c1 c2 ?_; clear c0 c1 c2
     obtain ⟨a2, e, f8⟩ := bindS f7; clear f7
     obtain ⟨p1, m1, c4, c5, c6, c7⟩ := (H.rs (α := List Int) 1 rfl).at1 e; clear e
     refine idxE c4 c5 c6 ?_; clear c4 c5 c6
     refine load1X c3 ?_; clear c3
     refine load1X c7 ?_; clear c7
     obtain ⟨a4, e, f9⟩ := bindS f8; clear f8
     refine boolO e ?_; clear e
     cases a4
     ·
      have f10 := condF f9; clear f9
      obtain ⟨a5, e, f11⟩ := bindS f10; clear f10
      refine arO e ?_; clear e
      have hs := Option.some.inj f11; subst hs; clear f11
      exact ⟨a5, (), rfl, ⟨rfl, rfl, rfl, trivial⟩, H.sel [0, 1] rfl⟩
     ·
      have f12 := condT f9; clear f9
      have hs := Option.some.inj f12; subst hs; clear f12
      have f13 : some _ = some _ := congrArg some (hrt _ rfl).symm
      have hs := Option.some.inj f13; subst hs; clear f13
      have f14 : some _ = some _ := f1; clear f1
      cases f14
      exact ⟨_, _, rfl, ⟨rfl, rfl⟩, (H.sel [] rfl).close trivial⟩
  ·
   clear f0 H
   rintro T1 _ w3 ⟨hr, (H : Cx w0 fp0 S0 w3 [])⟩
   subst hr
   cases f1
   exact ⟨_, _, rfl, ⟨rfl, rfl⟩, (H.sel [] rfl).close trivial⟩
 ·
  have f15 := condT hF4; clear hF4
  cases f15
  exact ⟨_, _, rfl, ⟨rfl, rfl⟩, (H.sel [] rfl).close trivial⟩

theorem laws_eqIntSS_c (a_ : List (List Int)) (a_h : Hd) (b_ : List (List Int)) (b_h : Hd) (y : Bool) (hF : F_laws_eqIntSS a_ b_ = some y) :
  ConF Tryd.prog 41 #[(a_h).v, (b_h).v] [Es (List (List Int)) a_ a_h, Es (List (List Int)) b_ b_h] [] (fun v Γ' => v = (.bool y) ∧ Γ' = []) := by
 intro w0 S0 fp0 hI hS
 have H : Cx w0 fp0 S0 w0 [Es (List (List Int)) a_ a_h, Es (List (List Int)) b_ b_h] := Cx.start hI hS
 clear hI hS
 refine enterC (args := [_, _]) gok Tryd.func41 rfl _ rfl rfl rfl ?_
 refine sq ?_
 refine lenE (H.rs (α := List (List Int)) 0 rfl).len ?_
 refine lenE (H.rs (α := List (List Int)) 1 rfl).len ?_
 obtain ⟨a3, e, hF4⟩ := bindS hF; clear hF
 refine boolO e ?_; clear e
 cases a3
 ·
  have hF5 := condF hF4; clear hF4
  obtain ⟨r0, f0, f1⟩ := bindS hF5; clear hF5
  refine cut (fun (q0 : Unit) => []) (fun (q0 : Unit) w' => .inl () = r0 ∧ Cx w0 fp0 S0 w' []) ?_ ?_
  ·
   refine loopW _ (fun (s0 : Int) (_ : Unit) => [(0, (a_h).v), (1, (b_h).v), (5, (.int .i64 s0))]) (fun (s0 : Int) (_ : Unit) w' => Cx w0 fp0 S0 w' [Es (List (List Int)) a_ a_h, Es (List (List Int)) b_ b_h]) 0 () f0 ⟨rfl, rfl, rfl, trivial⟩ (H.sel [0, 1] rfl) ?_
   ·
    clear H
    rintro T0 s0 _ w1 o0 (H : Cx w0 fp0 S0 w1 [Es (List (List Int)) a_ a_h, Es (List (List Int)) b_ b_h]) hrt f2
    refine sq ?_
    refine lenE (H.rs (α := List (List Int)) 0 rfl).len ?_
    obtain ⟨a0, e, f3⟩ := bindS f2; clear f2
    refine boolO e ?_; clear e
    cases a0
    ·
     have f4 := condF f3; clear f3
     have hs := Option.some.inj f4; subst hs; clear f4
     have f5 : some _ = some _ := congrArg some (hrt _ rfl).symm
     exact ⟨(), trivial, Option.some.inj f5, H.sel [] rfl⟩
    ·
     have f6 := condT f3; clear f3
     refine sq ?_
     refine heldX H [] (.fst 0 (.fst 1 (.fst 2 (.fst 4 (.fst 5 (.fst 6 (.fst 3 (.fst 7 (.act 8 (.fst 9 .done)))))))))) mixed [] trivial (by kernel_rfl) ?_
     clear H; intro w2 H
     have hX : Ext w2 w2 := Upd.refl _ _
     have H0 := H
     obtain ⟨a1, e, f7⟩ := bindS f6; clear f6
     have HH := H; clear H; obtain ⟨p0, m0, h0, c0, c1, c2, c3, H⟩ := HH.elL 0 rfl e; clear HH
     clear e
     refine idxE c0 c1 c2 ?_; clear c0 c1 c2
     obtain ⟨a2, e, f8⟩ := bindS f7; clear f7
     have HH := H; clear H; obtain ⟨p1, m1, h1, c4, c5, c6, c7, H⟩ := HH.elL 2 rfl e; clear HH
     clear e
     refine idxE c4 c5 c6 ?_; clear c4 c5 c6
     refine load1X c3 ?_; clear c3
     refine load1X c7 ?_; clear c7
     obtain ⟨y0, e, f9⟩ := bindS f8; clear f8
     have ey236 := e; clear e
     refine callFx (laws_eqIntS_c a1 h0 a2 h1 y0 ey236) H ⟨Vw.sh 1 rfl, Vw.sh 0 rfl, trivial⟩ ?_; clear H ey236
     rintro _ _ w3 ⟨rfl, rfl⟩ hx H
     replace hX := hX.trans0 hx; clear hx
     refine hold hX ?_
     obtain ⟨a4, e, f10⟩ := bindS f9; clear f9
     refine boolO e ?_; clear e
     cases a4
     ·
      have f11 := condF f10; clear f10
      obtain ⟨a5, e, f12⟩ := bindS f11; clear f11
      refine arO e ?_; clear e
      have hs := Option.some.inj f12; subst hs; clear f12
      exact ⟨a5, (), rfl, ⟨rfl, rfl, rfl, trivial⟩, H.sel [2, 3] rfl⟩
     ·
      have f13 := condT f10; clear f10
      have hs := Option.some.inj f13; subst hs; clear f13
      have f14 : some _ = some _ := congrArg some (hrt _ rfl).symm
      have hs := Option.some.inj f14; subst hs; clear f14
      have f15 : some _ = some _ := f1; clear f1
      cases f15
      exact ⟨_, _, rfl, ⟨rfl, rfl⟩, (H.sel [] rfl).close trivial⟩
  ·
   clear f0 H
   rintro T1 _ w4 ⟨hr, (H : Cx w0 fp0 S0 w4 [])⟩
   subst hr
   cases f1
   exact ⟨_, _, rfl, ⟨rfl, rfl⟩, (H.sel [] rfl).close trivial⟩
 ·
  have f16 := condT hF4; clear hF4
  cases f16
  exact ⟨_, _, rfl, ⟨rfl, rfl⟩, (H.sel [] rfl).close trivial⟩

theorem laws_eqStateSpace_c (a__0 : Int) (a__1 : Int) (a__2 : Int) (a__3 : List (List Int)) (a__3h : Hd) (a__4 : List (List Int)) (a__4h : Hd) (a__5 : List (List Int)) (a__5h : Hd) (a__6 : List (List Int)) (a__6h : Hd) (b__0 : Int) (b__1 : Int) (b__2 : Int) (b__3 : List (List Int)) (b__3h : Hd) (b__4 : List (List Int)) (b__4h : Hd) (b__5 : List (List Int)) (b__5h : Hd) (b__6 : List (List Int)) (b__6h : Hd) (y : Bool) (hF : F_laws_eqStateSpace (a__0, a__1, a__2, a__3, a__4, a__5, a__6) (b__0, b__1, b__2, b__3, b__4, b__5, b__6) = some y) :
  ConF Tryd.prog 11 #[(.agg #[(.int .i64 a__0), (.int .i64 a__1), (.int .i64 a__2), (a__3h).v, (a__4h).v, (a__5h).v, (a__6h).v]), (.agg #[(.int .i64 b__0), (.int .i64 b__1), (.int .i64 b__2), (b__3h).v, (b__4h).v, (b__5h).v, (b__6h).v])] [Es (List (List Int)) a__3 a__3h, Es (List (List Int)) a__4 a__4h, Es (List (List Int)) a__5 a__5h, Es (List (List Int)) a__6 a__6h, Es (List (List Int)) b__3 b__3h, Es (List (List Int)) b__4 b__4h, Es (List (List Int)) b__5 b__5h, Es (List (List Int)) b__6 b__6h] [] (fun v Γ' => v = (.bool y) ∧ Γ' = []) := by
 intro w0 S0 fp0 hI hS
 have H : Cx w0 fp0 S0 w0 [Es (List (List Int)) a__3 a__3h, Es (List (List Int)) a__4 a__4h, Es (List (List Int)) a__5 a__5h, Es (List (List Int)) a__6 a__6h, Es (List (List Int)) b__3 b__3h, Es (List (List Int)) b__4 b__4h, Es (List (List Int)) b__5 b__5h, Es (List (List Int)) b__6 b__6h] := Cx.start hI hS
 clear hI hS
 refine enterC (args := [_, _]) gok Tryd.func11 rfl _ rfl rfl rfl ?_
 refine box_ H ?_; clear H; intro b0 w9 hx H
 clear hx
 refine box_ H ?_; clear H; intro b1 w1 hx H
 clear hx
 refine sq ?_
 refine fld gok rfl rfl rfl rfl ?_
 refine load1 (H.bx 1 rfl (j := 0) rfl) ?_
 refine fld gok rfl rfl rfl rfl ?_
 refine load1 (H.bx 0 rfl (j := 0) rfl) ?_
 obtain ⟨a0, e, f0⟩ := bindS hF; clear hF
 refine boolO e ?_; clear e
 cases a0
 ·
  have f1 := condF f0; clear f0
  refine sq ?_
  refine fld gok rfl rfl rfl rfl ?_
  refine load1 (H.bx 1 rfl (j := 1) rfl) ?_
  refine fld gok rfl rfl rfl rfl ?_
  refine load1 (H.bx 0 rfl (j := 1) rfl) ?_
  obtain ⟨a1, e, f2⟩ := bindS f1; clear f1
  refine boolO e ?_; clear e
  cases a1
  ·
   have f3 := condF f2; clear f2
   refine sq ?_
   refine fld gok rfl rfl rfl rfl ?_
   refine load1 (H.bx 1 rfl (j := 2) rfl) ?_
   refine fld gok rfl rfl rfl rfl ?_
   refine load1 (H.bx 0 rfl (j := 2) rfl) ?_
   obtain ⟨a2, e, f4⟩ := bindS f3; clear f3
   refine boolO e ?_; clear e
   cases a2
   ·
    have f5 := condF f4; clear f4
    refine sq ?_
    refine fld gok rfl rfl rfl rfl ?_
    refine load1 (H.bx 1 rfl (j := 3) rfl) ?_
    refine fld gok rfl rfl rfl rfl ?_
    refine load1 (H.bx 0 rfl (j := 3) rfl) ?_
    obtain ⟨y0, e, f6⟩ := bindS f5; clear f5
    have ey24 := e; clear e
    refine callF (laws_eqIntSS_c a__3 a__3h b__3 b__3h y0 ey24) (Γi := []) H ⟨Vw.sh 2 rfl, Vw.sh 6 rfl, trivial⟩ ?_; clear H ey24
    rintro _ _ w2 ⟨rfl, rfl⟩ H
    obtain ⟨a3, e, f7⟩ := bindS f6; clear f6
    refine boolO e ?_; clear e
    cases a3
    ·
     have f8 := condF f7; clear f7
     refine sq ?_
     refine fld gok rfl rfl rfl rfl ?_
     refine load1 (H.bx 1 rfl (j := 4) rfl) ?_
     refine fld gok rfl rfl rfl rfl ?_
     refine load1 (H.bx 0 rfl (j := 4) rfl) ?_
     obtain ⟨y1, e, f9⟩ := bindS f8; clear f8
     have ey30 := e; clear e
     refine callF (laws_eqIntSS_c a__4 a__4h b__4 b__4h y1 ey30) (Γi := []) H ⟨Vw.sh 3 rfl, Vw.sh 7 rfl, trivial⟩ ?_; clear H ey30
     rintro _ _ w3 ⟨rfl, rfl⟩ H
     obtain ⟨a4, e, f10⟩ := bindS f9; clear f9
     refine boolO e ?_; clear e
     cases a4
     ·
      have f11 := condF f10; clear f10
      refine sq ?_
      refine fld gok rfl rfl rfl rfl ?_
      refine load1 (H.bx 1 rfl (j := 5) rfl) ?_
      refine fld gok rfl rfl rfl rfl ?_
      refine load1 (H.bx 0 rfl (j := 5) rfl) ?_
      obtain ⟨y2, e, f12⟩ := bindS f11; clear f11
      have ey36 := e; clear e
      refine callF (laws_eqIntSS_c a__5 a__5h b__5 b__5h y2 ey36) (Γi := []) H ⟨Vw.sh 4 rfl, Vw.sh 8 rfl, trivial⟩ ?_; clear H ey36
      rintro _ _ w4 ⟨rfl, rfl⟩ H
      obtain ⟨a5, e, f13⟩ := bindS f12; clear f12
      refine boolO e ?_; clear e
      cases a5
      ·
       have f14 := condF f13; clear f13
       refine sq ?_
       refine fld gok rfl rfl rfl rfl ?_
       refine load1 (H.bx 1 rfl (j := 6) rfl) ?_
       refine fld gok rfl rfl rfl rfl ?_
       refine load1 (H.bx 0 rfl (j := 6) rfl) ?_
       obtain ⟨y3, e, f15⟩ := bindS f14; clear f14
       have ey42 := e; clear e
       refine callF (laws_eqIntSS_c a__6 a__6h b__6 b__6h y3 ey42) (Γi := []) H ⟨Vw.sh 5 rfl, Vw.sh 9 rfl, trivial⟩ ?_; clear H ey42
       rintro _ _ w5 ⟨rfl, rfl⟩ H
       obtain ⟨a6, e, f16⟩ := bindS f15; clear f15
       refine boolO e ?_; clear e
       cases a6
       ·
        have f17 := condF f16; clear f16
        cases f17
        exact ⟨_, _, rfl, ⟨rfl, rfl⟩, (H.sel [] rfl).close trivial⟩
       ·
        have f18 := condT f16; clear f16
        cases f18
        exact ⟨_, _, rfl, ⟨rfl, rfl⟩, (H.sel [] rfl).close trivial⟩
      ·
       have f19 := condT f13; clear f13
       cases f19
       exact ⟨_, _, rfl, ⟨rfl, rfl⟩, (H.sel [] rfl).close trivial⟩
     ·
      have f20 := condT f10; clear f10
      cases f20
      exact ⟨_, _, rfl, ⟨rfl, rfl⟩, (H.sel [] rfl).close trivial⟩
    ·
     have f21 := condT f7; clear f7
     cases f21
     exact ⟨_, _, rfl, ⟨rfl, rfl⟩, (H.sel [] rfl).close trivial⟩
   ·
    have f22 := condT f4; clear f4
    cases f22
    exact ⟨_, _, rfl, ⟨rfl, rfl⟩, (H.sel [] rfl).close trivial⟩
  ·
   have f23 := condT f2; clear f2
   cases f23
   exact ⟨_, _, rfl, ⟨rfl, rfl⟩, (H.sel [] rfl).close trivial⟩
 ·
  have f24 := condT f0; clear f0
  cases f24
  exact ⟨_, _, rfl, ⟨rfl, rfl⟩, (H.sel [] rfl).close trivial⟩

theorem laws_markIntS_c (a_ : List Int) (a_h : Hd) (k_ : Int) (y0 : List Int) (y1 : Int) (hF : F_laws_markIntS a_ k_ = some (y0, y1)) :
  ConF Tryd.prog 19 #[(a_h).v, (.int .i64 k_)] [] [E (List Int) a_ a_h] (fun v Γ' => v = (.int .i64 y1) ∧ Γ' = [E (List Int) y0 a_h]) := by
 intro w0 S0 fp0 hI hS
 have H : Cx w0 fp0 S0 w0 [E (List Int) a_ a_h] := Cx.start hI hS
 clear hI hS
 refine enterC (args := [_, _]) gok Tryd.func19 rfl _ rfl rfl rfl ?_
 obtain ⟨r0, f0, f1⟩ := bindS hF; clear hF
 refine cut (fun (q0 : List Int × Int) => [(1, (.int .i64 q0.2))]) (fun (q0 : List Int × Int) w' => (q0.1, q0.2) = r0 ∧ Cx w0 fp0 S0 w' [E (List Int) q0.1 a_h]) ?_ ?_
 ·
  refine loopW _ (fun (s0 : List Int × Int × Int) (_ : Unit) => [(0, (a_h).v), (1, (.int .i64 s0.2.1)), (5, (.int .i64 s0.2.2))]) (fun (s0 : List Int × Int × Int) (_ : Unit) w' => Cx w0 fp0 S0 w' [E (List Int) s0.1 a_h]) (a_, k_, 0) () f0 ⟨rfl, rfl, rfl, trivial⟩ (H.sel [0] rfl) ?_
  ·
   clear H
   rintro T0 ⟨s0_0, s0_1, s0_2⟩ _ w1 o0 (H : Cx w0 fp0 S0 w1 [E (List Int) s0_0 a_h]) hrt f2
   refine sq ?_
   refine lenE (H.ro (α := List Int) 0 rfl).len ?_
   obtain ⟨a0, e, f3⟩ := bindS f2; clear f2
   refine boolO e ?_; clear e
   cases a0
   ·
    have f4 := condF f3; clear f3
    have hs := Option.some.inj f4; subst hs; clear f4
    have f5 : some _ = some _ := congrArg some (hrt _ rfl).symm
    exact ⟨(s0_0, s0_1), ⟨rfl, trivial⟩, Option.some.inj f5, H.sel [0] rfl⟩
   ·
    have f6 := condT f3; clear f3
    refine sq ?_
    obtain ⟨a1, e, f7⟩ := bindS f6; clear f6
    have ea131 := e; clear e
    obtain ⟨p0, m0, c0, c1, c2⟩ := (H.ro (α := List Int) 0 rfl).setp ea131
    refine idxE c0 c1 c2 ?_
    refine setS (α := Int) H c0 c1 ea131 ?_; clear H c0 c1 c2 ea131; intro w2 H
    obtain ⟨a2, e, f8⟩ := bindS f7; clear f7
    refine arO e ?_; clear e
    obtain ⟨a3, e, f9⟩ := bindS f8; clear f8
    refine arO e ?_; clear e
    have hs := Option.some.inj f9; subst hs; clear f9
    exact ⟨(a1, a2, a3), (), rfl, ⟨rfl, rfl, rfl, trivial⟩, H.sel [0] rfl⟩
 ·
  clear f0 H
  rintro T1 ⟨s1_0, s1_1⟩ w3 ⟨hr, (H : Cx w0 fp0 S0 w3 [E (List Int) s1_0 a_h])⟩
  subst hr
  cases f1
  exact ⟨_, _, rfl, ⟨rfl, rfl⟩, (H.sel [0] rfl).close ⟨cloE, trivial⟩⟩

theorem laws_markIntSS_c (a_ : List (List Int)) (a_h : Hd) (k_ : Int) (y0 : List (List Int)) (y1 : Int) (hF : F_laws_markIntSS a_ k_ = some (y0, y1)) :
  ConF Tryd.prog 42 #[(a_h).v, (.int .i64 k_)] [] [E (List (List Int)) a_ a_h] (fun v Γ' => v = (.int .i64 y1) ∧ Γ' = [E (List (List Int)) y0 a_h]) := by
 intro w0 S0 fp0 hI hS
 have H : Cx w0 fp0 S0 w0 [E (List (List Int)) a_ a_h] := Cx.start hI hS
 clear hI hS
 refine enterC (args := [_, _]) gok Tryd.func42 rfl _ rfl rfl rfl ?_
 obtain ⟨r0, f0, f1⟩ := bindS hF; clear hF
 refine cut (fun (q0 : List (List Int) × Int) => [(1, (.int .i64 q0.2))]) (fun (q0 : List (List Int) × Int) w' => (q0.1, q0.2) = r0 ∧ Cx w0 fp0 S0 w' [E (List (List Int)) q0.1 a_h]) ?_ ?_
 ·
  refine loopW _ (fun (s0 : List (List Int) × Int × Int) (_ : Unit) => [(0, (a_h).v), (1, (.int .i64 s0.2.1)), (5, (.int .i64 s0.2.2))]) (fun (s0 : List (List Int) × Int × Int) (_ : Unit) w' => Cx w0 fp0 S0 w' [E (List (List Int)) s0.1 a_h]) (a_, k_, 0) () f0 ⟨rfl, rfl, rfl, trivial⟩ (H.sel [0] rfl) ?_
  ·
   clear H
   rintro T0 ⟨s0_0, s0_1, s0_2⟩ _ w1 o0 (H : Cx w0 fp0 S0 w1 [E (List (List Int)) s0_0 a_h]) hrt f2
   refine sq ?_
   refine lenE (H.ro (α := List (List Int)) 0 rfl).len ?_
   obtain ⟨a0, e, f3⟩ := bindS f2; clear f2
   refine boolO e ?_; clear e
   cases a0
   ·
    have f4 := condF f3; clear f3
    have hs := Option.some.inj f4; subst hs; clear f4
    have f5 : some _ = some _ := congrArg some (hrt _ rfl).symm
    exact ⟨(s0_0, s0_1), ⟨rfl, trivial⟩, Option.some.inj f5, H.sel [0] rfl⟩
   ·
    have f6 := condT f3; clear f3
    refine sq ?_
    obtain ⟨a1, e, f7⟩ := bindS f6; clear f6
    replace H := H.toEH (α := List Int)
    have HH := H; clear H; obtain ⟨p0, m0, h0, c0, c1, c2, c3, H⟩ := HH.peekL e; clear HH
    clear e
    refine idxE c0 c1 c2 ?_
    refine load1 c3 ?_; clear c3
    obtain ⟨y2, e, f8⟩ := bindS f7; clear f7
    obtain ⟨y2_0, y2_1⟩ := y2
    have ey154 := e; clear e
    replace H := H.takeK 0 rfl
    refine callF (laws_markIntS_c a1 h0 s0_1 y2_0 y2_1 ey154) (Γi := [E (List Int) a1 h0]) H trivial ?_; clear H ey154
    rintro _ _ w2 ⟨rfl, rfl⟩ H
    obtain ⟨a2, e, f9⟩ := bindS f8; clear f8
    replace H := H.put c1 e; clear e
    obtain ⟨a3, e, f10⟩ := bindS f9; clear f9
    refine arO e ?_; clear e
    have hs := Option.some.inj f10; subst hs; clear f10
    exact ⟨(a2, y2_1, a3), (), rfl, ⟨rfl, rfl, rfl, trivial⟩, H.sel [0] rfl⟩
 ·
  clear f0 H
  rintro T1 ⟨s1_0, s1_1⟩ w3 ⟨hr, (H : Cx w0 fp0 S0 w3 [E (List (List Int)) s1_0 a_h])⟩
  subst hr
  cases f1
  exact ⟨_, _, rfl, ⟨rfl, rfl⟩, (H.sel [0] rfl).close ⟨cloE, trivial⟩⟩

theorem laws_markStateSpace_c (a__0 : Int) (a__1 : Int) (a__2 : Int) (a__3 : List (List Int)) (a__3h : Hd) (a__4 : List (List Int)) (a__4h : Hd) (a__5 : List (List Int)) (a__5h : Hd) (a__6 : List (List Int)) (a__6h : Hd) (k_ : Int) (y0_0 : Int) (y0_1 : Int) (y0_2 : Int) (y0_3 : List (List Int)) (y0_4 : List (List Int)) (y0_5 : List (List Int)) (y0_6 : List (List Int)) (y1 : Int) (hF : F_laws_markStateSpace (a__0, a__1, a__2, a__3, a__4, a__5, a__6) k_ = some ((y0_0, y0_1, y0_2, y0_3, y0_4, y0_5, y0_6), y1)) :
  ConF Tryd.prog 12 #[(.agg #[(.int .i64 a__0), (.int .i64 a__1), (.int .i64 a__2), (a__3h).v, (a__4h).v, (a__5h).v, (a__6h).v]), (.int .i64 k_)] [] [E (List (List Int)) a__3 a__3h, E (List (List Int)) a__4 a__4h, E (List (List Int)) a__5 a__5h, E (List (List Int)) a__6 a__6h] (fun v Γ' => v = (.int .i64 y1) ∧ Γ' = [E (List (List Int)) y0_3 a__3h, E (List (List Int)) y0_4 a__4h, E (List (List Int)) y0_5 a__5h, E (List (List Int)) y0_6 a__6h]) := by
 intro w0 S0 fp0 hI hS
 have H : Cx w0 fp0 S0 w0 [E (List (List Int)) a__3 a__3h, E (List (List Int)) a__4 a__4h, E (List (List Int)) a__5 a__5h, E (List (List Int)) a__6 a__6h] := Cx.start hI hS
 clear hI hS
 refine enterC (args := [_, _]) gok Tryd.func12 rfl _ rfl rfl rfl ?_
 refine box_ H ?_; clear H; intro b6 w5 hx H
 clear hx
 refine fld gok rfl rfl rfl rfl ?_
 refine load1 (H.bx 0 rfl (j := 3) rfl) ?_
 obtain ⟨y8, e, hF9⟩ := bindS hF; clear hF
 obtain ⟨y8_0, y8_1⟩ := y8
 have ey8 := e; clear e
 replace H := H.sel [1, 0, 2, 3, 4] rfl
 refine callF (laws_markIntSS_c a__3 a__3h k_ y8_0 y8_1 ey8) (Γi := [E (List (List Int)) a__3 a__3h]) H trivial ?_; clear H ey8
 rintro _ _ w1 ⟨rfl, rfl⟩ H
 refine fld gok rfl rfl rfl rfl ?_
 refine load1 (H.bx 1 rfl (j := 4) rfl) ?_
 obtain ⟨y0, e, f0⟩ := bindS hF9; clear hF9
 obtain ⟨y0_0, y0_1⟩ := y0
 have ey11 := e; clear e
 replace H := H.sel [2, 0, 1, 3, 4] rfl
 refine callF (laws_markIntSS_c a__4 a__4h y8_1 y0_0 y0_1 ey11) (Γi := [E (List (List Int)) a__4 a__4h]) H trivial ?_; clear H ey11
 rintro _ _ w2 ⟨rfl, rfl⟩ H
 refine fld gok rfl rfl rfl rfl ?_
 refine load1 (H.bx 2 rfl (j := 5) rfl) ?_
 obtain ⟨y2, e, f1⟩ := bindS f0; clear f0
 obtain ⟨y2_0, y2_1⟩ := y2
 have ey14 := e; clear e
 replace H := H.sel [3, 0, 1, 2, 4] rfl
 refine callF (laws_markIntSS_c a__5 a__5h y0_1 y2_0 y2_1 ey14) (Γi := [E (List (List Int)) a__5 a__5h]) H trivial ?_; clear H ey14
 rintro _ _ w3 ⟨rfl, rfl⟩ H
 refine fld gok rfl rfl rfl rfl ?_
 refine load1 (H.bx 3 rfl (j := 6) rfl) ?_
 obtain ⟨y3, e, f2⟩ := bindS f1; clear f1
 obtain ⟨y3_0, y3_1⟩ := y3
 have ey17 := e; clear e
 replace H := H.sel [4, 0, 1, 2, 3] rfl
 refine callF (laws_markIntSS_c a__6 a__6h y2_1 y3_0 y3_1 ey17) (Γi := [E (List (List Int)) a__6 a__6h]) H trivial ?_; clear H ey17
 rintro _ _ w4 ⟨rfl, rfl⟩ H
 cases f2
 exact ⟨_, _, rfl, ⟨rfl, rfl⟩, (H.sel [3, 2, 1, 0] rfl).close ⟨cloE, cloE, cloE, cloE, trivial⟩⟩

theorem laws_heldIntS_c (a_ : List Int) (a_h : Hd) (k_ : Int) (y : Int) (hF : F_laws_heldIntS a_ k_ = some y) :
  ConF Tryd.prog 75 #[(a_h).v, (.int .i64 k_)] [Es (List Int) a_ a_h] [] (fun v Γ' => v = (.int .i64 y) ∧ Γ' = []) := by
 intro w0 S0 fp0 hI hS
 have H : Cx w0 fp0 S0 w0 [Es (List Int) a_ a_h] := Cx.start hI hS
 clear hI hS
 refine enterC (args := [_, _]) gok Tryd.func75 rfl _ rfl rfl rfl ?_
 obtain ⟨r0, f0, f1⟩ := bindS hF; clear hF
 refine cut (fun (q0 : Int) => [(1, (.int .i64 q0))]) (fun (q0 : Int) w' => .inl q0 = r0 ∧ Cx w0 fp0 S0 w' []) ?_ ?_
 ·
  refine loopW _ (fun (s0 : Int × Int) (_ : Unit) => [(0, (a_h).v), (1, (.int .i64 s0.1)), (5, (.int .i64 s0.2))]) (fun (s0 : Int × Int) (_ : Unit) w' => Cx w0 fp0 S0 w' [Es (List Int) a_ a_h]) (k_, 0) () f0 ⟨rfl, rfl, rfl, trivial⟩ (H.sel [0] rfl) ?_
  ·
   clear H
   rintro T0 ⟨s0_0, s0_1⟩ _ w1 o0 (H : Cx w0 fp0 S0 w1 [Es (List Int) a_ a_h]) hrt f2
   refine sq ?_
   refine lenE (H.rs (α := List Int) 0 rfl).len ?_
   obtain ⟨a0, e, f3⟩ := bindS f2; clear f2
   refine boolO e ?_; clear e
   cases a0
   ·
    have f4 := condF f3; clear f3
    have hs := Option.some.inj f4; subst hs; clear f4
    have f5 : some _ = some _ := congrArg some (hrt _ rfl).symm
    exact ⟨s0_0, ⟨rfl, trivial⟩, Option.some.inj f5, H.sel [] rfl⟩
   ·
    have f6 := condT f3; clear f3
    refine sq ?_
    refine sq ?_
    obtain ⟨a1, e, f7⟩ := bindS f6; clear f6
    obtain ⟨p0, m0, c0, c1, c2, c3⟩ := (H.rs (α := List Int) 0 rfl).at1 e; clear e
    refine idxE c0 c1 c2 ?_; clear c0 c1 c2
    refine load1 c3 ?_; clear c3
    obtain ⟨a2, e, f8⟩ := bindS f7; clear f7
    refine boolO e ?_; clear e
    cases a2
    ·
     have f9 := condF f8; clear f8
     obtain ⟨a3, e, f10⟩ := bindS f9; clear f9
     refine arO e ?_; clear e
     obtain ⟨a4, e, f11⟩ := bindS f10; clear f10
     refine arO e ?_; clear e
     have hs := Option.some.inj f11; subst hs; clear f11
     exact ⟨(a3, a4), (), rfl, ⟨rfl, rfl, rfl, trivial⟩, H.sel [0] rfl⟩
    ·
     have f12 := condT f8; clear f8
     have hs := Option.some.inj f12; subst hs; clear f12
     have f13 : some _ = some _ := congrArg some (hrt _ rfl).symm
     have hs := Option.some.inj f13; subst hs; clear f13
     have f14 : some _ = some _ := f1; clear f1
     cases f14
     exact ⟨_, _, rfl, ⟨rfl, rfl⟩, (H.sel [] rfl).close trivial⟩
 ·
  clear f0 H
  rintro T1 s1 w2 ⟨hr, (H : Cx w0 fp0 S0 w2 [])⟩
  subst hr
  cases f1
  exact ⟨_, _, rfl, ⟨rfl, rfl⟩, (H.sel [] rfl).close trivial⟩

theorem laws_heldIntSS_c (a_ : List (List Int)) (a_h : Hd) (k_ : Int) (y : Int) (hF : F_laws_heldIntSS a_ k_ = some y) :
  ConF Tryd.prog 43 #[(a_h).v, (.int .i64 k_)] [Es (List (List Int)) a_ a_h] [] (fun v Γ' => v = (.int .i64 y) ∧ Γ' = []) := by
 intro w0 S0 fp0 hI hS
 have H : Cx w0 fp0 S0 w0 [Es (List (List Int)) a_ a_h] := Cx.start hI hS
 clear hI hS
 refine enterC (args := [_, _]) gok Tryd.func43 rfl _ rfl rfl rfl ?_
 obtain ⟨r0, f0, f1⟩ := bindS hF; clear hF
 refine cut (fun (q0 : Int) => [(1, (.int .i64 q0))]) (fun (q0 : Int) w' => .inl q0 = r0 ∧ Cx w0 fp0 S0 w' []) ?_ ?_
 ·
  refine loopW _ (fun (s0 : Int × Int) (_ : Unit) => [(0, (a_h).v), (1, (.int .i64 s0.1)), (5, (.int .i64 s0.2))]) (fun (s0 : Int × Int) (_ : Unit) w' => Cx w0 fp0 S0 w' [Es (List (List Int)) a_ a_h]) (k_, 0) () f0 ⟨rfl, rfl, rfl, trivial⟩ (H.sel [0] rfl) ?_
  ·
   clear H
   rintro T0 ⟨s0_0, s0_1⟩ _ w1 o0 (H : Cx w0 fp0 S0 w1 [Es (List (List Int)) a_ a_h]) hrt f2
   refine sq ?_
   refine lenE (H.rs (α := List (List Int)) 0 rfl).len ?_
   obtain ⟨a0, e, f3⟩ := bindS f2; clear f2
   refine boolO e ?_; clear e
   cases a0
   ·
    have f4 := condF f3; clear f3
    have hs := Option.some.inj f4; subst hs; clear f4
    have f5 : some _ = some _ := congrArg some (hrt _ rfl).symm
    exact ⟨s0_0, ⟨rfl, trivial⟩, Option.some.inj f5, H.sel [] rfl⟩
   ·
    have f6 := condT f3; clear f3
    refine sq ?_
    obtain ⟨a1, e, f7⟩ := bindS f6; clear f6
    have HH := H; clear H; obtain ⟨p0, m0, h0, c0, c1, c2, c3, H⟩ := HH.elL 0 rfl e; clear HH
    clear e
    refine idxE c0 c1 c2 ?_; clear c0 c1 c2
    refine load1 c3 ?_; clear c3
    obtain ⟨y0, e, f8⟩ := bindS f7; clear f7
    have ey166 := e; clear e
    refine callF (laws_heldIntS_c a1 h0 s0_0 y0 ey166) (Γi := []) H ⟨Vw.sh 0 rfl, trivial⟩ ?_; clear H ey166
    rintro _ _ w2 ⟨rfl, rfl⟩ H
    obtain ⟨a2, e, f9⟩ := bindS f8; clear f8
    refine boolO e ?_; clear e
    cases a2
    ·
     have f10 := condF f9; clear f9
     obtain ⟨a3, e, f11⟩ := bindS f10; clear f10
     refine arO e ?_; clear e
     have hs := Option.some.inj f11; subst hs; clear f11
     exact ⟨(y0, a3), (), rfl, ⟨rfl, rfl, rfl, trivial⟩, H.sel [1] rfl⟩
    ·
     have f12 := condT f9; clear f9
     have hs := Option.some.inj f12; subst hs; clear f12
     have f13 : some _ = some _ := congrArg some (hrt _ rfl).symm
     have hs := Option.some.inj f13; subst hs; clear f13
     have f14 : some _ = some _ := f1; clear f1
     cases f14
     exact ⟨_, _, rfl, ⟨rfl, rfl⟩, (H.sel [] rfl).close trivial⟩
 ·
  clear f0 H
  rintro T1 s1 w3 ⟨hr, (H : Cx w0 fp0 S0 w3 [])⟩
  subst hr
  cases f1
  exact ⟨_, _, rfl, ⟨rfl, rfl⟩, (H.sel [] rfl).close trivial⟩

theorem laws_heldStateSpace_c (a__0 : Int) (a__1 : Int) (a__2 : Int) (a__3 : List (List Int)) (a__3h : Hd) (a__4 : List (List Int)) (a__4h : Hd) (a__5 : List (List Int)) (a__5h : Hd) (a__6 : List (List Int)) (a__6h : Hd) (k_ : Int) (y : Int) (hF : F_laws_heldStateSpace (a__0, a__1, a__2, a__3, a__4, a__5, a__6) k_ = some y) :
  ConF Tryd.prog 20 #[(.agg #[(.int .i64 a__0), (.int .i64 a__1), (.int .i64 a__2), (a__3h).v, (a__4h).v, (a__5h).v, (a__6h).v]), (.int .i64 k_)] [Es (List (List Int)) a__3 a__3h, Es (List (List Int)) a__4 a__4h, Es (List (List Int)) a__5 a__5h, Es (List (List Int)) a__6 a__6h] [] (fun v Γ' => v = (.int .i64 y) ∧ Γ' = []) := by
 intro w0 S0 fp0 hI hS
 have H : Cx w0 fp0 S0 w0 [Es (List (List Int)) a__3 a__3h, Es (List (List Int)) a__4 a__4h, Es (List (List Int)) a__5 a__5h, Es (List (List Int)) a__6 a__6h] := Cx.start hI hS
 clear hI hS
 refine enterC (args := [_, _]) gok Tryd.func20 rfl _ rfl rfl rfl ?_
 refine box_ H ?_; clear H; intro b6 w5 hx H
 clear hx
 refine fld gok rfl rfl rfl rfl ?_
 refine load1 (H.bx 0 rfl (j := 3) rfl) ?_
 obtain ⟨y8, e, hF9⟩ := bindS hF; clear hF
 have ey8 := e; clear e
 refine callF (laws_heldIntSS_c a__3 a__3h k_ y8 ey8) (Γi := []) H ⟨Vw.sh 1 rfl, trivial⟩ ?_; clear H ey8
 rintro _ _ w1 ⟨rfl, rfl⟩ H
 refine sq ?_
 obtain ⟨a0, e, f0⟩ := bindS hF9; clear hF9
 refine boolO e ?_; clear e
 cases a0
 ·
  have f1 := condF f0; clear f0
  refine fld gok rfl rfl rfl rfl ?_
  refine load1 (H.bx 0 rfl (j := 4) rfl) ?_
  obtain ⟨y0, e, f2⟩ := bindS f1; clear f1
  have ey14 := e; clear e
  refine callF (laws_heldIntSS_c a__4 a__4h y8 y0 ey14) (Γi := []) H ⟨Vw.sh 2 rfl, trivial⟩ ?_; clear H ey14
  rintro _ _ w2 ⟨rfl, rfl⟩ H
  refine sq ?_
  obtain ⟨a1, e, f3⟩ := bindS f2; clear f2
  refine boolO e ?_; clear e
  cases a1
  ·
   have f4 := condF f3; clear f3
   refine fld gok rfl rfl rfl rfl ?_
   refine load1 (H.bx 0 rfl (j := 5) rfl) ?_
   obtain ⟨y1, e, f5⟩ := bindS f4; clear f4
   have ey20 := e; clear e
   refine callF (laws_heldIntSS_c a__5 a__5h y0 y1 ey20) (Γi := []) H ⟨Vw.sh 3 rfl, trivial⟩ ?_; clear H ey20
   rintro _ _ w3 ⟨rfl, rfl⟩ H
   refine sq ?_
   obtain ⟨a2, e, f6⟩ := bindS f5; clear f5
   refine boolO e ?_; clear e
   cases a2
   ·
    have f7 := condF f6; clear f6
    refine fld gok rfl rfl rfl rfl ?_
    refine load1 (H.bx 0 rfl (j := 6) rfl) ?_
    obtain ⟨y2, e, f8⟩ := bindS f7; clear f7
    have ey26 := e; clear e
    refine callF (laws_heldIntSS_c a__6 a__6h y1 y2 ey26) (Γi := []) H ⟨Vw.sh 4 rfl, trivial⟩ ?_; clear H ey26
    rintro _ _ w4 ⟨rfl, rfl⟩ H
    refine sq ?_
    obtain ⟨a3, e, f9⟩ := bindS f8; clear f8
    refine boolO e ?_; clear e
    cases a3
    ·
     have f10 := condF f9; clear f9
     cases f10
     exact ⟨_, _, rfl, ⟨rfl, rfl⟩, (H.sel [] rfl).close trivial⟩
    ·
     have f11 := condT f9; clear f9
     cases f11
     exact ⟨_, _, rfl, ⟨rfl, rfl⟩, (H.sel [] rfl).close trivial⟩
   ·
    have f12 := condT f6; clear f6
    cases f12
    exact ⟨_, _, rfl, ⟨rfl, rfl⟩, (H.sel [] rfl).close trivial⟩
  ·
   have f13 := condT f3; clear f3
   cases f13
   exact ⟨_, _, rfl, ⟨rfl, rfl⟩, (H.sel [] rfl).close trivial⟩
 ·
  have f14 := condT f0; clear f0
  cases f14
  exact ⟨_, _, rfl, ⟨rfl, rfl⟩, (H.sel [] rfl).close trivial⟩

theorem laws_FnExactRealizeSequence_c (aP_ : Int) (aS_ : List Int) (aS_h : Hd) (y : Bool) (hF : F_laws_FnExactRealizeSequence aP_ aS_ = some y) :
  ConF Tryd.prog 4 #[(.int .i64 aP_), (aS_h).v] [Es (List Int) aS_ aS_h, Gl 0 [.int .i64 2, .int .i64 3, .int .i64 5, .int .i64 7]] [] (fun v Γ' => v = (.bool y) ∧ Γ' = []) := by
 intro w0 S0 fp0 hI hS
 have H : Cx w0 fp0 S0 w0 [Es (List Int) aS_ aS_h, Gl 0 [.int .i64 2, .int .i64 3, .int .i64 5, .int .i64 7]] := Cx.start hI hS
 clear hI hS
 refine enterC (args := [_, _]) gok Tryd.func4 rfl _ rfl rfl rfl ?_
 refine sq ?_
 refine lenE (H.rs (α := List Int) 0 rfl).len ?_
 obtain ⟨a3, e, hF4⟩ := bindS hF; clear hF
 refine boolO e ?_; clear e
 cases a3
 ·
  have hF5 := condF hF4; clear hF4
  obtain ⟨y6, e, hF7⟩ := bindS hF5; clear hF5
  have ey6 := e; clear e
  refine callF (laws_toIntS_c aS_ aS_h y6 ey6) (Γi := []) H ⟨Vw.sh 0 rfl, trivial⟩ ?_; clear H ey6
  rintro _ _ w8 ⟨h9, rfl, rfl⟩ H
  obtain ⟨y0, e, f0⟩ := bindS hF7; clear hF7
  obtain ⟨⟨y0_0_0, y0_0_1, y0_0_2, y0_0_3, y0_0_4, y0_0_5, y0_0_6⟩, y0_1⟩ := y0
  have ey11 := e; clear e
  refine callF (spec_RealizeSequence_c aP_ y6 h9 y0_0_0 y0_0_1 y0_0_2 y0_0_3 y0_0_4 y0_0_5 y0_0_6 y0_1 ey11) (Γi := []) H ⟨Vw.own 0 rfl, trivial⟩ ?_; clear H ey11
  rintro _ _ w1 ⟨h0, h1, h2, h3, rfl, rfl⟩ H
  refine alloc_ gok rfl H ?_; clear H; intro b0 w2 hx H
  clear hx
  refine stA gok [(.int .i64 y0_0_0), (.int .i64 y0_0_1), (.int .i64 y0_0_2), (h0).v, (h1).v, (h2).v, (h3).v] rfl H rfl rfl rfl ?_; clear H; intro w3 H
  obtain ⟨y1, e, f1⟩ := bindS f0; clear f0
  have ey26 := e; clear e
  refine callF (laws_toIntS_c aS_ aS_h y1 ey26) (Γi := []) H ⟨Vw.sh 6 rfl, trivial⟩ ?_; clear H ey26
  rintro _ _ w4 ⟨h4, rfl, rfl⟩ H
  obtain ⟨y2, e, f2⟩ := bindS f1; clear f1
  obtain ⟨⟨y2_0_0, y2_0_1, y2_0_2, y2_0_3, y2_0_4, y2_0_5, y2_0_6⟩, y2_1⟩ := y2
  have ey31 := e; clear e
  refine callF (impl_RealizeSequence_c aP_ y1 h4 y2_0_0 y2_0_1 y2_0_2 y2_0_3 y2_0_4 y2_0_5 y2_0_6 y2_1 ey31) (Γi := []) H ⟨Vw.own 0 rfl, Vw.gl 8 rfl, trivial⟩ ?_; clear H ey31
  rintro _ _ w5 ⟨h5, h6, h7, h8, rfl, rfl⟩ H
  refine alloc_ gok rfl H ?_; clear H; intro b1 w6 hx H
  clear hx
  refine stA gok [(.int .i64 y2_0_0), (.int .i64 y2_0_1), (.int .i64 y2_0_2), (h5).v, (h6).v, (h7).v, (h8).v] rfl H rfl rfl rfl ?_; clear H; intro w7 H
  refine sq ?_
  obtain ⟨r0, f3, f4⟩ := bindS f2; clear f2
  refine cut (fun (q0 : Bool) => [(0, (.int .i64 aP_)), (1, (aS_h).v), (5, (.pointer (some ⟨b0, 0, none⟩))), (6, (.bool y0_1)), (7, (h4).v), (8, (.pointer (some ⟨b1, 0, none⟩))), (9, (.bool y2_1)), (41, (.bool q0))]) (fun (q0 : Bool) w' => q0 = r0 ∧ Cx w0 fp0 S0 w' [Es (List Int) aS_ aS_h, Bx b0 [(.int .i64 y0_0_0), (.int .i64 y0_0_1), (.int .i64 y0_0_2), (h0).v, (h1).v, (h2).v, (h3).v], E (List (List Int)) y0_0_3 h0, E (List (List Int)) y0_0_4 h1, E (List (List Int)) y0_0_5 h2, E (List (List Int)) y0_0_6 h3, E (List Int) y1 h4, Bx b1 [(.int .i64 y2_0_0), (.int .i64 y2_0_1), (.int .i64 y2_0_2), (h5).v, (h6).v, (h7).v, (h8).v], E (List (List Int)) y2_0_3 h5, E (List (List Int)) y2_0_4 h6, E (List (List Int)) y2_0_5 h7, E (List (List Int)) y2_0_6 h8, Gl 0 [.int .i64 2, .int .i64 3, .int .i64 5, .int .i64 7]]) ?_ ?_
  ·
   refine loadN [(.int .i64 y2_0_0), (.int .i64 y2_0_1), (.int .i64 y2_0_2), (h5).v, (h6).v, (h7).v, (h8).v] rfl (fun j u hj => H.bx 0 rfl hj) ?_
   refine loadN [(.int .i64 y0_0_0), (.int .i64 y0_0_1), (.int .i64 y0_0_2), (h0).v, (h1).v, (h2).v, (h3).v] rfl (fun j u hj => H.bx 6 rfl hj) ?_
   obtain ⟨y3, e, f5⟩ := bindS f3; clear f3
   have ey61 := e; clear e
   refine callF (laws_eqStateSpace_c y2_0_0 y2_0_1 y2_0_2 y2_0_3 h5 y2_0_4 h6 y2_0_5 h7 y2_0_6 h8 y0_0_0 y0_0_1 y0_0_2 y0_0_3 h0 y0_0_4 h1 y0_0_5 h2 y0_0_6 h3 y3 ey61) (Γi := []) H ⟨Vw.own 1 rfl, Vw.own 2 rfl, Vw.own 3 rfl, Vw.own 4 rfl, Vw.own 7 rfl, Vw.own 8 rfl, Vw.own 9 rfl, Vw.own 10 rfl, trivial⟩ ?_; clear H ey61
   rintro _ _ w9 ⟨rfl, rfl⟩ H
   obtain ⟨a0, e, f6⟩ := bindS f5; clear f5
   refine boolO e ?_; clear e
   cases a0
   ·
    have f7 := condF f6; clear f6
    obtain ⟨a1, e, f8⟩ := bindS f7; clear f7
    refine boolO e ?_; clear e
    exact ⟨a1, ⟨rfl, rfl, rfl, rfl, rfl, rfl, rfl, rfl, trivial⟩, Option.some.inj f8, H.sel [12, 6, 7, 8, 9, 10, 5, 0, 1, 2, 3, 4, 13] rfl⟩
   ·
    have f9 := condT f6; clear f6
    exact ⟨true, ⟨rfl, rfl, rfl, rfl, rfl, rfl, rfl, rfl, trivial⟩, Option.some.inj f9, H.sel [12, 6, 7, 8, 9, 10, 5, 0, 1, 2, 3, 4, 13] rfl⟩
  ·
   clear f3 H
   rintro T0 s0 w10 ⟨hr, (H : Cx w0 fp0 S0 w10 [Es (List Int) aS_ aS_h, Bx b0 [(.int .i64 y0_0_0), (.int .i64 y0_0_1), (.int .i64 y0_0_2), (h0).v, (h1).v, (h2).v, (h3).v], E (List (List Int)) y0_0_3 h0, E (List (List Int)) y0_0_4 h1, E (List (List Int)) y0_0_5 h2, E (List (List Int)) y0_0_6 h3, E (List Int) y1 h4, Bx b1 [(.int .i64 y2_0_0), (.int .i64 y2_0_1), (.int .i64 y2_0_2), (h5).v, (h6).v, (h7).v, (h8).v], E (List (List Int)) y2_0_3 h5, E (List (List Int)) y2_0_4 h6, E (List (List Int)) y2_0_5 h7, E (List (List Int)) y2_0_6 h8, Gl 0 [.int .i64 2, .int .i64 3, .int .i64 5, .int .i64 7]])⟩
   subst hr
   cases s0
   ·
    have f10 := condF f4; clear f4
    refine sq ?_
    obtain ⟨y4, e, f11⟩ := bindS f10; clear f10
    have ey73 := e; clear e
    refine callF (laws_toIntS_c aS_ aS_h y4 ey73) (Γi := []) H ⟨Vw.sh 0 rfl, trivial⟩ ?_; clear H ey73
    rintro _ _ w11 ⟨h10, rfl, rfl⟩ H
    obtain ⟨y5, e, f12⟩ := bindS f11; clear f11
    have ey78 := e; clear e
    refine callF (laws_eqIntS_c y1 h4 y4 h10 y5 ey78) (Γi := []) H ⟨Vw.own 7 rfl, Vw.own 0 rfl, trivial⟩ ?_; clear H ey78
    rintro _ _ w12 ⟨rfl, rfl⟩ H
    obtain ⟨a2, e, f13⟩ := bindS f12; clear f12
    refine boolO e ?_; clear e
    cases a2
    ·
     have f14 := condF f13; clear f13
     obtain ⟨y7, e, f15⟩ := bindS f14; clear f14
     obtain ⟨y7_0, y7_1⟩ := y7
     have ey84 := e; clear e
     replace H := H.sel [7, 0, 1, 2, 3, 4, 5, 6, 8, 9, 10, 11, 12, 13] rfl
     refine callF (laws_markIntS_c y1 h4 1 y7_0 y7_1 ey84) (Γi := [E (List Int) y1 h4]) H trivial ?_; clear H ey84
     rintro _ _ w14 ⟨rfl, rfl⟩ H
     refine sq ?_
     obtain ⟨r1, f16, f17⟩ := bindS f15; clear f15
     refine cut (fun (q1 : Bool) => [(0, (.int .i64 aP_)), (1, (aS_h).v), (5, (.pointer (some ⟨b0, 0, none⟩))), (6, (.bool y0_1)), (8, (.pointer (some ⟨b1, 0, none⟩))), (62, (.bool q1))]) (fun (q1 : Bool) w' => q1 = r1 ∧ Cx w0 fp0 S0 w' [Es (List Int) aS_ aS_h, Bx b0 [(.int .i64 y0_0_0), (.int .i64 y0_0_1), (.int .i64 y0_0_2), (h0).v, (h1).v, (h2).v, (h3).v], E (List (List Int)) y0_0_3 h0, E (List (List Int)) y0_0_4 h1, E (List (List Int)) y0_0_5 h2, E (List (List Int)) y0_0_6 h3, Bx b1 [(.int .i64 y2_0_0), (.int .i64 y2_0_1), (.int .i64 y2_0_2), (h5).v, (h6).v, (h7).v, (h8).v], E (List (List Int)) y2_0_3 h5, E (List (List Int)) y2_0_4 h6, E (List (List Int)) y2_0_5 h7, E (List (List Int)) y2_0_6 h8, Gl 0 [.int .i64 2, .int .i64 3, .int .i64 5, .int .i64 7]]) ?_ ?_
     ·
      obtain ⟨a4, e, f18⟩ := bindS f16; clear f16
      refine boolO e ?_; clear e
      cases a4
      ·
       have f19 := condF f18; clear f18
       refine loadN [(.int .i64 y2_0_0), (.int .i64 y2_0_1), (.int .i64 y2_0_2), (h5).v, (h6).v, (h7).v, (h8).v] rfl (fun j u hj => H.bx 8 rfl hj) ?_
       refine loadN [(.int .i64 y0_0_0), (.int .i64 y0_0_1), (.int .i64 y0_0_2), (h0).v, (h1).v, (h2).v, (h3).v] rfl (fun j u hj => H.bx 3 rfl hj) ?_
       obtain ⟨y8, e, f20⟩ := bindS f19; clear f19
       have ey109 := e; clear e
       refine callF (laws_eqStateSpace_c y2_0_0 y2_0_1 y2_0_2 y2_0_3 h5 y2_0_4 h6 y2_0_5 h7 y2_0_6 h8 y0_0_0 y0_0_1 y0_0_2 y0_0_3 h0 y0_0_4 h1 y0_0_5 h2 y0_0_6 h3 y8 ey109) (Γi := []) H ⟨Vw.own 9 rfl, Vw.own 10 rfl, Vw.own 11 rfl, Vw.own 12 rfl, Vw.own 4 rfl, Vw.own 5 rfl, Vw.own 6 rfl, Vw.own 7 rfl, trivial⟩ ?_; clear H ey109
       rintro _ _ w15 ⟨rfl, rfl⟩ H
       obtain ⟨a5, e, f21⟩ := bindS f20; clear f20
       refine boolO e ?_; clear e
       cases a5
       ·
        have f22 := condF f21; clear f21
        obtain ⟨a6, e, f23⟩ := bindS f22; clear f22
        refine boolO e ?_; clear e
        exact ⟨a6, ⟨rfl, rfl, rfl, rfl, rfl, rfl, trivial⟩, Option.some.inj f23, H.sel [2, 3, 4, 5, 6, 7, 8, 9, 10, 11, 12, 13] rfl⟩
       ·
        have f24 := condT f21; clear f21
        exact ⟨true, ⟨rfl, rfl, rfl, rfl, rfl, rfl, trivial⟩, Option.some.inj f24, H.sel [2, 3, 4, 5, 6, 7, 8, 9, 10, 11, 12, 13] rfl⟩
      ·
       have f25 := condT f18; clear f18
       exact ⟨true, ⟨rfl, rfl, rfl, rfl, rfl, rfl, trivial⟩, Option.some.inj f25, H.sel [2, 3, 4, 5, 6, 7, 8, 9, 10, 11, 12, 13] rfl⟩
     ·
      clear f16 H
      rintro T1 s1 w16 ⟨hr, (H : Cx w0 fp0 S0 w16 [Es (List Int) aS_ aS_h, Bx b0 [(.int .i64 y0_0_0), (.int .i64 y0_0_1), (.int .i64 y0_0_2), (h0).v, (h1).v, (h2).v, (h3).v], E (List (List Int)) y0_0_3 h0, E (List (List Int)) y0_0_4 h1, E (List (List Int)) y0_0_5 h2, E (List (List Int)) y0_0_6 h3, Bx b1 [(.int .i64 y2_0_0), (.int .i64 y2_0_1), (.int .i64 y2_0_2), (h5).v, (h6).v, (h7).v, (h8).v], E (List (List Int)) y2_0_3 h5, E (List (List Int)) y2_0_4 h6, E (List (List Int)) y2_0_5 h7, E (List (List Int)) y2_0_6 h8, Gl 0 [.int .i64 2, .int .i64 3, .int .i64 5, .int .i64 7]])⟩
      subst hr
      cases s1
      ·
       have f26 := condF f17; clear f17
       refine loadN [(.int .i64 y2_0_0), (.int .i64 y2_0_1), (.int .i64 y2_0_2), (h5).v, (h6).v, (h7).v, (h8).v] rfl (fun j u hj => H.bx 6 rfl hj) ?_
       obtain ⟨y9, e, f27⟩ := bindS f26; clear f26
       obtain ⟨⟨y9_0_0, y9_0_1, y9_0_2, y9_0_3, y9_0_4, y9_0_5, y9_0_6⟩, y9_1⟩ := y9
       have ey122 := e; clear e
       replace H := H.sel [7, 8, 9, 10, 0, 1, 2, 3, 4, 5, 6, 11] rfl
       refine callF (laws_markStateSpace_c y2_0_0 y2_0_1 y2_0_2 y2_0_3 h5 y2_0_4 h6 y2_0_5 h7 y2_0_6 h8 1 y9_0_0 y9_0_1 y9_0_2 y9_0_3 y9_0_4 y9_0_5 y9_0_6 y9_1 ey122) (Γi := [E (List (List Int)) y2_0_3 h5, E (List (List Int)) y2_0_4 h6, E (List (List Int)) y2_0_5 h7, E (List (List Int)) y2_0_6 h8]) H trivial ?_; clear H ey122
       rintro _ _ w17 ⟨rfl, rfl⟩ H
       refine loadN [(.int .i64 y2_0_0), (.int .i64 y2_0_1), (.int .i64 y2_0_2), (h5).v, (h6).v, (h7).v, (h8).v] rfl (fun j u hj => H.bx 10 rfl hj) ?_
       obtain ⟨y10, e, f28⟩ := bindS f27; clear f27
       have ey125 := e; clear e
       refine callF (laws_heldStateSpace_c y2_0_0 y2_0_1 y2_0_2 y9_0_3 h5 y9_0_4 h6 y9_0_5 h7 y9_0_6 h8 1 y10 ey125) (Γi := []) H ⟨Vw.own 0 rfl, Vw.own 1 rfl, Vw.own 2 rfl, Vw.own 3 rfl, trivial⟩ ?_; clear H ey125
       rintro _ _ w18 ⟨rfl, rfl⟩ H
       refine sq ?_
       obtain ⟨a7, e, f29⟩ := bindS f28; clear f28
       refine boolO e ?_; clear e
       cases a7
       ·
        have f30 := condF f29; clear f29
        refine sq ?_
        obtain ⟨a8, e, f31⟩ := bindS f30; clear f30
        refine boolO e ?_; clear e
        cases a8
        ·
         have f32 := condF f31; clear f31
         obtain ⟨y12, e, f33⟩ := bindS f32; clear f32
         have ey134 := e; clear e
         refine callF (laws_toIntS_c aS_ aS_h y12 ey134) (Γi := []) H ⟨Vw.sh 4 rfl, trivial⟩ ?_; clear H ey134
         rintro _ _ w19 ⟨h11, rfl, rfl⟩ H
         obtain ⟨y13, e, f34⟩ := bindS f33; clear f33
         obtain ⟨⟨y13_0_0, y13_0_1, y13_0_2, y13_0_3, y13_0_4, y13_0_5, y13_0_6⟩, y13_1⟩ := y13
         have ey139 := e; clear e
         refine callF (impl_RealizeSequence_c aP_ y12 h11 y13_0_0 y13_0_1 y13_0_2 y13_0_3 y13_0_4 y13_0_5 y13_0_6 y13_1 ey139) (Γi := []) H ⟨Vw.own 0 rfl, Vw.gl 12 rfl, trivial⟩ ?_; clear H ey139
         rintro _ _ w20 ⟨h12, h13, h15, h17, rfl, rfl⟩ H
         refine alloc_ gok rfl H ?_; clear H; intro b2 w21 hx H
         clear hx
         refine stA gok [(.int .i64 y13_0_0), (.int .i64 y13_0_1), (.int .i64 y13_0_2), (h12).v, (h13).v, (h15).v, (h17).v] rfl H rfl rfl rfl ?_; clear H; intro w23 H
         refine sq ?_
         obtain ⟨r2, f35, f36⟩ := bindS f34; clear f34
         refine cut (fun (q2 : Bool) => [(8, (.pointer (some ⟨b1, 0, none⟩))), (11, (.int .i64 y9_1)), (89, (.bool q2))]) (fun (q2 : Bool) w' => q2 = r2 ∧ Cx w0 fp0 S0 w' [Bx b1 [(.int .i64 y2_0_0), (.int .i64 y2_0_1), (.int .i64 y2_0_2), (h5).v, (h6).v, (h7).v, (h8).v], E (List (List Int)) y9_0_3 h5, E (List (List Int)) y9_0_4 h6, E (List (List Int)) y9_0_5 h7, E (List (List Int)) y9_0_6 h8, Gl 0 [.int .i64 2, .int .i64 3, .int .i64 5, .int .i64 7]]) ?_ ?_
         ·
          refine loadN [(.int .i64 y13_0_0), (.int .i64 y13_0_1), (.int .i64 y13_0_2), (h12).v, (h13).v, (h15).v, (h17).v] rfl (fun j u hj => H.bx 0 rfl hj) ?_
          refine loadN [(.int .i64 y0_0_0), (.int .i64 y0_0_1), (.int .i64 y0_0_2), (h0).v, (h1).v, (h2).v, (h3).v] rfl (fun j u hj => H.bx 11 rfl hj) ?_
          obtain ⟨y14, e, f37⟩ := bindS f35; clear f35
          have ey169 := e; clear e
          refine callF (laws_eqStateSpace_c y13_0_0 y13_0_1 y13_0_2 y13_0_3 h12 y13_0_4 h13 y13_0_5 h15 y13_0_6 h17 y0_0_0 y0_0_1 y0_0_2 y0_0_3 h0 y0_0_4 h1 y0_0_5 h2 y0_0_6 h3 y14 ey169) (Γi := []) H ⟨Vw.own 1 rfl, Vw.own 2 rfl, Vw.own 3 rfl, Vw.own 4 rfl, Vw.own 12 rfl, Vw.own 13 rfl, Vw.own 14 rfl, Vw.own 15 rfl, trivial⟩ ?_; clear H ey169
          rintro _ _ w24 ⟨rfl, rfl⟩ H
          obtain ⟨a9, e, f38⟩ := bindS f37; clear f37
          refine boolO e ?_; clear e
          cases a9
          ·
           have f39 := condF f38; clear f38
           obtain ⟨a10, e, f40⟩ := bindS f39; clear f39
           refine boolO e ?_; clear e
           exact ⟨a10, ⟨rfl, rfl, rfl, trivial⟩, Option.some.inj f40, H.sel [16, 6, 7, 8, 9, 17] rfl⟩
          ·
           have f41 := condT f38; clear f38
           exact ⟨true, ⟨rfl, rfl, rfl, trivial⟩, Option.some.inj f41, H.sel [16, 6, 7, 8, 9, 17] rfl⟩
         ·
          clear f35 H
          rintro T2 s2 w26 ⟨hr, (H : Cx w0 fp0 S0 w26 [Bx b1 [(.int .i64 y2_0_0), (.int .i64 y2_0_1), (.int .i64 y2_0_2), (h5).v, (h6).v, (h7).v, (h8).v], E (List (List Int)) y9_0_3 h5, E (List (List Int)) y9_0_4 h6, E (List (List Int)) y9_0_5 h7, E (List (List Int)) y9_0_6 h8, Gl 0 [.int .i64 2, .int .i64 3, .int .i64 5, .int .i64 7]])⟩
          subst hr
          cases s2
          ·
           have f42 := condF f36; clear f36
           refine loadN [(.int .i64 y2_0_0), (.int .i64 y2_0_1), (.int .i64 y2_0_2), (h5).v, (h6).v, (h7).v, (h8).v] rfl (fun j u hj => H.bx 0 rfl hj) ?_
           obtain ⟨y15, e, f43⟩ := bindS f42; clear f42
           have ey181 := e; clear e
           refine callF (laws_heldStateSpace_c y2_0_0 y2_0_1 y2_0_2 y9_0_3 h5 y9_0_4 h6 y9_0_5 h7 y9_0_6 h8 1 y15 ey181) (Γi := []) H ⟨Vw.own 1 rfl, Vw.own 2 rfl, Vw.own 3 rfl, Vw.own 4 rfl, trivial⟩ ?_; clear H ey181
           rintro _ _ w27 ⟨rfl, rfl⟩ H
           refine sq ?_
           obtain ⟨a11, e, f44⟩ := bindS f43; clear f43
           refine boolO e ?_; clear e
           cases a11
           ·
            have f45 := condF f44; clear f44
            refine sq ?_
            obtain ⟨a12, e, f46⟩ := bindS f45; clear f45
            refine boolO e ?_; clear e
            cases a12
            ·
             have f47 := condF f46; clear f46
             cases f47
             exact ⟨_, _, rfl, ⟨rfl, rfl⟩, (H.sel [] rfl).close trivial⟩
            ·
             have f48 := condT f46; clear f46
             cases f48
             exact ⟨_, _, rfl, ⟨rfl, rfl⟩, (H.sel [] rfl).close trivial⟩
           ·
            have f49 := condT f44; clear f44
            cases f49
            exact ⟨_, _, rfl, ⟨rfl, rfl⟩, (H.sel [] rfl).close trivial⟩
          ·
           have f50 := condT f36; clear f36
           cases f50
           exact ⟨_, _, rfl, ⟨rfl, rfl⟩, (H.sel [] rfl).close trivial⟩
        ·
         have f51 := condT f31; clear f31
         cases f51
         exact ⟨_, _, rfl, ⟨rfl, rfl⟩, (H.sel [] rfl).close trivial⟩
       ·
        have f52 := condT f29; clear f29
        cases f52
        exact ⟨_, _, rfl, ⟨rfl, rfl⟩, (H.sel [] rfl).close trivial⟩
      ·
       have f53 := condT f17; clear f17
       cases f53
       exact ⟨_, _, rfl, ⟨rfl, rfl⟩, (H.sel [] rfl).close trivial⟩
    ·
     have f54 := condT f13; clear f13
     cases f54
     exact ⟨_, _, rfl, ⟨rfl, rfl⟩, (H.sel [] rfl).close trivial⟩
   ·
    have f55 := condT f4; clear f4
    cases f55
    exact ⟨_, _, rfl, ⟨rfl, rfl⟩, (H.sel [] rfl).close trivial⟩
 ·
  have f56 := condT hF4; clear hF4
  cases f56
  exact ⟨_, _, rfl, ⟨rfl, rfl⟩, (H.sel [] rfl).close trivial⟩
end Go.Proofs.YtocpeclcoikdpaaDoor
